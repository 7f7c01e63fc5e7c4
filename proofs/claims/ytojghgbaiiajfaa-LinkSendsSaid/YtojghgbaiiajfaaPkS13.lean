/- bowspritref22.Packet, RightReceiver. Conditions: the slices read so. -/
import Derived.Test.YtojghgbaiiajfaaPkS12
namespace Go.Proofs.Ytojghgbaiiajfaa
open Go.RowKit

set_option maxRecDepth 100000 in
set_option maxHeartbeats 16000000 in
theorem rpacket_any (F : Nat → Prop) (p : PK) (A : Option Addr) (n c : Nat) (w : World) (h : LR.rd w F A n p.b.rows) (hn : n ≤ 9223372036854775807) :
    Calls Try.prog 28 #[.agg (p.cells A n c)] w fun e w' => e = .returned (.bool (checkP p)) ∧ Below w.heap.size w w' := by
  obtain ⟨r, hr⟩ : ∃ r, r = checkP p := ⟨_, rfl⟩
  rw [← hr]
  have HRR := Lib.hid hr
  clear hr
  obtain ⟨kind, ses, seq, lim, rows, fin, cnt⟩ := p
  dsimp only at h
  have HL := Lib.hid (Lay.rd_len h)
  have b1 := bl_al (Below.refl w.heap.size w) (.cells #[.int .i64 kind, .int .u32 ses, .int .u64 seq, .int .u64 lim, .slice A n c, .bool fin, .int .u64 cnt] 47)
  have HB := Lib.hid (Blk.new w 47 #[.int .i64 kind, .int .u32 ses, .int .u64 seq, .int .u64 lim, .slice A n c, .bool fin, .int .u64 cnt])
  have HRD := Lib.hid (Lay.rd_below h b1)
  have HBB := Lib.hid b1
  clear h b1
  go_enter Try.func28, Try.ntmps28
  go_upto_region 1 with fail
  generalize w.alloc (.cells #[.int .i64 kind, .int .u32 ses, .int .u64 seq, .int .u64 lim, .slice A n c, .bool fin, .int .u64 cnt] 47) = w1 at *
  refine wp_region_ps0 .text (S := fun _ _ w' => Below w1.heap.size w1 w') (by kernel_rfl) ?spswg1 ?ppswg1
  case spswg1 =>
    exact (Below.refl w1.heap.size w1)
  refine Ps.st (i := 0) (d := some 4) (u := (.pointer (some ⟨w.heap.size, 1, none⟩))) rfl rfl (by exact StepS.pure nP rfl fun _ => rfl) ?_
  try simp only [Act.put, sA, sZ, sS]
  refine Ps.st (i := 1) (d := some 5) (u := (.int .u32 (ses))) rfl rfl ?ywg1_3 ?rwg1_3
  case ywg1_3 =>
    refine StepS.read [] (by kernel_rfl) nP (by rfl) (fun L9 m9 w9 hSh hAt hDn hS => ?_)
    have hT : Below _ _ w9 := hS
    have x0 : w9.cell? ⟨w.heap.size, 1, none⟩ = some (.int .u32 (ses)) := (HB.out.ca hT).cell 1
    clear hT hS
    go_simp
    try rfl
  try simp only [Act.put, sA, sZ, sS]
  refine Ps.st (i := 2) (d := some 6) (u := (.bool (sesB ses))) rfl rfl ?ywg1_4 ?rwg1_4
  case ywg1_4 =>
    refine StepS.call ?fwg1_4 ?awg1_4 [] (by kernel_rfl) (by rfl) (fun w9 => ?hwg1_4) (fun L9 m9 w9 hSh hAt hDn hS => ?cwg1_4)
    case hwg1_4 => go_simp; refine ⟨?_, ?_⟩ <;> rfl
    case cwg1_4 =>
      have hT : Below _ _ w9 := hS
      refine (rsession_any ses w9).mono ?_
      rintro e w8 ⟨rfl, rfl⟩
      exact ⟨rfl, hT⟩
  try simp only [Act.put, sA, sZ, sS]
  obtain ⟨f1, hb9⟩ : ∃ b : Bool, b = (!(sesB ses)) := ⟨_, rfl⟩
  have HEf1 := Lib.hid hb9
  clear hb9
  refine Ps.st (i := 3) (d := some 7) (u := (.bool (f1))) rfl rfl ?ywg1_5 ?rwg1_5
  case ywg1_5 =>
    refine StepS.pure nP (by rfl) (fun w9 => ?_)
    have e9 : (!(sesB ses)) = f1 := by rw [HEf1.out]
    rw [← e9]
    clear e9
    first | rfl | (go_simp; done) | (go_simp; rfl)
  try simp only [Act.put, sA, sZ, sS]
  refine Ps.done (by kernel_rfl) (fun wg1 hS => ?_) _
  have HW6 := Lib.hid (show Below w1.heap.size w1 wg1 from hS)
  clear hS
  obtain ⟨w107, rfl⟩ : ∃ x, x = wg1 := ⟨_, rfl⟩
  have HK := Lib.hid (show checkP ⟨kind, ses, seq, lim, ⟨rows, fin, cnt⟩⟩ = (sesB ses && ((decide (kind = 1) && (decide (lim = 0) && batchB ⟨rows, fin, cnt⟩ seq)) || (decide (kind = 2) && (((decide ((n : Int) = 0) && !fin) && decide (cnt = 0)) && (decide (1 ≤ seq) && (decide (seq ≤ 1099511627777) && (decide (seq - 1 ≤ lim) && decide (lim ≤ 1099511627776)))))))) from by
    unfold checkP eqBC
    rw [← HL.out]
    have e : decide ((rows.length : Int) = 0) = decide (rows = []) := by rw [Bool.eq_iff_iff]; simp
    dsimp only
    rw [e, Bool.eq_iff_iff]
    simp
    grind)
  cases f1
  · by_cases k1 : kind = 1
    · subst k1
      have x0 := (HB.out.ca HW6.out).cell 0
      go_upto_region 5 with fail
      clear x0
      refine wp_region_ps0 .text (S := fun _ _ w' => Below w1.heap.size w1 w') (by kernel_rfl) ?spswg8 ?ppswg8
      case spswg8 =>
        exact HW6.out
      refine Ps.st (i := 0) (d := some 12) (u := (.pointer (some ⟨w.heap.size, 3, none⟩))) rfl rfl (by exact StepS.pure nP rfl fun _ => rfl) ?_
      try simp only [Act.put, sA, sZ, sS]
      refine Ps.st (i := 1) (d := some 13) (u := (.int .u64 (lim))) rfl rfl ?ywg8_10 ?rwg8_10
      case ywg8_10 =>
        refine StepS.read [] (by kernel_rfl) nP (by rfl) (fun L9 m9 w9 hSh hAt hDn hS => ?_)
        have hT : Below _ _ w9 := hS
        have x0 : w9.cell? ⟨w.heap.size, 3, none⟩ = some (.int .u64 (lim)) := (HB.out.ca hT).cell 3
        clear hT hS
        go_simp
        try rfl
      try simp only [Act.put, sA, sZ, sS]
      refine Ps.st (i := 2) (d := some 14) (u := (.bool (decide (lim = 0)))) rfl rfl (by exact StepS.pure nP rfl fun _ => rfl) ?_
      try simp only [Act.put, sA, sZ, sS]
      obtain ⟨b5_3, hb9⟩ : ∃ b : Bool, b = (decide (lim = 0)) := ⟨_, rfl⟩
      have HEb5_3 := Lib.hid hb9
      clear hb9
      refine Ps.st (i := 3) (d := some 15) (u := (.bool (b5_3))) rfl rfl ?ywg8_12 ?rwg8_12
      case ywg8_12 =>
        refine StepS.pure nP (by rfl) (fun w9 => ?_)
        have e9 : (decide (lim = 0)) = b5_3 := by rw [HEb5_3.out]
        rw [← e9]
        clear e9
        first | rfl | (go_simp; done) | (go_simp; rfl)
      try simp only [Act.put, sA, sZ, sS]
      refine Ps.st (i := 4) (d := some 16) (u := (cond b5_3 (.pointer (some ⟨w.heap.size, 4, none⟩)) (undef))) rfl rfl (by cases b5_3; exact StepS.skip nP rfl; exact StepS.pure nP rfl fun _ => rfl) ?_
      try simp only [Act.put, sA, sZ, sS]
      refine Ps.st (i := 5) (d := some 17) (u := (cond b5_3 (.agg #[.slice A n c, .bool (fin), .int .u64 (cnt)]) (undef))) rfl rfl ?ywg8_14 ?rwg8_14
      case ywg8_14 =>
        cases b5_3
        · exact StepS.skip nP (by rfl)
        · skip
          refine StepS.read [] (by kernel_rfl) nP (by rfl) (fun L9 m9 w9 hSh hAt hDn hS => ?_)
          have hT : Below _ _ w9 := hS
          have x0 : w9.cell? ⟨w.heap.size, 4, none⟩ = some (.slice A n c) := (HB.out.ca hT).cell 4
          have x1 : w9.cell? ⟨w.heap.size, 5, none⟩ = some (.bool (fin)) := (HB.out.ca hT).cell 5
          have x2 : w9.cell? ⟨w.heap.size, 6, none⟩ = some (.int .u64 (cnt)) := (HB.out.ca hT).cell 6
          clear hT hS
          go_simp
          try rfl
      try simp only [Act.put, sA, sZ, sS]
      refine Ps.st (i := 6) (d := some 18) (u := (cond b5_3 (.pointer (some ⟨w.heap.size, 2, none⟩)) (undef))) rfl rfl (by cases b5_3; exact StepS.skip nP rfl; exact StepS.pure nP rfl fun _ => rfl) ?_
      try simp only [Act.put, sA, sZ, sS]
      refine Ps.st (i := 7) (d := some 19) (u := (cond b5_3 (.int .u64 (seq)) (undef))) rfl rfl ?ywg8_16 ?rwg8_16
      case ywg8_16 =>
        cases b5_3
        · exact StepS.skip nP (by rfl)
        · skip
          refine StepS.read [] (by kernel_rfl) nP (by rfl) (fun L9 m9 w9 hSh hAt hDn hS => ?_)
          have hT : Below _ _ w9 := hS
          have x0 : w9.cell? ⟨w.heap.size, 2, none⟩ = some (.int .u64 (seq)) := (HB.out.ca hT).cell 2
          clear hT hS
          go_simp
          try rfl
      try simp only [Act.put, sA, sZ, sS]
      refine Ps.st (i := 8) (d := some 20) (u := (cond b5_3 (.bool (batchB ⟨rows, fin, cnt⟩ seq)) (undef))) rfl rfl ?ywg8_17 ?rwg8_17
      case ywg8_17 =>
        cases b5_3
        · exact StepS.skip nP (by rfl)
        · skip
          refine StepS.call ?fwg8_17 ?awg8_17 [] (by kernel_rfl) (by rfl) (fun w9 => ?hwg8_17) (fun L9 m9 w9 hSh hAt hDn hS => ?cwg8_17)
          case hwg8_17 => go_simp; refine ⟨?_, ?_⟩ <;> rfl
          case cwg8_17 =>
            have hT : Below _ _ w9 := hS
            refine (rbatch_any F ⟨rows, fin, cnt⟩ A n c seq w9 (Lay.rd_below HRD.out hT) hn).mono ?_
            rintro e w8 ⟨rfl, q8⟩
            exact ⟨rfl, bl_ca hT q8⟩
      try simp only [Act.put, sA, sZ, sS]
      obtain ⟨f5, hb9⟩ : ∃ b : Bool, b = ((decide (lim = 0)) && (batchB ⟨rows, fin, cnt⟩ seq)) := ⟨_, rfl⟩
      have HEf5 := Lib.hid hb9
      clear hb9
      refine Ps.st (i := 9) (d := some 21) (u := (.bool (f5))) rfl rfl ?ywg8_18 ?rwg8_18
      case ywg8_18 =>
        refine StepS.pure nP (by rfl) (fun w9 => ?_)
        have e9 : (b5_3 && (batchB ⟨rows, fin, cnt⟩ seq)) = f5 := by rw [HEf5.out, HEb5_3.out]
        rw [← e9]
        clear e9
        cases b5_3 <;> (first | rfl | (go_simp; done) | (go_simp; rfl))
      try simp only [Act.put, sA, sZ, sS]
      refine Ps.st (i := 10) (d := some 2) (u := (.bool (f5))) rfl rfl (by exact StepS.pure nP rfl fun _ => rfl) ?_
      try simp only [Act.put, sA, sZ, sS]
      refine Ps.done (by kernel_rfl) (fun wg8 hS => ?_) _
      try generalize (cond b5_3 (.agg #[.slice A n c, .bool (fin), .int .u64 (cnt)]) (undef) : Value) = zz20
      try generalize (cond b5_3 (.pointer (some ⟨w.heap.size, 2, none⟩)) (undef) : Value) = zz21
      try generalize (cond b5_3 (.pointer (some ⟨w.heap.size, 4, none⟩)) (undef) : Value) = zz22
      try generalize (cond b5_3 (.bool (batchB ⟨rows, fin, cnt⟩ seq)) (undef) : Value) = zz23
      try generalize (cond b5_3 (.int .u64 (seq)) (undef) : Value) = zz24
      have HW25 := Lib.hid (show Below w1.heap.size w1 wg8 from hS)
      clear hS
      obtain ⟨w126, rfl⟩ : ∃ x, x = wg8 := ⟨_, rfl⟩
      go_wp2
      go_ret
      exact ⟨ret_bool (by rw [HRR.out, HK.out, HEf5.out]; have h := HEf1.out; simp at h; simp [h]), bl_ca HBB.out HW25.out⟩
    · by_cases k2 : kind = 2
      · subst k2
        have x0 := (HB.out.ca HW6.out).cell 0
        go_upto_region 7 with fail
        clear x0 k1
        refine wp_region_ps0 .text (S := fun _ _ w' => Below w1.heap.size w1 w') (by kernel_rfl) ?spswg27 ?ppswg27
        case spswg27 =>
          exact HW6.out
        refine Ps.st (i := 0) (d := some 24) (u := (.pointer (some ⟨w.heap.size, 4, none⟩))) rfl rfl (by exact StepS.pure nP rfl fun _ => rfl) ?_
        try simp only [Act.put, sA, sZ, sS]
        refine Ps.st (i := 1) (d := some 25) (u := (.pointer (some ⟨w.heap.size, 4, none⟩))) rfl rfl (by exact StepS.pure nP rfl fun _ => rfl) ?_
        try simp only [Act.put, sA, sZ, sS]
        refine Ps.st (i := 2) (d := some 26) (u := (.slice A n c)) rfl rfl ?ywg27_30 ?rwg27_30
        case ywg27_30 =>
          refine StepS.read [] (by kernel_rfl) nP (by rfl) (fun L9 m9 w9 hSh hAt hDn hS => ?_)
          have hT : Below _ _ w9 := hS
          have x0 : w9.cell? ⟨w.heap.size, 4, none⟩ = some (.slice A n c) := (HB.out.ca hT).cell 4
          clear hT hS
          go_simp
          try rfl
        try simp only [Act.put, sA, sZ, sS]
        refine Ps.st (i := 3) (d := some 27) (u := (.int .i64 ((n : Int)))) rfl rfl (by exact StepS.pure nP rfl fun _ => by first | rfl | (go_simp; done) | (go_simp; rfl)) ?_
        try simp only [Act.put, sA, sZ, sS]
        refine Ps.st (i := 4) (d := some 28) (u := (.bool (decide ((n : Int) = 0)))) rfl rfl (by exact StepS.pure nP rfl fun _ => rfl) ?_
        try simp only [Act.put, sA, sZ, sS]
        obtain ⟨b7_5, hb9⟩ : ∃ b : Bool, b = (decide ((n : Int) = 0)) := ⟨_, rfl⟩
        have HEb7_5 := Lib.hid hb9
        clear hb9
        refine Ps.st (i := 5) (d := some 29) (u := (.bool (b7_5))) rfl rfl ?ywg27_33 ?rwg27_33
        case ywg27_33 =>
          refine StepS.pure nP (by rfl) (fun w9 => ?_)
          have e9 : (decide ((n : Int) = 0)) = b7_5 := by rw [HEb7_5.out]
          rw [← e9]
          clear e9
          first | rfl | (go_simp; done) | (go_simp; rfl)
        try simp only [Act.put, sA, sZ, sS]
        refine Ps.st (i := 6) (d := some 30) (u := (cond b7_5 (.pointer (some ⟨w.heap.size, 4, none⟩)) (undef))) rfl rfl (by cases b7_5; exact StepS.skip nP rfl; exact StepS.pure nP rfl fun _ => rfl) ?_
        try simp only [Act.put, sA, sZ, sS]
        refine Ps.st (i := 7) (d := some 31) (u := (cond b7_5 (.pointer (some ⟨w.heap.size, 5, none⟩)) (undef))) rfl rfl (by cases b7_5; exact StepS.skip nP rfl; exact StepS.pure nP rfl fun _ => rfl) ?_
        try simp only [Act.put, sA, sZ, sS]
        refine Ps.st (i := 8) (d := some 32) (u := (cond b7_5 (.bool (fin)) (undef))) rfl rfl ?ywg27_36 ?rwg27_36
        case ywg27_36 =>
          cases b7_5
          · exact StepS.skip nP (by rfl)
          · skip
            refine StepS.read [] (by kernel_rfl) nP (by rfl) (fun L9 m9 w9 hSh hAt hDn hS => ?_)
            have hT : Below _ _ w9 := hS
            have x0 : w9.cell? ⟨w.heap.size, 5, none⟩ = some (.bool (fin)) := (HB.out.ca hT).cell 5
            clear hT hS
            go_simp
            try rfl
        try simp only [Act.put, sA, sZ, sS]
        refine Ps.st (i := 9) (d := some 33) (u := (cond b7_5 (.bool (!fin)) (undef))) rfl rfl (by cases b7_5; exact StepS.skip nP rfl; exact StepS.pure nP rfl fun _ => rfl) ?_
        try simp only [Act.put, sA, sZ, sS]
        refine Ps.st (i := 10) (d := some 34) (u := (.bool (b7_5 && !fin))) rfl rfl ?ywg27_38 ?rwg27_38
        case ywg27_38 =>
          refine StepS.pure nP (by rfl) (fun w9 => ?_)
          cases b7_5 <;> (first | rfl | (go_simp; done) | (go_simp; rfl))
        try simp only [Act.put, sA, sZ, sS]
        obtain ⟨b7_11, hb9⟩ : ∃ b : Bool, b = ((decide ((n : Int) = 0)) && !fin) := ⟨_, rfl⟩
        have HEb7_11 := Lib.hid hb9
        clear hb9
        refine Ps.st (i := 11) (d := some 35) (u := (.bool (b7_11))) rfl rfl ?ywg27_39 ?rwg27_39
        case ywg27_39 =>
          refine StepS.pure nP (by rfl) (fun w9 => ?_)
          have e9 : (b7_5 && !fin) = b7_11 := by rw [HEb7_11.out, HEb7_5.out]
          rw [← e9]
          clear e9
          first | rfl | (go_simp; done) | (go_simp; rfl)
        try simp only [Act.put, sA, sZ, sS]
        refine Ps.st (i := 12) (d := some 36) (u := (cond b7_11 (.pointer (some ⟨w.heap.size, 4, none⟩)) (undef))) rfl rfl (by cases b7_11; exact StepS.skip nP rfl; exact StepS.pure nP rfl fun _ => rfl) ?_
        try simp only [Act.put, sA, sZ, sS]
        refine Ps.st (i := 13) (d := some 37) (u := (cond b7_11 (.pointer (some ⟨w.heap.size, 6, none⟩)) (undef))) rfl rfl (by cases b7_11; exact StepS.skip nP rfl; exact StepS.pure nP rfl fun _ => rfl) ?_
        try simp only [Act.put, sA, sZ, sS]
        refine Ps.st (i := 14) (d := some 38) (u := (cond b7_11 (.int .u64 (cnt)) (undef))) rfl rfl ?ywg27_42 ?rwg27_42
        case ywg27_42 =>
          cases b7_11
          · exact StepS.skip nP (by rfl)
          · skip
            refine StepS.read [] (by kernel_rfl) nP (by rfl) (fun L9 m9 w9 hSh hAt hDn hS => ?_)
            have hT : Below _ _ w9 := hS
            have x0 : w9.cell? ⟨w.heap.size, 6, none⟩ = some (.int .u64 (cnt)) := (HB.out.ca hT).cell 6
            clear hT hS
            go_simp
            try rfl
        try simp only [Act.put, sA, sZ, sS]
        refine Ps.st (i := 15) (d := some 39) (u := (cond b7_11 (.bool (decide (cnt = 0))) (undef))) rfl rfl (by cases b7_11; exact StepS.skip nP rfl; exact StepS.pure nP rfl fun _ => rfl) ?_
        try simp only [Act.put, sA, sZ, sS]
        obtain ⟨f7, hb9⟩ : ∃ b : Bool, b = (((decide ((n : Int) = 0)) && !fin) && (decide (cnt = 0))) := ⟨_, rfl⟩
        have HEf7 := Lib.hid hb9
        clear hb9
        refine Ps.st (i := 16) (d := some 40) (u := (.bool (f7))) rfl rfl ?ywg27_44 ?rwg27_44
        case ywg27_44 =>
          refine StepS.pure nP (by rfl) (fun w9 => ?_)
          have e9 : (b7_11 && (decide (cnt = 0))) = f7 := by rw [HEf7.out, HEb7_11.out]
          rw [← e9]
          clear e9
          cases b7_11 <;> (first | rfl | (go_simp; done) | (go_simp; rfl))
        try simp only [Act.put, sA, sZ, sS]
        refine Ps.st (i := 17) (d := some 3) (u := (.bool (f7))) rfl rfl (by exact StepS.pure nP rfl fun _ => rfl) ?_
        try simp only [Act.put, sA, sZ, sS]
        refine Ps.done (by kernel_rfl) (fun wg27 hS => ?_) _
        try generalize (cond b7_11 (.pointer (some ⟨w.heap.size, 4, none⟩)) (undef) : Value) = zz46
        try generalize (cond b7_11 (.pointer (some ⟨w.heap.size, 6, none⟩)) (undef) : Value) = zz47
        try generalize (cond b7_5 (.pointer (some ⟨w.heap.size, 4, none⟩)) (undef) : Value) = zz48
        try generalize (cond b7_5 (.pointer (some ⟨w.heap.size, 5, none⟩)) (undef) : Value) = zz49
        try generalize (cond b7_11 (.bool (decide (cnt = 0))) (undef) : Value) = zz50
        try generalize (cond b7_11 (.int .u64 (cnt)) (undef) : Value) = zz51
        try generalize (cond b7_5 (.bool (!fin)) (undef) : Value) = zz52
        try generalize (cond b7_5 (.bool (fin)) (undef) : Value) = zz53
        try generalize (.bool (b7_5 && !fin) : Value) = zz54
        have HW55 := Lib.hid (show Below w1.heap.size w1 wg27 from hS)
        clear hS
        obtain ⟨w156, rfl⟩ : ∃ x, x = wg27 := ⟨_, rfl⟩
        go_upto_region 8 with fail
        have HW1 := Lib.hid (fun h : 1 ≤ seq ∧ seq ≤ 1099511627777 => (u64_in (x := seq - 1) (by omega) (by omega)))
        refine wp_region_ps0 .text (S := fun _ _ w' => Below w1.heap.size w1 w') (by kernel_rfl) ?spswg57 ?ppswg57
        case spswg57 =>
          exact HW55.out
        refine Ps.st (i := 0) (d := some 41) (u := (.bool (f7))) rfl rfl (by exact StepS.pure nP rfl fun _ => rfl) ?_
        try simp only [Act.put, sA, sZ, sS]
        obtain ⟨b8_1, hb9⟩ : ∃ b : Bool, b = ((((decide ((n : Int) = 0)) && !fin) && (decide (cnt = 0)))) := ⟨_, rfl⟩
        have HEb8_1 := Lib.hid hb9
        clear hb9
        refine Ps.st (i := 1) (d := some 42) (u := (.bool (b8_1))) rfl rfl ?ywg57_59 ?rwg57_59
        case ywg57_59 =>
          refine StepS.pure nP (by rfl) (fun w9 => ?_)
          have e9 : (f7) = b8_1 := by rw [HEb8_1.out, HEf7.out]
          rw [← e9]
          clear e9
          first | rfl | (go_simp; done) | (go_simp; rfl)
        try simp only [Act.put, sA, sZ, sS]
        refine Ps.st (i := 2) (d := some 43) (u := (cond b8_1 (.pointer (some ⟨w.heap.size, 2, none⟩)) (undef))) rfl rfl (by cases b8_1; exact StepS.skip nP rfl; exact StepS.pure nP rfl fun _ => rfl) ?_
        try simp only [Act.put, sA, sZ, sS]
        refine Ps.st (i := 3) (d := some 44) (u := (cond b8_1 (.int .u64 (seq)) (undef))) rfl rfl ?ywg57_61 ?rwg57_61
        case ywg57_61 =>
          cases b8_1
          · exact StepS.skip nP (by rfl)
          · skip
            refine StepS.read [] (by kernel_rfl) nP (by rfl) (fun L9 m9 w9 hSh hAt hDn hS => ?_)
            have hT : Below _ _ w9 := hS
            have x0 : w9.cell? ⟨w.heap.size, 2, none⟩ = some (.int .u64 (seq)) := (HB.out.ca hT).cell 2
            clear hT hS
            go_simp
            try rfl
        try simp only [Act.put, sA, sZ, sS]
        refine Ps.st (i := 4) (d := some 45) (u := (cond b8_1 (.bool (decide ((1 : Int) ≤ seq))) (undef))) rfl rfl (by cases b8_1; exact StepS.skip nP rfl; exact StepS.pure nP rfl fun _ => rfl) ?_
        try simp only [Act.put, sA, sZ, sS]
        refine Ps.st (i := 5) (d := some 46) (u := (.bool (b8_1 && (decide ((1 : Int) ≤ seq))))) rfl rfl ?ywg57_63 ?rwg57_63
        case ywg57_63 =>
          refine StepS.pure nP (by rfl) (fun w9 => ?_)
          cases b8_1 <;> (first | rfl | (go_simp; done) | (go_simp; rfl))
        try simp only [Act.put, sA, sZ, sS]
        obtain ⟨b8_6, hb9⟩ : ∃ b : Bool, b = (((((decide ((n : Int) = 0)) && !fin) && (decide (cnt = 0)))) && (decide ((1 : Int) ≤ seq))) := ⟨_, rfl⟩
        have HEb8_6 := Lib.hid hb9
        clear hb9
        refine Ps.st (i := 6) (d := some 47) (u := (.bool (b8_6))) rfl rfl ?ywg57_64 ?rwg57_64
        case ywg57_64 =>
          refine StepS.pure nP (by rfl) (fun w9 => ?_)
          have e9 : (b8_1 && (decide ((1 : Int) ≤ seq))) = b8_6 := by rw [HEb8_6.out, HEb8_1.out]
          rw [← e9]
          clear e9
          first | rfl | (go_simp; done) | (go_simp; rfl)
        try simp only [Act.put, sA, sZ, sS]
        refine Ps.st (i := 7) (d := some 48) (u := (cond b8_6 (.pointer (some ⟨w.heap.size, 2, none⟩)) (undef))) rfl rfl (by cases b8_6; exact StepS.skip nP rfl; exact StepS.pure nP rfl fun _ => rfl) ?_
        try simp only [Act.put, sA, sZ, sS]
        refine Ps.st (i := 8) (d := some 49) (u := (cond b8_6 (.int .u64 (seq)) (undef))) rfl rfl ?ywg57_66 ?rwg57_66
        case ywg57_66 =>
          cases b8_6
          · exact StepS.skip nP (by rfl)
          · skip
            refine StepS.read [] (by kernel_rfl) nP (by rfl) (fun L9 m9 w9 hSh hAt hDn hS => ?_)
            have hT : Below _ _ w9 := hS
            have x0 : w9.cell? ⟨w.heap.size, 2, none⟩ = some (.int .u64 (seq)) := (HB.out.ca hT).cell 2
            clear hT hS
            go_simp
            try rfl
        try simp only [Act.put, sA, sZ, sS]
        refine Ps.st (i := 9) (d := some 50) (u := (cond b8_6 (.bool (decide (seq ≤ 1099511627777))) (undef))) rfl rfl (by cases b8_6; exact StepS.skip nP rfl; exact StepS.pure nP rfl fun _ => rfl) ?_
        try simp only [Act.put, sA, sZ, sS]
        refine Ps.st (i := 10) (d := some 51) (u := (.bool (b8_6 && (decide (seq ≤ 1099511627777))))) rfl rfl ?ywg57_68 ?rwg57_68
        case ywg57_68 =>
          refine StepS.pure nP (by rfl) (fun w9 => ?_)
          cases b8_6 <;> (first | rfl | (go_simp; done) | (go_simp; rfl))
        try simp only [Act.put, sA, sZ, sS]
        obtain ⟨b8_11, hb9⟩ : ∃ b : Bool, b = ((((((decide ((n : Int) = 0)) && !fin) && (decide (cnt = 0)))) && (decide ((1 : Int) ≤ seq))) && (decide (seq ≤ 1099511627777))) := ⟨_, rfl⟩
        have HEb8_11 := Lib.hid hb9
        clear hb9
        refine Ps.st (i := 11) (d := some 52) (u := (.bool (b8_11))) rfl rfl ?ywg57_69 ?rwg57_69
        case ywg57_69 =>
          refine StepS.pure nP (by rfl) (fun w9 => ?_)
          have e9 : (b8_6 && (decide (seq ≤ 1099511627777))) = b8_11 := by rw [HEb8_11.out, HEb8_6.out]
          rw [← e9]
          clear e9
          first | rfl | (go_simp; done) | (go_simp; rfl)
        try simp only [Act.put, sA, sZ, sS]
        refine Ps.st (i := 12) (d := some 53) (u := (cond b8_11 (.pointer (some ⟨w.heap.size, 3, none⟩)) (undef))) rfl rfl (by cases b8_11; exact StepS.skip nP rfl; exact StepS.pure nP rfl fun _ => rfl) ?_
        try simp only [Act.put, sA, sZ, sS]
        refine Ps.st (i := 13) (d := some 54) (u := (cond b8_11 (.int .u64 (lim)) (undef))) rfl rfl ?ywg57_71 ?rwg57_71
        case ywg57_71 =>
          cases b8_11
          · exact StepS.skip nP (by rfl)
          · skip
            refine StepS.read [] (by kernel_rfl) nP (by rfl) (fun L9 m9 w9 hSh hAt hDn hS => ?_)
            have hT : Below _ _ w9 := hS
            have x0 : w9.cell? ⟨w.heap.size, 3, none⟩ = some (.int .u64 (lim)) := (HB.out.ca hT).cell 3
            clear hT hS
            go_simp
            try rfl
        try simp only [Act.put, sA, sZ, sS]
        refine Ps.st (i := 14) (d := some 55) (u := (cond b8_11 (.pointer (some ⟨w.heap.size, 2, none⟩)) (undef))) rfl rfl (by cases b8_11; exact StepS.skip nP rfl; exact StepS.pure nP rfl fun _ => rfl) ?_
        try simp only [Act.put, sA, sZ, sS]
        refine Ps.st (i := 15) (d := some 56) (u := (cond b8_11 (.int .u64 (seq)) (undef))) rfl rfl ?ywg57_73 ?rwg57_73
        case ywg57_73 =>
          cases b8_11
          · exact StepS.skip nP (by rfl)
          · skip
            refine StepS.read [] (by kernel_rfl) nP (by rfl) (fun L9 m9 w9 hSh hAt hDn hS => ?_)
            have hT : Below _ _ w9 := hS
            have x0 : w9.cell? ⟨w.heap.size, 2, none⟩ = some (.int .u64 (seq)) := (HB.out.ca hT).cell 2
            clear hT hS
            go_simp
            try rfl
        try simp only [Act.put, sA, sZ, sS]
        refine Ps.st (i := 16) (d := some 57) (u := (cond b8_11 (.int .u64 (IntKind.u64.wrap (seq - 1))) (undef))) rfl rfl (by cases b8_11; exact StepS.skip nP rfl; exact StepS.pure nP rfl fun _ => rfl) ?_
        try simp only [Act.put, sA, sZ, sS]
        refine Ps.st (i := 17) (d := some 58) (u := (cond b8_11 (.bool (decide ((IntKind.u64.wrap (seq - 1)) ≤ lim))) (undef))) rfl rfl (by cases b8_11; exact StepS.skip nP rfl; exact StepS.pure nP rfl fun _ => rfl) ?_
        try simp only [Act.put, sA, sZ, sS]
        refine Ps.st (i := 18) (d := some 59) (u := (.bool (b8_11 && (decide ((IntKind.u64.wrap (seq - 1)) ≤ lim))))) rfl rfl ?ywg57_76 ?rwg57_76
        case ywg57_76 =>
          refine StepS.pure nP (by rfl) (fun w9 => ?_)
          cases b8_11 <;> (first | rfl | (go_simp; done) | (go_simp; rfl))
        try simp only [Act.put, sA, sZ, sS]
        obtain ⟨b8_19, hb9⟩ : ∃ b : Bool, b = (((((((decide ((n : Int) = 0)) && !fin) && (decide (cnt = 0)))) && (decide ((1 : Int) ≤ seq))) && (decide (seq ≤ 1099511627777))) && (decide ((IntKind.u64.wrap (seq - 1)) ≤ lim))) := ⟨_, rfl⟩
        have HEb8_19 := Lib.hid hb9
        clear hb9
        refine Ps.st (i := 19) (d := some 60) (u := (.bool (b8_19))) rfl rfl ?ywg57_77 ?rwg57_77
        case ywg57_77 =>
          refine StepS.pure nP (by rfl) (fun w9 => ?_)
          have e9 : (b8_11 && (decide ((IntKind.u64.wrap (seq - 1)) ≤ lim))) = b8_19 := by rw [HEb8_19.out, HEb8_11.out]
          rw [← e9]
          clear e9
          first | rfl | (go_simp; done) | (go_simp; rfl)
        try simp only [Act.put, sA, sZ, sS]
        refine Ps.st (i := 20) (d := some 61) (u := (cond b8_19 (.pointer (some ⟨w.heap.size, 3, none⟩)) (undef))) rfl rfl (by cases b8_19; exact StepS.skip nP rfl; exact StepS.pure nP rfl fun _ => rfl) ?_
        try simp only [Act.put, sA, sZ, sS]
        refine Ps.st (i := 21) (d := some 62) (u := (cond b8_19 (.int .u64 (lim)) (undef))) rfl rfl ?ywg57_79 ?rwg57_79
        case ywg57_79 =>
          cases b8_19
          · exact StepS.skip nP (by rfl)
          · skip
            refine StepS.read [] (by kernel_rfl) nP (by rfl) (fun L9 m9 w9 hSh hAt hDn hS => ?_)
            have hT : Below _ _ w9 := hS
            have x0 : w9.cell? ⟨w.heap.size, 3, none⟩ = some (.int .u64 (lim)) := (HB.out.ca hT).cell 3
            clear hT hS
            go_simp
            try rfl
        try simp only [Act.put, sA, sZ, sS]
        refine Ps.st (i := 22) (d := some 63) (u := (cond b8_19 (.bool (decide (lim ≤ 1099511627776))) (undef))) rfl rfl (by cases b8_19; exact StepS.skip nP rfl; exact StepS.pure nP rfl fun _ => rfl) ?_
        try simp only [Act.put, sA, sZ, sS]
        obtain ⟨f8, hb9⟩ : ∃ b : Bool, b = ((((((((decide ((n : Int) = 0)) && !fin) && (decide (cnt = 0)))) && (decide ((1 : Int) ≤ seq))) && (decide (seq ≤ 1099511627777))) && (decide ((IntKind.u64.wrap (seq - 1)) ≤ lim))) && (decide (lim ≤ 1099511627776))) := ⟨_, rfl⟩
        have HEf8 := Lib.hid hb9
        clear hb9
        refine Ps.st (i := 23) (d := some 64) (u := (.bool (f8))) rfl rfl ?ywg57_81 ?rwg57_81
        case ywg57_81 =>
          refine StepS.pure nP (by rfl) (fun w9 => ?_)
          have e9 : (b8_19 && (decide (lim ≤ 1099511627776))) = f8 := by rw [HEf8.out, HEb8_19.out]
          rw [← e9]
          clear e9
          cases b8_19 <;> (first | rfl | (go_simp; done) | (go_simp; rfl))
        try simp only [Act.put, sA, sZ, sS]
        refine Ps.st (i := 24) (d := some 2) (u := (.bool (f8))) rfl rfl (by exact StepS.pure nP rfl fun _ => rfl) ?_
        try simp only [Act.put, sA, sZ, sS]
        refine Ps.done (by kernel_rfl) (fun wg57 hS => ?_) _
        try generalize (cond b8_11 (.bool (decide ((IntKind.u64.wrap (seq - 1)) ≤ lim))) (undef) : Value) = zz83
        try generalize (.bool (b8_11 && (decide ((IntKind.u64.wrap (seq - 1)) ≤ lim))) : Value) = zz84
        try generalize (cond b8_11 (.pointer (some ⟨w.heap.size, 3, none⟩)) (undef) : Value) = zz85
        try generalize (cond b8_19 (.pointer (some ⟨w.heap.size, 3, none⟩)) (undef) : Value) = zz86
        try generalize (cond b8_11 (.int .u64 (IntKind.u64.wrap (seq - 1))) (undef) : Value) = zz87
        try generalize (cond b8_11 (.pointer (some ⟨w.heap.size, 2, none⟩)) (undef) : Value) = zz88
        try generalize (cond b8_1 (.pointer (some ⟨w.heap.size, 2, none⟩)) (undef) : Value) = zz89
        try generalize (cond b8_6 (.pointer (some ⟨w.heap.size, 2, none⟩)) (undef) : Value) = zz90
        try generalize (cond b8_19 (.bool (decide (lim ≤ 1099511627776))) (undef) : Value) = zz91
        try generalize (cond b8_6 (.bool (decide (seq ≤ 1099511627777))) (undef) : Value) = zz92
        try generalize (cond b8_1 (.bool (decide ((1 : Int) ≤ seq))) (undef) : Value) = zz93
        try generalize (.bool (b8_6 && (decide (seq ≤ 1099511627777))) : Value) = zz94
        try generalize (.bool (b8_1 && (decide ((1 : Int) ≤ seq))) : Value) = zz95
        try generalize (cond b8_19 (.int .u64 (lim)) (undef) : Value) = zz96
        try generalize (cond b8_11 (.int .u64 (seq)) (undef) : Value) = zz97
        try generalize (cond b8_11 (.int .u64 (lim)) (undef) : Value) = zz98
        try generalize (cond b8_6 (.int .u64 (seq)) (undef) : Value) = zz99
        try generalize (cond b8_1 (.int .u64 (seq)) (undef) : Value) = zz100
        have HW101 := Lib.hid (show Below w1.heap.size w1 wg57 from hS)
        clear hS
        obtain ⟨w202, rfl⟩ : ∃ x, x = wg57 := ⟨_, rfl⟩
        go_wp2
        go_ret
        exact ⟨ret_bool (by rw [HRR.out, HK.out, HEf8.out]; have h := HEf1.out; have hw := HW1.out; simp at h; rw [h]; by_cases h1 : 1 ≤ seq ∧ seq ≤ 1099511627777; (rw [hw h1]; simp [h1]; grind); (simp; grind)), bl_ca HBB.out HW101.out⟩
      · have t1 : (kind == 1) = false := by simpa using k1
        have t2 : (kind == 2) = false := by simpa using k2
        have x0 := (HB.out.ca HW6.out).cell 0
        go_wp2
        go_ret
        exact ⟨ret_bool (by rw [HRR.out, HK.out]; simp [k1, k2]), bl_ca HBB.out HW6.out⟩
  · skip
    go_wp2
    go_ret
    exact ⟨ret_bool (by rw [HRR.out, HK.out]; have h := HEf1.out; simp at h; simp [h]), bl_ca HBB.out HW6.out⟩
end Go.Proofs.Ytojghgbaiiajfaa
/- link.Ack. Conditions: the slices read as these batches. -/
namespace Go.Proofs.Ytojghgbaiiajfaa
open Go.RowKit
def zeroP : PK := ⟨0, 0, 0, 0, ⟨[], false, 0⟩⟩
def ackR (r : RC) : PK := if recB r then ⟨2, r.ses, r.next, limR r, ⟨[], false, 0⟩⟩ else zeroP
def AckC (r : RC) (w : World) (e : Ending) (w' : World) : Prop := e = .returned (.tuple #[.agg ((ackR r).cells none 0 0), .int .i64 (if recB r then 0 else 320)]) ∧ Below w.heap.size w w'
theorem ack_yes {r : RC} {w w' : World} {e : Ending} (h : recB r = true) (h1 : e = .returned (.tuple #[.agg (PK.cells ⟨2, r.ses, r.next, limR r, ⟨[], false, 0⟩⟩ none 0 0), .int .i64 0])) (h2 : Below w.heap.size w w') : AckC r w e w' := by
  unfold AckC ackR
  rw [h]
  exact ⟨h1, h2⟩
theorem ack_no {r : RC} {w w' : World} {e : Ending} (h : recB r = false) (h1 : e = .returned (.tuple #[.agg (zeroP.cells none 0 0), .int .i64 320])) (h2 : Below w.heap.size w w') : AckC r w e w' := by
  unfold AckC ackR
  rw [h]
  exact ⟨h1, h2⟩
theorem recB_rng {r : RC} (h : recB r = true) : 1 ≤ r.next ∧ r.next ≤ 1099511627777 ∧ (r.buf.length : Int) ≤ r.room ∧ r.room ≤ 8 := by
  unfold recB recA at h
  simp only [Bool.and_eq_true, decide_eq_true_eq] at h
  omega
theorem Seq1.keep0 {k1 : Nat} {B0 B1 : (Nat → Value) → World → Prop} {L : Array Bool} {m : Nat → Value} {w : World} (h1 : Dn L k1 = false) (h : B0 m w) : Seq1 k1 B0 B1 L m w := by
  unfold Seq1 Sk1
  exact ⟨fun _ => h, fun e => by rw [h1] at e; cases e⟩
set_option maxRecDepth 100000 in
set_option maxHeartbeats 16000000 in
theorem ack_any (Fr F2 : Nat → Prop) (r : RC) (A : Option Addr) (n c : Nat) (B : Option Addr) (m d : Nat) (w : World) (h : LH4.rd w Fr A n r.ahead) (h2 : LB3.rd w F2 B m r.buf) (hn : n ≤ 9223372036854775807) (hm : m ≤ 9223372036854775807) :
    Calls Try.prog 31 #[.agg (r.cells A n c B m d)] w (AckC r w) := by
  have q1 := bl_al (Below.refl w.heap.size w) (.cells (r.cells A n c B m d) 36)
  have q2 := bl_al (Below.refl (w.alloc (.cells (r.cells A n c B m d) 36)).heap.size (w.alloc (.cells (r.cells A n c B m d) 36))) (.cells (zeroP.cells none 0 0) 47)
  have HB := Lib.hid (bl_ca q1 q2)
  have HS := Lib.hid ((Blk.new w 36 (r.cells A n c B m d)).ca q2)
  have HZ := Lib.hid (show Blk ((w.alloc (.cells (r.cells A n c B m d) 36)).alloc (.cells (zeroP.cells none 0 0) 47)) (w.heap.size + 1) 47 (zeroP.cells none 0 0) from Blk.mk' (by simp only [World.size_alloc]))
  have HCK := Lib.hid (crecv_any Fr F2 r A n c B m d _ (Lay.rd_below (Lay.rd_below h q1) q2) (Lay.rd_below (Lay.rd_below h2 q1) q2) hn hm)
  have HLB := Lib.hid (Lay.rd_len h2)
  have hsz : ((w.alloc (.cells (r.cells A n c B m d) 36)).alloc (.cells (zeroP.cells none 0 0) 47)).heap.size = w.heap.size + 2 := by simp only [World.size_alloc]
  clear q1 q2 h h2
  cases hok : recB r
  · have HOK := Lib.hid hok
    rw [hok] at HCK
    clear hok
    go_enter Try.func31, Try.ntmps31
    go_wp2_with (refine wpList_load_blk rfl 36 (.tmp 1) rfl w.heap.size rfl 36 _ (r.cells A n c B m d) HS.out rfl rfl receiverI ?_)
    refine HCK.out.mono ?_
    rintro e w2 ⟨rfl, q2⟩
    have HB2 := Lib.hid (bl_ca HB.out q2)
    have HZ2 := Lib.hid (HZ.out.ca q2)
    clear q2 HCK HS HB HZ
    go_wp2_with (refine wpList_store_blk rfl 47 (.tmp 2) (.tmp 9) rfl (w.heap.size + 1) 47 _ (zeroP.cells none 0 0) rfl rfl HZ2.out rfl packetI (by simp [Value.oneCell']) ?_; intro wz hZ gz)
    exact bodyPost_ret (res2 Try.results31 rfl rfl hZ Try.underlying47 rfl packetI) rfl (ack_no HOK.out rfl (bl_gr HB2.out gz (by omega)))
  · have HOK := Lib.hid hok
    rw [hok] at HCK
    have hrg := recB_rng hok
    clear hok
    go_enter Try.func31, Try.ntmps31
    go_wp2_with (refine wpList_load_blk rfl 36 (.tmp 1) rfl w.heap.size rfl 36 _ (r.cells A n c B m d) HS.out rfl rfl receiverI ?_)
    refine HCK.out.mono ?_
    rintro e w2 ⟨rfl, q2⟩
    have HB2 := Lib.hid (bl_ca HB.out q2)
    have HZ2 := Lib.hid (HZ.out.ca q2)
    have HS2 := Lib.hid (HS.out.ca q2)
    have hs2 := q2.size
    clear q2 HCK HS HB HZ
    go_wp2_with fail
    refine wp_region_ps (S := Seq1 7 (fun _ w' => Below w2.heap.size w2 w') (fun _ w' => ∃ w6, Below w2.heap.size w2 w6 ∧ Blk w' (w.heap.size + 1) 47 (PK.cells ⟨2, r.ses, r.next, limR r, ⟨[], false, 0⟩⟩ none 0 0) ∧ w6.grownBy w' (some (w.heap.size + 1)))) (by kernel_rfl) ?spswq ?ppswq
    case spswq =>
      exact Seq1.start (by decide) (Below.refl _ _).drew
    refine Ps.st (i := 0) (d := some 11) (u := _) rfl rfl (StepS.pure (Seq1.pass (by decide)) rfl fun w9 => by go_simp; try rfl) ?_
    try simp only [Act.put, sA, sZ, sS]
    refine Ps.st (i := 1) (d := some 12) (u := ?uwq_2) rfl rfl ?ywq_2 ?rwq_2
    case ywq_2 =>
      refine StepS.read [] (by kernel_rfl) (Seq1.pass (by decide)) (by rfl) (fun L9 m9 w9 hSh hAt hDn hS => ?_)
      have hT : Blk w9 w.heap.size 36 (r.cells A n c B m d) := Seq1.any (T := fun w9 => Blk w9 w.heap.size 36 (r.cells A n c B m d)) (fun _ _ h => HS2.out.ca h) (fun _ _ ⟨_, h1, _, h3⟩ => (HS2.out.ca h1).apart h3 (by omega)) hS
      have x0 : w9.cell? ⟨w.heap.size, 0, none⟩ = some (.int .u32 r.ses) := hT.cell 0
      clear hT hS
      go_simp
      try rfl
    try simp only [Act.put, sA, sZ, sS]
    refine Ps.st (i := 2) (d := some 13) (u := _) rfl rfl (StepS.pure (Seq1.pass (by decide)) rfl fun w9 => by go_simp; try rfl) ?_
    try simp only [Act.put, sA, sZ, sS]
    refine Ps.st (i := 3) (d := some 14) (u := ?uwq_4) rfl rfl ?ywq_4 ?rwq_4
    case ywq_4 =>
      refine StepS.read [] (by kernel_rfl) (Seq1.pass (by decide)) (by rfl) (fun L9 m9 w9 hSh hAt hDn hS => ?_)
      have hT : Blk w9 w.heap.size 36 (r.cells A n c B m d) := Seq1.any (T := fun w9 => Blk w9 w.heap.size 36 (r.cells A n c B m d)) (fun _ _ h => HS2.out.ca h) (fun _ _ ⟨_, h1, _, h3⟩ => (HS2.out.ca h1).apart h3 (by omega)) hS
      have x1 : w9.cell? ⟨w.heap.size, 1, none⟩ = some (.int .u64 r.next) := hT.cell 1
      clear hT hS
      go_simp
      try rfl
    try simp only [Act.put, sA, sZ, sS]
    refine Ps.st (i := 4) (d := some 15) (u := ?uwq_5) rfl rfl ?ywq_5 ?rwq_5
    case ywq_5 =>
      refine StepS.read [] (by kernel_rfl) (Seq1.pass (by decide)) (by rfl) (fun L9 m9 w9 hSh hAt hDn hS => ?_)
      have hT : Blk w9 w.heap.size 36 (r.cells A n c B m d) := Seq1.any (T := fun w9 => Blk w9 w.heap.size 36 (r.cells A n c B m d)) (fun _ _ h => HS2.out.ca h) (fun _ _ ⟨_, h1, _, h3⟩ => (HS2.out.ca h1).apart h3 (by omega)) hS
      have x0 : w9.cell? ⟨w.heap.size, 0, none⟩ = some (.int .u32 r.ses) := hT.cell 0
      have x1 : w9.cell? ⟨w.heap.size, 1, none⟩ = some (.int .u64 r.next) := hT.cell 1
      have x2 : w9.cell? ⟨w.heap.size, 2, none⟩ = some (.slice A n c) := hT.cell 2
      have x3 : w9.cell? ⟨w.heap.size, 3, none⟩ = some (.slice B m d) := hT.cell 3
      have x4 : w9.cell? ⟨w.heap.size, 4, none⟩ = some (.int .i64 r.room) := hT.cell 4
      have x5 : w9.cell? ⟨w.heap.size, 5, none⟩ = some (.bool r.over) := hT.cell 5
      clear hT hS
      go_simp
      try rfl
    try simp only [Act.put, sA, sZ, sS]
    refine Ps.st (i := 5) (d := some 16) (u := (.int .u64 (limR r))) rfl rfl ?ywq_6 ?rwq_6
    case ywq_6 =>
      refine StepS.call ?fwq_6 ?awq_6 [] (by kernel_rfl) (by rfl) (fun w9 => ?hwq_6) (fun L9 m9 w9 hSh hAt hDn hS => ?cwq_6)
      case hwq_6 => go_simp; refine ⟨?_, ?_⟩ <;> rfl
      case cwq_6 =>
        have hd7 := reach_no hSh (f := 9) (j := 7) (by kernel_rfl) hDn
        have hT := Seq1.at1 hd7 hS
        refine (limit_any r A n c B m d w9 HLB.out hrg.1 (by omega) (by rw [← HLB.out]; exact hrg.2.2.1) hrg.2.2.2).mono ?_
        rintro e w8 ⟨rfl, q8⟩
        exact ⟨rfl, Seq1.keep0 ((dn_ne (by decide)).trans hd7) (bl_ca hT q8)⟩
    try simp only [Act.put, sA, sZ, sS]
    refine Ps.st (i := 6) (d := some 17) (u := _) rfl rfl (StepS.pure (Seq1.pass (by decide)) rfl fun w9 => by go_simp; try rfl) ?_
    try simp only [Act.put, sA, sZ, sS]
    refine Ps.st (i := 7) (d := none) (u := undef) rfl rfl ?ywq_8 ?rwq_8
    case ywq_8 =>
      refine StepS.store [] (by kernel_rfl) (by rfl) (fun L9 m9 w9 hSh hAt hDn hS => ?_)
      have hT := Seq1.at1 hDn hS
      refine (exec_store_blk (w := w9) 47 (.tmp 2) (.tmp 17) (by rfl) (w.heap.size + 1) 47 (zeroP.cells none 0 0) (PK.cells ⟨2, r.ses, r.next, limR r, ⟨[], false, 0⟩⟩ none 0 0) (by rfl) (by rfl) (HZ2.out.ca hT) rfl packetI (by simp [Value.oneCell'])).imp fun w7 hx => ⟨hx.1, Seq1.set1 ⟨w9, hT, hx.2.1, hx.2.2⟩⟩
    try simp only [Act.put]
    refine Ps.st (i := 8) (d := some 3) (u := _) rfl rfl (StepS.pure (Seq1.pass (by decide)) rfl fun w9 => by go_simp; try rfl) ?_
    try simp only [Act.put, sA, sZ, sS]
    refine Ps.done (by kernel_rfl) (fun wq hS => ?_) _
    obtain ⟨w6, hT, hZ, gz⟩ := Seq1.fin (by rfl) hS
    clear hS
    go_wp2
    exact bodyPost_ret (res2 Try.results31 rfl rfl hZ Try.underlying47 rfl packetI) rfl (ack_yes HOK.out rfl (bl_gr (bl_ca HB2.out hT) gz (by omega)))
end Go.Proofs.Ytojghgbaiiajfaa
