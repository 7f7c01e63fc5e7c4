/- bowspritref22.Packet, RightReceiver. Conditions: the slices read so. -/
import Derived.Test.YtojghgbaiiajfaaPkT13
namespace Go.Proofs.Ytojghgbaiiajfaa
open Go.RowKit

set_option maxRecDepth 100000 in
set_option maxHeartbeats 16000000 in
theorem rpacket_any (F : Nat → Prop) (p : PK) (A : Option Addr) (n c : Nat) (w : World) (h : LR.rd w F A n p.b.rows) (hn : n ≤ 9223372036854775807) :
    Calls Try.prog 28 #[.agg (p.cells A n c)] w fun e w' => e = .returned (.bool (checkP p)) ∧ Below w.heap.size w w' := by
  obtain ⟨r, hr⟩ : ∃ r, r = checkP p := ⟨_, rfl⟩
  rw [← hr]
  have HRR := Lib.hid hr
  clear hr
  obtain ⟨kind, ses, seq, lim, rows, fin, cnt⟩ := p
  dsimp only at h
  have HL := Lib.hid (Lay.rd_len h)
  have b1 := bl_al (Below.refl w.heap.size w) (.cells #[.int .i64 kind, .int .u32 ses, .int .u64 seq, .int .u64 lim, .slice A n c, .bool fin, .int .u64 cnt] 47)
  have HB := Lib.hid (Blk.new w 47 #[.int .i64 kind, .int .u32 ses, .int .u64 seq, .int .u64 lim, .slice A n c, .bool fin, .int .u64 cnt])
  have HRD := Lib.hid (Lay.rd_below h b1)
  have HBB := Lib.hid b1
  clear h b1
  go_enter Try.func28, Try.ntmps28
  go_upto_region 1 with fail
  generalize w.alloc (.cells #[.int .i64 kind, .int .u32 ses, .int .u64 seq, .int .u64 lim, .slice A n c, .bool fin, .int .u64 cnt] 47) = w1 at *
  refine wp_region_ps0 .text (S := fun _ _ w' => Below w1.heap.size w1 w') (by kernel_rfl) ?spswg1 ?ppswg1
  case spswg1 =>
    exact (Below.refl w1.heap.size w1)
  refine Ps.st (i := 0) (d := some 4) (u := (.pointer (some ⟨w.heap.size, 1, none⟩))) rfl rfl (by exact StepS.pure nP rfl fun _ => rfl) ?_
  try simp only [Act.put, sA, sZ, sS]
  refine Ps.st (i := 1) (d := some 5) (u := (.int .u32 (ses))) rfl rfl ?ywg1_3 ?rwg1_3
  case ywg1_3 =>
    refine StepS.read [] (by kernel_rfl) nP (by rfl) (fun L9 m9 w9 hSh hAt hDn hS => ?_)
    have hT : Below _ _ w9 := hS
    have x0 : w9.cell? ⟨w.heap.size, 1, none⟩ = some (.int .u32 (ses)) := (HB.out.ca hT).cell 1
    clear hT hS
    go_simp
    try rfl
  try simp only [Act.put, sA, sZ, sS]
  refine Ps.st (i := 2) (d := some 6) (u := (.bool (sesB ses))) rfl rfl ?ywg1_4 ?rwg1_4
  case ywg1_4 =>
    refine StepS.call ?fwg1_4 ?awg1_4 [] (by kernel_rfl) (by rfl) (fun w9 => ?hwg1_4) (fun L9 m9 w9 hSh hAt hDn hS => ?cwg1_4)
    case hwg1_4 => go_simp; refine ⟨?_, ?_⟩ <;> rfl
    case cwg1_4 =>
      have hT : Below _ _ w9 := hS
      refine (rsession_any ses w9).mono ?_
      rintro e w8 ⟨rfl, rfl⟩
      exact ⟨rfl, hT⟩
  try simp only [Act.put, sA, sZ, sS]
  obtain ⟨f1, hb9⟩ : ∃ b : Bool, b = (!(sesB ses)) := ⟨_, rfl⟩
  have HEf1 := Lib.hid hb9
  clear hb9
  refine Ps.st (i := 3) (d := some 7) (u := (.bool (f1))) rfl rfl ?ywg1_5 ?rwg1_5
  case ywg1_5 =>
    refine StepS.pure nP (by rfl) (fun w9 => ?_)
    have e9 : (!(sesB ses)) = f1 := by rw [HEf1.out]
    rw [← e9]
    clear e9
    first | rfl | (go_simp; done) | (go_simp; rfl)
  try simp only [Act.put, sA, sZ, sS]
  refine Ps.done (by kernel_rfl) (fun wg1 hS => ?_) _
  have HW6 := Lib.hid (show Below w1.heap.size w1 wg1 from hS)
  clear hS
  obtain ⟨w107, rfl⟩ : ∃ x, x = wg1 := ⟨_, rfl⟩
  have HK := Lib.hid (show checkP ⟨kind, ses, seq, lim, ⟨rows, fin, cnt⟩⟩ = (sesB ses && ((decide (kind = 1) && (decide (lim = 0) && batchB ⟨rows, fin, cnt⟩ seq)) || (decide (kind = 2) && (((decide ((n : Int) = 0) && !fin) && decide (cnt = 0)) && (decide (1 ≤ seq) && (decide (seq ≤ 1099511627777) && (decide (seq - 1 ≤ lim) && decide (lim ≤ 1099511627776)))))))) from by
    unfold checkP eqBC
    rw [← HL.out]
    have e : decide ((rows.length : Int) = 0) = decide (rows = []) := by rw [Bool.eq_iff_iff]; simp
    dsimp only
    rw [e, Bool.eq_iff_iff]
    simp
    grind)
  cases f1
  · by_cases k1 : kind = 1
    · subst k1
      have x0 := (HB.out.ca HW6.out).cell 0
      go_upto_region 5 with fail
      clear x0
      refine wp_region_ps0 .text (S := fun _ _ w' => Below w1.heap.size w1 w') (by kernel_rfl) ?spswg8 ?ppswg8
      case spswg8 =>
        exact HW6.out
      refine Ps.st (i := 0) (d := some 12) (u := (.pointer (some ⟨w.heap.size, 3, none⟩))) rfl rfl (by exact StepS.pure nP rfl fun _ => rfl) ?_
      try simp only [Act.put, sA, sZ, sS]
      refine Ps.st (i := 1) (d := some 13) (u := (.int .u64 (lim))) rfl rfl ?ywg8_10 ?rwg8_10
      case ywg8_10 =>
        refine StepS.read [] (by kernel_rfl) nP (by rfl) (fun L9 m9 w9 hSh hAt hDn hS => ?_)
        have hT : Below _ _ w9 := hS
        have x0 : w9.cell? ⟨w.heap.size, 3, none⟩ = some (.int .u64 (lim)) := (HB.out.ca hT).cell 3
        clear hT hS
        go_simp
        try rfl
      try simp only [Act.put, sA, sZ, sS]
      refine Ps.st (i := 2) (d := some 14) (u := (.bool (decide (lim = 0)))) rfl rfl (by exact StepS.pure nP rfl fun _ => rfl) ?_
      try simp only [Act.put, sA, sZ, sS]
      obtain ⟨b5_3, hb9⟩ : ∃ b : Bool, b = (decide (lim = 0)) := ⟨_, rfl⟩
      have HEb5_3 := Lib.hid hb9
      clear hb9
      refine Ps.st (i := 3) (d := some 15) (u := (.bool (b5_3))) rfl rfl ?ywg8_12 ?rwg8_12
      case ywg8_12 =>
        refine StepS.pure nP (by rfl) (fun w9 => ?_)
        have e9 : (decide (lim = 0)) = b5_3 := by rw [HEb5_3.out]
        rw [← e9]
        clear e9
        first | rfl | (go_simp; done) | (go_simp; rfl)
      try simp only [Act.put, sA, sZ, sS]
      refine Ps.st (i := 4) (d := some 16) (u := (cond b5_3 (.pointer (some ⟨w.heap.size, 4, none⟩)) (undef))) rfl rfl (by cases b5_3; exact StepS.skip nP rfl; exact StepS.pure nP rfl fun _ => rfl) ?_
      try simp only [Act.put, sA, sZ, sS]
      refine Ps.st (i := 5) (d := some 17) (u := (cond b5_3 (.agg #[.slice A n c, .bool (fin), .int .u64 (cnt)]) (undef))) rfl rfl ?ywg8_14 ?rwg8_14
      case ywg8_14 =>
        cases b5_3
        · exact StepS.skip nP (by rfl)
        · skip
          refine StepS.read [] (by kernel_rfl) nP (by rfl) (fun L9 m9 w9 hSh hAt hDn hS => ?_)
          have hT : Below _ _ w9 := hS
          have x0 : w9.cell? ⟨w.heap.size, 4, none⟩ = some (.slice A n c) := (HB.out.ca hT).cell 4
          have x1 : w9.cell? ⟨w.heap.size, 5, none⟩ = some (.bool (fin)) := (HB.out.ca hT).cell 5
          have x2 : w9.cell? ⟨w.heap.size, 6, none⟩ = some (.int .u64 (cnt)) := (HB.out.ca hT).cell 6
          clear hT hS
          go_simp
          try rfl
      try simp only [Act.put, sA, sZ, sS]
      refine Ps.st (i := 6) (d := some 18) (u := (cond b5_3 (.pointer (some ⟨w.heap.size, 2, none⟩)) (undef))) rfl rfl (by cases b5_3; exact StepS.skip nP rfl; exact StepS.pure nP rfl fun _ => rfl) ?_
      try simp only [Act.put, sA, sZ, sS]
      refine Ps.st (i := 7) (d := some 19) (u := (cond b5_3 (.int .u64 (seq)) (undef))) rfl rfl ?ywg8_16 ?rwg8_16
      case ywg8_16 =>
        cases b5_3
        · exact StepS.skip nP (by rfl)
        · skip
          refine StepS.read [] (by kernel_rfl) nP (by rfl) (fun L9 m9 w9 hSh hAt hDn hS => ?_)
          have hT : Below _ _ w9 := hS
          have x0 : w9.cell? ⟨w.heap.size, 2, none⟩ = some (.int .u64 (seq)) := (HB.out.ca hT).cell 2
          clear hT hS
          go_simp
          try rfl
      try simp only [Act.put, sA, sZ, sS]
      refine Ps.st (i := 8) (d := some 20) (u := (cond b5_3 (.bool (batchB ⟨rows, fin, cnt⟩ seq)) (undef))) rfl rfl ?ywg8_17 ?rwg8_17
      case ywg8_17 =>
        cases b5_3
        · exact StepS.skip nP (by rfl)
        · skip
          refine StepS.call ?fwg8_17 ?awg8_17 [] (by kernel_rfl) (by rfl) (fun w9 => ?hwg8_17) (fun L9 m9 w9 hSh hAt hDn hS => ?cwg8_17)
          case hwg8_17 => go_simp; refine ⟨?_, ?_⟩ <;> rfl
          case cwg8_17 =>
            have hT : Below _ _ w9 := hS
            refine (rbatch_any F ⟨rows, fin, cnt⟩ A n c seq w9 (Lay.rd_below HRD.out hT) hn).mono ?_
            rintro e w8 ⟨rfl, q8⟩
            exact ⟨rfl, bl_ca hT q8⟩
      try simp only [Act.put, sA, sZ, sS]
      obtain ⟨f5, hb9⟩ : ∃ b : Bool, b = ((decide (lim = 0)) && (batchB ⟨rows, fin, cnt⟩ seq)) := ⟨_, rfl⟩
      have HEf5 := Lib.hid hb9
      clear hb9
      refine Ps.st (i := 9) (d := some 21) (u := (.bool (f5))) rfl rfl ?ywg8_18 ?rwg8_18
      case ywg8_18 =>
        refine StepS.pure nP (by rfl) (fun w9 => ?_)
        have e9 : (b5_3 && (batchB ⟨rows, fin, cnt⟩ seq)) = f5 := by rw [HEf5.out, HEb5_3.out]
        rw [← e9]
        clear e9
        cases b5_3 <;> (first | rfl | (go_simp; done) | (go_simp; rfl))
      try simp only [Act.put, sA, sZ, sS]
      refine Ps.st (i := 10) (d := some 2) (u := (.bool (f5))) rfl rfl (by exact StepS.pure nP rfl fun _ => rfl) ?_
      try simp only [Act.put, sA, sZ, sS]
      refine Ps.done (by kernel_rfl) (fun wg8 hS => ?_) _
      try generalize (cond b5_3 (.agg #[.slice A n c, .bool (fin), .int .u64 (cnt)]) (undef) : Value) = zz20
      try generalize (cond b5_3 (.pointer (some ⟨w.heap.size, 2, none⟩)) (undef) : Value) = zz21
      try generalize (cond b5_3 (.pointer (some ⟨w.heap.size, 4, none⟩)) (undef) : Value) = zz22
      try generalize (cond b5_3 (.bool (batchB ⟨rows, fin, cnt⟩ seq)) (undef) : Value) = zz23
      try generalize (cond b5_3 (.int .u64 (seq)) (undef) : Value) = zz24
      have HW25 := Lib.hid (show Below w1.heap.size w1 wg8 from hS)
      clear hS
      obtain ⟨w126, rfl⟩ : ∃ x, x = wg8 := ⟨_, rfl⟩
      go_wp2
      go_ret
      exact ⟨ret_bool (by rw [HRR.out, HK.out, HEf5.out]; have h := HEf1.out; simp at h; simp [h]), bl_ca HBB.out HW25.out⟩
    · by_cases k2 : kind = 2
      · subst k2
        have x0 := (HB.out.ca HW6.out).cell 0
        go_upto_region 7 with fail
        clear x0 k1
        refine wp_region_ps0 .text (S := fun _ _ w' => Below w1.heap.size w1 w') (by kernel_rfl) ?spswg27 ?ppswg27
        case spswg27 =>
          exact HW6.out
        refine Ps.st (i := 0) (d := some 24) (u := (.pointer (some ⟨w.heap.size, 4, none⟩))) rfl rfl (by exact StepS.pure nP rfl fun _ => rfl) ?_
        try simp only [Act.put, sA, sZ, sS]
        refine Ps.st (i := 1) (d := some 25) (u := (.pointer (some ⟨w.heap.size, 4, none⟩))) rfl rfl (by exact StepS.pure nP rfl fun _ => rfl) ?_
        try simp only [Act.put, sA, sZ, sS]
        refine Ps.st (i := 2) (d := some 26) (u := (.slice A n c)) rfl rfl ?ywg27_30 ?rwg27_30
        case ywg27_30 =>
          refine StepS.read [] (by kernel_rfl) nP (by rfl) (fun L9 m9 w9 hSh hAt hDn hS => ?_)
          have hT : Below _ _ w9 := hS
          have x0 : w9.cell? ⟨w.heap.size, 4, none⟩ = some (.slice A n c) := (HB.out.ca hT).cell 4
          clear hT hS
          go_simp
          try rfl
        try simp only [Act.put, sA, sZ, sS]
        refine Ps.st (i := 3) (d := some 27) (u := (.int .i64 ((n : Int)))) rfl rfl (by exact StepS.pure nP rfl fun _ => by first | rfl | (go_simp; done) | (go_simp; rfl)) ?_
        try simp only [Act.put, sA, sZ, sS]
        refine Ps.st (i := 4) (d := some 28) (u := (.bool (decide ((n : Int) = 0)))) rfl rfl (by exact StepS.pure nP rfl fun _ => rfl) ?_
        try simp only [Act.put, sA, sZ, sS]
        obtain ⟨b7_5, hb9⟩ : ∃ b : Bool, b = (decide ((n : Int) = 0)) := ⟨_, rfl⟩
        have HEb7_5 := Lib.hid hb9
        clear hb9
        refine Ps.st (i := 5) (d := some 29) (u := (.bool (b7_5))) rfl rfl ?ywg27_33 ?rwg27_33
        case ywg27_33 =>
          refine StepS.pure nP (by rfl) (fun w9 => ?_)
          have e9 : (decide ((n : Int) = 0)) = b7_5 := by rw [HEb7_5.out]
          rw [← e9]
          clear e9
          first | rfl | (go_simp; done) | (go_simp; rfl)
        try simp only [Act.put, sA, sZ, sS]
        refine Ps.st (i := 6) (d := some 30) (u := (cond b7_5 (.pointer (some ⟨w.heap.size, 4, none⟩)) (undef))) rfl rfl (by cases b7_5; exact StepS.skip nP rfl; exact StepS.pure nP rfl fun _ => rfl) ?_
        try simp only [Act.put, sA, sZ, sS]
        refine Ps.st (i := 7) (d := some 31) (u := (cond b7_5 (.pointer (some ⟨w.heap.size, 5, none⟩)) (undef))) rfl rfl (by cases b7_5; exact StepS.skip nP rfl; exact StepS.pure nP rfl fun _ => rfl) ?_
        try simp only [Act.put, sA, sZ, sS]
        refine Ps.st (i := 8) (d := some 32) (u := (cond b7_5 (.bool (fin)) (undef))) rfl rfl ?ywg27_36 ?rwg27_36
        case ywg27_36 =>
          cases b7_5
          · exact StepS.skip nP (by rfl)
          · skip
            refine StepS.read [] (by kernel_rfl) nP (by rfl) (fun L9 m9 w9 hSh hAt hDn hS => ?_)
            have hT : Below _ _ w9 := hS
            have x0 : w9.cell? ⟨w.heap.size, 5, none⟩ = some (.bool (fin)) := (HB.out.ca hT).cell 5
            clear hT hS
            go_simp
            try rfl
        try simp only [Act.put, sA, sZ, sS]
        refine Ps.st (i := 9) (d := some 33) (u := (cond b7_5 (.bool (!fin)) (undef))) rfl rfl (by cases b7_5; exact StepS.skip nP rfl; exact StepS.pure nP rfl fun _ => rfl) ?_
        try simp only [Act.put, sA, sZ, sS]
        refine Ps.st (i := 10) (d := some 34) (u := (.bool (b7_5 && !fin))) rfl rfl ?ywg27_38 ?rwg27_38
        case ywg27_38 =>
          refine StepS.pure nP (by rfl) (fun w9 => ?_)
          cases b7_5 <;> (first | rfl | (go_simp; done) | (go_simp; rfl))
        try simp only [Act.put, sA, sZ, sS]
        obtain ⟨b7_11, hb9⟩ : ∃ b : Bool, b = ((decide ((n : Int) = 0)) && !fin) := ⟨_, rfl⟩
        have HEb7_11 := Lib.hid hb9
        clear hb9
        refine Ps.st (i := 11) (d := some 35) (u := (.bool (b7_11))) rfl rfl ?ywg27_39 ?rwg27_39
        case ywg27_39 =>
          refine StepS.pure nP (by rfl) (fun w9 => ?_)
          have e9 : (b7_5 && !fin) = b7_11 := by rw [HEb7_11.out, HEb7_5.out]
          rw [← e9]
          clear e9
          first | rfl | (go_simp; done) | (go_simp; rfl)
        try simp only [Act.put, sA, sZ, sS]
        refine Ps.st (i := 12) (d := some 36) (u := (cond b7_11 (.pointer (some ⟨w.heap.size, 4, none⟩)) (undef))) rfl rfl (by cases b7_11; exact StepS.skip nP rfl; exact StepS.pure nP rfl fun _ => rfl) ?_
        try simp only [Act.put, sA, sZ, sS]
        refine Ps.st (i := 13) (d := some 37) (u := (cond b7_11 (.pointer (some ⟨w.heap.size, 6, none⟩)) (undef))) rfl rfl (by cases b7_11; exact StepS.skip nP rfl; exact StepS.pure nP rfl fun _ => rfl) ?_
        try simp only [Act.put, sA, sZ, sS]
        refine Ps.st (i := 14) (d := some 38) (u := (cond b7_11 (.int .u64 (cnt)) (undef))) rfl rfl ?ywg27_42 ?rwg27_42
        case ywg27_42 =>
          cases b7_11
          · exact StepS.skip nP (by rfl)
          · skip
            refine StepS.read [] (by kernel_rfl) nP (by rfl) (fun L9 m9 w9 hSh hAt hDn hS => ?_)
            have hT : Below _ _ w9 := hS
            have x0 : w9.cell? ⟨w.heap.size, 6, none⟩ = some (.int .u64 (cnt)) := (HB.out.ca hT).cell 6
            clear hT hS
            go_simp
            try rfl
        try simp only [Act.put, sA, sZ, sS]
        refine Ps.st (i := 15) (d := some 39) (u := (cond b7_11 (.bool (decide (cnt = 0))) (undef))) rfl rfl (by cases b7_11; exact StepS.skip nP rfl; exact StepS.pure nP rfl fun _ => rfl) ?_
        try simp only [Act.put, sA, sZ, sS]
        obtain ⟨f7, hb9⟩ : ∃ b : Bool, b = (((decide ((n : Int) = 0)) && !fin) && (decide (cnt = 0))) := ⟨_, rfl⟩
        have HEf7 := Lib.hid hb9
        clear hb9
        refine Ps.st (i := 16) (d := some 40) (u := (.bool (f7))) rfl rfl ?ywg27_44 ?rwg27_44
        case ywg27_44 =>
          refine StepS.pure nP (by rfl) (fun w9 => ?_)
          have e9 : (b7_11 && (decide (cnt = 0))) = f7 := by rw [HEf7.out, HEb7_11.out]
          rw [← e9]
          clear e9
          cases b7_11 <;> (first | rfl | (go_simp; done) | (go_simp; rfl))
        try simp only [Act.put, sA, sZ, sS]
        refine Ps.st (i := 17) (d := some 3) (u := (.bool (f7))) rfl rfl (by exact StepS.pure nP rfl fun _ => rfl) ?_
        try simp only [Act.put, sA, sZ, sS]
        refine Ps.done (by kernel_rfl) (fun wg27 hS => ?_) _
        try generalize (cond b7_11 (.pointer (some ⟨w.heap.size, 4, none⟩)) (undef) : Value) = zz46
        try generalize (cond b7_11 (.pointer (some ⟨w.heap.size, 6, none⟩)) (undef) : Value) = zz47
        try generalize (cond b7_5 (.pointer (some ⟨w.heap.size, 4, none⟩)) (undef) : Value) = zz48
        try generalize (cond b7_5 (.pointer (some ⟨w.heap.size, 5, none⟩)) (undef) : Value) = zz49
        try generalize (cond b7_11 (.bool (decide (cnt = 0))) (undef) : Value) = zz50
        try generalize (cond b7_11 (.int .u64 (cnt)) (undef) : Value) = zz51
        try generalize (cond b7_5 (.bool (!fin)) (undef) : Value) = zz52
        try generalize (cond b7_5 (.bool (fin)) (undef) : Value) = zz53
        try generalize (.bool (b7_5 && !fin) : Value) = zz54
        have HW55 := Lib.hid (show Below w1.heap.size w1 wg27 from hS)
        clear hS
        obtain ⟨w156, rfl⟩ : ∃ x, x = wg27 := ⟨_, rfl⟩
        go_upto_region 8 with fail
        have HW1 := Lib.hid (fun h : 1 ≤ seq ∧ seq ≤ 1099511627777 => (u64_in (x := seq - 1) (by omega) (by omega)))
        refine wp_region_ps0 .text (S := fun _ _ w' => Below w1.heap.size w1 w') (by kernel_rfl) ?spswg57 ?ppswg57
        case spswg57 =>
          exact HW55.out
        refine Ps.st (i := 0) (d := some 41) (u := (.bool (f7))) rfl rfl (by exact StepS.pure nP rfl fun _ => rfl) ?_
        try simp only [Act.put, sA, sZ, sS]
        obtain ⟨b8_1, hb9⟩ : ∃ b : Bool, b = ((((decide ((n : Int) = 0)) && !fin) && (decide (cnt = 0)))) := ⟨_, rfl⟩
        have HEb8_1 := Lib.hid hb9
        clear hb9
        refine Ps.st (i := 1) (d := some 42) (u := (.bool (b8_1))) rfl rfl ?ywg57_59 ?rwg57_59
        case ywg57_59 =>
          refine StepS.pure nP (by rfl) (fun w9 => ?_)
          have e9 : (f7) = b8_1 := by rw [HEb8_1.out, HEf7.out]
          rw [← e9]
          clear e9
          first | rfl | (go_simp; done) | (go_simp; rfl)
        try simp only [Act.put, sA, sZ, sS]
        refine Ps.st (i := 2) (d := some 43) (u := (cond b8_1 (.pointer (some ⟨w.heap.size, 2, none⟩)) (undef))) rfl rfl (by cases b8_1; exact StepS.skip nP rfl; exact StepS.pure nP rfl fun _ => rfl) ?_
        try simp only [Act.put, sA, sZ, sS]
        refine Ps.st (i := 3) (d := some 44) (u := (cond b8_1 (.int .u64 (seq)) (undef))) rfl rfl ?ywg57_61 ?rwg57_61
        case ywg57_61 =>
          cases b8_1
          · exact StepS.skip nP (by rfl)
          · skip
            refine StepS.read [] (by kernel_rfl) nP (by rfl) (fun L9 m9 w9 hSh hAt hDn hS => ?_)
            have hT : Below _ _ w9 := hS
            have x0 : w9.cell? ⟨w.heap.size, 2, none⟩ = some (.int .u64 (seq)) := (HB.out.ca hT).cell 2
            clear hT hS
            go_simp
            try rfl
        try simp only [Act.put, sA, sZ, sS]
        refine Ps.st (i := 4) (d := some 45) (u := (cond b8_1 (.bool (decide ((1 : Int) ≤ seq))) (undef))) rfl rfl (by cases b8_1; exact StepS.skip nP rfl; exact StepS.pure nP rfl fun _ => rfl) ?_
        try simp only [Act.put, sA, sZ, sS]
        refine Ps.st (i := 5) (d := some 46) (u := (.bool (b8_1 && (decide ((1 : Int) ≤ seq))))) rfl rfl ?ywg57_63 ?rwg57_63
        case ywg57_63 =>
          refine StepS.pure nP (by rfl) (fun w9 => ?_)
          cases b8_1 <;> (first | rfl | (go_simp; done) | (go_simp; rfl))
        try simp only [Act.put, sA, sZ, sS]
        obtain ⟨b8_6, hb9⟩ : ∃ b : Bool, b = (((((decide ((n : Int) = 0)) && !fin) && (decide (cnt = 0)))) && (decide ((1 : Int) ≤ seq))) := ⟨_, rfl⟩
        have HEb8_6 := Lib.hid hb9
        clear hb9
        refine Ps.st (i := 6) (d := some 47) (u := (.bool (b8_6))) rfl rfl ?ywg57_64 ?rwg57_64
        case ywg57_64 =>
          refine StepS.pure nP (by rfl) (fun w9 => ?_)
          have e9 : (b8_1 && (decide ((1 : Int) ≤ seq))) = b8_6 := by rw [HEb8_6.out, HEb8_1.out]
          rw [← e9]
          clear e9
          first | rfl | (go_simp; done) | (go_simp; rfl)
        try simp only [Act.put, sA, sZ, sS]
        refine Ps.st (i := 7) (d := some 48) (u := (cond b8_6 (.pointer (some ⟨w.heap.size, 2, none⟩)) (undef))) rfl rfl (by cases b8_6; exact StepS.skip nP rfl; exact StepS.pure nP rfl fun _ => rfl) ?_
        try simp only [Act.put, sA, sZ, sS]
        refine Ps.st (i := 8) (d := some 49) (u := (cond b8_6 (.int .u64 (seq)) (undef))) rfl rfl ?ywg57_66 ?rwg57_66
        case ywg57_66 =>
          cases b8_6
          · exact StepS.skip nP (by rfl)
          · skip
            refine StepS.read [] (by kernel_rfl) nP (by rfl) (fun L9 m9 w9 hSh hAt hDn hS => ?_)
            have hT : Below _ _ w9 := hS
            have x0 : w9.cell? ⟨w.heap.size, 2, none⟩ = some (.int .u64 (seq)) := (HB.out.ca hT).cell 2
            clear hT hS
            go_simp
            try rfl
        try simp only [Act.put, sA, sZ, sS]
        refine Ps.st (i := 9) (d := some 50) (u := (cond b8_6 (.bool (decide (seq ≤ 1099511627777))) (undef))) rfl rfl (by cases b8_6; exact StepS.skip nP rfl; exact StepS.pure nP rfl fun _ => rfl) ?_
        try simp only [Act.put, sA, sZ, sS]
        refine Ps.st (i := 10) (d := some 51) (u := (.bool (b8_6 && (decide (seq ≤ 1099511627777))))) rfl rfl ?ywg57_68 ?rwg57_68
        case ywg57_68 =>
          refine StepS.pure nP (by rfl) (fun w9 => ?_)
          cases b8_6 <;> (first | rfl | (go_simp; done) | (go_simp; rfl))
        try simp only [Act.put, sA, sZ, sS]
        obtain ⟨b8_11, hb9⟩ : ∃ b : Bool, b = ((((((decide ((n : Int) = 0)) && !fin) && (decide (cnt = 0)))) && (decide ((1 : Int) ≤ seq))) && (decide (seq ≤ 1099511627777))) := ⟨_, rfl⟩
        have HEb8_11 := Lib.hid hb9
        clear hb9
        refine Ps.st (i := 11) (d := some 52) (u := (.bool (b8_11))) rfl rfl ?ywg57_69 ?rwg57_69
        case ywg57_69 =>
          refine StepS.pure nP (by rfl) (fun w9 => ?_)
          have e9 : (b8_6 && (decide (seq ≤ 1099511627777))) = b8_11 := by rw [HEb8_11.out, HEb8_6.out]
          rw [← e9]
          clear e9
          first | rfl | (go_simp; done) | (go_simp; rfl)
        try simp only [Act.put, sA, sZ, sS]
        refine Ps.st (i := 12) (d := some 53) (u := (cond b8_11 (.pointer (some ⟨w.heap.size, 3, none⟩)) (undef))) rfl rfl (by cases b8_11; exact StepS.skip nP rfl; exact StepS.pure nP rfl fun _ => rfl) ?_
        try simp only [Act.put, sA, sZ, sS]
        refine Ps.st (i := 13) (d := some 54) (u := (cond b8_11 (.int .u64 (lim)) (undef))) rfl rfl ?ywg57_71 ?rwg57_71
        case ywg57_71 =>
          cases b8_11
          · exact StepS.skip nP (by rfl)
          · skip
            refine StepS.read [] (by kernel_rfl) nP (by rfl) (fun L9 m9 w9 hSh hAt hDn hS => ?_)
            have hT : Below _ _ w9 := hS
            have x0 : w9.cell? ⟨w.heap.size, 3, none⟩ = some (.int .u64 (lim)) := (HB.out.ca hT).cell 3
            clear hT hS
            go_simp
            try rfl
        try simp only [Act.put, sA, sZ, sS]
        refine Ps.st (i := 14) (d := some 55) (u := (cond b8_11 (.pointer (some ⟨w.heap.size, 2, none⟩)) (undef))) rfl rfl (by cases b8_11; exact StepS.skip nP rfl; exact StepS.pure nP rfl fun _ => rfl) ?_
        try simp only [Act.put, sA, sZ, sS]
        refine Ps.st (i := 15) (d := some 56) (u := (cond b8_11 (.int .u64 (seq)) (undef))) rfl rfl ?ywg57_73 ?rwg57_73
        case ywg57_73 =>
          cases b8_11
          · exact StepS.skip nP (by rfl)
          · skip
            refine StepS.read [] (by kernel_rfl) nP (by rfl) (fun L9 m9 w9 hSh hAt hDn hS => ?_)
            have hT : Below _ _ w9 := hS
            have x0 : w9.cell? ⟨w.heap.size, 2, none⟩ = some (.int .u64 (seq)) := (HB.out.ca hT).cell 2
            clear hT hS
            go_simp
            try rfl
        try simp only [Act.put, sA, sZ, sS]
        refine Ps.st (i := 16) (d := some 57) (u := (cond b8_11 (.int .u64 (IntKind.u64.wrap (seq - 1))) (undef))) rfl rfl (by cases b8_11; exact StepS.skip nP rfl; exact StepS.pure nP rfl fun _ => rfl) ?_
        try simp only [Act.put, sA, sZ, sS]
        refine Ps.st (i := 17) (d := some 58) (u := (cond b8_11 (.bool (decide ((IntKind.u64.wrap (seq - 1)) ≤ lim))) (undef))) rfl rfl (by cases b8_11; exact StepS.skip nP rfl; exact StepS.pure nP rfl fun _ => rfl) ?_
        try simp only [Act.put, sA, sZ, sS]
        refine Ps.st (i := 18) (d := some 59) (u := (.bool (b8_11 && (decide ((IntKind.u64.wrap (seq - 1)) ≤ lim))))) rfl rfl ?ywg57_76 ?rwg57_76
        case ywg57_76 =>
          refine StepS.pure nP (by rfl) (fun w9 => ?_)
          cases b8_11 <;> (first | rfl | (go_simp; done) | (go_simp; rfl))
        try simp only [Act.put, sA, sZ, sS]
        obtain ⟨b8_19, hb9⟩ : ∃ b : Bool, b = (((((((decide ((n : Int) = 0)) && !fin) && (decide (cnt = 0)))) && (decide ((1 : Int) ≤ seq))) && (decide (seq ≤ 1099511627777))) && (decide ((IntKind.u64.wrap (seq - 1)) ≤ lim))) := ⟨_, rfl⟩
        have HEb8_19 := Lib.hid hb9
        clear hb9
        refine Ps.st (i := 19) (d := some 60) (u := (.bool (b8_19))) rfl rfl ?ywg57_77 ?rwg57_77
        case ywg57_77 =>
          refine StepS.pure nP (by rfl) (fun w9 => ?_)
          have e9 : (b8_11 && (decide ((IntKind.u64.wrap (seq - 1)) ≤ lim))) = b8_19 := by rw [HEb8_19.out, HEb8_11.out]
          rw [← e9]
          clear e9
          first | rfl | (go_simp; done) | (go_simp; rfl)
        try simp only [Act.put, sA, sZ, sS]
        refine Ps.st (i := 20) (d := some 61) (u := (cond b8_19 (.pointer (some ⟨w.heap.size, 3, none⟩)) (undef))) rfl rfl (by cases b8_19; exact StepS.skip nP rfl; exact StepS.pure nP rfl fun _ => rfl) ?_
        try simp only [Act.put, sA, sZ, sS]
        refine Ps.st (i := 21) (d := some 62) (u := (cond b8_19 (.int .u64 (lim)) (undef))) rfl rfl ?ywg57_79 ?rwg57_79
        case ywg57_79 =>
          cases b8_19
          · exact StepS.skip nP (by rfl)
          · skip
            refine StepS.read [] (by kernel_rfl) nP (by rfl) (fun L9 m9 w9 hSh hAt hDn hS => ?_)
            have hT : Below _ _ w9 := hS
            have x0 : w9.cell? ⟨w.heap.size, 3, none⟩ = some (.int .u64 (lim)) := (HB.out.ca hT).cell 3
            clear hT hS
            go_simp
            try rfl
        try simp only [Act.put, sA, sZ, sS]
        refine Ps.st (i := 22) (d := some 63) (u := (cond b8_19 (.bool (decide (lim ≤ 1099511627776))) (undef))) rfl rfl (by cases b8_19; exact StepS.skip nP rfl; exact StepS.pure nP rfl fun _ => rfl) ?_
        try simp only [Act.put, sA, sZ, sS]
        obtain ⟨f8, hb9⟩ : ∃ b : Bool, b = ((((((((decide ((n : Int) = 0)) && !fin) && (decide (cnt = 0)))) && (decide ((1 : Int) ≤ seq))) && (decide (seq ≤ 1099511627777))) && (decide ((IntKind.u64.wrap (seq - 1)) ≤ lim))) && (decide (lim ≤ 1099511627776))) := ⟨_, rfl⟩
        have HEf8 := Lib.hid hb9
        clear hb9
        refine Ps.st (i := 23) (d := some 64) (u := (.bool (f8))) rfl rfl ?ywg57_81 ?rwg57_81
        case ywg57_81 =>
          refine StepS.pure nP (by rfl) (fun w9 => ?_)
          have e9 : (b8_19 && (decide (lim ≤ 1099511627776))) = f8 := by rw [HEf8.out, HEb8_19.out]
          rw [← e9]
          clear e9
          cases b8_19 <;> (first | rfl | (go_simp; done) | (go_simp; rfl))
        try simp only [Act.put, sA, sZ, sS]
        refine Ps.st (i := 24) (d := some 2) (u := (.bool (f8))) rfl rfl (by exact StepS.pure nP rfl fun _ => rfl) ?_
        try simp only [Act.put, sA, sZ, sS]
        refine Ps.done (by kernel_rfl) (fun wg57 hS => ?_) _
        try generalize (cond b8_11 (.bool (decide ((IntKind.u64.wrap (seq - 1)) ≤ lim))) (undef) : Value) = zz83
        try generalize (.bool (b8_11 && (decide ((IntKind.u64.wrap (seq - 1)) ≤ lim))) : Value) = zz84
        try generalize (cond b8_11 (.pointer (some ⟨w.heap.size, 3, none⟩)) (undef) : Value) = zz85
        try generalize (cond b8_19 (.pointer (some ⟨w.heap.size, 3, none⟩)) (undef) : Value) = zz86
        try generalize (cond b8_11 (.int .u64 (IntKind.u64.wrap (seq - 1))) (undef) : Value) = zz87
        try generalize (cond b8_11 (.pointer (some ⟨w.heap.size, 2, none⟩)) (undef) : Value) = zz88
        try generalize (cond b8_1 (.pointer (some ⟨w.heap.size, 2, none⟩)) (undef) : Value) = zz89
        try generalize (cond b8_6 (.pointer (some ⟨w.heap.size, 2, none⟩)) (undef) : Value) = zz90
        try generalize (cond b8_19 (.bool (decide (lim ≤ 1099511627776))) (undef) : Value) = zz91
        try generalize (cond b8_6 (.bool (decide (seq ≤ 1099511627777))) (undef) : Value) = zz92
        try generalize (cond b8_1 (.bool (decide ((1 : Int) ≤ seq))) (undef) : Value) = zz93
        try generalize (.bool (b8_6 && (decide (seq ≤ 1099511627777))) : Value) = zz94
        try generalize (.bool (b8_1 && (decide ((1 : Int) ≤ seq))) : Value) = zz95
        try generalize (cond b8_19 (.int .u64 (lim)) (undef) : Value) = zz96
        try generalize (cond b8_11 (.int .u64 (seq)) (undef) : Value) = zz97
        try generalize (cond b8_11 (.int .u64 (lim)) (undef) : Value) = zz98
        try generalize (cond b8_6 (.int .u64 (seq)) (undef) : Value) = zz99
        try generalize (cond b8_1 (.int .u64 (seq)) (undef) : Value) = zz100
        have HW101 := Lib.hid (show Below w1.heap.size w1 wg57 from hS)
        clear hS
        obtain ⟨w202, rfl⟩ : ∃ x, x = wg57 := ⟨_, rfl⟩
        go_wp2
        go_ret
        exact ⟨ret_bool (by rw [HRR.out, HK.out, HEf8.out]; have h := HEf1.out; have hw := HW1.out; simp at h; rw [h]; by_cases h1 : 1 ≤ seq ∧ seq ≤ 1099511627777; (rw [hw h1]; simp [h1]; grind); (simp; grind)), bl_ca HBB.out HW101.out⟩
      · have t1 : (kind == 1) = false := by simpa using k1
        have t2 : (kind == 2) = false := by simpa using k2
        have x0 := (HB.out.ca HW6.out).cell 0
        go_wp2
        go_ret
        exact ⟨ret_bool (by rw [HRR.out, HK.out]; simp [k1, k2]), bl_ca HBB.out HW6.out⟩
  · skip
    go_wp2
    go_ret
    exact ⟨ret_bool (by rw [HRR.out, HK.out]; have h := HEf1.out; simp at h; simp [h]), bl_ca HBB.out HW6.out⟩

theorem aheadB_len {lim : Int} : ∀ {l : List HC} {a : Int}, aheadB lim a l = true → l = [] ∨ a + (l.length : Int) ≤ lim
  | [], _, _ => .inl rfl
  | h :: l, a, e => by
    unfold aheadB at e
    simp only [Bool.and_eq_true, decide_eq_true_eq] at e
    obtain ⟨h1, h2, h3, h4, h5⟩ := e
    right
    rcases aheadB_len h5 with h6 | h6
    · subst h6; simp; omega
    · simp only [List.length_cons]; omega
set_option maxRecDepth 100000 in
set_option maxHeartbeats 16000000 in
theorem rrecv_any (Fr F2 : Nat → Prop) (r : RC) (A : Option Addr) (n c : Nat) (B : Option Addr) (m d : Nat) (w : World) (h : LH4.rd w Fr A n r.ahead) (h2 : LB3.rd w F2 B m r.buf) (hn : n ≤ 9223372036854775807) (hm : m ≤ 9223372036854775807) :
    Calls Try.prog 23 #[.agg (r.cells A n c B m d)] w fun e w' => e = .returned (.bool (recB r)) ∧ Below w.heap.size w w' := by
  obtain ⟨rr, hr⟩ : ∃ rr, rr = recB r := ⟨_, rfl⟩
  rw [← hr]
  have HRR := Lib.hid hr
  clear hr
  obtain ⟨ses, next, ahead, buf, room, over⟩ := r
  dsimp only at h h2
  have HLA := Lib.hid (Lay.rd_len h)
  have HLB := Lib.hid (Lay.rd_len h2)
  have b1 := bl_al (Below.refl w.heap.size w) (.cells #[.int .u32 ses, .int .u64 next, .slice A n c, .slice B m d, .int .i64 room, .bool over] 36)
  have HB := Lib.hid (Blk.new w 36 #[.int .u32 ses, .int .u64 next, .slice A n c, .slice B m d, .int .i64 room, .bool over])
  have HRA := Lib.hid (Lay.rd_below h b1)
  have HRB := Lib.hid (Lay.rd_below h2 b1)
  have HBB := Lib.hid b1
  clear h h2 b1
  have x3 := HB.out.cell 3
  have hwm : IntKind.u64.wrap (m : Int) = (m : Int) := u64_in (by omega) (by omega)
  have HWM := Lib.hid hwm
  clear hwm
  go_enter Try.func23, Try.ntmps23
  go_upto_region 2 with fail
  clear x3
  generalize w.alloc (.cells #[.int .u32 ses, .int .u64 next, .slice A n c, .slice B m d, .int .i64 room, .bool over] 36) = w1 at *
  refine wp_region_ps0 .text (S := fun _ _ w' => Below w1.heap.size w1 w') (by kernel_rfl) ?spswg103 ?ppswg103
  case spswg103 =>
    exact (Below.refl w1.heap.size w1)
  refine Ps.st (i := 0) (d := some 9) (u := (.pointer (some ⟨w.heap.size, 0, none⟩))) rfl rfl (by exact StepS.pure nP rfl fun _ => rfl) ?_
  try simp only [Act.put, sA, sZ, sS]
  refine Ps.st (i := 1) (d := some 10) (u := (.int .u32 (ses))) rfl rfl ?ywg103_105 ?rwg103_105
  case ywg103_105 =>
    refine StepS.read [] (by kernel_rfl) nP (by rfl) (fun L9 m9 w9 hSh hAt hDn hS => ?_)
    have hT : Below _ _ w9 := hS
    have x0 : w9.cell? ⟨w.heap.size, 0, none⟩ = some (.int .u32 (ses)) := (HB.out.ca hT).cell 0
    clear hT hS
    go_simp
    try rfl
  try simp only [Act.put, sA, sZ, sS]
  refine Ps.st (i := 2) (d := some 11) (u := (.bool (sesB ses))) rfl rfl ?ywg103_106 ?rwg103_106
  case ywg103_106 =>
    refine StepS.call ?fwg103_106 ?awg103_106 [] (by kernel_rfl) (by rfl) (fun w9 => ?hwg103_106) (fun L9 m9 w9 hSh hAt hDn hS => ?cwg103_106)
    case hwg103_106 => go_simp; refine ⟨?_, ?_⟩ <;> rfl
    case cwg103_106 =>
      have hT : Below _ _ w9 := hS
      refine (rsession_any ses w9).mono ?_
      rintro e w8 ⟨rfl, rfl⟩
      exact ⟨rfl, hT⟩
  try simp only [Act.put, sA, sZ, sS]
  refine Ps.st (i := 3) (d := some 12) (u := (.bool (!(sesB ses)))) rfl rfl (by exact StepS.pure nP rfl fun _ => rfl) ?_
  try simp only [Act.put, sA, sZ, sS]
  obtain ⟨b2_4, hb9⟩ : ∃ b : Bool, b = (!(sesB ses)) := ⟨_, rfl⟩
  have HEb2_4 := Lib.hid hb9
  clear hb9
  refine Ps.st (i := 4) (d := some 13) (u := (.bool (b2_4))) rfl rfl ?ywg103_108 ?rwg103_108
  case ywg103_108 =>
    refine StepS.pure nP (by rfl) (fun w9 => ?_)
    have e9 : (!(sesB ses)) = b2_4 := by rw [HEb2_4.out]
    rw [← e9]
    clear e9
    first | rfl | (go_simp; done) | (go_simp; rfl)
  try simp only [Act.put, sA, sZ, sS]
  refine Ps.st (i := 5) (d := some 14) (u := (cond b2_4 (undef) (.pointer (some ⟨w.heap.size, 4, none⟩)))) rfl rfl (by cases b2_4; (exact StepS.pure nP rfl fun _ => rfl); exact StepS.skip nP rfl) ?_
  try simp only [Act.put, sA, sZ, sS]
  refine Ps.st (i := 6) (d := some 15) (u := (cond b2_4 (undef) (.int .i64 (room)))) rfl rfl ?ywg103_110 ?rwg103_110
  case ywg103_110 =>
    cases b2_4
    · skip
      refine StepS.read [] (by kernel_rfl) nP (by rfl) (fun L9 m9 w9 hSh hAt hDn hS => ?_)
      have hT : Below _ _ w9 := hS
      have x0 : w9.cell? ⟨w.heap.size, 4, none⟩ = some (.int .i64 (room)) := (HB.out.ca hT).cell 4
      clear hT hS
      go_simp
      try rfl
    · exact StepS.skip nP (by rfl)
  try simp only [Act.put, sA, sZ, sS]
  refine Ps.st (i := 7) (d := some 16) (u := (cond b2_4 (undef) (.bool (decide (room < 1))))) rfl rfl (by cases b2_4; (exact StepS.pure nP rfl fun _ => rfl); exact StepS.skip nP rfl) ?_
  try simp only [Act.put, sA, sZ, sS]
  refine Ps.st (i := 8) (d := some 17) (u := (.bool (b2_4 || (decide (room < 1))))) rfl rfl ?ywg103_112 ?rwg103_112
  case ywg103_112 =>
    refine StepS.pure nP (by rfl) (fun w9 => ?_)
    cases b2_4 <;> (first | rfl | (go_simp; done) | (go_simp; rfl))
  try simp only [Act.put, sA, sZ, sS]
  obtain ⟨b2_9, hb9⟩ : ∃ b : Bool, b = ((!(sesB ses)) || (decide (room < 1))) := ⟨_, rfl⟩
  have HEb2_9 := Lib.hid hb9
  clear hb9
  refine Ps.st (i := 9) (d := some 18) (u := (.bool (b2_9))) rfl rfl ?ywg103_113 ?rwg103_113
  case ywg103_113 =>
    refine StepS.pure nP (by rfl) (fun w9 => ?_)
    have e9 : (b2_4 || (decide (room < 1))) = b2_9 := by rw [HEb2_9.out, HEb2_4.out]
    rw [← e9]
    clear e9
    first | rfl | (go_simp; done) | (go_simp; rfl)
  try simp only [Act.put, sA, sZ, sS]
  refine Ps.st (i := 10) (d := some 19) (u := (cond b2_9 (undef) (.pointer (some ⟨w.heap.size, 4, none⟩)))) rfl rfl (by cases b2_9; (exact StepS.pure nP rfl fun _ => rfl); exact StepS.skip nP rfl) ?_
  try simp only [Act.put, sA, sZ, sS]
  refine Ps.st (i := 11) (d := some 20) (u := (cond b2_9 (undef) (.int .i64 (room)))) rfl rfl ?ywg103_115 ?rwg103_115
  case ywg103_115 =>
    cases b2_9
    · skip
      refine StepS.read [] (by kernel_rfl) nP (by rfl) (fun L9 m9 w9 hSh hAt hDn hS => ?_)
      have hT : Below _ _ w9 := hS
      have x0 : w9.cell? ⟨w.heap.size, 4, none⟩ = some (.int .i64 (room)) := (HB.out.ca hT).cell 4
      clear hT hS
      go_simp
      try rfl
    · exact StepS.skip nP (by rfl)
  try simp only [Act.put, sA, sZ, sS]
  refine Ps.st (i := 12) (d := some 21) (u := (cond b2_9 (undef) (.bool (decide ((8 : Int) < room))))) rfl rfl (by cases b2_9; (exact StepS.pure nP rfl fun _ => rfl); exact StepS.skip nP rfl) ?_
  try simp only [Act.put, sA, sZ, sS]
  refine Ps.st (i := 13) (d := some 22) (u := (.bool (b2_9 || (decide ((8 : Int) < room))))) rfl rfl ?ywg103_117 ?rwg103_117
  case ywg103_117 =>
    refine StepS.pure nP (by rfl) (fun w9 => ?_)
    cases b2_9 <;> (first | rfl | (go_simp; done) | (go_simp; rfl))
  try simp only [Act.put, sA, sZ, sS]
  obtain ⟨b2_14, hb9⟩ : ∃ b : Bool, b = (((!(sesB ses)) || (decide (room < 1))) || (decide ((8 : Int) < room))) := ⟨_, rfl⟩
  have HEb2_14 := Lib.hid hb9
  clear hb9
  refine Ps.st (i := 14) (d := some 23) (u := (.bool (b2_14))) rfl rfl ?ywg103_118 ?rwg103_118
  case ywg103_118 =>
    refine StepS.pure nP (by rfl) (fun w9 => ?_)
    have e9 : (b2_9 || (decide ((8 : Int) < room))) = b2_14 := by rw [HEb2_14.out, HEb2_9.out]
    rw [← e9]
    clear e9
    first | rfl | (go_simp; done) | (go_simp; rfl)
  try simp only [Act.put, sA, sZ, sS]
  refine Ps.st (i := 15) (d := some 24) (u := (cond b2_14 (undef) (.pointer (some ⟨w.heap.size, 1, none⟩)))) rfl rfl (by cases b2_14; (exact StepS.pure nP rfl fun _ => rfl); exact StepS.skip nP rfl) ?_
  try simp only [Act.put, sA, sZ, sS]
  refine Ps.st (i := 16) (d := some 25) (u := (cond b2_14 (undef) (.int .u64 (next)))) rfl rfl ?ywg103_120 ?rwg103_120
  case ywg103_120 =>
    cases b2_14
    · skip
      refine StepS.read [] (by kernel_rfl) nP (by rfl) (fun L9 m9 w9 hSh hAt hDn hS => ?_)
      have hT : Below _ _ w9 := hS
      have x0 : w9.cell? ⟨w.heap.size, 1, none⟩ = some (.int .u64 (next)) := (HB.out.ca hT).cell 1
      clear hT hS
      go_simp
      try rfl
    · exact StepS.skip nP (by rfl)
  try simp only [Act.put, sA, sZ, sS]
  refine Ps.st (i := 17) (d := some 26) (u := (cond b2_14 (undef) (.bool (decide (next < 1))))) rfl rfl (by cases b2_14; (exact StepS.pure nP rfl fun _ => rfl); exact StepS.skip nP rfl) ?_
  try simp only [Act.put, sA, sZ, sS]
  refine Ps.st (i := 18) (d := some 27) (u := (.bool (b2_14 || (decide (next < 1))))) rfl rfl ?ywg103_122 ?rwg103_122
  case ywg103_122 =>
    refine StepS.pure nP (by rfl) (fun w9 => ?_)
    cases b2_14 <;> (first | rfl | (go_simp; done) | (go_simp; rfl))
  try simp only [Act.put, sA, sZ, sS]
  obtain ⟨b2_19, hb9⟩ : ∃ b : Bool, b = ((((!(sesB ses)) || (decide (room < 1))) || (decide ((8 : Int) < room))) || (decide (next < 1))) := ⟨_, rfl⟩
  have HEb2_19 := Lib.hid hb9
  clear hb9
  refine Ps.st (i := 19) (d := some 28) (u := (.bool (b2_19))) rfl rfl ?ywg103_123 ?rwg103_123
  case ywg103_123 =>
    refine StepS.pure nP (by rfl) (fun w9 => ?_)
    have e9 : (b2_14 || (decide (next < 1))) = b2_19 := by rw [HEb2_19.out, HEb2_14.out]
    rw [← e9]
    clear e9
    first | rfl | (go_simp; done) | (go_simp; rfl)
  try simp only [Act.put, sA, sZ, sS]
  refine Ps.st (i := 20) (d := some 29) (u := (cond b2_19 (undef) (.pointer (some ⟨w.heap.size, 1, none⟩)))) rfl rfl (by cases b2_19; (exact StepS.pure nP rfl fun _ => rfl); exact StepS.skip nP rfl) ?_
  try simp only [Act.put, sA, sZ, sS]
  refine Ps.st (i := 21) (d := some 30) (u := (cond b2_19 (undef) (.int .u64 (next)))) rfl rfl ?ywg103_125 ?rwg103_125
  case ywg103_125 =>
    cases b2_19
    · skip
      refine StepS.read [] (by kernel_rfl) nP (by rfl) (fun L9 m9 w9 hSh hAt hDn hS => ?_)
      have hT : Below _ _ w9 := hS
      have x0 : w9.cell? ⟨w.heap.size, 1, none⟩ = some (.int .u64 (next)) := (HB.out.ca hT).cell 1
      clear hT hS
      go_simp
      try rfl
    · exact StepS.skip nP (by rfl)
  try simp only [Act.put, sA, sZ, sS]
  refine Ps.st (i := 22) (d := some 31) (u := (cond b2_19 (undef) (.bool (decide ((1099511627777 : Int) < next))))) rfl rfl (by cases b2_19; (exact StepS.pure nP rfl fun _ => rfl); exact StepS.skip nP rfl) ?_
  try simp only [Act.put, sA, sZ, sS]
  refine Ps.st (i := 23) (d := some 32) (u := (.bool (b2_19 || (decide ((1099511627777 : Int) < next))))) rfl rfl ?ywg103_127 ?rwg103_127
  case ywg103_127 =>
    refine StepS.pure nP (by rfl) (fun w9 => ?_)
    cases b2_19 <;> (first | rfl | (go_simp; done) | (go_simp; rfl))
  try simp only [Act.put, sA, sZ, sS]
  obtain ⟨b2_24, hb9⟩ : ∃ b : Bool, b = (((((!(sesB ses)) || (decide (room < 1))) || (decide ((8 : Int) < room))) || (decide (next < 1))) || (decide ((1099511627777 : Int) < next))) := ⟨_, rfl⟩
  have HEb2_24 := Lib.hid hb9
  clear hb9
  refine Ps.st (i := 24) (d := some 33) (u := (.bool (b2_24))) rfl rfl ?ywg103_128 ?rwg103_128
  case ywg103_128 =>
    refine StepS.pure nP (by rfl) (fun w9 => ?_)
    have e9 : (b2_19 || (decide ((1099511627777 : Int) < next))) = b2_24 := by rw [HEb2_24.out, HEb2_19.out]
    rw [← e9]
    clear e9
    first | rfl | (go_simp; done) | (go_simp; rfl)
  try simp only [Act.put, sA, sZ, sS]
  refine Ps.st (i := 25) (d := some 34) (u := (cond b2_24 (undef) (.int .i64 ((m : Int))))) rfl rfl (by cases b2_24; (exact StepS.pure nP rfl fun _ => rfl); exact StepS.skip nP rfl) ?_
  try simp only [Act.put, sA, sZ, sS]
  refine Ps.st (i := 26) (d := some 35) (u := (cond b2_24 (undef) (.pointer (some ⟨w.heap.size, 4, none⟩)))) rfl rfl (by cases b2_24; (exact StepS.pure nP rfl fun _ => rfl); exact StepS.skip nP rfl) ?_
  try simp only [Act.put, sA, sZ, sS]
  refine Ps.st (i := 27) (d := some 36) (u := (cond b2_24 (undef) (.int .i64 (room)))) rfl rfl ?ywg103_131 ?rwg103_131
  case ywg103_131 =>
    cases b2_24
    · skip
      refine StepS.read [] (by kernel_rfl) nP (by rfl) (fun L9 m9 w9 hSh hAt hDn hS => ?_)
      have hT : Below _ _ w9 := hS
      have x0 : w9.cell? ⟨w.heap.size, 4, none⟩ = some (.int .i64 (room)) := (HB.out.ca hT).cell 4
      clear hT hS
      go_simp
      try rfl
    · exact StepS.skip nP (by rfl)
  try simp only [Act.put, sA, sZ, sS]
  refine Ps.st (i := 28) (d := some 37) (u := (cond b2_24 (undef) (.bool (decide (room < (m : Int)))))) rfl rfl (by cases b2_24; (exact StepS.pure nP rfl fun _ => rfl); exact StepS.skip nP rfl) ?_
  try simp only [Act.put, sA, sZ, sS]
  refine Ps.st (i := 29) (d := some 38) (u := (.bool (b2_24 || (decide (room < (m : Int)))))) rfl rfl ?ywg103_133 ?rwg103_133
  case ywg103_133 =>
    refine StepS.pure nP (by rfl) (fun w9 => ?_)
    cases b2_24 <;> (first | rfl | (go_simp; done) | (go_simp; rfl))
  try simp only [Act.put, sA, sZ, sS]
  obtain ⟨b2_30, hb9⟩ : ∃ b : Bool, b = ((((((!(sesB ses)) || (decide (room < 1))) || (decide ((8 : Int) < room))) || (decide (next < 1))) || (decide ((1099511627777 : Int) < next))) || (decide (room < (m : Int)))) := ⟨_, rfl⟩
  have HEb2_30 := Lib.hid hb9
  clear hb9
  refine Ps.st (i := 30) (d := some 39) (u := (.bool (b2_30))) rfl rfl ?ywg103_134 ?rwg103_134
  case ywg103_134 =>
    refine StepS.pure nP (by rfl) (fun w9 => ?_)
    have e9 : (b2_24 || (decide (room < (m : Int)))) = b2_30 := by rw [HEb2_30.out, HEb2_24.out]
    rw [← e9]
    clear e9
    first | rfl | (go_simp; done) | (go_simp; rfl)
  try simp only [Act.put, sA, sZ, sS]
  refine Ps.st (i := 31) (d := some 40) (u := (cond b2_30 (undef) (.int .i64 ((m : Int))))) rfl rfl (by cases b2_30; (exact StepS.pure nP rfl fun _ => rfl); exact StepS.skip nP rfl) ?_
  try simp only [Act.put, sA, sZ, sS]
  refine Ps.st (i := 32) (d := some 41) (u := (cond b2_30 (undef) (.int .u64 ((m : Int))))) rfl rfl ?ywg103_136 ?rwg103_136
  case ywg103_136 =>
    cases b2_30
    · skip
      refine StepS.pure nP (by rfl) (fun w9 => ?_)
      go_simp
      exact HWM.out
    · exact StepS.skip nP (by rfl)
  try simp only [Act.put, sA, sZ, sS]
  refine Ps.st (i := 33) (d := some 42) (u := (cond b2_30 (undef) (.pointer (some ⟨w.heap.size, 1, none⟩)))) rfl rfl (by cases b2_30; (exact StepS.pure nP rfl fun _ => rfl); exact StepS.skip nP rfl) ?_
  try simp only [Act.put, sA, sZ, sS]
  refine Ps.st (i := 34) (d := some 43) (u := (cond b2_30 (undef) (.int .u64 (next)))) rfl rfl ?ywg103_138 ?rwg103_138
  case ywg103_138 =>
    cases b2_30
    · skip
      refine StepS.read [] (by kernel_rfl) nP (by rfl) (fun L9 m9 w9 hSh hAt hDn hS => ?_)
      have hT : Below _ _ w9 := hS
      have x0 : w9.cell? ⟨w.heap.size, 1, none⟩ = some (.int .u64 (next)) := (HB.out.ca hT).cell 1
      clear hT hS
      go_simp
      try rfl
    · exact StepS.skip nP (by rfl)
  try simp only [Act.put, sA, sZ, sS]
  refine Ps.st (i := 35) (d := some 44) (u := (cond b2_30 (undef) (.bool (decide (next ≤ (m : Int)))))) rfl rfl (by cases b2_30; (exact StepS.pure nP rfl fun _ => rfl); exact StepS.skip nP rfl) ?_
  try simp only [Act.put, sA, sZ, sS]
  obtain ⟨f1, hb9⟩ : ∃ b : Bool, b = (((((((!(sesB ses)) || (decide (room < 1))) || (decide ((8 : Int) < room))) || (decide (next < 1))) || (decide ((1099511627777 : Int) < next))) || (decide (room < (m : Int)))) || (decide (next ≤ (m : Int)))) := ⟨_, rfl⟩
  have HEf1 := Lib.hid hb9
  clear hb9
  refine Ps.st (i := 36) (d := some 45) (u := (.bool (f1))) rfl rfl ?ywg103_140 ?rwg103_140
  case ywg103_140 =>
    refine StepS.pure nP (by rfl) (fun w9 => ?_)
    have e9 : (b2_30 || (decide (next ≤ (m : Int)))) = f1 := by rw [HEf1.out, HEb2_30.out]
    rw [← e9]
    clear e9
    cases b2_30 <;> (first | rfl | (go_simp; done) | (go_simp; rfl))
  try simp only [Act.put, sA, sZ, sS]
  refine Ps.done (by kernel_rfl) (fun wg103 hS => ?_) _
  try generalize (cond b2_19 (undef) (.bool (decide ((1099511627777 : Int) < next))) : Value) = zz141
  try generalize (cond b2_14 (undef) (.pointer (some ⟨w.heap.size, 1, none⟩)) : Value) = zz142
  try generalize (cond b2_24 (undef) (.pointer (some ⟨w.heap.size, 4, none⟩)) : Value) = zz143
  try generalize (cond b2_19 (undef) (.pointer (some ⟨w.heap.size, 1, none⟩)) : Value) = zz144
  try generalize (cond b2_30 (undef) (.pointer (some ⟨w.heap.size, 1, none⟩)) : Value) = zz145
  try generalize (cond b2_4 (undef) (.pointer (some ⟨w.heap.size, 4, none⟩)) : Value) = zz146
  try generalize (cond b2_9 (undef) (.pointer (some ⟨w.heap.size, 4, none⟩)) : Value) = zz147
  try generalize (.bool (b2_19 || (decide ((1099511627777 : Int) < next))) : Value) = zz148
  try generalize (cond b2_24 (undef) (.bool (decide (room < (m : Int)))) : Value) = zz149
  try generalize (cond b2_30 (undef) (.bool (decide (next ≤ (m : Int)))) : Value) = zz150
  try generalize (cond b2_9 (undef) (.bool (decide ((8 : Int) < room))) : Value) = zz151
  try generalize (cond b2_14 (undef) (.bool (decide (next < 1))) : Value) = zz152
  try generalize (cond b2_4 (undef) (.bool (decide (room < 1))) : Value) = zz153
  try generalize (.bool (b2_24 || (decide (room < (m : Int)))) : Value) = zz154
  try generalize (.bool (b2_9 || (decide ((8 : Int) < room))) : Value) = zz155
  try generalize (cond b2_24 (undef) (.int .i64 ((m : Int))) : Value) = zz156
  try generalize (cond b2_30 (undef) (.int .i64 ((m : Int))) : Value) = zz157
  try generalize (cond b2_30 (undef) (.int .u64 ((m : Int))) : Value) = zz158
  try generalize (cond b2_30 (undef) (.int .u64 (next)) : Value) = zz159
  try generalize (cond b2_14 (undef) (.int .u64 (next)) : Value) = zz160
  try generalize (cond b2_19 (undef) (.int .u64 (next)) : Value) = zz161
  try generalize (cond b2_24 (undef) (.int .i64 (room)) : Value) = zz162
  try generalize (cond b2_4 (undef) (.int .i64 (room)) : Value) = zz163
  try generalize (cond b2_9 (undef) (.int .i64 (room)) : Value) = zz164
  try generalize (.bool (b2_14 || (decide (next < 1))) : Value) = zz165
  try generalize (.bool (b2_4 || (decide (room < 1))) : Value) = zz166
  have HW167 := Lib.hid (show Below w1.heap.size w1 wg103 from hS)
  clear hS
  obtain ⟨w268, rfl⟩ : ∃ x, x = wg103 := ⟨_, rfl⟩
  cases f1
  · have HBD := Lib.hid (show (1 ≤ next ∧ next ≤ 1099511627777 ∧ (m : Int) ≤ room ∧ 1 ≤ room ∧ room ≤ 8 ∧ (m : Int) < next) ∧ recA ⟨ses, next, ahead, buf, room, over⟩ = true from by have h := HEf1.out; simp at h; unfold recA; dsimp only; rw [HLB.out]; simp; grind)
    have HWN := Lib.hid (show IntKind.u64.wrap (next - (m : Int)) = next - (m : Int) from by have h := HBD.out.1; exact u64_in (by omega) (by omega))
    go_upto_region 4 with fail
    refine wp_region_ps0 .text (S := fun _ _ w' => Below w1.heap.size w1 w') (by kernel_rfl) ?spswg169 ?ppswg169
    case spswg169 =>
      exact HW167.out
    refine Ps.st (i := 0) (d := some 46) (u := (.pointer (some ⟨w.heap.size, 3, none⟩))) rfl rfl (by exact StepS.pure nP rfl fun _ => rfl) ?_
    try simp only [Act.put, sA, sZ, sS]
    refine Ps.st (i := 1) (d := some 47) (u := (.slice B m d)) rfl rfl ?ywg169_171 ?rwg169_171
    case ywg169_171 =>
      refine StepS.read [] (by kernel_rfl) nP (by rfl) (fun L9 m9 w9 hSh hAt hDn hS => ?_)
      have hT : Below _ _ w9 := hS
      have x0 : w9.cell? ⟨w.heap.size, 3, none⟩ = some (.slice B m d) := (HB.out.ca hT).cell 3
      clear hT hS
      go_simp
      try rfl
    try simp only [Act.put, sA, sZ, sS]
    refine Ps.st (i := 2) (d := some 48) (u := (.pointer (some ⟨w.heap.size, 1, none⟩))) rfl rfl (by exact StepS.pure nP rfl fun _ => rfl) ?_
    try simp only [Act.put, sA, sZ, sS]
    refine Ps.st (i := 3) (d := some 49) (u := (.int .u64 (next))) rfl rfl ?ywg169_173 ?rwg169_173
    case ywg169_173 =>
      refine StepS.read [] (by kernel_rfl) nP (by rfl) (fun L9 m9 w9 hSh hAt hDn hS => ?_)
      have hT : Below _ _ w9 := hS
      have x0 : w9.cell? ⟨w.heap.size, 1, none⟩ = some (.int .u64 (next)) := (HB.out.ca hT).cell 1
      clear hT hS
      go_simp
      try rfl
    try simp only [Act.put, sA, sZ, sS]
    refine Ps.st (i := 4) (d := some 50) (u := (.int .i64 ((m : Int)))) rfl rfl (by exact StepS.pure nP rfl fun _ => rfl) ?_
    try simp only [Act.put, sA, sZ, sS]
    refine Ps.st (i := 5) (d := some 51) (u := (.int .u64 ((m : Int)))) rfl rfl ?ywg169_175 ?rwg169_175
    case ywg169_175 =>
      refine StepS.pure nP (by rfl) (fun w9 => ?_)
      go_simp
      exact HWM.out
    try simp only [Act.put, sA, sZ, sS]
    refine Ps.st (i := 6) (d := some 52) (u := (.int .u64 (next - (m : Int)))) rfl rfl ?ywg169_176 ?rwg169_176
    case ywg169_176 =>
      refine StepS.pure nP (by rfl) (fun w9 => ?_)
      rw [← HWN.out]
      first | rfl | (go_simp; done) | (go_simp; rfl)
    try simp only [Act.put, sA, sZ, sS]
    refine Ps.st (i := 7) (d := some 53) (u := (.bool (inRowB buf (next - (m : Int))))) rfl rfl ?ywg169_177 ?rwg169_177
    case ywg169_177 =>
      refine StepS.call ?fwg169_177 ?awg169_177 [] (by kernel_rfl) (by rfl) (fun w9 => ?hwg169_177) (fun L9 m9 w9 hSh hAt hDn hS => ?cwg169_177)
      case hwg169_177 => go_simp; refine ⟨?_, ?_⟩ <;> rfl
      case cwg169_177 =>
        have hT : Below _ _ w9 := hS
        have h9 := HBD.out
        refine (rinRow_any F2 B m d buf (next - (m : Int)) w9 (Lay.rd_below HRB.out hT) (by omega) (by omega) (by omega)).mono ?_
        rintro e w8 ⟨rfl, q8⟩
        exact ⟨rfl, bl_ca hT q8⟩
    try simp only [Act.put, sA, sZ, sS]
    refine Ps.st (i := 8) (d := some 54) (u := (.bool (!(inRowB buf (next - (m : Int)))))) rfl rfl (by exact StepS.pure nP rfl fun _ => rfl) ?_
    try simp only [Act.put, sA, sZ, sS]
    obtain ⟨b4_9, hb9⟩ : ∃ b : Bool, b = (!(inRowB buf (next - (m : Int)))) := ⟨_, rfl⟩
    have HEb4_9 := Lib.hid hb9
    clear hb9
    refine Ps.st (i := 9) (d := some 55) (u := (.bool (b4_9))) rfl rfl ?ywg169_179 ?rwg169_179
    case ywg169_179 =>
      refine StepS.pure nP (by rfl) (fun w9 => ?_)
      have e9 : (!(inRowB buf (next - (m : Int)))) = b4_9 := by rw [HEb4_9.out]
      rw [← e9]
      clear e9
      first | rfl | (go_simp; done) | (go_simp; rfl)
    try simp only [Act.put, sA, sZ, sS]
    refine Ps.st (i := 10) (d := some 56) (u := (cond b4_9 (undef) (.pointer (some ⟨w.heap.size, 2, none⟩)))) rfl rfl (by cases b4_9; (exact StepS.pure nP rfl fun _ => rfl); exact StepS.skip nP rfl) ?_
    try simp only [Act.put, sA, sZ, sS]
    refine Ps.st (i := 11) (d := some 57) (u := (cond b4_9 (undef) (.slice A n c))) rfl rfl ?ywg169_181 ?rwg169_181
    case ywg169_181 =>
      cases b4_9
      · skip
        refine StepS.read [] (by kernel_rfl) nP (by rfl) (fun L9 m9 w9 hSh hAt hDn hS => ?_)
        have hT : Below _ _ w9 := hS
        have x0 : w9.cell? ⟨w.heap.size, 2, none⟩ = some (.slice A n c) := (HB.out.ca hT).cell 2
        clear hT hS
        go_simp
        try rfl
      · exact StepS.skip nP (by rfl)
    try simp only [Act.put, sA, sZ, sS]
    refine Ps.st (i := 12) (d := some 58) (u := (cond b4_9 (undef) (.int .i64 ((n : Int))))) rfl rfl (by cases b4_9; (exact StepS.pure nP rfl fun _ => by first | rfl | (go_simp; done) | (go_simp; rfl)); exact StepS.skip nP rfl) ?_
    try simp only [Act.put, sA, sZ, sS]
    refine Ps.st (i := 13) (d := some 59) (u := (cond b4_9 (undef) (.bool (decide ((8 : Int) < (n : Int)))))) rfl rfl (by cases b4_9; (exact StepS.pure nP rfl fun _ => rfl); exact StepS.skip nP rfl) ?_
    try simp only [Act.put, sA, sZ, sS]
    refine Ps.st (i := 14) (d := some 60) (u := (.bool (b4_9 || (decide ((8 : Int) < (n : Int)))))) rfl rfl ?ywg169_184 ?rwg169_184
    case ywg169_184 =>
      refine StepS.pure nP (by rfl) (fun w9 => ?_)
      cases b4_9 <;> (first | rfl | (go_simp; done) | (go_simp; rfl))
    try simp only [Act.put, sA, sZ, sS]
    obtain ⟨b4_15, hb9⟩ : ∃ b : Bool, b = ((!(inRowB buf (next - (m : Int)))) || (decide ((8 : Int) < (n : Int)))) := ⟨_, rfl⟩
    have HEb4_15 := Lib.hid hb9
    clear hb9
    refine Ps.st (i := 15) (d := some 61) (u := (.bool (b4_15))) rfl rfl ?ywg169_185 ?rwg169_185
    case ywg169_185 =>
      refine StepS.pure nP (by rfl) (fun w9 => ?_)
      have e9 : (b4_9 || (decide ((8 : Int) < (n : Int)))) = b4_15 := by rw [HEb4_15.out, HEb4_9.out]
      rw [← e9]
      clear e9
      first | rfl | (go_simp; done) | (go_simp; rfl)
    try simp only [Act.put, sA, sZ, sS]
    refine Ps.st (i := 16) (d := some 62) (u := (cond b4_15 (undef) (.pointer (some ⟨w.heap.size, 3, none⟩)))) rfl rfl (by cases b4_15; (exact StepS.pure nP rfl fun _ => rfl); exact StepS.skip nP rfl) ?_
    try simp only [Act.put, sA, sZ, sS]
    refine Ps.st (i := 17) (d := some 63) (u := (cond b4_15 (undef) (.slice B m d))) rfl rfl ?ywg169_187 ?rwg169_187
    case ywg169_187 =>
      cases b4_15
      · skip
        refine StepS.read [] (by kernel_rfl) nP (by rfl) (fun L9 m9 w9 hSh hAt hDn hS => ?_)
        have hT : Below _ _ w9 := hS
        have x0 : w9.cell? ⟨w.heap.size, 3, none⟩ = some (.slice B m d) := (HB.out.ca hT).cell 3
        clear hT hS
        go_simp
        try rfl
      · exact StepS.skip nP (by rfl)
    try simp only [Act.put, sA, sZ, sS]
    refine Ps.st (i := 18) (d := some 64) (u := (cond b4_15 (undef) (.bool (endsB buf)))) rfl rfl ?ywg169_188 ?rwg169_188
    case ywg169_188 =>
      cases b4_15
      · skip
        refine StepS.call ?fwg169_188 ?awg169_188 [] (by kernel_rfl) (by rfl) (fun w9 => ?hwg169_188) (fun L9 m9 w9 hSh hAt hDn hS => ?cwg169_188)
        case hwg169_188 => go_simp; refine ⟨?_, ?_⟩ <;> rfl
        case cwg169_188 =>
          have hT : Below _ _ w9 := hS
          refine (rends_any F2 B m d buf w9 (Lay.rd_below HRB.out hT) hm).mono ?_
          rintro e w8 ⟨rfl, rfl⟩
          exact ⟨rfl, hT⟩
      · exact StepS.skip nP (by rfl)
    try simp only [Act.put, sA, sZ, sS]
    obtain ⟨b4_19, hb9⟩ : ∃ b : Bool, b = (endsB buf) := ⟨_, rfl⟩
    have HEb4_19 := Lib.hid hb9
    clear hb9
    refine Ps.st (i := 19) (d := some 65) (u := (cond b4_15 (undef) (.bool (b4_19)))) rfl rfl ?ywg169_189 ?rwg169_189
    case ywg169_189 =>
      cases b4_15
      · skip
        refine StepS.pure nP (by rfl) (fun w9 => ?_)
        have e9 : (endsB buf) = b4_19 := by rw [HEb4_19.out]
        rw [← e9]
        clear e9
        first | rfl | (go_simp; done) | (go_simp; rfl)
      · exact StepS.skip nP (by rfl)
    try simp only [Act.put, sA, sZ, sS]
    refine Ps.st (i := 20) (d := some 66) (u := (cond b4_15 (undef) (cond b4_19 (.pointer (some ⟨w.heap.size, 2, none⟩)) (undef)))) rfl rfl (by cases b4_15; (cases b4_19; exact StepS.skip nP rfl; exact StepS.pure nP rfl fun _ => rfl); exact StepS.skip nP rfl) ?_
    try simp only [Act.put, sA, sZ, sS]
    refine Ps.st (i := 21) (d := some 67) (u := (cond b4_15 (undef) (cond b4_19 (.slice A n c) (undef)))) rfl rfl ?ywg169_191 ?rwg169_191
    case ywg169_191 =>
      cases b4_15
      · skip
        cases b4_19
        · exact StepS.skip nP (by rfl)
        · skip
          refine StepS.read [] (by kernel_rfl) nP (by rfl) (fun L9 m9 w9 hSh hAt hDn hS => ?_)
          have hT : Below _ _ w9 := hS
          have x0 : w9.cell? ⟨w.heap.size, 2, none⟩ = some (.slice A n c) := (HB.out.ca hT).cell 2
          clear hT hS
          go_simp
          try rfl
      · exact StepS.skip nP (by rfl)
    try simp only [Act.put, sA, sZ, sS]
    refine Ps.st (i := 22) (d := some 68) (u := (cond b4_15 (undef) (cond b4_19 (.int .i64 ((n : Int))) (undef)))) rfl rfl (by cases b4_15; (cases b4_19; exact StepS.skip nP rfl; exact StepS.pure nP rfl fun _ => by first | rfl | (go_simp; done) | (go_simp; rfl)); exact StepS.skip nP rfl) ?_
    try simp only [Act.put, sA, sZ, sS]
    refine Ps.st (i := 23) (d := some 69) (u := (cond b4_15 (undef) (cond b4_19 (.bool (decide ((0 : Int) < (n : Int)))) (undef)))) rfl rfl (by cases b4_15; (cases b4_19; exact StepS.skip nP rfl; exact StepS.pure nP rfl fun _ => rfl); exact StepS.skip nP rfl) ?_
    try simp only [Act.put, sA, sZ, sS]
    refine Ps.st (i := 24) (d := some 70) (u := (cond b4_15 (undef) (.bool (b4_19 && (decide ((0 : Int) < (n : Int))))))) rfl rfl ?ywg169_194 ?rwg169_194
    case ywg169_194 =>
      cases b4_15
      · skip
        refine StepS.pure nP (by rfl) (fun w9 => ?_)
        cases b4_19 <;> (first | rfl | (go_simp; done) | (go_simp; rfl))
      · exact StepS.skip nP (by rfl)
    try simp only [Act.put, sA, sZ, sS]
    obtain ⟨f4, hb9⟩ : ∃ b : Bool, b = (((!(inRowB buf (next - (m : Int)))) || (decide ((8 : Int) < (n : Int)))) || ((endsB buf) && (decide ((0 : Int) < (n : Int))))) := ⟨_, rfl⟩
    have HEf4 := Lib.hid hb9
    clear hb9
    refine Ps.st (i := 25) (d := some 71) (u := (.bool (f4))) rfl rfl ?ywg169_195 ?rwg169_195
    case ywg169_195 =>
      refine StepS.pure nP (by rfl) (fun w9 => ?_)
      have e9 : (b4_15 || (b4_19 && (decide ((0 : Int) < (n : Int))))) = f4 := by rw [HEf4.out, HEb4_15.out, HEb4_19.out]
      rw [← e9]
      clear e9
      cases b4_15 <;> (first | rfl | (go_simp; done) | (go_simp; rfl))
    try simp only [Act.put, sA, sZ, sS]
    refine Ps.done (by kernel_rfl) (fun wg169 hS => ?_) _
    try generalize (cond b4_15 (undef) (cond b4_19 (.bool (decide ((0 : Int) < (n : Int)))) (undef)) : Value) = zz196
    try generalize (cond b4_15 (undef) (cond b4_19 (.pointer (some ⟨w.heap.size, 2, none⟩)) (undef)) : Value) = zz197
    try generalize (cond b4_15 (undef) (.bool (b4_19 && (decide ((0 : Int) < (n : Int))))) : Value) = zz198
    try generalize (cond b4_15 (undef) (cond b4_19 (.int .i64 ((n : Int))) (undef)) : Value) = zz199
    try generalize (cond b4_15 (undef) (.pointer (some ⟨w.heap.size, 3, none⟩)) : Value) = zz200
    try generalize (cond b4_9 (undef) (.bool (decide ((8 : Int) < (n : Int)))) : Value) = zz201
    try generalize (cond b4_9 (undef) (.pointer (some ⟨w.heap.size, 2, none⟩)) : Value) = zz202
    try generalize (cond b4_15 (undef) (cond b4_19 (.slice A n c) (undef)) : Value) = zz203
    try generalize (.bool (b4_9 || (decide ((8 : Int) < (n : Int)))) : Value) = zz204
    try generalize (cond b4_9 (undef) (.int .i64 ((n : Int))) : Value) = zz205
    try generalize (cond b4_15 (undef) (.bool (endsB buf)) : Value) = zz206
    try generalize (cond b4_15 (undef) (.bool (b4_19)) : Value) = zz207
    try generalize (cond b4_15 (undef) (.slice B m d) : Value) = zz208
    try generalize (cond b4_9 (undef) (.slice A n c) : Value) = zz209
    have HW210 := Lib.hid (show Below w1.heap.size w1 wg169 from hS)
    clear hS
    obtain ⟨w311, rfl⟩ : ∃ x, x = wg169 := ⟨_, rfl⟩
    cases f4
    · have HBM := Lib.hid (show recM ⟨ses, next, ahead, buf, room, over⟩ = true ∧ n ≤ 8 from by have h := HEf4.out; simp at h; unfold recM; dsimp only; rw [HLB.out]; have hl := HLA.out; simp; grind)
      obtain ⟨lim, hlim⟩ : ∃ lim, lim = limR ⟨ses, next, ahead, buf, room, over⟩ := ⟨_, rfl⟩
      have HLIM := Lib.hid hlim
      clear hlim
      have HRL := Lib.hid (show rr = (recT ⟨ses, next, ahead, buf, room, over⟩ && aheadB lim next ahead) from by rw [HRR.out, HLIM.out]; unfold recB; rw [HBD.out.2, HBM.out.1]; rfl)
      have hn8 : n ≤ 8 := HBM.out.2
      have x2 := (HB.out.ca HW210.out).cell 2
      go_wp2_with fail
      clear x2
      go_loopg [75] n (fun g a wr => ∃ i : Nat, i + g = n ∧ a = .int .i64 i ∧ aheadB lim next ahead = aheadB lim (pvA next ahead i) (ahead.drop i) ∧ next ≤ pvA next ahead i ∧ Below w1.heap.size w1 wr)
      case atStart => exact ⟨0, by omega, rfl, rfl, Int.le_refl _, HW210.out⟩
      case round =>
        obtain ⟨i, hig, rfl, hri, hpv, bb⟩ := hrel
        have HI := Lib.hid hri
        have HPV := Lib.hid hpv
        have HBW := Lib.hid bb
        clear hri hpv
        by_cases hlt : i < n
        · have hi1 : (i : Int) < (n : Int) := by omega
          obtain ⟨p, ⟨seq, rows, fin, cnt⟩, Bh, kh, dh, rfl, hx, s1⟩ := LH4_at (Lay.rd_below HRA.out bb) hlt
          have e0 := s1.c0
          have e1 := s1.c1
          have e2 := s1.c2
          have e3 := s1.c3
          dsimp only at e0 e1 e2 e3
          have q5 := bl_al (Below.refl wr.heap.size wr) (.cells #[.int .u64 seq, .slice Bh kh dh, .bool fin, .int .u64 cnt] 81)
          have HQ5 := Lib.hid q5
          have hrd := Lay.rd_below s1.rd q5
          have hkk := Nat.le_trans s1.nc s1.cm
          have HF1 := Lib.hid (Blk.new wr 81 #[.int .u64 seq, .slice Bh kh dh, .bool fin, .int .u64 cnt])
          have HB5 := Lib.hid (HB.out.ca (bl_ca bb q5))
          have HBW5 := Lib.hid (bl_ca bb q5)
          have HCB := Lib.hid (fun W (q : Below (wr.alloc (.cells #[.int .u64 seq, .slice Bh kh dh, .bool fin, .int .u64 cnt] 81)).heap.size (wr.alloc (.cells #[.int .u64 seq, .slice Bh kh dh, .bool fin, .int .u64 cnt] 81)) W) => rbatch_any Fr ⟨rows, fin, cnt⟩ Bh kh dh seq W (Lay.rd_below hrd q) hkk)
          have HCL := Lib.hid (fun W => rlimit_any ⟨ses, next, ahead, buf, room, over⟩ (some p) n c B m d W HLB.out HBD.out.1.1 (by have h := HBD.out.1; dsimp only; omega) HBD.out.1.2.2.1 HBD.out.1.2.2.2.2.1)
          rw [← HLIM.out] at HCL
          have HS := Lib.hid (aheadB_at (a := pvA next ahead i) (lim := lim) hx)
          have HX := Lib.hid hx
          have HWL := Lib.hid (show IntKind.i64.wrap ((n : Int) - 1) = (n : Int) - 1 from by simp [IntKind.wrap, IntKind.signed, IntKind.bits]; omega)
          by_cases hz : i = 0
          · skip
            have HPE := Lib.hid (show pvA next ahead i = next from by rw [hz]; rfl)
            have HZ := Lib.hid hz
            clear q5 hrd hx s1 bb hz
            go_upto_region 9 with fail
            clear e0 e1 e2 e3
            generalize wr.alloc (.cells #[.int .u64 seq, .slice Bh kh dh, .bool fin, .int .u64 cnt] 81) = w5 at *
            refine wp_region_ps (S := fun _ _ w' => Below w5.heap.size w5 w') (by kernel_rfl) ?spswg212 ?ppswg212
            case spswg212 =>
              exact (Below.refl w5.heap.size w5).drew
            refine Ps.st (i := 0) (d := some 80) (u := (.pointer (some ⟨wr.heap.size, 0, none⟩))) rfl rfl (by exact StepS.pure nP rfl fun _ => rfl) ?_
            try simp only [Act.put, sA, sZ, sS]
            refine Ps.st (i := 1) (d := some 81) (u := (.int .u64 (seq))) rfl rfl ?ywg212_214 ?rwg212_214
            case ywg212_214 =>
              refine StepS.read [] (by kernel_rfl) nP (by rfl) (fun L9 m9 w9 hSh hAt hDn hS => ?_)
              have hT : Below _ _ w9 := hS
              have x0 : w9.cell? ⟨wr.heap.size, 0, none⟩ = some (.int .u64 (seq)) := (HF1.out.ca hT).cell 0
              clear hT hS
              go_simp
              try rfl
            try simp only [Act.put, sA, sZ, sS]
            refine Ps.st (i := 2) (d := some 82) (u := (.pointer (some ⟨w.heap.size, 1, none⟩))) rfl rfl (by exact StepS.pure nP rfl fun _ => rfl) ?_
            try simp only [Act.put, sA, sZ, sS]
            refine Ps.st (i := 3) (d := some 83) (u := (.int .u64 (next))) rfl rfl ?ywg212_216 ?rwg212_216
            case ywg212_216 =>
              refine StepS.read [] (by kernel_rfl) nP (by rfl) (fun L9 m9 w9 hSh hAt hDn hS => ?_)
              have hT : Below _ _ w9 := hS
              have x0 : w9.cell? ⟨w.heap.size, 1, none⟩ = some (.int .u64 (next)) := (HB5.out.ca hT).cell 1
              clear hT hS
              go_simp
              try rfl
            try simp only [Act.put, sA, sZ, sS]
            refine Ps.st (i := 4) (d := some 84) (u := (.bool (decide (seq ≤ next)))) rfl rfl (by exact StepS.pure nP rfl fun _ => rfl) ?_
            try simp only [Act.put, sA, sZ, sS]
            obtain ⟨b9_5, hb9⟩ : ∃ b : Bool, b = (decide (seq ≤ next)) := ⟨_, rfl⟩
            have HEb9_5 := Lib.hid hb9
            clear hb9
            refine Ps.st (i := 5) (d := some 85) (u := (.bool (b9_5))) rfl rfl ?ywg212_218 ?rwg212_218
            case ywg212_218 =>
              refine StepS.pure nP (by rfl) (fun w9 => ?_)
              have e9 : (decide (seq ≤ next)) = b9_5 := by rw [HEb9_5.out]
              rw [← e9]
              clear e9
              first | rfl | (go_simp; done) | (go_simp; rfl)
            try simp only [Act.put, sA, sZ, sS]
            refine Ps.st (i := 6) (d := some 86) (u := (cond b9_5 (undef) (.pointer (some ⟨wr.heap.size, 0, none⟩)))) rfl rfl (by cases b9_5; (exact StepS.pure nP rfl fun _ => rfl); exact StepS.skip nP rfl) ?_
            try simp only [Act.put, sA, sZ, sS]
            refine Ps.st (i := 7) (d := some 87) (u := (cond b9_5 (undef) (.int .u64 (seq)))) rfl rfl ?ywg212_220 ?rwg212_220
            case ywg212_220 =>
              cases b9_5
              · skip
                refine StepS.read [] (by kernel_rfl) nP (by rfl) (fun L9 m9 w9 hSh hAt hDn hS => ?_)
                have hT : Below _ _ w9 := hS
                have x0 : w9.cell? ⟨wr.heap.size, 0, none⟩ = some (.int .u64 (seq)) := (HF1.out.ca hT).cell 0
                clear hT hS
                go_simp
                try rfl
              · exact StepS.skip nP (by rfl)
            try simp only [Act.put, sA, sZ, sS]
            refine Ps.st (i := 8) (d := some 88) (u := (cond b9_5 (undef) (.agg #[.int .u32 (ses), .int .u64 (next), .slice (some p) n c, .slice B m d, .int .i64 (room), .bool (over)]))) rfl rfl ?ywg212_221 ?rwg212_221
            case ywg212_221 =>
              cases b9_5
              · skip
                refine StepS.read [] (by kernel_rfl) nP (by rfl) (fun L9 m9 w9 hSh hAt hDn hS => ?_)
                have hT : Below _ _ w9 := hS
                have x0 : w9.cell? ⟨w.heap.size, 0, none⟩ = some (.int .u32 (ses)) := (HB5.out.ca hT).cell 0
                have x1 : w9.cell? ⟨w.heap.size, 1, none⟩ = some (.int .u64 (next)) := (HB5.out.ca hT).cell 1
                have x2 : w9.cell? ⟨w.heap.size, 2, none⟩ = some (.slice (some p) n c) := (HB5.out.ca hT).cell 2
                have x3 : w9.cell? ⟨w.heap.size, 3, none⟩ = some (.slice B m d) := (HB5.out.ca hT).cell 3
                have x4 : w9.cell? ⟨w.heap.size, 4, none⟩ = some (.int .i64 (room)) := (HB5.out.ca hT).cell 4
                have x5 : w9.cell? ⟨w.heap.size, 5, none⟩ = some (.bool (over)) := (HB5.out.ca hT).cell 5
                clear hT hS
                go_simp
                try rfl
              · exact StepS.skip nP (by rfl)
            try simp only [Act.put, sA, sZ, sS]
            refine Ps.st (i := 9) (d := some 89) (u := (cond b9_5 (undef) (.int .u64 (lim)))) rfl rfl ?ywg212_222 ?rwg212_222
            case ywg212_222 =>
              cases b9_5
              · skip
                refine StepS.call ?fwg212_222 ?awg212_222 [] (by kernel_rfl) (by rfl) (fun w9 => ?hwg212_222) (fun L9 m9 w9 hSh hAt hDn hS => ?cwg212_222)
                case hwg212_222 => go_simp; refine ⟨?_, ?_⟩ <;> rfl
                case cwg212_222 =>
                  have hT : Below _ _ w9 := hS
                  refine (HCL.out w9).mono ?_
                  rintro e w8 ⟨rfl, q8⟩
                  exact ⟨rfl, bl_ca hT q8⟩
              · exact StepS.skip nP (by rfl)
            try simp only [Act.put, sA, sZ, sS]
            refine Ps.st (i := 10) (d := some 90) (u := (cond b9_5 (undef) (.bool (decide (lim < seq))))) rfl rfl (by cases b9_5; (exact StepS.pure nP rfl fun _ => rfl); exact StepS.skip nP rfl) ?_
            try simp only [Act.put, sA, sZ, sS]
            refine Ps.st (i := 11) (d := some 91) (u := (.bool (b9_5 || (decide (lim < seq))))) rfl rfl ?ywg212_224 ?rwg212_224
            case ywg212_224 =>
              refine StepS.pure nP (by rfl) (fun w9 => ?_)
              cases b9_5 <;> (first | rfl | (go_simp; done) | (go_simp; rfl))
            try simp only [Act.put, sA, sZ, sS]
            obtain ⟨b9_12, hb9⟩ : ∃ b : Bool, b = ((decide (seq ≤ next)) || (decide (lim < seq))) := ⟨_, rfl⟩
            have HEb9_12 := Lib.hid hb9
            clear hb9
            refine Ps.st (i := 12) (d := some 92) (u := (.bool (b9_12))) rfl rfl ?ywg212_225 ?rwg212_225
            case ywg212_225 =>
              refine StepS.pure nP (by rfl) (fun w9 => ?_)
              have e9 : (b9_5 || (decide (lim < seq))) = b9_12 := by rw [HEb9_12.out, HEb9_5.out]
              rw [← e9]
              clear e9
              first | rfl | (go_simp; done) | (go_simp; rfl)
            try simp only [Act.put, sA, sZ, sS]
            refine Ps.st (i := 13) (d := some 93) (u := (cond b9_12 (undef) (.int .i64 ((i : Int))))) rfl rfl (by cases b9_12; (exact StepS.pure nP rfl fun _ => rfl); exact StepS.skip nP rfl) ?_
            try simp only [Act.put, sA, sZ, sS]
            refine Ps.st (i := 14) (d := some 94) (u := (cond b9_12 (undef) (.bool (false)))) rfl rfl ?ywg212_227 ?rwg212_227
            case ywg212_227 =>
              cases b9_12
              · skip
                refine StepS.pure nP (by rfl) (fun w9 => ?_)
                go_simp
                exact HZ.out
              · exact StepS.skip nP (by rfl)
            try simp only [Act.put, sA, sZ, sS]
            refine Ps.st (i := 15) (d := some 95) (u := (cond b9_12 (undef) (.bool (false)))) rfl rfl (by cases b9_12; (exact StepS.pure nP rfl fun _ => rfl); exact StepS.skip nP rfl) ?_
            try simp only [Act.put, sA, sZ, sS]
            refine Ps.st (i := 16) (d := some 96) (u := undef) rfl rfl (by cases b9_12 <;> exact StepS.skip nP rfl) ?_
            try simp only [Act.put, sA, sZ, sS]
            refine Ps.st (i := 17) (d := some 97) (u := undef) rfl rfl (by cases b9_12 <;> exact StepS.skip nP rfl) ?_
            try simp only [Act.put, sA, sZ, sS]
            refine Ps.st (i := 18) (d := some 98) (u := undef) rfl rfl (by cases b9_12 <;> exact StepS.skip nP rfl) ?_
            try simp only [Act.put, sA, sZ, sS]
            refine Ps.st (i := 19) (d := some 99) (u := undef) rfl rfl (by cases b9_12 <;> exact StepS.skip nP rfl) ?_
            try simp only [Act.put, sA, sZ, sS]
            refine Ps.st (i := 20) (d := some 100) (u := undef) rfl rfl (by cases b9_12 <;> exact StepS.skip nP rfl) ?_
            try simp only [Act.put, sA, sZ, sS]
            refine Ps.st (i := 21) (d := some 101) (u := undef) rfl rfl (by cases b9_12 <;> exact StepS.skip nP rfl) ?_
            try simp only [Act.put, sA, sZ, sS]
            refine Ps.st (i := 22) (d := some 102) (u := undef) rfl rfl (by cases b9_12 <;> exact StepS.skip nP rfl) ?_
            try simp only [Act.put, sA, sZ, sS]
            refine Ps.st (i := 23) (d := some 103) (u := undef) rfl rfl (by cases b9_12 <;> exact StepS.skip nP rfl) ?_
            try simp only [Act.put, sA, sZ, sS]
            refine Ps.st (i := 24) (d := some 104) (u := undef) rfl rfl (by cases b9_12 <;> exact StepS.skip nP rfl) ?_
            try simp only [Act.put, sA, sZ, sS]
            refine Ps.st (i := 25) (d := some 105) (u := undef) rfl rfl (by cases b9_12 <;> exact StepS.skip nP rfl) ?_
            try simp only [Act.put, sA, sZ, sS]
            refine Ps.st (i := 26) (d := some 106) (u := (cond b9_12 (undef) (.bool (false)))) rfl rfl (by cases b9_12; (exact StepS.pure nP rfl fun _ => rfl); exact StepS.skip nP rfl) ?_
            try simp only [Act.put, sA, sZ, sS]
            refine Ps.st (i := 27) (d := some 107) (u := (.bool (b9_12 || false))) rfl rfl ?ywg212_240 ?rwg212_240
            case ywg212_240 =>
              refine StepS.pure nP (by rfl) (fun w9 => ?_)
              cases b9_12 <;> (first | rfl | (go_simp; done) | (go_simp; rfl))
            try simp only [Act.put, sA, sZ, sS]
            obtain ⟨b9_28, hb9⟩ : ∃ b : Bool, b = (((decide (seq ≤ next)) || (decide (lim < seq))) || false) := ⟨_, rfl⟩
            have HEb9_28 := Lib.hid hb9
            clear hb9
            refine Ps.st (i := 28) (d := some 108) (u := (.bool (b9_28))) rfl rfl ?ywg212_241 ?rwg212_241
            case ywg212_241 =>
              refine StepS.pure nP (by rfl) (fun w9 => ?_)
              have e9 : (b9_12 || false) = b9_28 := by rw [HEb9_28.out, HEb9_12.out]
              rw [← e9]
              clear e9
              first | rfl | (go_simp; done) | (go_simp; rfl)
            try simp only [Act.put, sA, sZ, sS]
            refine Ps.st (i := 29) (d := some 109) (u := (cond b9_28 (undef) (.pointer (some ⟨wr.heap.size, 1, none⟩)))) rfl rfl (by cases b9_28; (exact StepS.pure nP rfl fun _ => rfl); exact StepS.skip nP rfl) ?_
            try simp only [Act.put, sA, sZ, sS]
            refine Ps.st (i := 30) (d := some 110) (u := (cond b9_28 (undef) (.agg #[.slice Bh kh dh, .bool (fin), .int .u64 (cnt)]))) rfl rfl ?ywg212_243 ?rwg212_243
            case ywg212_243 =>
              cases b9_28
              · skip
                refine StepS.read [] (by kernel_rfl) nP (by rfl) (fun L9 m9 w9 hSh hAt hDn hS => ?_)
                have hT : Below _ _ w9 := hS
                have x0 : w9.cell? ⟨wr.heap.size, 1, none⟩ = some (.slice Bh kh dh) := (HF1.out.ca hT).cell 1
                have x1 : w9.cell? ⟨wr.heap.size, 2, none⟩ = some (.bool (fin)) := (HF1.out.ca hT).cell 2
                have x2 : w9.cell? ⟨wr.heap.size, 3, none⟩ = some (.int .u64 (cnt)) := (HF1.out.ca hT).cell 3
                clear hT hS
                go_simp
                try rfl
              · exact StepS.skip nP (by rfl)
            try simp only [Act.put, sA, sZ, sS]
            refine Ps.st (i := 31) (d := some 111) (u := (cond b9_28 (undef) (.pointer (some ⟨wr.heap.size, 0, none⟩)))) rfl rfl (by cases b9_28; (exact StepS.pure nP rfl fun _ => rfl); exact StepS.skip nP rfl) ?_
            try simp only [Act.put, sA, sZ, sS]
            refine Ps.st (i := 32) (d := some 112) (u := (cond b9_28 (undef) (.int .u64 (seq)))) rfl rfl ?ywg212_245 ?rwg212_245
            case ywg212_245 =>
              cases b9_28
              · skip
                refine StepS.read [] (by kernel_rfl) nP (by rfl) (fun L9 m9 w9 hSh hAt hDn hS => ?_)
                have hT : Below _ _ w9 := hS
                have x0 : w9.cell? ⟨wr.heap.size, 0, none⟩ = some (.int .u64 (seq)) := (HF1.out.ca hT).cell 0
                clear hT hS
                go_simp
                try rfl
              · exact StepS.skip nP (by rfl)
            try simp only [Act.put, sA, sZ, sS]
            refine Ps.st (i := 33) (d := some 113) (u := (cond b9_28 (undef) (.bool (batchB ⟨rows, fin, cnt⟩ seq)))) rfl rfl ?ywg212_246 ?rwg212_246
            case ywg212_246 =>
              cases b9_28
              · skip
                refine StepS.call ?fwg212_246 ?awg212_246 [] (by kernel_rfl) (by rfl) (fun w9 => ?hwg212_246) (fun L9 m9 w9 hSh hAt hDn hS => ?cwg212_246)
                case hwg212_246 => go_simp; refine ⟨?_, ?_⟩ <;> rfl
                case cwg212_246 =>
                  have hT : Below _ _ w9 := hS
                  refine (HCB.out w9 hT).mono ?_
                  rintro e w8 ⟨rfl, q8⟩
                  exact ⟨rfl, bl_ca hT q8⟩
              · exact StepS.skip nP (by rfl)
            try simp only [Act.put, sA, sZ, sS]
            refine Ps.st (i := 34) (d := some 114) (u := (cond b9_28 (undef) (.bool (!(batchB ⟨rows, fin, cnt⟩ seq))))) rfl rfl (by cases b9_28; (exact StepS.pure nP rfl fun _ => rfl); exact StepS.skip nP rfl) ?_
            try simp only [Act.put, sA, sZ, sS]
            refine Ps.st (i := 35) (d := some 115) (u := (.bool (b9_28 || (!(batchB ⟨rows, fin, cnt⟩ seq))))) rfl rfl ?ywg212_248 ?rwg212_248
            case ywg212_248 =>
              refine StepS.pure nP (by rfl) (fun w9 => ?_)
              cases b9_28 <;> (first | rfl | (go_simp; done) | (go_simp; rfl))
            try simp only [Act.put, sA, sZ, sS]
            obtain ⟨b9_36, hb9⟩ : ∃ b : Bool, b = ((((decide (seq ≤ next)) || (decide (lim < seq))) || false) || (!(batchB ⟨rows, fin, cnt⟩ seq))) := ⟨_, rfl⟩
            have HEb9_36 := Lib.hid hb9
            clear hb9
            refine Ps.st (i := 36) (d := some 116) (u := (.bool (b9_36))) rfl rfl ?ywg212_249 ?rwg212_249
            case ywg212_249 =>
              refine StepS.pure nP (by rfl) (fun w9 => ?_)
              have e9 : (b9_28 || (!(batchB ⟨rows, fin, cnt⟩ seq))) = b9_36 := by rw [HEb9_36.out, HEb9_28.out]
              rw [← e9]
              clear e9
              first | rfl | (go_simp; done) | (go_simp; rfl)
            try simp only [Act.put, sA, sZ, sS]
            refine Ps.st (i := 37) (d := some 117) (u := (cond b9_36 (undef) (.pointer (some ⟨wr.heap.size, 1, none⟩)))) rfl rfl (by cases b9_36; (exact StepS.pure nP rfl fun _ => rfl); exact StepS.skip nP rfl) ?_
            try simp only [Act.put, sA, sZ, sS]
            refine Ps.st (i := 38) (d := some 118) (u := (cond b9_36 (undef) (.pointer (some ⟨wr.heap.size, 2, none⟩)))) rfl rfl (by cases b9_36; (exact StepS.pure nP rfl fun _ => rfl); exact StepS.skip nP rfl) ?_
            try simp only [Act.put, sA, sZ, sS]
            refine Ps.st (i := 39) (d := some 119) (u := (cond b9_36 (undef) (.bool (fin)))) rfl rfl ?ywg212_252 ?rwg212_252
            case ywg212_252 =>
              cases b9_36
              · skip
                refine StepS.read [] (by kernel_rfl) nP (by rfl) (fun L9 m9 w9 hSh hAt hDn hS => ?_)
                have hT : Below _ _ w9 := hS
                have x0 : w9.cell? ⟨wr.heap.size, 2, none⟩ = some (.bool (fin)) := (HF1.out.ca hT).cell 2
                clear hT hS
                go_simp
                try rfl
              · exact StepS.skip nP (by rfl)
            try simp only [Act.put, sA, sZ, sS]
            obtain ⟨b9_40, hb9⟩ : ∃ b : Bool, b = (fin) := ⟨_, rfl⟩
            have HEb9_40 := Lib.hid hb9
            clear hb9
            refine Ps.st (i := 40) (d := some 120) (u := (cond b9_36 (undef) (.bool (b9_40)))) rfl rfl ?ywg212_253 ?rwg212_253
            case ywg212_253 =>
              cases b9_36
              · skip
                refine StepS.pure nP (by rfl) (fun w9 => ?_)
                have e9 : (fin) = b9_40 := by rw [HEb9_40.out]
                rw [← e9]
                clear e9
                first | rfl | (go_simp; done) | (go_simp; rfl)
              · exact StepS.skip nP (by rfl)
            try simp only [Act.put, sA, sZ, sS]
            refine Ps.st (i := 41) (d := some 121) (u := (cond b9_36 (undef) (cond b9_40 (.int .i64 ((i : Int))) (undef)))) rfl rfl (by cases b9_36; (cases b9_40; exact StepS.skip nP rfl; exact StepS.pure nP rfl fun _ => rfl); exact StepS.skip nP rfl) ?_
            try simp only [Act.put, sA, sZ, sS]
            refine Ps.st (i := 42) (d := some 122) (u := (cond b9_36 (undef) (cond b9_40 (.pointer (some ⟨w.heap.size, 2, none⟩)) (undef)))) rfl rfl (by cases b9_36; (cases b9_40; exact StepS.skip nP rfl; exact StepS.pure nP rfl fun _ => rfl); exact StepS.skip nP rfl) ?_
            try simp only [Act.put, sA, sZ, sS]
            refine Ps.st (i := 43) (d := some 123) (u := (cond b9_36 (undef) (cond b9_40 (.slice (some p) n c) (undef)))) rfl rfl ?ywg212_256 ?rwg212_256
            case ywg212_256 =>
              cases b9_36
              · skip
                cases b9_40
                · exact StepS.skip nP (by rfl)
                · skip
                  refine StepS.read [] (by kernel_rfl) nP (by rfl) (fun L9 m9 w9 hSh hAt hDn hS => ?_)
                  have hT : Below _ _ w9 := hS
                  have x0 : w9.cell? ⟨w.heap.size, 2, none⟩ = some (.slice (some p) n c) := (HB5.out.ca hT).cell 2
                  clear hT hS
                  go_simp
                  try rfl
              · exact StepS.skip nP (by rfl)
            try simp only [Act.put, sA, sZ, sS]
            refine Ps.st (i := 44) (d := some 124) (u := (cond b9_36 (undef) (cond b9_40 (.int .i64 ((n : Int))) (undef)))) rfl rfl (by cases b9_36; (cases b9_40; exact StepS.skip nP rfl; exact StepS.pure nP rfl fun _ => by first | rfl | (go_simp; done) | (go_simp; rfl)); exact StepS.skip nP rfl) ?_
            try simp only [Act.put, sA, sZ, sS]
            refine Ps.st (i := 45) (d := some 125) (u := (cond b9_36 (undef) (cond b9_40 (.int .i64 ((n : Int) - 1)) (undef)))) rfl rfl ?ywg212_258 ?rwg212_258
            case ywg212_258 =>
              cases b9_36
              · skip
                cases b9_40
                · exact StepS.skip nP (by rfl)
                · skip
                  refine StepS.pure nP (by rfl) (fun w9 => ?_)
                  rw [← HWL.out]
                  first | rfl | (go_simp; done) | (go_simp; rfl)
              · exact StepS.skip nP (by rfl)
            try simp only [Act.put, sA, sZ, sS]
            refine Ps.st (i := 46) (d := some 126) (u := (cond b9_36 (undef) (cond b9_40 (.bool (!decide ((i : Int) = ((n : Int) - 1)))) (undef)))) rfl rfl (by cases b9_36; (cases b9_40; exact StepS.skip nP rfl; exact StepS.pure nP rfl fun _ => rfl); exact StepS.skip nP rfl) ?_
            try simp only [Act.put, sA, sZ, sS]
            refine Ps.st (i := 47) (d := some 127) (u := (cond b9_36 (undef) (.bool (b9_40 && (!decide ((i : Int) = ((n : Int) - 1))))))) rfl rfl ?ywg212_260 ?rwg212_260
            case ywg212_260 =>
              cases b9_36
              · skip
                refine StepS.pure nP (by rfl) (fun w9 => ?_)
                cases b9_40 <;> (first | rfl | (go_simp; done) | (go_simp; rfl))
              · exact StepS.skip nP (by rfl)
            try simp only [Act.put, sA, sZ, sS]
            obtain ⟨f9, hb9⟩ : ∃ b : Bool, b = (((((decide (seq ≤ next)) || (decide (lim < seq))) || false) || (!(batchB ⟨rows, fin, cnt⟩ seq))) || ((fin) && (!decide ((i : Int) = ((n : Int) - 1))))) := ⟨_, rfl⟩
            have HEf9 := Lib.hid hb9
            clear hb9
            refine Ps.st (i := 48) (d := some 128) (u := (.bool (f9))) rfl rfl ?ywg212_261 ?rwg212_261
            case ywg212_261 =>
              refine StepS.pure nP (by rfl) (fun w9 => ?_)
              have e9 : (b9_36 || (b9_40 && (!decide ((i : Int) = ((n : Int) - 1))))) = f9 := by rw [HEf9.out, HEb9_36.out, HEb9_40.out]
              rw [← e9]
              clear e9
              cases b9_36 <;> (first | rfl | (go_simp; done) | (go_simp; rfl))
            try simp only [Act.put, sA, sZ, sS]
            refine Ps.done (by kernel_rfl) (fun wg212 hS => ?_) _
            try generalize (cond b9_5 (undef) (.agg #[.int .u32 (ses), .int .u64 (next), .slice (some p) n c, .slice B m d, .int .i64 (room), .bool (over)]) : Value) = zz262
            try generalize (cond b9_36 (undef) (cond b9_40 (.bool (!decide ((i : Int) = ((n : Int) - 1)))) (undef)) : Value) = zz263
            try generalize (cond b9_36 (undef) (cond b9_40 (.pointer (some ⟨w.heap.size, 2, none⟩)) (undef)) : Value) = zz264
            try generalize (cond b9_36 (undef) (.bool (b9_40 && (!decide ((i : Int) = ((n : Int) - 1))))) : Value) = zz265
            try generalize (cond b9_28 (undef) (.agg #[.slice Bh kh dh, .bool (fin), .int .u64 (cnt)]) : Value) = zz266
            try generalize (cond b9_36 (undef) (cond b9_40 (.int .i64 ((n : Int) - 1)) (undef)) : Value) = zz267
            try generalize (cond b9_36 (undef) (cond b9_40 (.int .i64 ((n : Int))) (undef)) : Value) = zz268
            try generalize (cond b9_36 (undef) (cond b9_40 (.int .i64 ((i : Int))) (undef)) : Value) = zz269
            try generalize (cond b9_36 (undef) (cond b9_40 (.slice (some p) n c) (undef)) : Value) = zz270
            try generalize (cond b9_36 (undef) (.pointer (some ⟨wr.heap.size, 1, none⟩)) : Value) = zz271
            try generalize (cond b9_28 (undef) (.pointer (some ⟨wr.heap.size, 0, none⟩)) : Value) = zz272
            try generalize (cond b9_36 (undef) (.pointer (some ⟨wr.heap.size, 2, none⟩)) : Value) = zz273
            try generalize (cond b9_28 (undef) (.pointer (some ⟨wr.heap.size, 1, none⟩)) : Value) = zz274
            try generalize (cond b9_28 (undef) (.bool (!(batchB ⟨rows, fin, cnt⟩ seq))) : Value) = zz275
            try generalize (cond b9_5 (undef) (.pointer (some ⟨wr.heap.size, 0, none⟩)) : Value) = zz276
            try generalize (cond b9_28 (undef) (.bool (batchB ⟨rows, fin, cnt⟩ seq)) : Value) = zz277
            try generalize (.bool (b9_28 || (!(batchB ⟨rows, fin, cnt⟩ seq))) : Value) = zz278
            try generalize (cond b9_5 (undef) (.bool (decide (lim < seq))) : Value) = zz279
            try generalize (cond b9_12 (undef) (.int .i64 ((i : Int))) : Value) = zz280
            try generalize (.bool (b9_5 || (decide (lim < seq))) : Value) = zz281
            try generalize (cond b9_28 (undef) (.int .u64 (seq)) : Value) = zz282
            try generalize (cond b9_5 (undef) (.int .u64 (seq)) : Value) = zz283
            try generalize (cond b9_5 (undef) (.int .u64 (lim)) : Value) = zz284
            try generalize (cond b9_12 (undef) (.bool (false)) : Value) = zz285
            try generalize (cond b9_36 (undef) (.bool (b9_40)) : Value) = zz286
            try generalize (cond b9_36 (undef) (.bool (fin)) : Value) = zz287
            try generalize (.bool (b9_12 || false) : Value) = zz288
            have HW289 := Lib.hid (show Below w5.heap.size w5 wg212 from hS)
            clear hS
            obtain ⟨w390, rfl⟩ : ∃ x, x = wg212 := ⟨_, rfl⟩
            have HEQ := Lib.hid (show aheadB lim (pvA next ahead i) (ahead.drop i) = (!f9 && aheadB lim seq (ahead.drop (i + 1))) from by rw [HS.out, HEf9.out, HLA.out]; have hp := HPV.out; rw [HPE.out] at hp ⊢; dsimp only; cases aheadB lim seq (ahead.drop (i + 1)) <;> cases batchB ⟨rows, fin, cnt⟩ seq <;> cases fin <;> rw [Bool.eq_iff_iff] <;> simp <;> omega)
            have HQW := Lib.hid (bl_ca HBW5.out HW289.out)
            have HNX := Lib.hid (show pvA next ahead (i + 1) = seq from by show (match ahead[i]? with | some h => h.seq | none => next) = _; rw [HX.out])
            cases f9
            · have HLE := Lib.hid (show next ≤ seq from by have h9 := HEf9.out; simp at h9; omega)
              go_wp2
              go_roundg (gk - 1)
              · exact ⟨i + 1, by omega, by go_num, by rw [HI.out, HEQ.out, HNX.out]; rfl, by rw [HNX.out]; exact HLE.out, HQW.out⟩
              · omega
            · go_wp2
              go_ret
              exact ⟨ret_bool (by rw [HRL.out, HI.out, HEQ.out]; simp), bl_ca HBB.out HQW.out⟩
          · skip
            obtain ⟨k, hk⟩ : ∃ k, i = k + 1 := ⟨i - 1, by omega⟩
            obtain ⟨p2, hp, Bp, kp, dp, e9, hx9, s9⟩ := LH4_at (Lay.rd_below HRA.out bb) (show k < n by omega)
            injection e9 with e9
            subst e9
            have HP0 := Lib.hid (fun W (q : Below (wr.alloc (.cells #[.int .u64 seq, .slice Bh kh dh, .bool fin, .int .u64 cnt] 81)).heap.size (wr.alloc (.cells #[.int .u64 seq, .slice Bh kh dh, .bool fin, .int .u64 cnt] 81)) W) => ((bl_ca q5 q).cell (p := p.add (k * 4)) (cells_block s9.c0)).trans s9.c0)
            have HPE := Lib.hid (show pvA next ahead i = hp.seq from by rw [hk]; show (match ahead[k]? with | some h => h.seq | none => next) = _; rw [hx9])
            have HWK := Lib.hid (show IntKind.i64.wrap ((i : Int) - 1) = (k : Int) from by simp [IntKind.wrap, IntKind.signed, IntKind.bits]; omega)
            have hk1 : (k : Int) < (n : Int) := by omega
            have HZ := Lib.hid (show 0 < i by omega)
            clear hx9 s9 hk
            clear q5 hrd hx s1 bb hz
            go_upto_region 9 with fail
            clear e0 e1 e2 e3
            generalize wr.alloc (.cells #[.int .u64 seq, .slice Bh kh dh, .bool fin, .int .u64 cnt] 81) = w5 at *
            refine wp_region_ps (S := fun _ _ w' => Below w5.heap.size w5 w') (by kernel_rfl) ?spswg291 ?ppswg291
            case spswg291 =>
              exact (Below.refl w5.heap.size w5).drew
            refine Ps.st (i := 0) (d := some 80) (u := (.pointer (some ⟨wr.heap.size, 0, none⟩))) rfl rfl (by exact StepS.pure nP rfl fun _ => rfl) ?_
            try simp only [Act.put, sA, sZ, sS]
            refine Ps.st (i := 1) (d := some 81) (u := (.int .u64 (seq))) rfl rfl ?ywg291_293 ?rwg291_293
            case ywg291_293 =>
              refine StepS.read [] (by kernel_rfl) nP (by rfl) (fun L9 m9 w9 hSh hAt hDn hS => ?_)
              have hT : Below _ _ w9 := hS
              have x0 : w9.cell? ⟨wr.heap.size, 0, none⟩ = some (.int .u64 (seq)) := (HF1.out.ca hT).cell 0
              clear hT hS
              go_simp
              try rfl
            try simp only [Act.put, sA, sZ, sS]
            refine Ps.st (i := 2) (d := some 82) (u := (.pointer (some ⟨w.heap.size, 1, none⟩))) rfl rfl (by exact StepS.pure nP rfl fun _ => rfl) ?_
            try simp only [Act.put, sA, sZ, sS]
            refine Ps.st (i := 3) (d := some 83) (u := (.int .u64 (next))) rfl rfl ?ywg291_295 ?rwg291_295
            case ywg291_295 =>
              refine StepS.read [] (by kernel_rfl) nP (by rfl) (fun L9 m9 w9 hSh hAt hDn hS => ?_)
              have hT : Below _ _ w9 := hS
              have x0 : w9.cell? ⟨w.heap.size, 1, none⟩ = some (.int .u64 (next)) := (HB5.out.ca hT).cell 1
              clear hT hS
              go_simp
              try rfl
            try simp only [Act.put, sA, sZ, sS]
            refine Ps.st (i := 4) (d := some 84) (u := (.bool (decide (seq ≤ next)))) rfl rfl (by exact StepS.pure nP rfl fun _ => rfl) ?_
            try simp only [Act.put, sA, sZ, sS]
            obtain ⟨b9_5, hb9⟩ : ∃ b : Bool, b = (decide (seq ≤ next)) := ⟨_, rfl⟩
            have HEb9_5 := Lib.hid hb9
            clear hb9
            refine Ps.st (i := 5) (d := some 85) (u := (.bool (b9_5))) rfl rfl ?ywg291_297 ?rwg291_297
            case ywg291_297 =>
              refine StepS.pure nP (by rfl) (fun w9 => ?_)
              have e9 : (decide (seq ≤ next)) = b9_5 := by rw [HEb9_5.out]
              rw [← e9]
              clear e9
              first | rfl | (go_simp; done) | (go_simp; rfl)
            try simp only [Act.put, sA, sZ, sS]
            refine Ps.st (i := 6) (d := some 86) (u := (cond b9_5 (undef) (.pointer (some ⟨wr.heap.size, 0, none⟩)))) rfl rfl (by cases b9_5; (exact StepS.pure nP rfl fun _ => rfl); exact StepS.skip nP rfl) ?_
            try simp only [Act.put, sA, sZ, sS]
            refine Ps.st (i := 7) (d := some 87) (u := (cond b9_5 (undef) (.int .u64 (seq)))) rfl rfl ?ywg291_299 ?rwg291_299
            case ywg291_299 =>
              cases b9_5
              · skip
                refine StepS.read [] (by kernel_rfl) nP (by rfl) (fun L9 m9 w9 hSh hAt hDn hS => ?_)
                have hT : Below _ _ w9 := hS
                have x0 : w9.cell? ⟨wr.heap.size, 0, none⟩ = some (.int .u64 (seq)) := (HF1.out.ca hT).cell 0
                clear hT hS
                go_simp
                try rfl
              · exact StepS.skip nP (by rfl)
            try simp only [Act.put, sA, sZ, sS]
            refine Ps.st (i := 8) (d := some 88) (u := (cond b9_5 (undef) (.agg #[.int .u32 (ses), .int .u64 (next), .slice (some p) n c, .slice B m d, .int .i64 (room), .bool (over)]))) rfl rfl ?ywg291_300 ?rwg291_300
            case ywg291_300 =>
              cases b9_5
              · skip
                refine StepS.read [] (by kernel_rfl) nP (by rfl) (fun L9 m9 w9 hSh hAt hDn hS => ?_)
                have hT : Below _ _ w9 := hS
                have x0 : w9.cell? ⟨w.heap.size, 0, none⟩ = some (.int .u32 (ses)) := (HB5.out.ca hT).cell 0
                have x1 : w9.cell? ⟨w.heap.size, 1, none⟩ = some (.int .u64 (next)) := (HB5.out.ca hT).cell 1
                have x2 : w9.cell? ⟨w.heap.size, 2, none⟩ = some (.slice (some p) n c) := (HB5.out.ca hT).cell 2
                have x3 : w9.cell? ⟨w.heap.size, 3, none⟩ = some (.slice B m d) := (HB5.out.ca hT).cell 3
                have x4 : w9.cell? ⟨w.heap.size, 4, none⟩ = some (.int .i64 (room)) := (HB5.out.ca hT).cell 4
                have x5 : w9.cell? ⟨w.heap.size, 5, none⟩ = some (.bool (over)) := (HB5.out.ca hT).cell 5
                clear hT hS
                go_simp
                try rfl
              · exact StepS.skip nP (by rfl)
            try simp only [Act.put, sA, sZ, sS]
            refine Ps.st (i := 9) (d := some 89) (u := (cond b9_5 (undef) (.int .u64 (lim)))) rfl rfl ?ywg291_301 ?rwg291_301
            case ywg291_301 =>
              cases b9_5
              · skip
                refine StepS.call ?fwg291_301 ?awg291_301 [] (by kernel_rfl) (by rfl) (fun w9 => ?hwg291_301) (fun L9 m9 w9 hSh hAt hDn hS => ?cwg291_301)
                case hwg291_301 => go_simp; refine ⟨?_, ?_⟩ <;> rfl
                case cwg291_301 =>
                  have hT : Below _ _ w9 := hS
                  refine (HCL.out w9).mono ?_
                  rintro e w8 ⟨rfl, q8⟩
                  exact ⟨rfl, bl_ca hT q8⟩
              · exact StepS.skip nP (by rfl)
            try simp only [Act.put, sA, sZ, sS]
            refine Ps.st (i := 10) (d := some 90) (u := (cond b9_5 (undef) (.bool (decide (lim < seq))))) rfl rfl (by cases b9_5; (exact StepS.pure nP rfl fun _ => rfl); exact StepS.skip nP rfl) ?_
            try simp only [Act.put, sA, sZ, sS]
            refine Ps.st (i := 11) (d := some 91) (u := (.bool (b9_5 || (decide (lim < seq))))) rfl rfl ?ywg291_303 ?rwg291_303
            case ywg291_303 =>
              refine StepS.pure nP (by rfl) (fun w9 => ?_)
              cases b9_5 <;> (first | rfl | (go_simp; done) | (go_simp; rfl))
            try simp only [Act.put, sA, sZ, sS]
            obtain ⟨b9_12, hb9⟩ : ∃ b : Bool, b = ((decide (seq ≤ next)) || (decide (lim < seq))) := ⟨_, rfl⟩
            have HEb9_12 := Lib.hid hb9
            clear hb9
            refine Ps.st (i := 12) (d := some 92) (u := (.bool (b9_12))) rfl rfl ?ywg291_304 ?rwg291_304
            case ywg291_304 =>
              refine StepS.pure nP (by rfl) (fun w9 => ?_)
              have e9 : (b9_5 || (decide (lim < seq))) = b9_12 := by rw [HEb9_12.out, HEb9_5.out]
              rw [← e9]
              clear e9
              first | rfl | (go_simp; done) | (go_simp; rfl)
            try simp only [Act.put, sA, sZ, sS]
            refine Ps.st (i := 13) (d := some 93) (u := (cond b9_12 (undef) (.int .i64 ((i : Int))))) rfl rfl (by cases b9_12; (exact StepS.pure nP rfl fun _ => rfl); exact StepS.skip nP rfl) ?_
            try simp only [Act.put, sA, sZ, sS]
            refine Ps.st (i := 14) (d := some 94) (u := (cond b9_12 (undef) (.bool (true)))) rfl rfl ?ywg291_306 ?rwg291_306
            case ywg291_306 =>
              cases b9_12
              · skip
                refine StepS.pure nP (by rfl) (fun w9 => ?_)
                go_simp
                exact HZ.out
              · exact StepS.skip nP (by rfl)
            try simp only [Act.put, sA, sZ, sS]
            refine Ps.st (i := 15) (d := some 95) (u := (cond b9_12 (undef) (.bool (true)))) rfl rfl (by cases b9_12; (exact StepS.pure nP rfl fun _ => rfl); exact StepS.skip nP rfl) ?_
            try simp only [Act.put, sA, sZ, sS]
            refine Ps.st (i := 16) (d := some 96) (u := (cond b9_12 (undef) (.pointer (some ⟨w.heap.size, 2, none⟩)))) rfl rfl (by cases b9_12; (exact StepS.pure nP rfl fun _ => rfl); exact StepS.skip nP rfl) ?_
            try simp only [Act.put, sA, sZ, sS]
            refine Ps.st (i := 17) (d := some 97) (u := (cond b9_12 (undef) (.slice (some p) n c))) rfl rfl ?ywg291_309 ?rwg291_309
            case ywg291_309 =>
              cases b9_12
              · skip
                refine StepS.read [] (by kernel_rfl) nP (by rfl) (fun L9 m9 w9 hSh hAt hDn hS => ?_)
                have hT : Below _ _ w9 := hS
                have x0 : w9.cell? ⟨w.heap.size, 2, none⟩ = some (.slice (some p) n c) := (HB5.out.ca hT).cell 2
                clear hT hS
                go_simp
                try rfl
              · exact StepS.skip nP (by rfl)
            try simp only [Act.put, sA, sZ, sS]
            refine Ps.st (i := 18) (d := some 98) (u := (cond b9_12 (undef) (.int .i64 ((i : Int))))) rfl rfl (by cases b9_12; (exact StepS.pure nP rfl fun _ => rfl); exact StepS.skip nP rfl) ?_
            try simp only [Act.put, sA, sZ, sS]
            refine Ps.st (i := 19) (d := some 99) (u := (cond b9_12 (undef) (.int .i64 ((k : Int))))) rfl rfl ?ywg291_311 ?rwg291_311
            case ywg291_311 =>
              cases b9_12
              · skip
                refine StepS.pure nP (by rfl) (fun w9 => ?_)
                rw [← HWK.out]
                first | rfl | (go_simp; done) | (go_simp; rfl)
              · exact StepS.skip nP (by rfl)
            try simp only [Act.put, sA, sZ, sS]
            refine Ps.st (i := 20) (d := some 100) (u := (cond b9_12 (undef) (.pointer (some (p.add (k * 4)))))) rfl rfl ?ywg291_312 ?rwg291_312
            case ywg291_312 =>
              cases b9_12
              · skip
                refine StepS.pure nP (by rfl) (fun w9 => ?_)
                have h8 := hk1
                first | rfl | (go_simp; done) | (go_simp; rfl)
              · exact StepS.skip nP (by rfl)
            try simp only [Act.put, sA, sZ, sS]
            refine Ps.st (i := 21) (d := some 101) (u := (cond b9_12 (undef) (.pointer (some (p.add (k * 4)))))) rfl rfl (by cases b9_12; (exact StepS.pure nP rfl fun _ => rfl); exact StepS.skip nP rfl) ?_
            try simp only [Act.put, sA, sZ, sS]
            refine Ps.st (i := 22) (d := some 102) (u := (cond b9_12 (undef) (.int .u64 (hp.seq)))) rfl rfl ?ywg291_314 ?rwg291_314
            case ywg291_314 =>
              cases b9_12
              · skip
                refine StepS.read [] (by kernel_rfl) nP (by rfl) (fun L9 m9 w9 hSh hAt hDn hS => ?_)
                have hT : Below _ _ w9 := hS
                have x0 : w9.cell? (p.add (k * 4)) = some (.int .u64 (hp.seq)) := HP0.out _ hT
                clear hT hS
                go_simp
                try rfl
              · exact StepS.skip nP (by rfl)
            try simp only [Act.put, sA, sZ, sS]
            refine Ps.st (i := 23) (d := some 103) (u := (cond b9_12 (undef) (.pointer (some ⟨wr.heap.size, 0, none⟩)))) rfl rfl (by cases b9_12; (exact StepS.pure nP rfl fun _ => rfl); exact StepS.skip nP rfl) ?_
            try simp only [Act.put, sA, sZ, sS]
            refine Ps.st (i := 24) (d := some 104) (u := (cond b9_12 (undef) (.int .u64 (seq)))) rfl rfl ?ywg291_316 ?rwg291_316
            case ywg291_316 =>
              cases b9_12
              · skip
                refine StepS.read [] (by kernel_rfl) nP (by rfl) (fun L9 m9 w9 hSh hAt hDn hS => ?_)
                have hT : Below _ _ w9 := hS
                have x0 : w9.cell? ⟨wr.heap.size, 0, none⟩ = some (.int .u64 (seq)) := (HF1.out.ca hT).cell 0
                clear hT hS
                go_simp
                try rfl
              · exact StepS.skip nP (by rfl)
            try simp only [Act.put, sA, sZ, sS]
            refine Ps.st (i := 25) (d := some 105) (u := (cond b9_12 (undef) (.bool (decide (seq ≤ hp.seq))))) rfl rfl (by cases b9_12; (exact StepS.pure nP rfl fun _ => rfl); exact StepS.skip nP rfl) ?_
            try simp only [Act.put, sA, sZ, sS]
            refine Ps.st (i := 26) (d := some 106) (u := (cond b9_12 (undef) (.bool (decide (seq ≤ hp.seq))))) rfl rfl (by cases b9_12; (exact StepS.pure nP rfl fun _ => rfl); exact StepS.skip nP rfl) ?_
            try simp only [Act.put, sA, sZ, sS]
            refine Ps.st (i := 27) (d := some 107) (u := (.bool (b9_12 || (decide (seq ≤ hp.seq))))) rfl rfl ?ywg291_319 ?rwg291_319
            case ywg291_319 =>
              refine StepS.pure nP (by rfl) (fun w9 => ?_)
              cases b9_12 <;> (first | rfl | (go_simp; done) | (go_simp; rfl))
            try simp only [Act.put, sA, sZ, sS]
            obtain ⟨b9_28, hb9⟩ : ∃ b : Bool, b = (((decide (seq ≤ next)) || (decide (lim < seq))) || (decide (seq ≤ hp.seq))) := ⟨_, rfl⟩
            have HEb9_28 := Lib.hid hb9
            clear hb9
            refine Ps.st (i := 28) (d := some 108) (u := (.bool (b9_28))) rfl rfl ?ywg291_320 ?rwg291_320
            case ywg291_320 =>
              refine StepS.pure nP (by rfl) (fun w9 => ?_)
              have e9 : (b9_12 || (decide (seq ≤ hp.seq))) = b9_28 := by rw [HEb9_28.out, HEb9_12.out]
              rw [← e9]
              clear e9
              first | rfl | (go_simp; done) | (go_simp; rfl)
            try simp only [Act.put, sA, sZ, sS]
            refine Ps.st (i := 29) (d := some 109) (u := (cond b9_28 (undef) (.pointer (some ⟨wr.heap.size, 1, none⟩)))) rfl rfl (by cases b9_28; (exact StepS.pure nP rfl fun _ => rfl); exact StepS.skip nP rfl) ?_
            try simp only [Act.put, sA, sZ, sS]
            refine Ps.st (i := 30) (d := some 110) (u := (cond b9_28 (undef) (.agg #[.slice Bh kh dh, .bool (fin), .int .u64 (cnt)]))) rfl rfl ?ywg291_322 ?rwg291_322
            case ywg291_322 =>
              cases b9_28
              · skip
                refine StepS.read [] (by kernel_rfl) nP (by rfl) (fun L9 m9 w9 hSh hAt hDn hS => ?_)
                have hT : Below _ _ w9 := hS
                have x0 : w9.cell? ⟨wr.heap.size, 1, none⟩ = some (.slice Bh kh dh) := (HF1.out.ca hT).cell 1
                have x1 : w9.cell? ⟨wr.heap.size, 2, none⟩ = some (.bool (fin)) := (HF1.out.ca hT).cell 2
                have x2 : w9.cell? ⟨wr.heap.size, 3, none⟩ = some (.int .u64 (cnt)) := (HF1.out.ca hT).cell 3
                clear hT hS
                go_simp
                try rfl
              · exact StepS.skip nP (by rfl)
            try simp only [Act.put, sA, sZ, sS]
            refine Ps.st (i := 31) (d := some 111) (u := (cond b9_28 (undef) (.pointer (some ⟨wr.heap.size, 0, none⟩)))) rfl rfl (by cases b9_28; (exact StepS.pure nP rfl fun _ => rfl); exact StepS.skip nP rfl) ?_
            try simp only [Act.put, sA, sZ, sS]
            refine Ps.st (i := 32) (d := some 112) (u := (cond b9_28 (undef) (.int .u64 (seq)))) rfl rfl ?ywg291_324 ?rwg291_324
            case ywg291_324 =>
              cases b9_28
              · skip
                refine StepS.read [] (by kernel_rfl) nP (by rfl) (fun L9 m9 w9 hSh hAt hDn hS => ?_)
                have hT : Below _ _ w9 := hS
                have x0 : w9.cell? ⟨wr.heap.size, 0, none⟩ = some (.int .u64 (seq)) := (HF1.out.ca hT).cell 0
                clear hT hS
                go_simp
                try rfl
              · exact StepS.skip nP (by rfl)
            try simp only [Act.put, sA, sZ, sS]
            refine Ps.st (i := 33) (d := some 113) (u := (cond b9_28 (undef) (.bool (batchB ⟨rows, fin, cnt⟩ seq)))) rfl rfl ?ywg291_325 ?rwg291_325
            case ywg291_325 =>
              cases b9_28
              · skip
                refine StepS.call ?fwg291_325 ?awg291_325 [] (by kernel_rfl) (by rfl) (fun w9 => ?hwg291_325) (fun L9 m9 w9 hSh hAt hDn hS => ?cwg291_325)
                case hwg291_325 => go_simp; refine ⟨?_, ?_⟩ <;> rfl
                case cwg291_325 =>
                  have hT : Below _ _ w9 := hS
                  refine (HCB.out w9 hT).mono ?_
                  rintro e w8 ⟨rfl, q8⟩
                  exact ⟨rfl, bl_ca hT q8⟩
              · exact StepS.skip nP (by rfl)
            try simp only [Act.put, sA, sZ, sS]
            refine Ps.st (i := 34) (d := some 114) (u := (cond b9_28 (undef) (.bool (!(batchB ⟨rows, fin, cnt⟩ seq))))) rfl rfl (by cases b9_28; (exact StepS.pure nP rfl fun _ => rfl); exact StepS.skip nP rfl) ?_
            try simp only [Act.put, sA, sZ, sS]
            refine Ps.st (i := 35) (d := some 115) (u := (.bool (b9_28 || (!(batchB ⟨rows, fin, cnt⟩ seq))))) rfl rfl ?ywg291_327 ?rwg291_327
            case ywg291_327 =>
              refine StepS.pure nP (by rfl) (fun w9 => ?_)
              cases b9_28 <;> (first | rfl | (go_simp; done) | (go_simp; rfl))
            try simp only [Act.put, sA, sZ, sS]
            obtain ⟨b9_36, hb9⟩ : ∃ b : Bool, b = ((((decide (seq ≤ next)) || (decide (lim < seq))) || (decide (seq ≤ hp.seq))) || (!(batchB ⟨rows, fin, cnt⟩ seq))) := ⟨_, rfl⟩
            have HEb9_36 := Lib.hid hb9
            clear hb9
            refine Ps.st (i := 36) (d := some 116) (u := (.bool (b9_36))) rfl rfl ?ywg291_328 ?rwg291_328
            case ywg291_328 =>
              refine StepS.pure nP (by rfl) (fun w9 => ?_)
              have e9 : (b9_28 || (!(batchB ⟨rows, fin, cnt⟩ seq))) = b9_36 := by rw [HEb9_36.out, HEb9_28.out]
              rw [← e9]
              clear e9
              first | rfl | (go_simp; done) | (go_simp; rfl)
            try simp only [Act.put, sA, sZ, sS]
            refine Ps.st (i := 37) (d := some 117) (u := (cond b9_36 (undef) (.pointer (some ⟨wr.heap.size, 1, none⟩)))) rfl rfl (by cases b9_36; (exact StepS.pure nP rfl fun _ => rfl); exact StepS.skip nP rfl) ?_
            try simp only [Act.put, sA, sZ, sS]
            refine Ps.st (i := 38) (d := some 118) (u := (cond b9_36 (undef) (.pointer (some ⟨wr.heap.size, 2, none⟩)))) rfl rfl (by cases b9_36; (exact StepS.pure nP rfl fun _ => rfl); exact StepS.skip nP rfl) ?_
            try simp only [Act.put, sA, sZ, sS]
            refine Ps.st (i := 39) (d := some 119) (u := (cond b9_36 (undef) (.bool (fin)))) rfl rfl ?ywg291_331 ?rwg291_331
            case ywg291_331 =>
              cases b9_36
              · skip
                refine StepS.read [] (by kernel_rfl) nP (by rfl) (fun L9 m9 w9 hSh hAt hDn hS => ?_)
                have hT : Below _ _ w9 := hS
                have x0 : w9.cell? ⟨wr.heap.size, 2, none⟩ = some (.bool (fin)) := (HF1.out.ca hT).cell 2
                clear hT hS
                go_simp
                try rfl
              · exact StepS.skip nP (by rfl)
            try simp only [Act.put, sA, sZ, sS]
            obtain ⟨b9_40, hb9⟩ : ∃ b : Bool, b = (fin) := ⟨_, rfl⟩
            have HEb9_40 := Lib.hid hb9
            clear hb9
            refine Ps.st (i := 40) (d := some 120) (u := (cond b9_36 (undef) (.bool (b9_40)))) rfl rfl ?ywg291_332 ?rwg291_332
            case ywg291_332 =>
              cases b9_36
              · skip
                refine StepS.pure nP (by rfl) (fun w9 => ?_)
                have e9 : (fin) = b9_40 := by rw [HEb9_40.out]
                rw [← e9]
                clear e9
                first | rfl | (go_simp; done) | (go_simp; rfl)
              · exact StepS.skip nP (by rfl)
            try simp only [Act.put, sA, sZ, sS]
            refine Ps.st (i := 41) (d := some 121) (u := (cond b9_36 (undef) (cond b9_40 (.int .i64 ((i : Int))) (undef)))) rfl rfl (by cases b9_36; (cases b9_40; exact StepS.skip nP rfl; exact StepS.pure nP rfl fun _ => rfl); exact StepS.skip nP rfl) ?_
            try simp only [Act.put, sA, sZ, sS]
            refine Ps.st (i := 42) (d := some 122) (u := (cond b9_36 (undef) (cond b9_40 (.pointer (some ⟨w.heap.size, 2, none⟩)) (undef)))) rfl rfl (by cases b9_36; (cases b9_40; exact StepS.skip nP rfl; exact StepS.pure nP rfl fun _ => rfl); exact StepS.skip nP rfl) ?_
            try simp only [Act.put, sA, sZ, sS]
            refine Ps.st (i := 43) (d := some 123) (u := (cond b9_36 (undef) (cond b9_40 (.slice (some p) n c) (undef)))) rfl rfl ?ywg291_335 ?rwg291_335
            case ywg291_335 =>
              cases b9_36
              · skip
                cases b9_40
                · exact StepS.skip nP (by rfl)
                · skip
                  refine StepS.read [] (by kernel_rfl) nP (by rfl) (fun L9 m9 w9 hSh hAt hDn hS => ?_)
                  have hT : Below _ _ w9 := hS
                  have x0 : w9.cell? ⟨w.heap.size, 2, none⟩ = some (.slice (some p) n c) := (HB5.out.ca hT).cell 2
                  clear hT hS
                  go_simp
                  try rfl
              · exact StepS.skip nP (by rfl)
            try simp only [Act.put, sA, sZ, sS]
            refine Ps.st (i := 44) (d := some 124) (u := (cond b9_36 (undef) (cond b9_40 (.int .i64 ((n : Int))) (undef)))) rfl rfl (by cases b9_36; (cases b9_40; exact StepS.skip nP rfl; exact StepS.pure nP rfl fun _ => by first | rfl | (go_simp; done) | (go_simp; rfl)); exact StepS.skip nP rfl) ?_
            try simp only [Act.put, sA, sZ, sS]
            refine Ps.st (i := 45) (d := some 125) (u := (cond b9_36 (undef) (cond b9_40 (.int .i64 ((n : Int) - 1)) (undef)))) rfl rfl ?ywg291_337 ?rwg291_337
            case ywg291_337 =>
              cases b9_36
              · skip
                cases b9_40
                · exact StepS.skip nP (by rfl)
                · skip
                  refine StepS.pure nP (by rfl) (fun w9 => ?_)
                  rw [← HWL.out]
                  first | rfl | (go_simp; done) | (go_simp; rfl)
              · exact StepS.skip nP (by rfl)
            try simp only [Act.put, sA, sZ, sS]
            refine Ps.st (i := 46) (d := some 126) (u := (cond b9_36 (undef) (cond b9_40 (.bool (!decide ((i : Int) = ((n : Int) - 1)))) (undef)))) rfl rfl (by cases b9_36; (cases b9_40; exact StepS.skip nP rfl; exact StepS.pure nP rfl fun _ => rfl); exact StepS.skip nP rfl) ?_
            try simp only [Act.put, sA, sZ, sS]
            refine Ps.st (i := 47) (d := some 127) (u := (cond b9_36 (undef) (.bool (b9_40 && (!decide ((i : Int) = ((n : Int) - 1))))))) rfl rfl ?ywg291_339 ?rwg291_339
            case ywg291_339 =>
              cases b9_36
              · skip
                refine StepS.pure nP (by rfl) (fun w9 => ?_)
                cases b9_40 <;> (first | rfl | (go_simp; done) | (go_simp; rfl))
              · exact StepS.skip nP (by rfl)
            try simp only [Act.put, sA, sZ, sS]
            obtain ⟨f9, hb9⟩ : ∃ b : Bool, b = (((((decide (seq ≤ next)) || (decide (lim < seq))) || (decide (seq ≤ hp.seq))) || (!(batchB ⟨rows, fin, cnt⟩ seq))) || ((fin) && (!decide ((i : Int) = ((n : Int) - 1))))) := ⟨_, rfl⟩
            have HEf9 := Lib.hid hb9
            clear hb9
            refine Ps.st (i := 48) (d := some 128) (u := (.bool (f9))) rfl rfl ?ywg291_340 ?rwg291_340
            case ywg291_340 =>
              refine StepS.pure nP (by rfl) (fun w9 => ?_)
              have e9 : (b9_36 || (b9_40 && (!decide ((i : Int) = ((n : Int) - 1))))) = f9 := by rw [HEf9.out, HEb9_36.out, HEb9_40.out]
              rw [← e9]
              clear e9
              cases b9_36 <;> (first | rfl | (go_simp; done) | (go_simp; rfl))
            try simp only [Act.put, sA, sZ, sS]
            refine Ps.done (by kernel_rfl) (fun wg291 hS => ?_) _
            try generalize (cond b9_5 (undef) (.agg #[.int .u32 (ses), .int .u64 (next), .slice (some p) n c, .slice B m d, .int .i64 (room), .bool (over)]) : Value) = zz341
            try generalize (cond b9_36 (undef) (cond b9_40 (.bool (!decide ((i : Int) = ((n : Int) - 1)))) (undef)) : Value) = zz342
            try generalize (cond b9_36 (undef) (cond b9_40 (.pointer (some ⟨w.heap.size, 2, none⟩)) (undef)) : Value) = zz343
            try generalize (cond b9_36 (undef) (.bool (b9_40 && (!decide ((i : Int) = ((n : Int) - 1))))) : Value) = zz344
            try generalize (cond b9_28 (undef) (.agg #[.slice Bh kh dh, .bool (fin), .int .u64 (cnt)]) : Value) = zz345
            try generalize (cond b9_36 (undef) (cond b9_40 (.int .i64 ((n : Int) - 1)) (undef)) : Value) = zz346
            try generalize (cond b9_36 (undef) (cond b9_40 (.int .i64 ((n : Int))) (undef)) : Value) = zz347
            try generalize (cond b9_36 (undef) (cond b9_40 (.int .i64 ((i : Int))) (undef)) : Value) = zz348
            try generalize (cond b9_36 (undef) (cond b9_40 (.slice (some p) n c) (undef)) : Value) = zz349
            try generalize (cond b9_36 (undef) (.pointer (some ⟨wr.heap.size, 1, none⟩)) : Value) = zz350
            try generalize (cond b9_28 (undef) (.pointer (some ⟨wr.heap.size, 0, none⟩)) : Value) = zz351
            try generalize (cond b9_36 (undef) (.pointer (some ⟨wr.heap.size, 2, none⟩)) : Value) = zz352
            try generalize (cond b9_28 (undef) (.pointer (some ⟨wr.heap.size, 1, none⟩)) : Value) = zz353
            try generalize (cond b9_12 (undef) (.pointer (some ⟨wr.heap.size, 0, none⟩)) : Value) = zz354
            try generalize (cond b9_12 (undef) (.pointer (some ⟨w.heap.size, 2, none⟩)) : Value) = zz355
            try generalize (cond b9_28 (undef) (.bool (!(batchB ⟨rows, fin, cnt⟩ seq))) : Value) = zz356
            try generalize (cond b9_5 (undef) (.pointer (some ⟨wr.heap.size, 0, none⟩)) : Value) = zz357
            try generalize (cond b9_28 (undef) (.bool (batchB ⟨rows, fin, cnt⟩ seq)) : Value) = zz358
            try generalize (cond b9_12 (undef) (.pointer (some (p.add (k * 4)))) : Value) = zz359
            try generalize (cond b9_12 (undef) (.bool (decide (seq ≤ hp.seq))) : Value) = zz360
            try generalize (.bool (b9_28 || (!(batchB ⟨rows, fin, cnt⟩ seq))) : Value) = zz361
            try generalize (cond b9_5 (undef) (.bool (decide (lim < seq))) : Value) = zz362
            try generalize (cond b9_12 (undef) (.int .i64 ((i : Int))) : Value) = zz363
            try generalize (cond b9_12 (undef) (.int .i64 ((k : Int))) : Value) = zz364
            try generalize (.bool (b9_12 || (decide (seq ≤ hp.seq))) : Value) = zz365
            try generalize (cond b9_12 (undef) (.slice (some p) n c) : Value) = zz366
            try generalize (cond b9_12 (undef) (.int .u64 (hp.seq)) : Value) = zz367
            try generalize (.bool (b9_5 || (decide (lim < seq))) : Value) = zz368
            try generalize (cond b9_12 (undef) (.int .u64 (seq)) : Value) = zz369
            try generalize (cond b9_28 (undef) (.int .u64 (seq)) : Value) = zz370
            try generalize (cond b9_5 (undef) (.int .u64 (seq)) : Value) = zz371
            try generalize (cond b9_5 (undef) (.int .u64 (lim)) : Value) = zz372
            try generalize (cond b9_36 (undef) (.bool (b9_40)) : Value) = zz373
            try generalize (cond b9_12 (undef) (.bool (true)) : Value) = zz374
            try generalize (cond b9_36 (undef) (.bool (fin)) : Value) = zz375
            have HW376 := Lib.hid (show Below w5.heap.size w5 wg291 from hS)
            clear hS
            obtain ⟨w477, rfl⟩ : ∃ x, x = wg291 := ⟨_, rfl⟩
            have HEQ := Lib.hid (show aheadB lim (pvA next ahead i) (ahead.drop i) = (!f9 && aheadB lim seq (ahead.drop (i + 1))) from by rw [HS.out, HEf9.out, HLA.out]; have hp := HPV.out; rw [HPE.out] at hp ⊢; dsimp only; cases aheadB lim seq (ahead.drop (i + 1)) <;> cases batchB ⟨rows, fin, cnt⟩ seq <;> cases fin <;> rw [Bool.eq_iff_iff] <;> simp <;> omega)
            have HQW := Lib.hid (bl_ca HBW5.out HW376.out)
            have HNX := Lib.hid (show pvA next ahead (i + 1) = seq from by show (match ahead[i]? with | some h => h.seq | none => next) = _; rw [HX.out])
            cases f9
            · have HLE := Lib.hid (show next ≤ seq from by have h9 := HEf9.out; simp at h9; omega)
              go_wp2
              go_roundg (gk - 1)
              · exact ⟨i + 1, by omega, by go_num, by rw [HI.out, HEQ.out, HNX.out]; rfl, by rw [HNX.out]; exact HLE.out, HQW.out⟩
              · omega
            · go_wp2
              go_ret
              exact ⟨ret_bool (by rw [HRL.out, HI.out, HEQ.out]; simp), bl_ca HBB.out HQW.out⟩
        · obtain rfl : i = n := by omega
          have hi1 : (i : Int) ≤ (i : Int) := by omega
          have HAE := Lib.hid (show aheadB lim next ahead = true from by rw [HI.out, List.drop_of_length_le (by rw [HLA.out]; exact Nat.le_refl _)]; rfl)
          clear bb
          go_upto_region 12 with fail
          refine wp_region_ps0 .text (S := fun _ _ w' => Below w1.heap.size w1 w') (by kernel_rfl) ?spswg378 ?ppswg378
          case spswg378 =>
            exact HBW.out
          refine Ps.st (i := 0) (d := some 130) (u := (.pointer (some ⟨w.heap.size, 5, none⟩))) rfl rfl (by exact StepS.pure nP rfl fun _ => rfl) ?_
          try simp only [Act.put, sA, sZ, sS]
          refine Ps.st (i := 1) (d := some 131) (u := (.bool (over))) rfl rfl ?ywg378_380 ?rwg378_380
          case ywg378_380 =>
            refine StepS.read [] (by kernel_rfl) nP (by rfl) (fun L9 m9 w9 hSh hAt hDn hS => ?_)
            have hT : Below _ _ w9 := hS
            have x0 : w9.cell? ⟨w.heap.size, 5, none⟩ = some (.bool (over)) := (HB.out.ca hT).cell 5
            clear hT hS
            go_simp
            try rfl
          try simp only [Act.put, sA, sZ, sS]
          refine Ps.st (i := 2) (d := some 132) (u := (.bool (!over))) rfl rfl (by exact StepS.pure nP rfl fun _ => rfl) ?_
          try simp only [Act.put, sA, sZ, sS]
          obtain ⟨b12_3, hb9⟩ : ∃ b : Bool, b = (!over) := ⟨_, rfl⟩
          have HEb12_3 := Lib.hid hb9
          clear hb9
          refine Ps.st (i := 3) (d := some 133) (u := (.bool (b12_3))) rfl rfl ?ywg378_382 ?rwg378_382
          case ywg378_382 =>
            refine StepS.pure nP (by rfl) (fun w9 => ?_)
            have e9 : (!over) = b12_3 := by rw [HEb12_3.out]
            rw [← e9]
            clear e9
            first | rfl | (go_simp; done) | (go_simp; rfl)
          try simp only [Act.put, sA, sZ, sS]
          refine Ps.st (i := 4) (d := some 134) (u := (cond b12_3 (undef) (.int .i64 ((m : Int))))) rfl rfl (by cases b12_3; (exact StepS.pure nP rfl fun _ => rfl); exact StepS.skip nP rfl) ?_
          try simp only [Act.put, sA, sZ, sS]
          refine Ps.st (i := 5) (d := some 135) (u := (cond b12_3 (undef) (.bool (decide ((m : Int) = 0))))) rfl rfl (by cases b12_3; (exact StepS.pure nP rfl fun _ => rfl); exact StepS.skip nP rfl) ?_
          try simp only [Act.put, sA, sZ, sS]
          obtain ⟨b12_6, hb9⟩ : ∃ b : Bool, b = (decide ((m : Int) = 0)) := ⟨_, rfl⟩
          have HEb12_6 := Lib.hid hb9
          clear hb9
          refine Ps.st (i := 6) (d := some 136) (u := (cond b12_3 (undef) (.bool (b12_6)))) rfl rfl ?ywg378_385 ?rwg378_385
          case ywg378_385 =>
            cases b12_3
            · skip
              refine StepS.pure nP (by rfl) (fun w9 => ?_)
              have e9 : (decide ((m : Int) = 0)) = b12_6 := by rw [HEb12_6.out]
              rw [← e9]
              clear e9
              first | rfl | (go_simp; done) | (go_simp; rfl)
            · exact StepS.skip nP (by rfl)
          try simp only [Act.put, sA, sZ, sS]
          refine Ps.st (i := 7) (d := some 137) (u := (cond b12_3 (undef) (cond b12_6 (.pointer (some ⟨w.heap.size, 2, none⟩)) (undef)))) rfl rfl (by cases b12_3; (cases b12_6; exact StepS.skip nP rfl; exact StepS.pure nP rfl fun _ => rfl); exact StepS.skip nP rfl) ?_
          try simp only [Act.put, sA, sZ, sS]
          refine Ps.st (i := 8) (d := some 138) (u := (cond b12_3 (undef) (cond b12_6 (.slice A i c) (undef)))) rfl rfl ?ywg378_387 ?rwg378_387
          case ywg378_387 =>
            cases b12_3
            · skip
              cases b12_6
              · exact StepS.skip nP (by rfl)
              · skip
                refine StepS.read [] (by kernel_rfl) nP (by rfl) (fun L9 m9 w9 hSh hAt hDn hS => ?_)
                have hT : Below _ _ w9 := hS
                have x0 : w9.cell? ⟨w.heap.size, 2, none⟩ = some (.slice A i c) := (HB.out.ca hT).cell 2
                clear hT hS
                go_simp
                try rfl
            · exact StepS.skip nP (by rfl)
          try simp only [Act.put, sA, sZ, sS]
          refine Ps.st (i := 9) (d := some 139) (u := (cond b12_3 (undef) (cond b12_6 (.int .i64 ((i : Int))) (undef)))) rfl rfl (by cases b12_3; (cases b12_6; exact StepS.skip nP rfl; exact StepS.pure nP rfl fun _ => by first | rfl | (go_simp; done) | (go_simp; rfl)); exact StepS.skip nP rfl) ?_
          try simp only [Act.put, sA, sZ, sS]
          refine Ps.st (i := 10) (d := some 140) (u := (cond b12_3 (undef) (cond b12_6 (.bool (decide ((i : Int) = 0))) (undef)))) rfl rfl (by cases b12_3; (cases b12_6; exact StepS.skip nP rfl; exact StepS.pure nP rfl fun _ => rfl); exact StepS.skip nP rfl) ?_
          try simp only [Act.put, sA, sZ, sS]
          refine Ps.st (i := 11) (d := some 141) (u := (cond b12_3 (undef) (.bool (b12_6 && (decide ((i : Int) = 0)))))) rfl rfl ?ywg378_390 ?rwg378_390
          case ywg378_390 =>
            cases b12_3
            · skip
              refine StepS.pure nP (by rfl) (fun w9 => ?_)
              cases b12_6 <;> (first | rfl | (go_simp; done) | (go_simp; rfl))
            · exact StepS.skip nP (by rfl)
          try simp only [Act.put, sA, sZ, sS]
          obtain ⟨b12_12, hb9⟩ : ∃ b : Bool, b = ((decide ((m : Int) = 0)) && (decide ((i : Int) = 0))) := ⟨_, rfl⟩
          have HEb12_12 := Lib.hid hb9
          clear hb9
          refine Ps.st (i := 12) (d := some 142) (u := (cond b12_3 (undef) (.bool (b12_12)))) rfl rfl ?ywg378_391 ?rwg378_391
          case ywg378_391 =>
            cases b12_3
            · skip
              refine StepS.pure nP (by rfl) (fun w9 => ?_)
              have e9 : (b12_6 && (decide ((i : Int) = 0))) = b12_12 := by rw [HEb12_12.out, HEb12_6.out]
              rw [← e9]
              clear e9
              first | rfl | (go_simp; done) | (go_simp; rfl)
            · exact StepS.skip nP (by rfl)
          try simp only [Act.put, sA, sZ, sS]
          refine Ps.st (i := 13) (d := some 143) (u := (cond b12_3 (undef) (cond b12_12 (.pointer (some ⟨w.heap.size, 1, none⟩)) (undef)))) rfl rfl (by cases b12_3; (cases b12_12; exact StepS.skip nP rfl; exact StepS.pure nP rfl fun _ => rfl); exact StepS.skip nP rfl) ?_
          try simp only [Act.put, sA, sZ, sS]
          refine Ps.st (i := 14) (d := some 144) (u := (cond b12_3 (undef) (cond b12_12 (.int .u64 (next)) (undef)))) rfl rfl ?ywg378_393 ?rwg378_393
          case ywg378_393 =>
            cases b12_3
            · skip
              cases b12_12
              · exact StepS.skip nP (by rfl)
              · skip
                refine StepS.read [] (by kernel_rfl) nP (by rfl) (fun L9 m9 w9 hSh hAt hDn hS => ?_)
                have hT : Below _ _ w9 := hS
                have x0 : w9.cell? ⟨w.heap.size, 1, none⟩ = some (.int .u64 (next)) := (HB.out.ca hT).cell 1
                clear hT hS
                go_simp
                try rfl
            · exact StepS.skip nP (by rfl)
          try simp only [Act.put, sA, sZ, sS]
          refine Ps.st (i := 15) (d := some 145) (u := (cond b12_3 (undef) (cond b12_12 (.bool (decide ((2 : Int) ≤ next))) (undef)))) rfl rfl (by cases b12_3; (cases b12_12; exact StepS.skip nP rfl; exact StepS.pure nP rfl fun _ => rfl); exact StepS.skip nP rfl) ?_
          try simp only [Act.put, sA, sZ, sS]
          refine Ps.st (i := 16) (d := some 146) (u := (cond b12_3 (undef) (.bool (b12_12 && (decide ((2 : Int) ≤ next)))))) rfl rfl ?ywg378_395 ?rwg378_395
          case ywg378_395 =>
            cases b12_3
            · skip
              refine StepS.pure nP (by rfl) (fun w9 => ?_)
              cases b12_12 <;> (first | rfl | (go_simp; done) | (go_simp; rfl))
            · exact StepS.skip nP (by rfl)
          try simp only [Act.put, sA, sZ, sS]
          obtain ⟨f12, hb9⟩ : ∃ b : Bool, b = ((!over) || (((decide ((m : Int) = 0)) && (decide ((i : Int) = 0))) && (decide ((2 : Int) ≤ next)))) := ⟨_, rfl⟩
          have HEf12 := Lib.hid hb9
          clear hb9
          refine Ps.st (i := 17) (d := some 147) (u := (.bool (f12))) rfl rfl ?ywg378_396 ?rwg378_396
          case ywg378_396 =>
            refine StepS.pure nP (by rfl) (fun w9 => ?_)
            have e9 : (b12_3 || (b12_12 && (decide ((2 : Int) ≤ next)))) = f12 := by rw [HEf12.out, HEb12_3.out, HEb12_12.out]
            rw [← e9]
            clear e9
            cases b12_3 <;> (first | rfl | (go_simp; done) | (go_simp; rfl))
          try simp only [Act.put, sA, sZ, sS]
          refine Ps.st (i := 18) (d := some 2) (u := (.bool (f12))) rfl rfl (by exact StepS.pure nP rfl fun _ => rfl) ?_
          try simp only [Act.put, sA, sZ, sS]
          refine Ps.done (by kernel_rfl) (fun wg378 hS => ?_) _
          try generalize (cond b12_3 (undef) (cond b12_12 (.pointer (some ⟨w.heap.size, 1, none⟩)) (undef)) : Value) = zz398
          try generalize (cond b12_3 (undef) (cond b12_6 (.pointer (some ⟨w.heap.size, 2, none⟩)) (undef)) : Value) = zz399
          try generalize (cond b12_3 (undef) (cond b12_12 (.bool (decide ((2 : Int) ≤ next))) (undef)) : Value) = zz400
          try generalize (cond b12_3 (undef) (cond b12_6 (.bool (decide ((i : Int) = 0))) (undef)) : Value) = zz401
          try generalize (cond b12_3 (undef) (.bool (b12_12 && (decide ((2 : Int) ≤ next)))) : Value) = zz402
          try generalize (cond b12_3 (undef) (cond b12_6 (.int .i64 ((i : Int))) (undef)) : Value) = zz403
          try generalize (cond b12_3 (undef) (.bool (b12_6 && (decide ((i : Int) = 0)))) : Value) = zz404
          try generalize (cond b12_3 (undef) (cond b12_12 (.int .u64 (next)) (undef)) : Value) = zz405
          try generalize (cond b12_3 (undef) (cond b12_6 (.slice A i c) (undef)) : Value) = zz406
          try generalize (cond b12_3 (undef) (.bool (decide ((m : Int) = 0))) : Value) = zz407
          try generalize (cond b12_3 (undef) (.int .i64 ((m : Int))) : Value) = zz408
          try generalize (cond b12_3 (undef) (.bool (b12_12)) : Value) = zz409
          try generalize (cond b12_3 (undef) (.bool (b12_6)) : Value) = zz410
          have HW411 := Lib.hid (show Below w1.heap.size w1 wg378 from hS)
          clear hS
          obtain ⟨w512, rfl⟩ : ∃ x, x = wg378 := ⟨_, rfl⟩
          go_wp2
          go_ret
          exact ⟨ret_bool (by rw [HRR.out, ← HRR.out, HRL.out, HAE.out, HEf12.out]; unfold recT; dsimp only; rw [HLA.out, HLB.out, show decide ((m : Int) = 0) = decide (m = 0) from by rw [Bool.eq_iff_iff]; simp, show decide ((i : Int) = 0) = decide (i = 0) from by rw [Bool.eq_iff_iff]; simp]; simp [Bool.and_assoc]), bl_ca HBB.out HW411.out⟩
    · skip
      go_wp2
      go_ret
      exact ⟨ret_bool (by rw [HRR.out]; have h := HEf4.out; have hb := HBD.out.1; have hl := aheadB_len (lim := limR ⟨ses, next, ahead, buf, room, over⟩) (a := next) (l := ahead); unfold recB recM; dsimp only; rw [HLB.out]; rw [HLA.out] at hl; have hl2 := HLA.out; have hq : limR ⟨ses, next, ahead, buf, room, over⟩ ≤ next + 7 := (by unfold limR; dsimp only; rw [HLB.out]; split <;> omega); simp at h; simp; grind), bl_ca HBB.out HW210.out⟩
  · skip
    go_wp2
    go_ret
    exact ⟨ret_bool (by rw [HRR.out]; have h := HEf1.out; unfold recB recA; dsimp only; rw [HLB.out]; simp at h; simp; grind), bl_ca HBB.out HW167.out⟩
end Go.Proofs.Ytojghgbaiiajfaa
