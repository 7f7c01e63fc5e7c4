/- bowspritref22.Packet, RightReceiver. Conditions: the slices read so. -/
import Derived.Test.YtojghgbaiiajfaaPkH15
namespace Go.Proofs.Ytojghgbaiiajfaa
open Go.RowKit

set_option maxRecDepth 100000 in
set_option maxHeartbeats 16000000 in
theorem rpacket_any (F : Nat → Prop) (p : PK) (A : Option Addr) (n c : Nat) (w : World) (h : LR.rd w F A n p.b.rows) (hn : n ≤ 9223372036854775807) :
 Calls Try.prog 28 #[.agg (p.cells A n c)] w fun e w' => e = .returned (.bool (checkP p)) ∧ Below w.heap.size w w' := by
 obtain ⟨r, hr⟩ : ∃ r, r = checkP p := ⟨_, rfl⟩
 rw [← hr]
 have HRR := Lib.hid hr
 clear hr
 obtain ⟨kind, ses, seq, lim, rows, fin, cnt⟩ := p
 dsimp only at h
 have HL := Lib.hid (Lay.rd_len h)
 have b1 := bl_al (Below.refl w.heap.size w) (.cells #[.int .i64 kind, .int .u32 ses, .int .u64 seq, .int .u64 lim, .slice A n c, .bool fin, .int .u64 cnt] 47)
 have HB := Lib.hid (Blk.new w 47 #[.int .i64 kind, .int .u32 ses, .int .u64 seq, .int .u64 lim, .slice A n c, .bool fin, .int .u64 cnt])
 have HRD := Lib.hid (Lay.rd_below h b1)
 have HBB := Lib.hid b1
 clear h b1
 go_enter Try.func28, Try.ntmps28
 go_upto_region 1 with fail
 generalize w.alloc (.cells #[.int .i64 kind, .int .u32 ses, .int .u64 seq, .int .u64 lim, .slice A n c, .bool fin, .int .u64 cnt] 47) = w1 at *
 refine wp_region_ps0 .text (S := fun _ _ w' => Below w1.heap.size w1 w') (by kernel_rfl) ?spswg1 ?ppswg1
 case spswg1 =>
  exact (Below.refl w1.heap.size w1)
 refine Pz 0 (some 4) (.pointer (some ⟨w.heap.size, 1, none⟩)) rfl rfl (by exact StepS.pure nP rfl fun _ => rfl) ?_
 try simp only [Act.put, sA, sZ, sS]
 refine Pz 1 (some 5) (.int .u32 (ses)) rfl rfl ?ywg1_3 ?rwg1_3
 case ywg1_3 =>
  refine StepS.read [] (by kernel_rfl) nP (by rfl) (fun L9 m9 w9 hSh hAt hDn hS => ?_)
  have hT : Below _ _ w9 := hS
  have x0 : w9.cell? ⟨w.heap.size, 1, none⟩ = some (.int .u32 (ses)) := (HB.out.ca hT).cell 1
  clear hT hS
  go_simp
  try rfl
 try simp only [Act.put, sA, sZ, sS]
 refine Pz 2 (some 6) (.bool (sesB ses)) rfl rfl ?ywg1_4 ?rwg1_4
 case ywg1_4 =>
  refine StepS.call ?fwg1_4 ?awg1_4 [] (by kernel_rfl) (by rfl) (fun w9 => ?hwg1_4) (fun L9 m9 w9 hSh hAt hDn hS => ?cwg1_4)
  case hwg1_4 => go_simp; refine ⟨?_, ?_⟩ <;> rfl
  case cwg1_4 =>
   have hT : Below _ _ w9 := hS
   refine (rsession_any ses w9).mono ?_
   rintro e w8 ⟨rfl, rfl⟩
   exact ⟨rfl, hT⟩
 try simp only [Act.put, sA, sZ, sS]
 obtain ⟨f1, hb9⟩ : ∃ b : Bool, b = (!(sesB ses)) := ⟨_, rfl⟩
 have HEf1 := Lib.hid hb9
 clear hb9
 refine Pz 3 (some 7) (.bool (f1)) rfl rfl ?ywg1_5 ?rwg1_5
 case ywg1_5 =>
  refine StepS.pure nP (by rfl) (fun w9 => ?_)
  have e9 : (!(sesB ses)) = f1 := by rw [HEf1.out]
  rw [← e9]
  clear e9
  first | rfl | (go_simp; done) | (go_simp; rfl)
 try simp only [Act.put, sA, sZ, sS]
 refine Ps.done (by kernel_rfl) (fun wg1 hS => ?_) _
 have HW6 := Lib.hid (show Below w1.heap.size w1 wg1 from hS)
 clear hS
 obtain ⟨w107, rfl⟩ : ∃ x, x = wg1 := ⟨_, rfl⟩
 have HK := Lib.hid (show checkP ⟨kind, ses, seq, lim, ⟨rows, fin, cnt⟩⟩ = (sesB ses && ((decide (kind = 1) && (decide (lim = 0) && batchB ⟨rows, fin, cnt⟩ seq)) || (decide (kind = 2) && (((decide ((n : Int) = 0) && !fin) && decide (cnt = 0)) && (decide (1 ≤ seq) && (decide (seq ≤ 1099511627777) && (decide (seq - 1 ≤ lim) && decide (lim ≤ 1099511627776)))))))) from by
  unfold checkP eqBC
  rw [← HL.out]
  have e : decide ((rows.length : Int) = 0) = decide (rows = []) := by rw [Bool.eq_iff_iff]; simp
  dsimp only
  rw [e, Bool.eq_iff_iff]
  simp
  grind)
 cases f1
 · by_cases k1 : kind = 1
   · subst k1
     have x0 := (HB.out.ca HW6.out).cell 0
     go_upto_region 5 with fail
     clear x0
     refine wp_region_ps0 .text (S := fun _ _ w' => Below w1.heap.size w1 w') (by kernel_rfl) ?spswg8 ?ppswg8
     case spswg8 =>
      exact HW6.out
     refine Pz 0 (some 12) (.pointer (some ⟨w.heap.size, 3, none⟩)) rfl rfl (by exact StepS.pure nP rfl fun _ => rfl) ?_
     try simp only [Act.put, sA, sZ, sS]
     refine Pz 1 (some 13) (.int .u64 (lim)) rfl rfl ?ywg8_10 ?rwg8_10
     case ywg8_10 =>
      refine StepS.read [] (by kernel_rfl) nP (by rfl) (fun L9 m9 w9 hSh hAt hDn hS => ?_)
      have hT : Below _ _ w9 := hS
      have x0 : w9.cell? ⟨w.heap.size, 3, none⟩ = some (.int .u64 (lim)) := (HB.out.ca hT).cell 3
      clear hT hS
      go_simp
      try rfl
     try simp only [Act.put, sA, sZ, sS]
     refine Pz 2 (some 14) (.bool (decide (lim = 0))) rfl rfl (by exact StepS.pure nP rfl fun _ => rfl) ?_
     try simp only [Act.put, sA, sZ, sS]
     obtain ⟨b5_3, hb9⟩ : ∃ b : Bool, b = (decide (lim = 0)) := ⟨_, rfl⟩
     have HEb5_3 := Lib.hid hb9
     clear hb9
     refine Pz 3 (some 15) (.bool (b5_3)) rfl rfl ?ywg8_12 ?rwg8_12
     case ywg8_12 =>
      refine StepS.pure nP (by rfl) (fun w9 => ?_)
      have e9 : (decide (lim = 0)) = b5_3 := by rw [HEb5_3.out]
      rw [← e9]
      clear e9
      first | rfl | (go_simp; done) | (go_simp; rfl)
     try simp only [Act.put, sA, sZ, sS]
     refine Pz 4 (some 16) (cond b5_3 (.pointer (some ⟨w.heap.size, 4, none⟩)) (undef)) rfl rfl (by cases b5_3; exact StepS.skip nP rfl; exact StepS.pure nP rfl fun _ => rfl) ?_
     try simp only [Act.put, sA, sZ, sS]
     refine Pz 5 (some 17) (cond b5_3 (.agg #[.slice A n c, .bool (fin), .int .u64 (cnt)]) (undef)) rfl rfl ?ywg8_14 ?rwg8_14
     case ywg8_14 =>
      cases b5_3
      · exact StepS.skip nP (by rfl)
      · skip
        refine StepS.read [] (by kernel_rfl) nP (by rfl) (fun L9 m9 w9 hSh hAt hDn hS => ?_)
        have hT : Below _ _ w9 := hS
        have x0 : w9.cell? ⟨w.heap.size, 4, none⟩ = some (.slice A n c) := (HB.out.ca hT).cell 4
        have x1 : w9.cell? ⟨w.heap.size, 5, none⟩ = some (.bool (fin)) := (HB.out.ca hT).cell 5
        have x2 : w9.cell? ⟨w.heap.size, 6, none⟩ = some (.int .u64 (cnt)) := (HB.out.ca hT).cell 6
        clear hT hS
        go_simp
        try rfl
     try simp only [Act.put, sA, sZ, sS]
     refine Pz 6 (some 18) (cond b5_3 (.pointer (some ⟨w.heap.size, 2, none⟩)) (undef)) rfl rfl (by cases b5_3; exact StepS.skip nP rfl; exact StepS.pure nP rfl fun _ => rfl) ?_
     try simp only [Act.put, sA, sZ, sS]
     refine Pz 7 (some 19) (cond b5_3 (.int .u64 (seq)) (undef)) rfl rfl ?ywg8_16 ?rwg8_16
     case ywg8_16 =>
      cases b5_3
      · exact StepS.skip nP (by rfl)
      · skip
        refine StepS.read [] (by kernel_rfl) nP (by rfl) (fun L9 m9 w9 hSh hAt hDn hS => ?_)
        have hT : Below _ _ w9 := hS
        have x0 : w9.cell? ⟨w.heap.size, 2, none⟩ = some (.int .u64 (seq)) := (HB.out.ca hT).cell 2
        clear hT hS
        go_simp
        try rfl
     try simp only [Act.put, sA, sZ, sS]
     refine Pz 8 (some 20) (cond b5_3 (.bool (batchB ⟨rows, fin, cnt⟩ seq)) (undef)) rfl rfl ?ywg8_17 ?rwg8_17
     case ywg8_17 =>
      cases b5_3
      · exact StepS.skip nP (by rfl)
      · skip
        refine StepS.call ?fwg8_17 ?awg8_17 [] (by kernel_rfl) (by rfl) (fun w9 => ?hwg8_17) (fun L9 m9 w9 hSh hAt hDn hS => ?cwg8_17)
        case hwg8_17 => go_simp; refine ⟨?_, ?_⟩ <;> rfl
        case cwg8_17 =>
         have hT : Below _ _ w9 := hS
         refine (rbatch_any F ⟨rows, fin, cnt⟩ A n c seq w9 (Lay.rd_below HRD.out hT) hn).mono ?_
         rintro e w8 ⟨rfl, q8⟩
         exact ⟨rfl, bl_ca hT q8⟩
     try simp only [Act.put, sA, sZ, sS]
     obtain ⟨f5, hb9⟩ : ∃ b : Bool, b = ((decide (lim = 0)) && (batchB ⟨rows, fin, cnt⟩ seq)) := ⟨_, rfl⟩
     have HEf5 := Lib.hid hb9
     clear hb9
     refine Pz 9 (some 21) (.bool (f5)) rfl rfl ?ywg8_18 ?rwg8_18
     case ywg8_18 =>
      refine StepS.pure nP (by rfl) (fun w9 => ?_)
      have e9 : (b5_3 && (batchB ⟨rows, fin, cnt⟩ seq)) = f5 := by rw [HEf5.out, HEb5_3.out]
      rw [← e9]
      clear e9
      cases b5_3 <;> (first | rfl | (go_simp; done) | (go_simp; rfl))
     try simp only [Act.put, sA, sZ, sS]
     refine Pz 10 (some 2) (.bool (f5)) rfl rfl (by exact StepS.pure nP rfl fun _ => rfl) ?_
     try simp only [Act.put, sA, sZ, sS]
     refine Ps.done (by kernel_rfl) (fun wg8 hS => ?_) _
     try generalize (cond b5_3 (.agg #[.slice A n c, .bool (fin), .int .u64 (cnt)]) (undef) : Value) = zz20
     try generalize (cond b5_3 (.pointer (some ⟨w.heap.size, 2, none⟩)) (undef) : Value) = zz21
     try generalize (cond b5_3 (.pointer (some ⟨w.heap.size, 4, none⟩)) (undef) : Value) = zz22
     try generalize (cond b5_3 (.bool (batchB ⟨rows, fin, cnt⟩ seq)) (undef) : Value) = zz23
     try generalize (cond b5_3 (.int .u64 (seq)) (undef) : Value) = zz24
     have HW25 := Lib.hid (show Below w1.heap.size w1 wg8 from hS)
     clear hS
     obtain ⟨w126, rfl⟩ : ∃ x, x = wg8 := ⟨_, rfl⟩
     go_wp2
     go_ret
     exact ⟨ret_bool (by rw [HRR.out, HK.out, HEf5.out]; have h := HEf1.out; simp at h; simp [h]), bl_ca HBB.out HW25.out⟩
   · by_cases k2 : kind = 2
     · subst k2
       have x0 := (HB.out.ca HW6.out).cell 0
       go_upto_region 7 with fail
       clear x0 k1
       refine wp_region_ps0 .text (S := fun _ _ w' => Below w1.heap.size w1 w') (by kernel_rfl) ?spswg27 ?ppswg27
       case spswg27 =>
        exact HW6.out
       refine Pz 0 (some 24) (.pointer (some ⟨w.heap.size, 4, none⟩)) rfl rfl (by exact StepS.pure nP rfl fun _ => rfl) ?_
       try simp only [Act.put, sA, sZ, sS]
       refine Pz 1 (some 25) (.pointer (some ⟨w.heap.size, 4, none⟩)) rfl rfl (by exact StepS.pure nP rfl fun _ => rfl) ?_
       try simp only [Act.put, sA, sZ, sS]
       refine Pz 2 (some 26) (.slice A n c) rfl rfl ?ywg27_30 ?rwg27_30
       case ywg27_30 =>
        refine StepS.read [] (by kernel_rfl) nP (by rfl) (fun L9 m9 w9 hSh hAt hDn hS => ?_)
        have hT : Below _ _ w9 := hS
        have x0 : w9.cell? ⟨w.heap.size, 4, none⟩ = some (.slice A n c) := (HB.out.ca hT).cell 4
        clear hT hS
        go_simp
        try rfl
       try simp only [Act.put, sA, sZ, sS]
       refine Pz 3 (some 27) (.int .i64 ((n : Int))) rfl rfl (by exact StepS.pure nP rfl fun _ => by first | rfl | (go_simp; done) | (go_simp; rfl)) ?_
       try simp only [Act.put, sA, sZ, sS]
       refine Pz 4 (some 28) (.bool (decide ((n : Int) = 0))) rfl rfl (by exact StepS.pure nP rfl fun _ => rfl) ?_
       try simp only [Act.put, sA, sZ, sS]
       obtain ⟨b7_5, hb9⟩ : ∃ b : Bool, b = (decide ((n : Int) = 0)) := ⟨_, rfl⟩
       have HEb7_5 := Lib.hid hb9
       clear hb9
       refine Pz 5 (some 29) (.bool (b7_5)) rfl rfl ?ywg27_33 ?rwg27_33
       case ywg27_33 =>
        refine StepS.pure nP (by rfl) (fun w9 => ?_)
        have e9 : (decide ((n : Int) = 0)) = b7_5 := by rw [HEb7_5.out]
        rw [← e9]
        clear e9
        first | rfl | (go_simp; done) | (go_simp; rfl)
       try simp only [Act.put, sA, sZ, sS]
       refine Pz 6 (some 30) (cond b7_5 (.pointer (some ⟨w.heap.size, 4, none⟩)) (undef)) rfl rfl (by cases b7_5; exact StepS.skip nP rfl; exact StepS.pure nP rfl fun _ => rfl) ?_
       try simp only [Act.put, sA, sZ, sS]
       refine Pz 7 (some 31) (cond b7_5 (.pointer (some ⟨w.heap.size, 5, none⟩)) (undef)) rfl rfl (by cases b7_5; exact StepS.skip nP rfl; exact StepS.pure nP rfl fun _ => rfl) ?_
       try simp only [Act.put, sA, sZ, sS]
       refine Pz 8 (some 32) (cond b7_5 (.bool (fin)) (undef)) rfl rfl ?ywg27_36 ?rwg27_36
       case ywg27_36 =>
        cases b7_5
        · exact StepS.skip nP (by rfl)
        · skip
          refine StepS.read [] (by kernel_rfl) nP (by rfl) (fun L9 m9 w9 hSh hAt hDn hS => ?_)
          have hT : Below _ _ w9 := hS
          have x0 : w9.cell? ⟨w.heap.size, 5, none⟩ = some (.bool (fin)) := (HB.out.ca hT).cell 5
          clear hT hS
          go_simp
          try rfl
       try simp only [Act.put, sA, sZ, sS]
       refine Pz 9 (some 33) (cond b7_5 (.bool (!fin)) (undef)) rfl rfl (by cases b7_5; exact StepS.skip nP rfl; exact StepS.pure nP rfl fun _ => rfl) ?_
       try simp only [Act.put, sA, sZ, sS]
       refine Pz 10 (some 34) (.bool (b7_5 && !fin)) rfl rfl ?ywg27_38 ?rwg27_38
       case ywg27_38 =>
        refine StepS.pure nP (by rfl) (fun w9 => ?_)
        cases b7_5 <;> (first | rfl | (go_simp; done) | (go_simp; rfl))
       try simp only [Act.put, sA, sZ, sS]
       obtain ⟨b7_11, hb9⟩ : ∃ b : Bool, b = ((decide ((n : Int) = 0)) && !fin) := ⟨_, rfl⟩
       have HEb7_11 := Lib.hid hb9
       clear hb9
       refine Pz 11 (some 35) (.bool (b7_11)) rfl rfl ?ywg27_39 ?rwg27_39
       case ywg27_39 =>
        refine StepS.pure nP (by rfl) (fun w9 => ?_)
        have e9 : (b7_5 && !fin) = b7_11 := by rw [HEb7_11.out, HEb7_5.out]
        rw [← e9]
        clear e9
        first | rfl | (go_simp; done) | (go_simp; rfl)
       try simp only [Act.put, sA, sZ, sS]
       refine Pz 12 (some 36) (cond b7_11 (.pointer (some ⟨w.heap.size, 4, none⟩)) (undef)) rfl rfl (by cases b7_11; exact StepS.skip nP rfl; exact StepS.pure nP rfl fun _ => rfl) ?_
       try simp only [Act.put, sA, sZ, sS]
       refine Pz 13 (some 37) (cond b7_11 (.pointer (some ⟨w.heap.size, 6, none⟩)) (undef)) rfl rfl (by cases b7_11; exact StepS.skip nP rfl; exact StepS.pure nP rfl fun _ => rfl) ?_
       try simp only [Act.put, sA, sZ, sS]
       refine Pz 14 (some 38) (cond b7_11 (.int .u64 (cnt)) (undef)) rfl rfl ?ywg27_42 ?rwg27_42
       case ywg27_42 =>
        cases b7_11
        · exact StepS.skip nP (by rfl)
        · skip
          refine StepS.read [] (by kernel_rfl) nP (by rfl) (fun L9 m9 w9 hSh hAt hDn hS => ?_)
          have hT : Below _ _ w9 := hS
          have x0 : w9.cell? ⟨w.heap.size, 6, none⟩ = some (.int .u64 (cnt)) := (HB.out.ca hT).cell 6
          clear hT hS
          go_simp
          try rfl
       try simp only [Act.put, sA, sZ, sS]
       refine Pz 15 (some 39) (cond b7_11 (.bool (decide (cnt = 0))) (undef)) rfl rfl (by cases b7_11; exact StepS.skip nP rfl; exact StepS.pure nP rfl fun _ => rfl) ?_
       try simp only [Act.put, sA, sZ, sS]
       obtain ⟨f7, hb9⟩ : ∃ b : Bool, b = (((decide ((n : Int) = 0)) && !fin) && (decide (cnt = 0))) := ⟨_, rfl⟩
       have HEf7 := Lib.hid hb9
       clear hb9
       refine Pz 16 (some 40) (.bool (f7)) rfl rfl ?ywg27_44 ?rwg27_44
       case ywg27_44 =>
        refine StepS.pure nP (by rfl) (fun w9 => ?_)
        have e9 : (b7_11 && (decide (cnt = 0))) = f7 := by rw [HEf7.out, HEb7_11.out]
        rw [← e9]
        clear e9
        cases b7_11 <;> (first | rfl | (go_simp; done) | (go_simp; rfl))
       try simp only [Act.put, sA, sZ, sS]
       refine Pz 17 (some 3) (.bool (f7)) rfl rfl (by exact StepS.pure nP rfl fun _ => rfl) ?_
       try simp only [Act.put, sA, sZ, sS]
       refine Ps.done (by kernel_rfl) (fun wg27 hS => ?_) _
       try generalize (cond b7_11 (.pointer (some ⟨w.heap.size, 4, none⟩)) (undef) : Value) = zz46
       try generalize (cond b7_11 (.pointer (some ⟨w.heap.size, 6, none⟩)) (undef) : Value) = zz47
       try generalize (cond b7_5 (.pointer (some ⟨w.heap.size, 4, none⟩)) (undef) : Value) = zz48
       try generalize (cond b7_5 (.pointer (some ⟨w.heap.size, 5, none⟩)) (undef) : Value) = zz49
       try generalize (cond b7_11 (.bool (decide (cnt = 0))) (undef) : Value) = zz50
       try generalize (cond b7_11 (.int .u64 (cnt)) (undef) : Value) = zz51
       try generalize (cond b7_5 (.bool (!fin)) (undef) : Value) = zz52
       try generalize (cond b7_5 (.bool (fin)) (undef) : Value) = zz53
       try generalize (.bool (b7_5 && !fin) : Value) = zz54
       have HW55 := Lib.hid (show Below w1.heap.size w1 wg27 from hS)
       clear hS
       obtain ⟨w156, rfl⟩ : ∃ x, x = wg27 := ⟨_, rfl⟩
       go_upto_region 8 with fail
       have HW1 := Lib.hid (fun h : 1 ≤ seq ∧ seq ≤ 1099511627777 => (u64_in (x := seq - 1) (by omega) (by omega)))
       refine wp_region_ps0 .text (S := fun _ _ w' => Below w1.heap.size w1 w') (by kernel_rfl) ?spswg57 ?ppswg57
       case spswg57 =>
        exact HW55.out
       refine Pz 0 (some 41) (.bool (f7)) rfl rfl (by exact StepS.pure nP rfl fun _ => rfl) ?_
       try simp only [Act.put, sA, sZ, sS]
       obtain ⟨b8_1, hb9⟩ : ∃ b : Bool, b = ((((decide ((n : Int) = 0)) && !fin) && (decide (cnt = 0)))) := ⟨_, rfl⟩
       have HEb8_1 := Lib.hid hb9
       clear hb9
       refine Pz 1 (some 42) (.bool (b8_1)) rfl rfl ?ywg57_59 ?rwg57_59
       case ywg57_59 =>
        refine StepS.pure nP (by rfl) (fun w9 => ?_)
        have e9 : (f7) = b8_1 := by rw [HEb8_1.out, HEf7.out]
        rw [← e9]
        clear e9
        first | rfl | (go_simp; done) | (go_simp; rfl)
       try simp only [Act.put, sA, sZ, sS]
       refine Pz 2 (some 43) (cond b8_1 (.pointer (some ⟨w.heap.size, 2, none⟩)) (undef)) rfl rfl (by cases b8_1; exact StepS.skip nP rfl; exact StepS.pure nP rfl fun _ => rfl) ?_
       try simp only [Act.put, sA, sZ, sS]
       refine Pz 3 (some 44) (cond b8_1 (.int .u64 (seq)) (undef)) rfl rfl ?ywg57_61 ?rwg57_61
       case ywg57_61 =>
        cases b8_1
        · exact StepS.skip nP (by rfl)
        · skip
          refine StepS.read [] (by kernel_rfl) nP (by rfl) (fun L9 m9 w9 hSh hAt hDn hS => ?_)
          have hT : Below _ _ w9 := hS
          have x0 : w9.cell? ⟨w.heap.size, 2, none⟩ = some (.int .u64 (seq)) := (HB.out.ca hT).cell 2
          clear hT hS
          go_simp
          try rfl
       try simp only [Act.put, sA, sZ, sS]
       refine Pz 4 (some 45) (cond b8_1 (.bool (decide ((1 : Int) ≤ seq))) (undef)) rfl rfl (by cases b8_1; exact StepS.skip nP rfl; exact StepS.pure nP rfl fun _ => rfl) ?_
       try simp only [Act.put, sA, sZ, sS]
       refine Pz 5 (some 46) (.bool (b8_1 && (decide ((1 : Int) ≤ seq)))) rfl rfl ?ywg57_63 ?rwg57_63
       case ywg57_63 =>
        refine StepS.pure nP (by rfl) (fun w9 => ?_)
        cases b8_1 <;> (first | rfl | (go_simp; done) | (go_simp; rfl))
       try simp only [Act.put, sA, sZ, sS]
       obtain ⟨b8_6, hb9⟩ : ∃ b : Bool, b = (((((decide ((n : Int) = 0)) && !fin) && (decide (cnt = 0)))) && (decide ((1 : Int) ≤ seq))) := ⟨_, rfl⟩
       have HEb8_6 := Lib.hid hb9
       clear hb9
       refine Pz 6 (some 47) (.bool (b8_6)) rfl rfl ?ywg57_64 ?rwg57_64
       case ywg57_64 =>
        refine StepS.pure nP (by rfl) (fun w9 => ?_)
        have e9 : (b8_1 && (decide ((1 : Int) ≤ seq))) = b8_6 := by rw [HEb8_6.out, HEb8_1.out]
        rw [← e9]
        clear e9
        first | rfl | (go_simp; done) | (go_simp; rfl)
       try simp only [Act.put, sA, sZ, sS]
       refine Pz 7 (some 48) (cond b8_6 (.pointer (some ⟨w.heap.size, 2, none⟩)) (undef)) rfl rfl (by cases b8_6; exact StepS.skip nP rfl; exact StepS.pure nP rfl fun _ => rfl) ?_
       try simp only [Act.put, sA, sZ, sS]
       refine Pz 8 (some 49) (cond b8_6 (.int .u64 (seq)) (undef)) rfl rfl ?ywg57_66 ?rwg57_66
       case ywg57_66 =>
        cases b8_6
        · exact StepS.skip nP (by rfl)
        · skip
          refine StepS.read [] (by kernel_rfl) nP (by rfl) (fun L9 m9 w9 hSh hAt hDn hS => ?_)
          have hT : Below _ _ w9 := hS
          have x0 : w9.cell? ⟨w.heap.size, 2, none⟩ = some (.int .u64 (seq)) := (HB.out.ca hT).cell 2
          clear hT hS
          go_simp
          try rfl
       try simp only [Act.put, sA, sZ, sS]
       refine Pz 9 (some 50) (cond b8_6 (.bool (decide (seq ≤ 1099511627777))) (undef)) rfl rfl (by cases b8_6; exact StepS.skip nP rfl; exact StepS.pure nP rfl fun _ => rfl) ?_
       try simp only [Act.put, sA, sZ, sS]
       refine Pz 10 (some 51) (.bool (b8_6 && (decide (seq ≤ 1099511627777)))) rfl rfl ?ywg57_68 ?rwg57_68
       case ywg57_68 =>
        refine StepS.pure nP (by rfl) (fun w9 => ?_)
        cases b8_6 <;> (first | rfl | (go_simp; done) | (go_simp; rfl))
       try simp only [Act.put, sA, sZ, sS]
       obtain ⟨b8_11, hb9⟩ : ∃ b : Bool, b = ((((((decide ((n : Int) = 0)) && !fin) && (decide (cnt = 0)))) && (decide ((1 : Int) ≤ seq))) && (decide (seq ≤ 1099511627777))) := ⟨_, rfl⟩
       have HEb8_11 := Lib.hid hb9
       clear hb9
       refine Pz 11 (some 52) (.bool (b8_11)) rfl rfl ?ywg57_69 ?rwg57_69
       case ywg57_69 =>
        refine StepS.pure nP (by rfl) (fun w9 => ?_)
        have e9 : (b8_6 && (decide (seq ≤ 1099511627777))) = b8_11 := by rw [HEb8_11.out, HEb8_6.out]
        rw [← e9]
        clear e9
        first | rfl | (go_simp; done) | (go_simp; rfl)
       try simp only [Act.put, sA, sZ, sS]
       refine Pz 12 (some 53) (cond b8_11 (.pointer (some ⟨w.heap.size, 3, none⟩)) (undef)) rfl rfl (by cases b8_11; exact StepS.skip nP rfl; exact StepS.pure nP rfl fun _ => rfl) ?_
       try simp only [Act.put, sA, sZ, sS]
       refine Pz 13 (some 54) (cond b8_11 (.int .u64 (lim)) (undef)) rfl rfl ?ywg57_71 ?rwg57_71
       case ywg57_71 =>
        cases b8_11
        · exact StepS.skip nP (by rfl)
        · skip
          refine StepS.read [] (by kernel_rfl) nP (by rfl) (fun L9 m9 w9 hSh hAt hDn hS => ?_)
          have hT : Below _ _ w9 := hS
          have x0 : w9.cell? ⟨w.heap.size, 3, none⟩ = some (.int .u64 (lim)) := (HB.out.ca hT).cell 3
          clear hT hS
          go_simp
          try rfl
       try simp only [Act.put, sA, sZ, sS]
       refine Pz 14 (some 55) (cond b8_11 (.pointer (some ⟨w.heap.size, 2, none⟩)) (undef)) rfl rfl (by cases b8_11; exact StepS.skip nP rfl; exact StepS.pure nP rfl fun _ => rfl) ?_
       try simp only [Act.put, sA, sZ, sS]
       refine Pz 15 (some 56) (cond b8_11 (.int .u64 (seq)) (undef)) rfl rfl ?ywg57_73 ?rwg57_73
       case ywg57_73 =>
        cases b8_11
        · exact StepS.skip nP (by rfl)
        · skip
          refine StepS.read [] (by kernel_rfl) nP (by rfl) (fun L9 m9 w9 hSh hAt hDn hS => ?_)
          have hT : Below _ _ w9 := hS
          have x0 : w9.cell? ⟨w.heap.size, 2, none⟩ = some (.int .u64 (seq)) := (HB.out.ca hT).cell 2
          clear hT hS
          go_simp
          try rfl
       try simp only [Act.put, sA, sZ, sS]
       refine Pz 16 (some 57) (cond b8_11 (.int .u64 (IntKind.u64.wrap (seq - 1))) (undef)) rfl rfl (by cases b8_11; exact StepS.skip nP rfl; exact StepS.pure nP rfl fun _ => rfl) ?_
       try simp only [Act.put, sA, sZ, sS]
       refine Pz 17 (some 58) (cond b8_11 (.bool (decide ((IntKind.u64.wrap (seq - 1)) ≤ lim))) (undef)) rfl rfl (by cases b8_11; exact StepS.skip nP rfl; exact StepS.pure nP rfl fun _ => rfl) ?_
       try simp only [Act.put, sA, sZ, sS]
       refine Pz 18 (some 59) (.bool (b8_11 && (decide ((IntKind.u64.wrap (seq - 1)) ≤ lim)))) rfl rfl ?ywg57_76 ?rwg57_76
       case ywg57_76 =>
        refine StepS.pure nP (by rfl) (fun w9 => ?_)
        cases b8_11 <;> (first | rfl | (go_simp; done) | (go_simp; rfl))
       try simp only [Act.put, sA, sZ, sS]
       obtain ⟨b8_19, hb9⟩ : ∃ b : Bool, b = (((((((decide ((n : Int) = 0)) && !fin) && (decide (cnt = 0)))) && (decide ((1 : Int) ≤ seq))) && (decide (seq ≤ 1099511627777))) && (decide ((IntKind.u64.wrap (seq - 1)) ≤ lim))) := ⟨_, rfl⟩
       have HEb8_19 := Lib.hid hb9
       clear hb9
       refine Pz 19 (some 60) (.bool (b8_19)) rfl rfl ?ywg57_77 ?rwg57_77
       case ywg57_77 =>
        refine StepS.pure nP (by rfl) (fun w9 => ?_)
        have e9 : (b8_11 && (decide ((IntKind.u64.wrap (seq - 1)) ≤ lim))) = b8_19 := by rw [HEb8_19.out, HEb8_11.out]
        rw [← e9]
        clear e9
        first | rfl | (go_simp; done) | (go_simp; rfl)
       try simp only [Act.put, sA, sZ, sS]
       refine Pz 20 (some 61) (cond b8_19 (.pointer (some ⟨w.heap.size, 3, none⟩)) (undef)) rfl rfl (by cases b8_19; exact StepS.skip nP rfl; exact StepS.pure nP rfl fun _ => rfl) ?_
       try simp only [Act.put, sA, sZ, sS]
       refine Pz 21 (some 62) (cond b8_19 (.int .u64 (lim)) (undef)) rfl rfl ?ywg57_79 ?rwg57_79
       case ywg57_79 =>
        cases b8_19
        · exact StepS.skip nP (by rfl)
        · skip
          refine StepS.read [] (by kernel_rfl) nP (by rfl) (fun L9 m9 w9 hSh hAt hDn hS => ?_)
          have hT : Below _ _ w9 := hS
          have x0 : w9.cell? ⟨w.heap.size, 3, none⟩ = some (.int .u64 (lim)) := (HB.out.ca hT).cell 3
          clear hT hS
          go_simp
          try rfl
       try simp only [Act.put, sA, sZ, sS]
       refine Pz 22 (some 63) (cond b8_19 (.bool (decide (lim ≤ 1099511627776))) (undef)) rfl rfl (by cases b8_19; exact StepS.skip nP rfl; exact StepS.pure nP rfl fun _ => rfl) ?_
       try simp only [Act.put, sA, sZ, sS]
       obtain ⟨f8, hb9⟩ : ∃ b : Bool, b = ((((((((decide ((n : Int) = 0)) && !fin) && (decide (cnt = 0)))) && (decide ((1 : Int) ≤ seq))) && (decide (seq ≤ 1099511627777))) && (decide ((IntKind.u64.wrap (seq - 1)) ≤ lim))) && (decide (lim ≤ 1099511627776))) := ⟨_, rfl⟩
       have HEf8 := Lib.hid hb9
       clear hb9
       refine Pz 23 (some 64) (.bool (f8)) rfl rfl ?ywg57_81 ?rwg57_81
       case ywg57_81 =>
        refine StepS.pure nP (by rfl) (fun w9 => ?_)
        have e9 : (b8_19 && (decide (lim ≤ 1099511627776))) = f8 := by rw [HEf8.out, HEb8_19.out]
        rw [← e9]
        clear e9
        cases b8_19 <;> (first | rfl | (go_simp; done) | (go_simp; rfl))
       try simp only [Act.put, sA, sZ, sS]
       refine Pz 24 (some 2) (.bool (f8)) rfl rfl (by exact StepS.pure nP rfl fun _ => rfl) ?_
       try simp only [Act.put, sA, sZ, sS]
       refine Ps.done (by kernel_rfl) (fun wg57 hS => ?_) _
       try generalize (cond b8_11 (.bool (decide ((IntKind.u64.wrap (seq - 1)) ≤ lim))) (undef) : Value) = zz83
       try generalize (.bool (b8_11 && (decide ((IntKind.u64.wrap (seq - 1)) ≤ lim))) : Value) = zz84
       try generalize (cond b8_11 (.pointer (some ⟨w.heap.size, 3, none⟩)) (undef) : Value) = zz85
       try generalize (cond b8_19 (.pointer (some ⟨w.heap.size, 3, none⟩)) (undef) : Value) = zz86
       try generalize (cond b8_11 (.int .u64 (IntKind.u64.wrap (seq - 1))) (undef) : Value) = zz87
       try generalize (cond b8_11 (.pointer (some ⟨w.heap.size, 2, none⟩)) (undef) : Value) = zz88
       try generalize (cond b8_1 (.pointer (some ⟨w.heap.size, 2, none⟩)) (undef) : Value) = zz89
       try generalize (cond b8_6 (.pointer (some ⟨w.heap.size, 2, none⟩)) (undef) : Value) = zz90
       try generalize (cond b8_19 (.bool (decide (lim ≤ 1099511627776))) (undef) : Value) = zz91
       try generalize (cond b8_6 (.bool (decide (seq ≤ 1099511627777))) (undef) : Value) = zz92
       try generalize (cond b8_1 (.bool (decide ((1 : Int) ≤ seq))) (undef) : Value) = zz93
       try generalize (.bool (b8_6 && (decide (seq ≤ 1099511627777))) : Value) = zz94
       try generalize (.bool (b8_1 && (decide ((1 : Int) ≤ seq))) : Value) = zz95
       try generalize (cond b8_19 (.int .u64 (lim)) (undef) : Value) = zz96
       try generalize (cond b8_11 (.int .u64 (seq)) (undef) : Value) = zz97
       try generalize (cond b8_11 (.int .u64 (lim)) (undef) : Value) = zz98
       try generalize (cond b8_6 (.int .u64 (seq)) (undef) : Value) = zz99
       try generalize (cond b8_1 (.int .u64 (seq)) (undef) : Value) = zz100
       have HW101 := Lib.hid (show Below w1.heap.size w1 wg57 from hS)
       clear hS
       obtain ⟨w202, rfl⟩ : ∃ x, x = wg57 := ⟨_, rfl⟩
       go_wp2
       go_ret
       exact ⟨ret_bool (by rw [HRR.out, HK.out, HEf8.out]; have h := HEf1.out; have hw := HW1.out; simp at h; rw [h]; by_cases h1 : 1 ≤ seq ∧ seq ≤ 1099511627777; (rw [hw h1]; simp [h1]; grind); (simp; grind)), bl_ca HBB.out HW101.out⟩
     · have t1 : (kind == 1) = false := by simpa using k1
       have t2 : (kind == 2) = false := by simpa using k2
       have x0 := (HB.out.ca HW6.out).cell 0
       go_wp2
       go_ret
       exact ⟨ret_bool (by rw [HRR.out, HK.out]; simp [k1, k2]), bl_ca HBB.out HW6.out⟩
 · skip
   go_wp2
   go_ret
   exact ⟨ret_bool (by rw [HRR.out, HK.out]; have h := HEf1.out; simp at h; simp [h]), bl_ca HBB.out HW6.out⟩
end Go.Proofs.Ytojghgbaiiajfaa
