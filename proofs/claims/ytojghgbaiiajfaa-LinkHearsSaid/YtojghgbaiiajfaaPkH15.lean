/- The reference's Right*, Packet and what they call. Conditions: the slices read so. -/
import Derived.Test.YtojghgbaiiajfaaPkH14
namespace Go.Proofs.Ytojghgbaiiajfaa
open Go.RowKit
set_option maxRecDepth 100000 in
theorem rsession_any (n : Int) (w : World) : Calls Try.prog 58 #[.int .u32 n] w fun e w' => e = .returned (.bool (sesB n)) ∧ w = w' := by
 have HR := Lib.hid (show sesB n = (decide (1 ≤ n) && decide (n ≤ 2147483647)) from rfl)
 generalize sesB n = r at *
 go_enter Try.func58, Try.ntmps58
 go_wp2
 all_goals
  go_ret
  exact ⟨ret_bool (by rw [HR.out]; simp [*] <;> omega), rfl⟩
theorem beq_dec (x y : Int) : (x == y) = decide (x = y) := rfl
theorem allD_at {α : Type} {f : α → Bool} {l : List α} {i : Nat} {x : α} (h : l[i]? = some x) : (l.drop i).all f = (f x && (l.drop (i + 1)).all f) := by rw [drop_at h, List.all_cons]
theorem rowOk_all (r : List VV) : rowOk r = (decide ((r.length : Int) ≤ 16) && r.all VV.ok) := by unfold rowOk; rw [not_any]
theorem rowsOk_all (l : List (List VV)) : rowsOk l = (decide (0 < (l.length : Int)) && decide ((l.length : Int) ≤ 4) && l.all rowOk) := by unfold rowsOk; rw [not_any]

set_option maxRecDepth 100000 in
set_option maxHeartbeats 8000000 in
theorem right05_any (F : Nat → Prop) (A : Option Addr) (m c : Nat) (l : List VV) (w : World) (h : LV.rd w F A m l) (hm : m ≤ 9223372036854775807) :
 Calls Try.prog 119 #[.slice A m c] w fun e w' => e = .returned (.bool (rowOk l)) ∧ Below w.heap.size w w' := by
 have HL := Lib.hid (Lay.rd_len h)
 obtain ⟨r, hr⟩ : ∃ r, r = rowOk l := ⟨_, rfl⟩
 rw [← hr]
 have HR := Lib.hid (hr.trans (rowOk_all l))
 clear hr
 by_cases h16 : m ≤ 16
 · have h17 : decide ((m : Int) ≤ 16) = true := by simp; omega
   have h18 : decide ((16 : Int) < (m : Int)) = false := by simp; omega
   have HQ := Lib.hid (show r = l.all VV.ok from by rw [HR.out, HL.out, h17]; rfl)
   have hm16 : (m : Int) ≤ 16 := by omega
   clear h17 h18 HR
   go_enter Try.func119, Try.ntmps119
   go_wp2_with fail
   go_loopg [3] m (fun g a wr => ∃ i : Nat, i + g = m ∧ a = .int .i64 i ∧ r = (l.drop i).all VV.ok ∧ Below w.heap.size w wr)
   case atStart => exact ⟨0, by omega, rfl, by rw [HQ.out]; simp, Below.refl _ _⟩
   case round =>
    obtain ⟨i, hig, rfl, hri, bb⟩ := hrel
    have HI := Lib.hid hri
    have HBB := Lib.hid bb
    clear hri
    by_cases hlt : i < m
    · have hi1 : (i : Int) < (m : Int) := by omega
      obtain ⟨p, v, rfl, hx, s1⟩ := LV_at (Lay.rd_below h bb) hlt
      have e0 := s1.c0
      have e1 := s1.c1
      have e2 := s1.c2
      have e3 := s1.c3
      have HS := Lib.hid (allD_at (f := VV.ok) hx)
      have HC := Lib.hid (fun W => right_any v.k v.n v.u v.s W)
      rw [show rightB v.k v.n v.u v.s = v.ok from rfl] at HC
      clear hx s1 bb
      obtain ⟨q, hq⟩ : ∃ q, q = v.ok := ⟨_, rfl⟩
      rw [← hq] at HC HS
      clear hq
      go_wp2_with fail
      refine (HC.out _).mono ?_
      rintro e w2 ⟨rfl, q2⟩
      have b2 := Lib.hid (bl_ca HBB.out q2)
      clear q2 e0 e1 e2 e3
      cases q
      · go_wp2
        go_ret
        exact ⟨ret_bool (by rw [HI.out, HS.out]; rfl), b2.out⟩
      · go_wp2
        go_roundg (gk - 1)
        · exact ⟨i + 1, by omega, by go_num, by rw [HI.out, HS.out]; simp, b2.out⟩
        · omega
    · obtain rfl : i = m := by omega
      have hi1 : (i : Int) ≤ (i : Int) := by omega
      clear bb
      go_wp2
      go_ret
      exact ⟨ret_bool (by rw [HI.out, List.drop_of_length_le (by rw [HL.out]; exact Nat.le_refl _)]; rfl), HBB.out⟩
 · have h18 : (16 : Int) < (m : Int) := by omega
   have HQ := Lib.hid (show r = false from by rw [HR.out, HL.out, show decide ((m : Int) ≤ 16) = false from by simp; omega]; rfl)
   clear HR h
   go_enter Try.func119, Try.ntmps119
   go_wp2
   go_ret
   exact ⟨ret_bool (by rw [HQ.out]), Below.refl _ _⟩

set_option maxRecDepth 100000 in
set_option maxHeartbeats 8000000 in
theorem rrows_any (F : Nat → Prop) (A : Option Addr) (m c : Nat) (l : List (List VV)) (w : World) (h : LR.rd w F A m l) (hm : m ≤ 9223372036854775807) :
 Calls Try.prog 104 #[.slice A m c] w fun e w' => e = .returned (.bool (rowsOk l)) ∧ Below w.heap.size w w' := by
 have HL := Lib.hid (Lay.rd_len h)
 obtain ⟨r, hr⟩ : ∃ r, r = rowsOk l := ⟨_, rfl⟩
 rw [← hr]
 have HR := Lib.hid (hr.trans (rowsOk_all l))
 clear hr
 go_enter Try.func104, Try.ntmps104
 go_wp2_with fail
 go_loopg [7] m (fun g a wr => ∃ i : Nat, i + g = m ∧ a = .int .i64 i ∧ l.all rowOk = (l.drop i).all rowOk ∧ Below w.heap.size w wr)
 case atStart => exact ⟨0, by omega, rfl, by simp, Below.refl _ _⟩
 case round =>
  obtain ⟨i, hig, rfl, hri, bb⟩ := hrel
  have HI := Lib.hid hri
  have HBB := Lib.hid bb
  clear hri
  by_cases hlt : i < m
  · have hi1 : (i : Int) < (m : Int) := by omega
    obtain ⟨p, rw_, B, k, d, rfl, hx, e0, hk1, hk2, hrd⟩ := LR_at (Lay.rd_below h bb) hlt
    have HS := Lib.hid (allD_at (f := rowOk) hx)
    have HC := Lib.hid (right05_any F B k d rw_ wr hrd (Nat.le_trans hk1 hk2))
    clear hx hrd bb hk1 hk2
    obtain ⟨q, hq⟩ : ∃ q, q = rowOk rw_ := ⟨_, rfl⟩
    rw [← hq] at HC HS
    clear hq
    go_wp2_with fail
    refine HC.out.mono ?_
    rintro e w2 ⟨rfl, q2⟩
    have b2 := Lib.hid (bl_ca HBB.out q2)
    clear q2 e0 HC
    cases q
    · go_wp2
      go_ret
      exact ⟨ret_bool (by rw [HR.out, HI.out, HS.out]; simp), b2.out⟩
    · go_wp2
      go_roundg (gk - 1)
      · exact ⟨i + 1, by omega, by go_num, by rw [HI.out, HS.out]; simp, b2.out⟩
      · omega
  · obtain rfl : i = m := by omega
    have hi1 : (i : Int) ≤ (i : Int) := by omega
    have HT := Lib.hid (show r = (decide (0 < (i : Int)) && decide ((i : Int) ≤ 4)) from by rw [HR.out, HI.out, HL.out, List.drop_of_length_le (by rw [HL.out]; exact Nat.le_refl _)]; simp)
    clear bb h
    go_wp2
    all_goals
     go_ret
     exact ⟨ret_bool (by rw [HT.out]; simp <;> omega), HBB.out⟩

set_option maxRecDepth 100000 in
set_option maxHeartbeats 8000000 in
theorem rbatch_any (F : Nat → Prop) (b : BC) (A : Option Addr) (n c : Nat) (seq : Int) (w : World) (h : LR.rd w F A n b.rows) (hn : n ≤ 9223372036854775807) :
 Calls Try.prog 69 #[.agg (b.cells A n c), .int .u64 seq] w fun e w' => e = .returned (.bool (batchB b seq)) ∧ Below w.heap.size w w' := by
 obtain ⟨r, hr⟩ : ∃ r, r = batchB b seq := ⟨_, rfl⟩
 rw [← hr]
 have HRR := Lib.hid hr
 clear hr
 obtain ⟨rows, fin, cnt⟩ := b
 dsimp only at h
 have b1 := bl_al (Below.refl w.heap.size w) (.cells #[.slice A n c, .bool fin, .int .u64 cnt] 45)
 have HB := Lib.hid (Blk.new w 45 #[.slice A n c, .bool fin, .int .u64 cnt])
 have HL := Lib.hid (Lay.rd_len h)
 have h1 := Lay.rd_below h b1
 have HBB := Lib.hid b1
 have HRW := Lib.hid (fun W (q : Below (w.alloc (.cells #[.slice A n c, .bool fin, .int .u64 cnt] 45)).heap.size (w.alloc (.cells #[.slice A n c, .bool fin, .int .u64 cnt] 45)) W) => rrows_any F A n c rows W (Lay.rd_below h1 q) hn)
 clear h b1 h1
 go_enter Try.func69, Try.ntmps69
 go_upto_region 1 with fail
 generalize w.alloc (.cells #[.slice A n c, .bool fin, .int .u64 cnt] 45) = w1 at *
 refine wp_region_ps0 .text (S := fun _ _ w' => Below w1.heap.size w1 w') (by kernel_rfl) ?spswg1 ?ppswg1
 case spswg1 =>
  exact (Below.refl w1.heap.size w1)
 refine Pz 0 (some 5) (.int .u64 (seq)) rfl rfl (by exact StepS.pure nP rfl fun _ => rfl) ?_
 try simp only [Act.put, sA, sZ, sS]
 refine Pz 1 (some 6) (.bool (decide (seq < 1))) rfl rfl (by exact StepS.pure nP rfl fun _ => rfl) ?_
 try simp only [Act.put, sA, sZ, sS]
 obtain ⟨b1_2, hb9⟩ : ∃ b : Bool, b = (decide (seq < 1)) := ⟨_, rfl⟩
 have HEb1_2 := Lib.hid hb9
 clear hb9
 refine Pz 2 (some 7) (.bool (b1_2)) rfl rfl ?ywg1_4 ?rwg1_4
 case ywg1_4 =>
  refine StepS.pure nP (by rfl) (fun w9 => ?_)
  have e9 : (decide (seq < 1)) = b1_2 := by rw [HEb1_2.out]
  rw [← e9]
  clear e9
  first | rfl | (go_simp; done) | (go_simp; rfl)
 try simp only [Act.put, sA, sZ, sS]
 refine Pz 3 (some 8) (cond b1_2 (undef) (.int .u64 (seq))) rfl rfl (by cases b1_2; (exact StepS.pure nP rfl fun _ => rfl); exact StepS.skip nP rfl) ?_
 try simp only [Act.put, sA, sZ, sS]
 refine Pz 4 (some 9) (cond b1_2 (undef) (.bool (decide ((1099511627776 : Int) < seq)))) rfl rfl (by cases b1_2; (exact StepS.pure nP rfl fun _ => rfl); exact StepS.skip nP rfl) ?_
 try simp only [Act.put, sA, sZ, sS]
 obtain ⟨f1, hb9⟩ : ∃ b : Bool, b = ((decide (seq < 1)) || (decide ((1099511627776 : Int) < seq))) := ⟨_, rfl⟩
 have HEf1 := Lib.hid hb9
 clear hb9
 refine Pz 5 (some 10) (.bool (f1)) rfl rfl ?ywg1_7 ?rwg1_7
 case ywg1_7 =>
  refine StepS.pure nP (by rfl) (fun w9 => ?_)
  have e9 : (b1_2 || (decide ((1099511627776 : Int) < seq))) = f1 := by rw [HEf1.out, HEb1_2.out]
  rw [← e9]
  clear e9
  cases b1_2 <;> (first | rfl | (go_simp; done) | (go_simp; rfl))
 try simp only [Act.put, sA, sZ, sS]
 refine Ps.done (by kernel_rfl) (fun wg1 hS => ?_) _
 try generalize (cond b1_2 (undef) (.bool (decide ((1099511627776 : Int) < seq))) : Value) = zz8
 try generalize (cond b1_2 (undef) (.int .u64 (seq)) : Value) = zz9
 have HW10 := Lib.hid (show Below w1.heap.size w1 wg1 from hS)
 clear hS
 obtain ⟨w111, rfl⟩ : ∃ x, x = wg1 := ⟨_, rfl⟩
 cases f1
 · have hsq : 1 ≤ seq ∧ seq ≤ 1099511627776 := by have h := HEf1.out; simp at h; omega
   have hw1 : IntKind.u64.wrap (seq - 1) = seq - 1 := by simp [IntKind.wrap, IntKind.signed, IntKind.bits]; omega
   have HSQ := Lib.hid hsq
   have HW1 := Lib.hid hw1
   clear hw1 hsq HEf1 HEb1_2
   have x0 := (HB.out.ca HW10.out).cell 1
   cases fin
   · go_upto_region 5 with fail
     clear x0
     refine wp_region_ps0 .text (S := fun _ _ w' => Below w1.heap.size w1 w') (by kernel_rfl) ?spswg12 ?ppswg12
     case spswg12 =>
      exact HW10.out
     refine Pz 0 (some 24) (.pointer (some ⟨w.heap.size, 2, none⟩)) rfl rfl (by exact StepS.pure nP rfl fun _ => rfl) ?_
     try simp only [Act.put, sA, sZ, sS]
     refine Pz 1 (some 25) (.int .u64 (cnt)) rfl rfl ?ywg12_14 ?rwg12_14
     case ywg12_14 =>
      refine StepS.read [] (by kernel_rfl) nP (by rfl) (fun L9 m9 w9 hSh hAt hDn hS => ?_)
      have hT : Below _ _ w9 := hS
      have x0 : w9.cell? ⟨w.heap.size, 2, none⟩ = some (.int .u64 (cnt)) := (HB.out.ca hT).cell 2
      clear hT hS
      go_simp
      try rfl
     try simp only [Act.put, sA, sZ, sS]
     refine Pz 2 (some 26) (.bool (decide (cnt = 0))) rfl rfl (by exact StepS.pure nP rfl fun _ => rfl) ?_
     try simp only [Act.put, sA, sZ, sS]
     obtain ⟨b5_3, hb9⟩ : ∃ b : Bool, b = (decide (cnt = 0)) := ⟨_, rfl⟩
     have HEb5_3 := Lib.hid hb9
     clear hb9
     refine Pz 3 (some 27) (.bool (b5_3)) rfl rfl ?ywg12_16 ?rwg12_16
     case ywg12_16 =>
      refine StepS.pure nP (by rfl) (fun w9 => ?_)
      have e9 : (decide (cnt = 0)) = b5_3 := by rw [HEb5_3.out]
      rw [← e9]
      clear e9
      first | rfl | (go_simp; done) | (go_simp; rfl)
     try simp only [Act.put, sA, sZ, sS]
     refine Pz 4 (some 28) (cond b5_3 (.pointer (some ⟨w.heap.size, 0, none⟩)) (undef)) rfl rfl (by cases b5_3; exact StepS.skip nP rfl; exact StepS.pure nP rfl fun _ => rfl) ?_
     try simp only [Act.put, sA, sZ, sS]
     refine Pz 5 (some 29) (cond b5_3 (.slice A n c) (undef)) rfl rfl ?ywg12_18 ?rwg12_18
     case ywg12_18 =>
      cases b5_3
      · exact StepS.skip nP (by rfl)
      · skip
        refine StepS.read [] (by kernel_rfl) nP (by rfl) (fun L9 m9 w9 hSh hAt hDn hS => ?_)
        have hT : Below _ _ w9 := hS
        have x0 : w9.cell? ⟨w.heap.size, 0, none⟩ = some (.slice A n c) := (HB.out.ca hT).cell 0
        clear hT hS
        go_simp
        try rfl
     try simp only [Act.put, sA, sZ, sS]
     refine Pz 6 (some 30) (cond b5_3 (.bool (rowsOk rows)) (undef)) rfl rfl ?ywg12_19 ?rwg12_19
     case ywg12_19 =>
      cases b5_3
      · exact StepS.skip nP (by rfl)
      · skip
        refine StepS.call ?fwg12_19 ?awg12_19 [] (by kernel_rfl) (by rfl) (fun w9 => ?hwg12_19) (fun L9 m9 w9 hSh hAt hDn hS => ?cwg12_19)
        case hwg12_19 => go_simp; refine ⟨?_, ?_⟩ <;> rfl
        case cwg12_19 =>
         have hT : Below _ _ w9 := hS
         refine (HRW.out w9 hT).mono ?_
         rintro e w8 ⟨rfl, q8⟩
         exact ⟨rfl, bl_ca hT q8⟩
     try simp only [Act.put, sA, sZ, sS]
     obtain ⟨f5, hb9⟩ : ∃ b : Bool, b = ((decide (cnt = 0)) && (rowsOk rows)) := ⟨_, rfl⟩
     have HEf5 := Lib.hid hb9
     clear hb9
     refine Pz 7 (some 31) (.bool (f5)) rfl rfl ?ywg12_20 ?rwg12_20
     case ywg12_20 =>
      refine StepS.pure nP (by rfl) (fun w9 => ?_)
      have e9 : (b5_3 && (rowsOk rows)) = f5 := by rw [HEf5.out, HEb5_3.out]
      rw [← e9]
      clear e9
      cases b5_3 <;> (first | rfl | (go_simp; done) | (go_simp; rfl))
     try simp only [Act.put, sA, sZ, sS]
     refine Pz 8 (some 4) (.bool (f5)) rfl rfl (by exact StepS.pure nP rfl fun _ => rfl) ?_
     try simp only [Act.put, sA, sZ, sS]
     refine Ps.done (by kernel_rfl) (fun wg12 hS => ?_) _
     try generalize (cond b5_3 (.pointer (some ⟨w.heap.size, 0, none⟩)) (undef) : Value) = zz22
     try generalize (cond b5_3 (.bool (rowsOk rows)) (undef) : Value) = zz23
     try generalize (cond b5_3 (.slice A n c) (undef) : Value) = zz24
     have HW25 := Lib.hid (show Below w1.heap.size w1 wg12 from hS)
     clear hS
     obtain ⟨w126, rfl⟩ : ∃ x, x = wg12 := ⟨_, rfl⟩
     go_wp2
     go_ret
     exact ⟨ret_bool (by rw [HRR.out, HEf5.out]; unfold batchB; have h := HSQ.out; simp [h, beq_dec]), bl_ca HBB.out HW25.out⟩
   · go_upto_region 4 with fail
     clear x0
     refine wp_region_ps0 .text (S := fun _ _ w' => Below w1.heap.size w1 w') (by kernel_rfl) ?spswg27 ?ppswg27
     case spswg27 =>
      exact HW10.out
     refine Pz 0 (some 13) (.pointer (some ⟨w.heap.size, 0, none⟩)) rfl rfl (by exact StepS.pure nP rfl fun _ => rfl) ?_
     try simp only [Act.put, sA, sZ, sS]
     refine Pz 1 (some 14) (.slice A n c) rfl rfl ?ywg27_29 ?rwg27_29
     case ywg27_29 =>
      refine StepS.read [] (by kernel_rfl) nP (by rfl) (fun L9 m9 w9 hSh hAt hDn hS => ?_)
      have hT : Below _ _ w9 := hS
      have x0 : w9.cell? ⟨w.heap.size, 0, none⟩ = some (.slice A n c) := (HB.out.ca hT).cell 0
      clear hT hS
      go_simp
      try rfl
     try simp only [Act.put, sA, sZ, sS]
     refine Pz 2 (some 15) (.int .i64 ((n : Int))) rfl rfl (by exact StepS.pure nP rfl fun _ => by first | rfl | (go_simp; done) | (go_simp; rfl)) ?_
     try simp only [Act.put, sA, sZ, sS]
     refine Pz 3 (some 16) (.bool (decide ((n : Int) = 0))) rfl rfl (by exact StepS.pure nP rfl fun _ => rfl) ?_
     try simp only [Act.put, sA, sZ, sS]
     obtain ⟨b4_4, hb9⟩ : ∃ b : Bool, b = (decide ((n : Int) = 0)) := ⟨_, rfl⟩
     have HEb4_4 := Lib.hid hb9
     clear hb9
     refine Pz 4 (some 17) (.bool (b4_4)) rfl rfl ?ywg27_32 ?rwg27_32
     case ywg27_32 =>
      refine StepS.pure nP (by rfl) (fun w9 => ?_)
      have e9 : (decide ((n : Int) = 0)) = b4_4 := by rw [HEb4_4.out]
      rw [← e9]
      clear e9
      first | rfl | (go_simp; done) | (go_simp; rfl)
     try simp only [Act.put, sA, sZ, sS]
     refine Pz 5 (some 18) (cond b4_4 (.pointer (some ⟨w.heap.size, 2, none⟩)) (undef)) rfl rfl (by cases b4_4; exact StepS.skip nP rfl; exact StepS.pure nP rfl fun _ => rfl) ?_
     try simp only [Act.put, sA, sZ, sS]
     refine Pz 6 (some 19) (cond b4_4 (.int .u64 (cnt)) (undef)) rfl rfl ?ywg27_34 ?rwg27_34
     case ywg27_34 =>
      cases b4_4
      · exact StepS.skip nP (by rfl)
      · skip
        refine StepS.read [] (by kernel_rfl) nP (by rfl) (fun L9 m9 w9 hSh hAt hDn hS => ?_)
        have hT : Below _ _ w9 := hS
        have x0 : w9.cell? ⟨w.heap.size, 2, none⟩ = some (.int .u64 (cnt)) := (HB.out.ca hT).cell 2
        clear hT hS
        go_simp
        try rfl
     try simp only [Act.put, sA, sZ, sS]
     refine Pz 7 (some 20) (cond b4_4 (.int .u64 (seq)) (undef)) rfl rfl (by cases b4_4; exact StepS.skip nP rfl; exact StepS.pure nP rfl fun _ => rfl) ?_
     try simp only [Act.put, sA, sZ, sS]
     refine Pz 8 (some 21) (cond b4_4 (.int .u64 (seq - 1)) (undef)) rfl rfl ?ywg27_36 ?rwg27_36
     case ywg27_36 =>
      cases b4_4
      · exact StepS.skip nP (by rfl)
      · skip
        refine StepS.pure nP (by rfl) (fun w9 => ?_)
        rw [← HW1.out]
        rfl
     try simp only [Act.put, sA, sZ, sS]
     refine Pz 9 (some 22) (cond b4_4 (.bool (decide (cnt = (seq - 1)))) (undef)) rfl rfl (by cases b4_4; exact StepS.skip nP rfl; exact StepS.pure nP rfl fun _ => rfl) ?_
     try simp only [Act.put, sA, sZ, sS]
     obtain ⟨f4, hb9⟩ : ∃ b : Bool, b = ((decide ((n : Int) = 0)) && (decide (cnt = (seq - 1)))) := ⟨_, rfl⟩
     have HEf4 := Lib.hid hb9
     clear hb9
     refine Pz 10 (some 23) (.bool (f4)) rfl rfl ?ywg27_38 ?rwg27_38
     case ywg27_38 =>
      refine StepS.pure nP (by rfl) (fun w9 => ?_)
      have e9 : (b4_4 && (decide (cnt = (seq - 1)))) = f4 := by rw [HEf4.out, HEb4_4.out]
      rw [← e9]
      clear e9
      cases b4_4 <;> (first | rfl | (go_simp; done) | (go_simp; rfl))
     try simp only [Act.put, sA, sZ, sS]
     refine Pz 11 (some 4) (.bool (f4)) rfl rfl (by exact StepS.pure nP rfl fun _ => rfl) ?_
     try simp only [Act.put, sA, sZ, sS]
     refine Ps.done (by kernel_rfl) (fun wg27 hS => ?_) _
     try generalize (cond b4_4 (.pointer (some ⟨w.heap.size, 2, none⟩)) (undef) : Value) = zz40
     try generalize (cond b4_4 (.bool (decide (cnt = (seq - 1)))) (undef) : Value) = zz41
     try generalize (cond b4_4 (.int .u64 (seq - 1)) (undef) : Value) = zz42
     try generalize (cond b4_4 (.int .u64 (cnt)) (undef) : Value) = zz43
     try generalize (cond b4_4 (.int .u64 (seq)) (undef) : Value) = zz44
     have HW45 := Lib.hid (show Below w1.heap.size w1 wg27 from hS)
     clear hS
     obtain ⟨w146, rfl⟩ : ∃ x, x = wg27 := ⟨_, rfl⟩
     go_wp2
     go_ret
     exact ⟨ret_bool (by rw [HRR.out, HEf4.out, ← HL.out]; unfold batchB; have h := HSQ.out; simp [h, beq_dec]), bl_ca HBB.out HW45.out⟩
 · go_wp2
   go_ret
   exact ⟨ret_bool (by rw [HRR.out]; have h := HEf1.out; unfold batchB; simp at h; simp; omega), bl_ca HBB.out HW10.out⟩
set_option maxRecDepth 100000 in
set_option maxHeartbeats 8000000 in
theorem rinRow_any (F : Nat → Prop) (A : Option Addr) (m c : Nat) (l : List BC) (n : Int) (w : World) (h : LB3.rd w F A m l) (hm : m ≤ 100) (h0 : 0 ≤ n) (h1 : n ≤ 2000000000000) :
 Calls Try.prog 59 #[.slice A m c, .int .u64 n] w fun e w' => e = .returned (.bool (inRowB l n)) ∧ Below w.heap.size w w' := by
 have HL := Lib.hid (Lay.rd_len h)
 obtain ⟨r, hr⟩ : ∃ r, r = inRowB l n := ⟨_, rfl⟩
 rw [← hr]
 have HR := Lib.hid hr
 clear hr
 go_enter Try.func59, Try.ntmps59
 go_wp2_with fail
 go_loopg [9] m (fun g a wr => ∃ i : Nat, i + g = m ∧ a = .int .i64 i ∧ r = inRowB (l.drop i) (n + i) ∧ Below w.heap.size w wr)
 case atStart => exact ⟨0, by omega, rfl, by rw [HR.out]; simp, Below.refl _ _⟩
 case round =>
  obtain ⟨i, hig, rfl, hri, bb⟩ := hrel
  have HI := Lib.hid hri
  have HBB := Lib.hid bb
  clear hri
  by_cases hlt : i < m
  · have hi1 : (i : Int) < (m : Int) := by omega
    obtain ⟨p, b, B, k, d, rfl, hx, s1⟩ := LB3_at (Lay.rd_below h bb) hlt
    have e0 := s1.c0
    have e1 := s1.c1
    have e2 := s1.c2
    have q5 := bl_al (Below.refl wr.heap.size wr) (.cells (b.cells B k d) 45)
    have hrd := Lay.rd_below s1.rd q5
    have hkk := Nat.le_trans s1.nc s1.cm
    have HC := Lib.hid (fun W (q : Below (wr.alloc (.cells (b.cells B k d) 45)).heap.size (wr.alloc (.cells (b.cells B k d) 45)) W) => rbatch_any F b B k d (n + (i : Int)) W (Lay.rd_below hrd q) hkk)
    have HS := Lib.hid (inRow_at (n := n) hx)
    have HB5 := Lib.hid (bl_ca HBB.out q5)
    have f1 := (Blk.new wr 45 (b.cells B k d))
    have HF1 := Lib.hid f1
    have hw1 : IntKind.u64.wrap (i : Int) = (i : Int) := u64_in (by omega) (by omega)
    have hw2 : IntKind.u64.wrap (n + (i : Int)) = n + (i : Int) := u64_in (by omega) (by omega)
    have hw3 : IntKind.i64.wrap ((m : Int) - 1) = (m : Int) - 1 := by simp [IntKind.wrap, IntKind.signed, IntKind.bits]; omega
    have HW1 := Lib.hid hw1
    have HW2 := Lib.hid hw2
    have HW3 := Lib.hid hw3
    clear hx s1 bb q5 f1 hrd hkk hw1 hw2 hw3
    obtain ⟨rows, fin, cnt⟩ := b
    dsimp only [BC.cells] at *
    go_upto_region 4 with fail
    clear e0 e1 e2
    generalize wr.alloc (.cells #[.slice B k d, .bool fin, .int .u64 cnt] 45) = w5 at *
    refine wp_region_ps0 .text (S := fun _ _ w' => Below w5.heap.size w5 w') (by kernel_rfl) ?spswg47 ?ppswg47
    case spswg47 =>
     exact (Below.refl w5.heap.size w5)
    refine Pz 0 (some 14) (.agg #[.slice B k d, .bool (fin), .int .u64 (cnt)]) rfl rfl ?ywg47_48 ?rwg47_48
    case ywg47_48 =>
     refine StepS.read [] (by kernel_rfl) nP (by rfl) (fun L9 m9 w9 hSh hAt hDn hS => ?_)
     have hT : Below _ _ w9 := hS
     have x0 : w9.cell? ⟨wr.heap.size, 0, none⟩ = some (.slice B k d) := (HF1.out.ca hT).cell 0
     have x1 : w9.cell? ⟨wr.heap.size, 1, none⟩ = some (.bool (fin)) := (HF1.out.ca hT).cell 1
     have x2 : w9.cell? ⟨wr.heap.size, 2, none⟩ = some (.int .u64 (cnt)) := (HF1.out.ca hT).cell 2
     clear hT hS
     go_simp
     try rfl
    try simp only [Act.put, sA, sZ, sS]
    refine Pz 1 (some 15) (.int .u64 (n)) rfl rfl (by exact StepS.pure nP rfl fun _ => rfl) ?_
    try simp only [Act.put, sA, sZ, sS]
    refine Pz 2 (some 16) (.int .i64 ((i : Int))) rfl rfl (by exact StepS.pure nP rfl fun _ => rfl) ?_
    try simp only [Act.put, sA, sZ, sS]
    refine Pz 3 (some 17) (.int .u64 ((i : Int))) rfl rfl ?ywg47_51 ?rwg47_51
    case ywg47_51 =>
     refine StepS.pure nP (by rfl) (fun w9 => ?_)
     go_simp
     exact HW1.out
    try simp only [Act.put, sA, sZ, sS]
    refine Pz 4 (some 18) (.int .u64 (n + (i : Int))) rfl rfl ?ywg47_52 ?rwg47_52
    case ywg47_52 =>
     refine StepS.pure nP (by rfl) (fun w9 => ?_)
     rw [← HW2.out]
     first | rfl | (go_simp; done) | (go_simp; rfl)
    try simp only [Act.put, sA, sZ, sS]
    refine Pz 5 (some 19) (.bool (batchB ⟨rows, fin, cnt⟩ (n + (i : Int)))) rfl rfl ?ywg47_53 ?rwg47_53
    case ywg47_53 =>
     refine StepS.call ?fwg47_53 ?awg47_53 [] (by kernel_rfl) (by rfl) (fun w9 => ?hwg47_53) (fun L9 m9 w9 hSh hAt hDn hS => ?cwg47_53)
     case hwg47_53 => go_simp; refine ⟨?_, ?_⟩ <;> rfl
     case cwg47_53 =>
      have hT : Below _ _ w9 := hS
      refine (HC.out w9 hT).mono ?_
      rintro e w8 ⟨rfl, q8⟩
      exact ⟨rfl, bl_ca hT q8⟩
    try simp only [Act.put, sA, sZ, sS]
    refine Pz 6 (some 20) (.bool (!(batchB ⟨rows, fin, cnt⟩ (n + (i : Int))))) rfl rfl (by exact StepS.pure nP rfl fun _ => rfl) ?_
    try simp only [Act.put, sA, sZ, sS]
    obtain ⟨b4_7, hb9⟩ : ∃ b : Bool, b = (!(batchB ⟨rows, fin, cnt⟩ (n + (i : Int)))) := ⟨_, rfl⟩
    have HEb4_7 := Lib.hid hb9
    clear hb9
    refine Pz 7 (some 21) (.bool (b4_7)) rfl rfl ?ywg47_55 ?rwg47_55
    case ywg47_55 =>
     refine StepS.pure nP (by rfl) (fun w9 => ?_)
     have e9 : (!(batchB ⟨rows, fin, cnt⟩ (n + (i : Int)))) = b4_7 := by rw [HEb4_7.out]
     rw [← e9]
     clear e9
     first | rfl | (go_simp; done) | (go_simp; rfl)
    try simp only [Act.put, sA, sZ, sS]
    refine Pz 8 (some 22) (cond b4_7 (undef) (.pointer (some ⟨wr.heap.size, 1, none⟩))) rfl rfl (by cases b4_7; (exact StepS.pure nP rfl fun _ => rfl); exact StepS.skip nP rfl) ?_
    try simp only [Act.put, sA, sZ, sS]
    refine Pz 9 (some 23) (cond b4_7 (undef) (.bool (fin))) rfl rfl ?ywg47_57 ?rwg47_57
    case ywg47_57 =>
     cases b4_7
     · skip
       refine StepS.read [] (by kernel_rfl) nP (by rfl) (fun L9 m9 w9 hSh hAt hDn hS => ?_)
       have hT : Below _ _ w9 := hS
       have x0 : w9.cell? ⟨wr.heap.size, 1, none⟩ = some (.bool (fin)) := (HF1.out.ca hT).cell 1
       clear hT hS
       go_simp
       try rfl
     · exact StepS.skip nP (by rfl)
    try simp only [Act.put, sA, sZ, sS]
    obtain ⟨b4_10, hb9⟩ : ∃ b : Bool, b = (fin) := ⟨_, rfl⟩
    have HEb4_10 := Lib.hid hb9
    clear hb9
    refine Pz 10 (some 24) (cond b4_7 (undef) (.bool (b4_10))) rfl rfl ?ywg47_58 ?rwg47_58
    case ywg47_58 =>
     cases b4_7
     · skip
       refine StepS.pure nP (by rfl) (fun w9 => ?_)
       have e9 : (fin) = b4_10 := by rw [HEb4_10.out]
       rw [← e9]
       clear e9
       first | rfl | (go_simp; done) | (go_simp; rfl)
     · exact StepS.skip nP (by rfl)
    try simp only [Act.put, sA, sZ, sS]
    refine Pz 11 (some 25) (cond b4_7 (undef) (cond b4_10 (.int .i64 ((i : Int))) (undef))) rfl rfl (by cases b4_7; (cases b4_10; exact StepS.skip nP rfl; exact StepS.pure nP rfl fun _ => rfl); exact StepS.skip nP rfl) ?_
    try simp only [Act.put, sA, sZ, sS]
    refine Pz 12 (some 26) (cond b4_7 (undef) (cond b4_10 (.slice (some p) m c) (undef))) rfl rfl (by cases b4_7; (cases b4_10; exact StepS.skip nP rfl; exact StepS.pure nP rfl fun _ => rfl); exact StepS.skip nP rfl) ?_
    try simp only [Act.put, sA, sZ, sS]
    refine Pz 13 (some 27) (cond b4_7 (undef) (cond b4_10 (.int .i64 ((m : Int))) (undef))) rfl rfl (by cases b4_7; (cases b4_10; exact StepS.skip nP rfl; exact StepS.pure nP rfl fun _ => by first | rfl | (go_simp; done) | (go_simp; rfl)); exact StepS.skip nP rfl) ?_
    try simp only [Act.put, sA, sZ, sS]
    refine Pz 14 (some 28) (cond b4_7 (undef) (cond b4_10 (.int .i64 ((m : Int) - 1)) (undef))) rfl rfl ?ywg47_62 ?rwg47_62
    case ywg47_62 =>
     cases b4_7
     · skip
       cases b4_10
       · exact StepS.skip nP (by rfl)
       · skip
         refine StepS.pure nP (by rfl) (fun w9 => ?_)
         rw [← HW3.out]
         first | rfl | (go_simp; done) | (go_simp; rfl)
     · exact StepS.skip nP (by rfl)
    try simp only [Act.put, sA, sZ, sS]
    refine Pz 15 (some 29) (cond b4_7 (undef) (cond b4_10 (.bool (!decide ((i : Int) = ((m : Int) - 1)))) (undef))) rfl rfl (by cases b4_7; (cases b4_10; exact StepS.skip nP rfl; exact StepS.pure nP rfl fun _ => rfl); exact StepS.skip nP rfl) ?_
    try simp only [Act.put, sA, sZ, sS]
    refine Pz 16 (some 30) (cond b4_7 (undef) (.bool (b4_10 && (!decide ((i : Int) = ((m : Int) - 1)))))) rfl rfl ?ywg47_64 ?rwg47_64
    case ywg47_64 =>
     cases b4_7
     · skip
       refine StepS.pure nP (by rfl) (fun w9 => ?_)
       cases b4_10 <;> (first | rfl | (go_simp; done) | (go_simp; rfl))
     · exact StepS.skip nP (by rfl)
    try simp only [Act.put, sA, sZ, sS]
    obtain ⟨f4, hb9⟩ : ∃ b : Bool, b = ((!(batchB ⟨rows, fin, cnt⟩ (n + (i : Int)))) || ((fin) && (!decide ((i : Int) = ((m : Int) - 1))))) := ⟨_, rfl⟩
    have HEf4 := Lib.hid hb9
    clear hb9
    refine Pz 17 (some 31) (.bool (f4)) rfl rfl ?ywg47_65 ?rwg47_65
    case ywg47_65 =>
     refine StepS.pure nP (by rfl) (fun w9 => ?_)
     have e9 : (b4_7 || (b4_10 && (!decide ((i : Int) = ((m : Int) - 1))))) = f4 := by rw [HEf4.out, HEb4_7.out, HEb4_10.out]
     rw [← e9]
     clear e9
     cases b4_7 <;> (first | rfl | (go_simp; done) | (go_simp; rfl))
    try simp only [Act.put, sA, sZ, sS]
    refine Ps.done (by kernel_rfl) (fun wg47 hS => ?_) _
    try generalize (cond b4_7 (undef) (cond b4_10 (.bool (!decide ((i : Int) = ((m : Int) - 1)))) (undef)) : Value) = zz66
    try generalize (cond b4_7 (undef) (.bool (b4_10 && (!decide ((i : Int) = ((m : Int) - 1))))) : Value) = zz67
    try generalize (cond b4_7 (undef) (cond b4_10 (.int .i64 ((m : Int) - 1)) (undef)) : Value) = zz68
    try generalize (cond b4_7 (undef) (cond b4_10 (.int .i64 ((i : Int))) (undef)) : Value) = zz69
    try generalize (cond b4_7 (undef) (cond b4_10 (.int .i64 ((m : Int))) (undef)) : Value) = zz70
    try generalize (cond b4_7 (undef) (cond b4_10 (.slice (some p) m c) (undef)) : Value) = zz71
    try generalize (cond b4_7 (undef) (.pointer (some ⟨wr.heap.size, 1, none⟩)) : Value) = zz72
    try generalize (cond b4_7 (undef) (.bool (b4_10)) : Value) = zz73
    try generalize (cond b4_7 (undef) (.bool (fin)) : Value) = zz74
    have HW75 := Lib.hid (show Below w5.heap.size w5 wg47 from hS)
    clear hS
    obtain ⟨w176, rfl⟩ : ∃ x, x = wg47 := ⟨_, rfl⟩
    have HQ5 := Lib.hid (bl_ca HB5.out HW75.out)
    have HEQ := Lib.hid (show (batchB ⟨rows, fin, cnt⟩ (n + (i : Int)) && (!fin || decide (l.length ≤ i + 1))) = !f4 from by rw [HEf4.out, HL.out, show (!decide ((i : Int) = (m : Int) - 1)) = !decide (m ≤ i + 1) from by rw [Bool.eq_iff_iff]; simp; omega]; cases (batchB ⟨rows, fin, cnt⟩ (n + (i : Int))) <;> cases fin <;> simp)
    cases f4
    · go_wp2
      go_roundg (gk - 1)
      · exact ⟨i + 1, by omega, by go_num, by rw [HI.out, HS.out, HEQ.out]; simp, HQ5.out⟩
      · omega
    · go_wp2
      go_ret
      exact ⟨ret_bool (by rw [HI.out, HS.out, HEQ.out]; rfl), HQ5.out⟩
  · obtain rfl : i = m := by omega
    have hi1 : (i : Int) ≤ (i : Int) := by omega
    clear bb
    go_wp2
    go_ret
    exact ⟨ret_bool (by rw [HI.out, List.drop_of_length_le (by rw [HL.out]; exact Nat.le_refl _)]; rfl), HBB.out⟩
set_option maxRecDepth 100000 in
theorem rends_any (F : Nat → Prop) (A : Option Addr) (m c : Nat) (l : List BC) (w : World) (h : LB3.rd w F A m l) (hm : m ≤ 9223372036854775807) :
 Calls Try.prog 60 #[.slice A m c] w fun e w' => e = .returned (.bool (endsB l)) ∧ w = w' := by
 have HL := Lib.hid (Lay.rd_len h)
 obtain ⟨r, hr⟩ : ∃ r, r = endsB l := ⟨_, rfl⟩
 rw [← hr]
 rcases Nat.eq_zero_or_pos m with h0 | h0
 · subst h0
   obtain rfl : l = [] := List.eq_nil_of_length_eq_zero HL.out
   obtain rfl : r = false := hr
   clear h
   go_enter Try.func60, Try.ntmps60
   go_wp2
   go_ret
   exact ⟨rfl, rfl⟩
 · obtain ⟨p, b, B, k, d, rfl, hx, s1⟩ := LB3_at h (show m - 1 < m by omega)
   obtain rfl : r = b.fin := by rw [hr]; unfold endsB; rw [HL.out, hx]
   have e1 := s1.c1
   obtain ⟨m1, hm1⟩ : ∃ m1, m = m1 + 1 := ⟨m - 1, by omega⟩
   subst hm1
   rw [show m1 + 1 - 1 = m1 from rfl] at e1
   clear h hx s1 hr h0
   have hl : (m1 : Int) < (m1 : Int) + 1 := by omega
   go_enter Try.func60, Try.ntmps60
   go_wp2
   go_ret
   exact ⟨rfl, rfl⟩
set_option maxRecDepth 100000 in
set_option maxHeartbeats 4000000 in
theorem rlimit_any (r : RC) (A : Option Addr) (n c : Nat) (B : Option Addr) (m d : Nat) (w : World) (hm : r.buf.length = m) (h1 : 1 ≤ r.next) (h2 : r.next ≤ 2000000000000) (h3 : (m : Int) ≤ r.room) (h4 : r.room ≤ 8) :
 Calls Try.prog 68 #[.agg (r.cells A n c B m d)] w fun e w' => e = .returned (.int .u64 (limR r)) ∧ Below w.heap.size w w' := by
 obtain ⟨ses, next, ahead, buf, room, over⟩ := r
 dsimp only at *
 have b1 := bl_al (Below.refl w.heap.size w) (.cells (RC.cells ⟨ses, next, ahead, buf, room, over⟩ A n c B m d) 36)
 have HB := Lib.hid (Blk.new w 36 (RC.cells ⟨ses, next, ahead, buf, room, over⟩ A n c B m d))
 have HBB := Lib.hid b1
 have x1 : (w.alloc (.cells (RC.cells ⟨ses, next, ahead, buf, room, over⟩ A n c B m d) 36)).cell? ⟨w.heap.size, 1, none⟩ = some (.int .u64 next) := HB.out.cell 1
 have x3 : (w.alloc (.cells (RC.cells ⟨ses, next, ahead, buf, room, over⟩ A n c B m d) 36)).cell? ⟨w.heap.size, 3, none⟩ = some (.slice B m d) := HB.out.cell 3
 have x4 : (w.alloc (.cells (RC.cells ⟨ses, next, ahead, buf, room, over⟩ A n c B m d) 36)).cell? ⟨w.heap.size, 4, none⟩ = some (.int .i64 room) := HB.out.cell 4
 have HM := Lib.hid hm
 have e1 : IntKind.u64.wrap (next - 1) = next - 1 := u64_in (by omega) (by omega)
 have e2 : IntKind.i64.wrap (room - (m : Int)) = room - (m : Int) := by simp [IntKind.wrap, IntKind.signed, IntKind.bits]; omega
 have e3 : IntKind.u64.wrap (room - (m : Int)) = room - (m : Int) := u64_in (by omega) (by omega)
 have e4 : IntKind.u64.wrap (next - 1 + (room - (m : Int))) = next - 1 + (room - (m : Int)) := u64_in (by omega) (by omega)
 clear b1 hm
 go_enter Try.func68, Try.ntmps68
 go_wp2
 go_ret
 refine ⟨ret_int ?_, HBB.out⟩
 unfold limR
 rw [HM.out]
 simp only []
 split <;> omega

end Go.Proofs.Ytojghgbaiiajfaa
