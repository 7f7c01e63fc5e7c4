/- The layer's same, Same. Conditions: the slices read so. -/
import Derived.Test.YthgcdilkkldgjaaDoorCCheck2
namespace Go.Proofs.YthgcdilkkldgjaaDoor
open Go.RowKit
set_option maxRecDepth 100000 in
set_option maxHeartbeats 4000000 in
theorem equalO (F G : Nat → Prop) (xs ys : List CO) (A : Option Addr) (m c : Nat) (B : Option Addr) (n d : Nat) (w : World) (h : LCO.rd w F A m xs) (k : LCO.rd w G B n ys) (hm : m ≤ 9223372036854775807) :
    Calls Tryd.prog 61 #[.slice A m c, .slice B n d] w fun e w' => e = .returned (.bool (decide (xs = ys))) ∧ Below w.heap.size w w' := by
  have HL := Lib.hid (And.intro (Lay.rd_len h) (Lay.rd_len k))
  have HR := Lib.hid (show decide (xs = ys) = true ↔ xs = ys from decide_eq_true_iff)
  generalize decide (xs = ys) = r at *
  have HNO := Lib.hid (show ¬ xs = ys → r = false from fun h => by cases r; rfl; exact absurd (HR.out.1 rfl) h)
  go_enter Tryd.func61, Tryd.ntmps61
  by_cases c4 : m = n
  case neg =>
    have e2 : ((m : Int) == (n : Int)) = false := by simp; omega
    have e3 : (m == n) = false := by simpa using c4
    have HQ := Lib.hid (HNO.out (fun h => c4 (by rw [← HL.out.1, ← HL.out.2, h])))
    clear c4
    go_wp2
    go_ret
    exact ⟨ret_bool HQ.out.symm, Below.refl _ _⟩
  subst c4
  go_wp2_with fail
  go_loopg [13] m (fun g a wr => ∃ i : Nat, i + g = m ∧ a = .int .i64 i ∧ (∀ (k : Nat) (x y : CO), k < i → xs[k]? = some x → ys[k]? = some y → x = y) ∧ Below w.heap.size w wr)
  case atStart => exact ⟨0, by omega, rfl, fun k x y hk => by omega, Below.refl _ _⟩
  case round =>
    obtain ⟨i, hig, rfl, heq, b1⟩ := hrel
    have HEQ := Lib.hid heq
    have HB1 := Lib.hid b1
    have h5 := Lay.rd_below h b1
    have h6 := Lay.rd_below k b1
    clear heq b1
    by_cases hlt : i < m
    · have hi1 : (i : Int) < (m : Int) := by omega
      obtain ⟨p, x, hAe, hx, s1⟩ := LCO_at h5 hlt
      obtain ⟨p2, y, hAe2, hy, s2⟩ := LCO_at h6 hlt
      obtain rfl : A = some p := hAe
      obtain rfl : B = some p2 := hAe2
      have e0 := s1.c0
      have e1 := s1.c1
      have f0 := s2.c0
      have f1 := s2.c1
      have HX := Lib.hid hx
      have HY := Lib.hid hy
      clear hx hy s1 s2
      go_wp2_with fail
      by_cases hq : x = y
      · have HQE : ∀ W, (Op.equalIn 10000 59 (.agg #[.string x.name, .int .i64 x.kind]) (.agg #[.string y.name, .int .i64 y.kind])).run Tryd.prog W = .ok true W := fun W => by rw [run_eqCO, decide_eq_true hq]
        have HN := Lib.hid (show ∀ (k : Nat) (x y : CO), k < i + 1 → xs[k]? = some x → ys[k]? = some y → x = y from fun k x' y' hk h8 h9 => by
          rcases Nat.lt_or_ge k i with h7 | h7
          · exact HEQ.out k x' y' h7 h8 h9
          · obtain rfl : k = i := by omega
            rw [← at_eq HX.out h8, ← at_eq HY.out h9]
            exact hq)
        clear hq
        go_quiet (fail)
        go_wp2
        go_roundg (gk - 1)
        · exact ⟨i + 1, by omega, by go_num, HN.out, bl_dr HB1.out _⟩
        · omega
      · have HQE : ∀ W, (Op.equalIn 10000 59 (.agg #[.string x.name, .int .i64 x.kind]) (.agg #[.string y.name, .int .i64 y.kind])).run Tryd.prog W = .ok false W := fun W => by rw [run_eqCO, decide_eq_false hq]
        have HQ := Lib.hid (HNO.out (fun h => hq (by have h8 := HX.out; rw [h] at h8; exact at_eq h8 HY.out)))
        clear hq
        go_quiet (fail)
        go_wp2
        go_ret
        exact ⟨ret_bool HQ.out.symm, bl_dr HB1.out _⟩
    · obtain rfl : i = m := by omega
      have hi1 : (i : Int) ≤ (i : Int) := by omega
      have HQ := Lib.hid (HR.out.2 (list_ext_lt HL.out.1 HL.out.2 HEQ.out))
      go_wp2
      go_ret
      exact ⟨ret_bool HQ.out.symm, HB1.out⟩
set_option maxRecDepth 100000 in
set_option maxHeartbeats 4000000 in
theorem equalK (F G : Nat → Prop) (xs ys : List Int) (A : Option Addr) (m c : Nat) (B : Option Addr) (n d : Nat) (w : World) (h : LK.rd w F A m xs) (k : LK.rd w G B n ys) (hm : m ≤ 9223372036854775807) :
    Calls Tryd.prog 62 #[.slice A m c, .slice B n d] w fun e w' => e = .returned (.bool (decide (xs = ys))) ∧ Below w.heap.size w w' := by
  have HL := Lib.hid (And.intro (Lay.rd_len h) (Lay.rd_len k))
  have HR := Lib.hid (show decide (xs = ys) = true ↔ xs = ys from decide_eq_true_iff)
  generalize decide (xs = ys) = r at *
  have HNO := Lib.hid (show ¬ xs = ys → r = false from fun h => by cases r; rfl; exact absurd (HR.out.1 rfl) h)
  go_enter Tryd.func62, Tryd.ntmps62
  by_cases c4 : m = n
  case neg =>
    have e2 : ((m : Int) == (n : Int)) = false := by simp; omega
    have e3 : (m == n) = false := by simpa using c4
    have HQ := Lib.hid (HNO.out (fun h => c4 (by rw [← HL.out.1, ← HL.out.2, h])))
    clear c4
    go_wp2
    go_ret
    exact ⟨ret_bool HQ.out.symm, Below.refl _ _⟩
  subst c4
  go_wp2_with fail
  go_loopg [13] m (fun g a wr => ∃ i : Nat, i + g = m ∧ a = .int .i64 i ∧ (∀ (k : Nat) (x y : Int), k < i → xs[k]? = some x → ys[k]? = some y → x = y) ∧ Below w.heap.size w wr)
  case atStart => exact ⟨0, by omega, rfl, fun k x y hk => by omega, Below.refl _ _⟩
  case round =>
    obtain ⟨i, hig, rfl, heq, b1⟩ := hrel
    have HEQ := Lib.hid heq
    have HB1 := Lib.hid b1
    have h5 := Lay.rd_below h b1
    have h6 := Lay.rd_below k b1
    clear heq b1
    by_cases hlt : i < m
    · have hi1 : (i : Int) < (m : Int) := by omega
      obtain ⟨p, x, hAe, hx, s1⟩ := LK_at h5 hlt
      obtain ⟨p2, y, hAe2, hy, s2⟩ := LK_at h6 hlt
      obtain rfl : A = some p := hAe
      obtain rfl : B = some p2 := hAe2
      have e0 := s1
      have f0 := s2
      have HX := Lib.hid hx
      have HY := Lib.hid hy
      clear hx hy s1 s2
      go_wp2_with fail
      by_cases hq : x = y
      · have e9 : (x == y) = true := by simpa using hq
        have HN := Lib.hid (show ∀ (k : Nat) (x y : Int), k < i + 1 → xs[k]? = some x → ys[k]? = some y → x = y from fun k x' y' hk h8 h9 => by
          rcases Nat.lt_or_ge k i with h7 | h7
          · exact HEQ.out k x' y' h7 h8 h9
          · obtain rfl : k = i := by omega
            rw [← at_eq HX.out h8, ← at_eq HY.out h9]
            exact hq)
        clear hq
        go_quiet (fail)
        go_wp2
        go_roundg (gk - 1)
        · exact ⟨i + 1, by omega, by go_num, HN.out, bl_dr HB1.out _⟩
        · omega
      · have e9 : (x == y) = false := by simpa using hq
        have HQ := Lib.hid (HNO.out (fun h => hq (by have h8 := HX.out; rw [h] at h8; exact at_eq h8 HY.out)))
        clear hq
        go_quiet (fail)
        go_wp2
        go_ret
        exact ⟨ret_bool HQ.out.symm, bl_dr HB1.out _⟩
    · obtain rfl : i = m := by omega
      have hi1 : (i : Int) ≤ (i : Int) := by omega
      have HQ := Lib.hid (HR.out.2 (list_ext_lt HL.out.1 HL.out.2 HEQ.out))
      go_wp2
      go_ret
      exact ⟨ret_bool HQ.out.symm, HB1.out⟩
theorem dec_tc (s t : TC) : decide (s = t) = (decide (s.name = t.name) && (decide (s.cols = t.cols) && decide (s.keys = t.keys))) := by
  rw [Bool.eq_iff_iff, Bool.and_eq_true, Bool.and_eq_true, decide_eq_true_eq, decide_eq_true_eq, decide_eq_true_eq, decide_eq_true_eq]
  cases s; cases t; simp
set_option maxRecDepth 100000 in
set_option maxHeartbeats 4000000 in
theorem samet_any (F G : Nat → Prop) (s t : TC) (A : Option Addr) (m c : Nat) (B : Option Addr) (n d : Nat) (A2 : Option Addr) (m2 c2 : Nat) (B2 : Option Addr) (n2 d2 : Nat) (w : World) (h : LCO.rd w F A m s.cols) (k : LK.rd w F B n s.keys) (h2 : LCO.rd w G A2 m2 t.cols) (k2 : LK.rd w G B2 n2 t.keys) (hm : m ≤ 9223372036854775807) (hn : n ≤ 9223372036854775807) :
    Calls Tryd.prog 41 #[.agg #[.string s.name, .slice A m c, .slice B n d], .agg #[.string t.name, .slice A2 m2 c2, .slice B2 n2 d2]] w fun e w' => e = .returned (.bool (decide (s = t))) ∧ Below w.heap.size w w' := by
  have HR := Lib.hid (dec_tc s t)
  generalize decide (s = t) = r at *
  have q1 := bl_al (Below.refl w.heap.size w) (.cells (s.cells A m c B n d) 28)
  have q2 := Lib.hid (bl_al q1 (.cells (t.cells A2 m2 c2 B2 n2 d2) 28))
  have h3 := Lay.rd_below h q2.out
  have k3 := Lay.rd_below k q2.out
  have h4 := Lay.rd_below h2 q2.out
  have k4 := Lay.rd_below k2 q2.out
  have HB := Lib.hid ((Blk.new w 28 (s.cells A m c B n d)).alloc (.cells (t.cells A2 m2 c2 B2 n2 d2) 28))
  have HC := Lib.hid (Blk.new (w.alloc (.cells (s.cells A m c B n d) 28)) 28 (t.cells A2 m2 c2 B2 n2 d2))
  rw [World.size_alloc] at HC
  clear h k h2 k2 q1
  go_enter Tryd.func41, Tryd.ntmps41
  go_upto_region 1 with fail
  generalize (w.alloc (.cells (s.cells A m c B n d) 28)).alloc (.cells (t.cells A2 m2 c2 B2 n2 d2) 28) = w1 at *
  obtain ⟨ec, hec⟩ : ∃ e, e = decide (s.cols = t.cols) := ⟨_, rfl⟩
  obtain ⟨ek, hek⟩ : ∃ e, e = decide (s.keys = t.keys) := ⟨_, rfl⟩
  have HEC := Lib.hid hec
  have HEK := Lib.hid hek
  rw [← hec, ← hek] at HR
  clear hec hek
  refine wp_region_ps0 .text (S := fun _ _ w' => Below w1.heap.size w1 w') (by kernel_rfl) ?spswg1 ?ppswg1
  case spswg1 =>
    exact (Below.refl w1.heap.size w1)
  refine Ps.st (i := 0) (d := some 5) (u := (.pointer (some ⟨w.heap.size, 0, none⟩))) rfl rfl (by exact StepS.pure nP rfl fun _ => rfl) ?_
  try simp only [Act.put, sA, sZ, sS]
  refine Ps.st (i := 1) (d := some 6) (u := (.string s.name)) rfl rfl ?ywg1_3 ?rwg1_3
  case ywg1_3 =>
    refine StepS.read [] (by kernel_rfl) nP (by rfl) (fun L9 m9 w9 hSh hAt hDn hS => ?_)
    have hT : Below _ _ w9 := hS
    have x0 : w9.cell? ⟨w.heap.size, 0, none⟩ = some (.string s.name) := (HB.out.ca hT).cell 0
    clear hT hS
    go_simp
    try rfl
  try simp only [Act.put, sA, sZ, sS]
  refine Ps.st (i := 2) (d := some 7) (u := (.pointer (some ⟨w.heap.size + 1, 0, none⟩))) rfl rfl (by exact StepS.pure nP rfl fun _ => rfl) ?_
  try simp only [Act.put, sA, sZ, sS]
  refine Ps.st (i := 3) (d := some 8) (u := (.string t.name)) rfl rfl ?ywg1_5 ?rwg1_5
  case ywg1_5 =>
    refine StepS.read [] (by kernel_rfl) nP (by rfl) (fun L9 m9 w9 hSh hAt hDn hS => ?_)
    have hT : Below _ _ w9 := hS
    have x0 : w9.cell? ⟨w.heap.size + 1, 0, none⟩ = some (.string t.name) := (HC.out.ca hT).cell 0
    clear hT hS
    go_simp
    try rfl
  try simp only [Act.put, sA, sZ, sS]
  refine Ps.st (i := 4) (d := some 9) (u := (.bool ((s.name.toList == t.name.toList)))) rfl rfl (by exact StepS.pure nP rfl fun _ => rfl) ?_
  try simp only [Act.put, sA, sZ, sS]
  obtain ⟨b1_5, hb9⟩ : ∃ zb : Bool, zb = ((s.name.toList == t.name.toList)) := ⟨_, rfl⟩
  have HEb1_5 := Lib.hid hb9
  clear hb9
  refine Ps.st (i := 5) (d := some 10) (u := (.bool (b1_5))) rfl rfl ?ywg1_7 ?rwg1_7
  case ywg1_7 =>
    refine StepS.pure nP (by rfl) (fun w9 => ?_)
    have e9 : ((s.name.toList == t.name.toList)) = b1_5 := by rw [HEb1_5.out]
    rw [← e9]
    clear e9
    first | rfl | (go_simp; done) | (go_simp; rfl)
  try simp only [Act.put, sA, sZ, sS]
  refine Ps.st (i := 6) (d := some 11) (u := (cond b1_5 (.pointer (some ⟨w.heap.size, 1, none⟩)) (undef))) rfl rfl (by cases b1_5; exact StepS.skip nP rfl; exact StepS.pure nP rfl fun _ => rfl) ?_
  try simp only [Act.put, sA, sZ, sS]
  refine Ps.st (i := 7) (d := some 12) (u := (cond b1_5 (.slice A m c) (undef))) rfl rfl ?ywg1_9 ?rwg1_9
  case ywg1_9 =>
    cases b1_5
    · exact StepS.skip nP (by rfl)
    · skip
      refine StepS.read [] (by kernel_rfl) nP (by rfl) (fun L9 m9 w9 hSh hAt hDn hS => ?_)
      have hT : Below _ _ w9 := hS
      have x0 : w9.cell? ⟨w.heap.size, 1, none⟩ = some (.slice A m c) := (HB.out.ca hT).cell 1
      clear hT hS
      go_simp
      try rfl
  try simp only [Act.put, sA, sZ, sS]
  refine Ps.st (i := 8) (d := some 13) (u := (cond b1_5 (.pointer (some ⟨w.heap.size + 1, 1, none⟩)) (undef))) rfl rfl (by cases b1_5; exact StepS.skip nP rfl; exact StepS.pure nP rfl fun _ => rfl) ?_
  try simp only [Act.put, sA, sZ, sS]
  refine Ps.st (i := 9) (d := some 14) (u := (cond b1_5 (.slice A2 m2 c2) (undef))) rfl rfl ?ywg1_11 ?rwg1_11
  case ywg1_11 =>
    cases b1_5
    · exact StepS.skip nP (by rfl)
    · skip
      refine StepS.read [] (by kernel_rfl) nP (by rfl) (fun L9 m9 w9 hSh hAt hDn hS => ?_)
      have hT : Below _ _ w9 := hS
      have x0 : w9.cell? ⟨w.heap.size + 1, 1, none⟩ = some (.slice A2 m2 c2) := (HC.out.ca hT).cell 1
      clear hT hS
      go_simp
      try rfl
  try simp only [Act.put, sA, sZ, sS]
  refine Ps.st (i := 10) (d := some 15) (u := (cond b1_5 (.bool (ec)) (undef))) rfl rfl ?ywg1_12 ?rwg1_12
  case ywg1_12 =>
    cases b1_5
    · exact StepS.skip nP (by rfl)
    · skip
      refine StepS.call ?fwg1_12 ?awg1_12 [] (by kernel_rfl) (by rfl) (fun w9 => ?hwg1_12) (fun L9 m9 w9 hSh hAt hDn hS => ?cwg1_12)
      case hwg1_12 => go_simp; refine ⟨?_, ?_⟩ <;> rfl
      case cwg1_12 =>
        have hT : Below _ _ w9 := hS
        refine (equalO F G s.cols t.cols A m c A2 m2 c2 w9 (Lay.rd_below h3 hT) (Lay.rd_below h4 hT) hm).mono ?_
        rintro e w8 ⟨rfl, q8⟩
        exact ⟨by rw [HEC.out]; first | done | rfl, bl_ca hT q8⟩
  try simp only [Act.put, sA, sZ, sS]
  refine Ps.st (i := 11) (d := some 16) (u := (.bool (b1_5 && ec))) rfl rfl ?ywg1_13 ?rwg1_13
  case ywg1_13 =>
    refine StepS.pure nP (by rfl) (fun w9 => ?_)
    cases b1_5 <;> (first | rfl | (go_simp; done) | (go_simp; rfl))
  try simp only [Act.put, sA, sZ, sS]
  obtain ⟨b1_12, hb9⟩ : ∃ zb : Bool, zb = (((s.name.toList == t.name.toList)) && ec) := ⟨_, rfl⟩
  have HEb1_12 := Lib.hid hb9
  clear hb9
  refine Ps.st (i := 12) (d := some 17) (u := (.bool (b1_12))) rfl rfl ?ywg1_14 ?rwg1_14
  case ywg1_14 =>
    refine StepS.pure nP (by rfl) (fun w9 => ?_)
    have e9 : (b1_5 && ec) = b1_12 := by rw [HEb1_12.out, HEb1_5.out]
    rw [← e9]
    clear e9
    first | rfl | (go_simp; done) | (go_simp; rfl)
  try simp only [Act.put, sA, sZ, sS]
  refine Ps.st (i := 13) (d := some 18) (u := (cond b1_12 (.pointer (some ⟨w.heap.size, 2, none⟩)) (undef))) rfl rfl (by cases b1_12; exact StepS.skip nP rfl; exact StepS.pure nP rfl fun _ => rfl) ?_
  try simp only [Act.put, sA, sZ, sS]
  refine Ps.st (i := 14) (d := some 19) (u := (cond b1_12 (.slice B n d) (undef))) rfl rfl ?ywg1_16 ?rwg1_16
  case ywg1_16 =>
    cases b1_12
    · exact StepS.skip nP (by rfl)
    · skip
      refine StepS.read [] (by kernel_rfl) nP (by rfl) (fun L9 m9 w9 hSh hAt hDn hS => ?_)
      have hT : Below _ _ w9 := hS
      have x0 : w9.cell? ⟨w.heap.size, 2, none⟩ = some (.slice B n d) := (HB.out.ca hT).cell 2
      clear hT hS
      go_simp
      try rfl
  try simp only [Act.put, sA, sZ, sS]
  refine Ps.st (i := 15) (d := some 20) (u := (cond b1_12 (.pointer (some ⟨w.heap.size + 1, 2, none⟩)) (undef))) rfl rfl (by cases b1_12; exact StepS.skip nP rfl; exact StepS.pure nP rfl fun _ => rfl) ?_
  try simp only [Act.put, sA, sZ, sS]
  refine Ps.st (i := 16) (d := some 21) (u := (cond b1_12 (.slice B2 n2 d2) (undef))) rfl rfl ?ywg1_18 ?rwg1_18
  case ywg1_18 =>
    cases b1_12
    · exact StepS.skip nP (by rfl)
    · skip
      refine StepS.read [] (by kernel_rfl) nP (by rfl) (fun L9 m9 w9 hSh hAt hDn hS => ?_)
      have hT : Below _ _ w9 := hS
      have x0 : w9.cell? ⟨w.heap.size + 1, 2, none⟩ = some (.slice B2 n2 d2) := (HC.out.ca hT).cell 2
      clear hT hS
      go_simp
      try rfl
  try simp only [Act.put, sA, sZ, sS]
  refine Ps.st (i := 17) (d := some 22) (u := (cond b1_12 (.bool (ek)) (undef))) rfl rfl ?ywg1_19 ?rwg1_19
  case ywg1_19 =>
    cases b1_12
    · exact StepS.skip nP (by rfl)
    · skip
      refine StepS.call ?fwg1_19 ?awg1_19 [] (by kernel_rfl) (by rfl) (fun w9 => ?hwg1_19) (fun L9 m9 w9 hSh hAt hDn hS => ?cwg1_19)
      case hwg1_19 => go_simp; refine ⟨?_, ?_⟩ <;> rfl
      case cwg1_19 =>
        have hT : Below _ _ w9 := hS
        refine (equalK F G s.keys t.keys B n d B2 n2 d2 w9 (Lay.rd_below k3 hT) (Lay.rd_below k4 hT) hn).mono ?_
        rintro e w8 ⟨rfl, q8⟩
        exact ⟨by rw [HEK.out]; first | done | rfl, bl_ca hT q8⟩
  try simp only [Act.put, sA, sZ, sS]
  refine Ps.st (i := 18) (d := some 23) (u := (.bool (b1_12 && ek))) rfl rfl ?ywg1_20 ?rwg1_20
  case ywg1_20 =>
    refine StepS.pure nP (by rfl) (fun w9 => ?_)
    cases b1_12 <;> (first | rfl | (go_simp; done) | (go_simp; rfl))
  try simp only [Act.put, sA, sZ, sS]
  obtain ⟨fin, hb9⟩ : ∃ zb : Bool, zb = ((((s.name.toList == t.name.toList)) && ec) && ek) := ⟨_, rfl⟩
  have HEfin := Lib.hid hb9
  clear hb9
  refine Ps.st (i := 19) (d := some 4) (u := (.bool (fin))) rfl rfl ?ywg1_21 ?rwg1_21
  case ywg1_21 =>
    refine StepS.pure nP (by rfl) (fun w9 => ?_)
    have e9 : (b1_12 && ek) = fin := by rw [HEfin.out, HEb1_12.out]
    rw [← e9]
    clear e9
    first | rfl | (go_simp; done) | (go_simp; rfl)
  try simp only [Act.put, sA, sZ, sS]
  refine Ps.done (by kernel_rfl) (fun wg1 hS => ?_) _
  try generalize (cond b1_12 (.pointer (some ⟨w.heap.size + 1, 2, none⟩)) (undef) : Value) = zz22
  try generalize (cond b1_5 (.pointer (some ⟨w.heap.size + 1, 1, none⟩)) (undef) : Value) = zz23
  try generalize (cond b1_12 (.pointer (some ⟨w.heap.size, 2, none⟩)) (undef) : Value) = zz24
  try generalize (cond b1_5 (.pointer (some ⟨w.heap.size, 1, none⟩)) (undef) : Value) = zz25
  try generalize (cond b1_12 (.slice B2 n2 d2) (undef) : Value) = zz26
  try generalize (cond b1_5 (.slice A2 m2 c2) (undef) : Value) = zz27
  try generalize (cond b1_12 (.slice B n d) (undef) : Value) = zz28
  try generalize (cond b1_5 (.slice A m c) (undef) : Value) = zz29
  try generalize (cond b1_12 (.bool (ek)) (undef) : Value) = zz30
  try generalize (cond b1_5 (.bool (ec)) (undef) : Value) = zz31
  try generalize (.bool (b1_12 && ek) : Value) = zz32
  try generalize (.bool (b1_5 && ec) : Value) = zz33
  have HT2 := Lib.hid (show Below w1.heap.size w1 wg1 from hS)
  clear hS
  obtain ⟨w2, rfl⟩ : ∃ x, x = wg1 := ⟨_, rfl⟩
  have HF := Lib.hid (show fin = r from by
    rw [HEfin.out, HR.out, seq_iff]
    cases decide (s.name = t.name) <;> cases ec <;> cases ek <;> rfl)
  have HQ2 := Lib.hid (bl_ca q2.out HT2.out)
  go_wp2
  go_ret
  exact ⟨ret_bool HF.out, HQ2.out⟩
set_option maxRecDepth 100000 in
set_option maxHeartbeats 4000000 in
theorem equalT (F G : Nat → Prop) (xs ys : List TC) (A : Option Addr) (m c : Nat) (B : Option Addr) (n d : Nat) (w : World) (h : LT3.rd w F A m xs) (k : LT3.rd w G B n ys) (hm : m ≤ 9223372036854775807) :
    Calls Tryd.prog 40 #[.slice A m c, .slice B n d, .func (.func 41) #[] #[]] w fun e w' => e = .returned (.bool (decide (xs = ys))) ∧ Below w.heap.size w w' := by
  have HL := Lib.hid (And.intro (Lay.rd_len h) (Lay.rd_len k))
  have HR := Lib.hid (show decide (xs = ys) = true ↔ xs = ys from decide_eq_true_iff)
  generalize decide (xs = ys) = r at *
  have HNO := Lib.hid (show ¬ xs = ys → r = false from fun h => by cases r; rfl; exact absurd (HR.out.1 rfl) h)
  go_enter Tryd.func40, Tryd.ntmps40
  by_cases c4 : m = n
  case neg =>
    have e2 : ((m : Int) == (n : Int)) = false := by simp; omega
    have e3 : (m == n) = false := by simpa using c4
    have HQ := Lib.hid (HNO.out (fun h => c4 (by rw [← HL.out.1, ← HL.out.2, h])))
    clear c4
    go_wp2
    go_ret
    exact ⟨ret_bool HQ.out.symm, Below.refl _ _⟩
  subst c4
  go_wp2_with fail
  go_loopg [17] m (fun g a wr => ∃ i : Nat, i + g = m ∧ a = .int .i64 i ∧ (∀ (k : Nat) (x y : TC), k < i → xs[k]? = some x → ys[k]? = some y → x = y) ∧ Below w.heap.size w wr)
  case atStart => exact ⟨0, by omega, rfl, fun k x y hk => by omega, Below.refl _ _⟩
  case round =>
    obtain ⟨i, hig, rfl, heq, b1⟩ := hrel
    have HEQ := Lib.hid heq
    have HB1 := Lib.hid b1
    have h5 := Lay.rd_below h b1
    have h6 := Lay.rd_below k b1
    clear heq b1
    by_cases hlt : i < m
    · have hi1 : (i : Int) < (m : Int) := by omega
      obtain ⟨p, x, A1, n1, c1, B1, m1, d1, hAe, hx, s1⟩ := LT3_at h5 hlt
      obtain ⟨p2, y, A2, n2, c2, B2, m2, d2, hAe2, hy, s2⟩ := LT3_at h6 hlt
      obtain rfl : A = some p := hAe
      obtain rfl : B = some p2 := hAe2
      have e0 := s1.c0
      have e1 := s1.c1
      have e2 := s1.c2
      have q7 := bl_al (Below.refl wr.heap.size wr) (.cells #[.string x.name, .slice A1 n1 c1, .slice B1 m1 d1] 28)
      have f0 := ce s2.c0 q7
      have f1 := ce s2.c1 q7
      have f2 := ce s2.c2 q7
      have q8 := bl_al q7 (.cells #[.string y.name, .slice A2 n2 c2, .slice B2 m2 d2] 28)
      have g0 := ((Blk.new wr 28 #[.string x.name, .slice A1 n1 c1, .slice B1 m1 d1]).alloc (.cells #[.string y.name, .slice A2 n2 c2, .slice B2 m2 d2] 28)).cell 0
      have g1 := ((Blk.new wr 28 #[.string x.name, .slice A1 n1 c1, .slice B1 m1 d1]).alloc (.cells #[.string y.name, .slice A2 n2 c2, .slice B2 m2 d2] 28)).cell 1
      have g2 := ((Blk.new wr 28 #[.string x.name, .slice A1 n1 c1, .slice B1 m1 d1]).alloc (.cells #[.string y.name, .slice A2 n2 c2, .slice B2 m2 d2] 28)).cell 2
      have HX := Lib.hid hx
      have HY := Lib.hid hy
      have HCT := Lib.hid (samet_any F G x y A1 n1 c1 B1 m1 d1 A2 n2 c2 B2 m2 d2 _ (Lay.rd_below s1.rd q8) (Lay.rd_below s1.rk q8) (Lay.rd_below s2.rd q8) (Lay.rd_below s2.rk q8) (Nat.le_trans s1.nc s1.cm) (Nat.le_trans s1.md s1.dm))
      have HQ8 := Lib.hid q8
      clear hx hy s1 s2 q7 q8
      go_wp2_with fail
      refine HCT.out.mono ?_
      rintro e w5 ⟨rfl, q5⟩
      have HQ5 := Lib.hid (bl_ca HQ8.out q5)
      clear q5 HQ8 HCT e0 e1 e2 f0 f1 f2 g0 g1 g2
      by_cases hq : x = y
      · rw [decide_eq_true hq]
        have HN := Lib.hid (show ∀ (k : Nat) (x y : TC), k < i + 1 → xs[k]? = some x → ys[k]? = some y → x = y from fun k x' y' hk h8 h9 => by
          rcases Nat.lt_or_ge k i with h7 | h7
          · exact HEQ.out k x' y' h7 h8 h9
          · obtain rfl : k = i := by omega
            rw [← at_eq HX.out h8, ← at_eq HY.out h9]
            exact hq)
        clear hq
        go_wp2
        go_roundg (gk - 1)
        · exact ⟨i + 1, by omega, by go_num, HN.out, bl_ca HB1.out HQ5.out⟩
        · omega
      · rw [decide_eq_false hq]
        have HQ := Lib.hid (HNO.out (fun h => hq (by have h8 := HX.out; rw [h] at h8; exact at_eq h8 HY.out)))
        clear hq
        go_wp2
        go_ret
        exact ⟨ret_bool HQ.out.symm, bl_ca HB1.out HQ5.out⟩
    · obtain rfl : i = m := by omega
      have hi1 : (i : Int) ≤ (i : Int) := by omega
      have HQ := Lib.hid (HR.out.2 (list_ext_lt HL.out.1 HL.out.2 HEQ.out))
      go_wp2
      go_ret
      exact ⟨ret_bool HQ.out.symm, HB1.out⟩
set_option maxRecDepth 100000 in
set_option maxHeartbeats 4000000 in
theorem same_any (F G : Nat → Prop) (xs ys : List TC) (A : Option Addr) (m c : Nat) (B : Option Addr) (n d : Nat) (w : World) (h : LT3.rd w F A m xs) (k : LT3.rd w G B n ys) (hm : m ≤ 9223372036854775807) :
    Calls Tryd.prog 21 #[.agg #[.slice A m c], .agg #[.slice B n d]] w fun e w' => e = .returned (.bool (decide (xs = ys))) ∧ Below w.heap.size w w' := by
  have q1 := bl_al (Below.refl w.heap.size w) (.cells #[.slice A m c] 24)
  have q2 := bl_al q1 (.cells #[.slice B n d] 24)
  have HC := Lib.hid (equalT F G xs ys A m c B n d _ (Lay.rd_below h q2) (Lay.rd_below k q2) hm)
  have y0 := ((Blk.new w 24 #[.slice A m c]).alloc (.cells #[.slice B n d] 24)).cell 0
  have z0 := (Blk.new (w.alloc (.cells #[.slice A m c] 24)) 24 #[.slice B n d]).cell 0
  rw [World.size_alloc] at z0
  have HQ := Lib.hid q2
  generalize decide (xs = ys) = r at *
  clear q1 q2 h k
  go_enter Tryd.func21, Tryd.ntmps21
  go_wp2_with fail
  refine HC.out.mono ?_
  rintro e w2 ⟨rfl, q2⟩
  have HQ2 := Lib.hid (bl_ca HQ.out q2)
  clear q2 HC y0 z0
  go_wp2
  go_ret
  exact ⟨rfl, HQ2.out⟩
end Go.Proofs.YthgcdilkkldgjaaDoor
