/- The layer's Check, Find, Column. Conditions: the slices read so; what the tables hold; the names are short. -/
import Derived.Test.YthgcdilkkldgjaaDoorPkC9
namespace Go.Proofs.YthgcdilkkldgjaaDoor
open Go.RowKit
theorem catB_eq (l : List TC) : catB l = (decide (l.length ≤ 4) && (!(l.any fun t => !tabB t) && onceB (l.map TC.name))) := by
  rw [Bool.eq_iff_iff, catB_iff]
  simp only [Bool.and_eq_true, decide_eq_true_eq, onceB_iff, Bool.not_eq_true', List.any_eq_false]
  constructor
  · rintro ⟨h1, h2, h3⟩
    refine ⟨h1, fun t ht => ?_, fun i x hx => ?_⟩
    · obtain ⟨k, hk, e⟩ := List.getElem_of_mem ht
      rw [h2 k t (by rw [← e]; exact List.getElem?_eq_getElem hk)]
      simp
    · rw [List.getElem?_map] at hx
      cases e : l[i]? with
      | none => rw [e] at hx; cases hx
      | some t =>
        rw [e] at hx
        injection hx with hx
        subst hx
        refine ⟨((tabB_iff t).1 (h2 i t e)).nm, fun j y hj hy => ?_⟩
        rw [List.getElem?_map] at hy
        cases e2 : l[j]? with
        | none => rw [e2] at hy; cases hy
        | some u =>
          rw [e2] at hy
          injection hy with hy
          subst hy
          exact h3 j i u t hj e2 e
  · rintro ⟨h1, h2, h3⟩
    refine ⟨h1, fun k t ht => ?_, fun i k a b hik ha hb => (h3 k b.name (by rw [List.getElem?_map, hb]; rfl)).2 i a.name hik (by rw [List.getElem?_map, ha]; rfl)⟩
    have h9 := h2 t (List.mem_of_getElem? ht)
    cases e : tabB t
    · rw [e] at h9; simp at h9
    · rfl
theorem eT_ne (b : Bool) : (!decide (eT b = 0)) = !b := by cases b <;> rfl
set_option maxRecDepth 100000 in
set_option maxHeartbeats 4000000 in
theorem chk1_any (F : Nat → Prop) (t : TC) (A : Option Addr) (n c : Nat) (B : Option Addr) (m d : Nat) (w : World) (h : LCO.rd w F A n t.cols) (h2 : LK.rd w F B m t.keys) (hn : n ≤ 9223372036854775807) (hm : m ≤ 9223372036854775807) (hT : Tab w) (hs : Sz t) :
    Calls Tryd.prog 36 #[.agg #[.string t.name, .slice A n c, .slice B m d]] w fun e w' => e = .returned (.bool (!tabB t)) ∧ Below w.heap.size w w' := by
  have HS := Lib.hid hs
  have q1 := bl_al (Below.refl w.heap.size w) (.cells (t.cells A n c B m d) 28)
  have HC := Lib.hid (checkt_any F F t A n c B m d _ (Lay.rd_below h q1) (Lay.rd_below h2 q1) hn hm (hT.below q1) hs)
  have HQ := Lib.hid q1
  have HX := Lib.hid (Blk.new w 28 (t.cells A n c B m d))
  have y0 := HX.out.cell 0
  have y1 := HX.out.cell 1
  have y2 := HX.out.cell 2
  clear q1 h h2 hT hs
  go_enter Tryd.func36, Tryd.ntmps36
  go_wp2_with fail
  refine HC.out.mono ?_
  rintro e w2 ⟨rfl, q2⟩
  have HQ2 := Lib.hid (bl_ca HQ.out q2)
  clear q2 HC y0 y1 y2
  obtain ⟨b, hb⟩ : ∃ b, b = tabB t := ⟨_, rfl⟩
  rw [← hb]
  have HB := Lib.hid hb
  clear hb
  cases b
  · have e1 : eT false = 211 := rfl
    rw [e1]
    go_wp2
    go_ret
    exact ⟨ret_bool (by rw [← HB.out]; rfl), HQ2.out⟩
  · have e1 : eT true = 0 := rfl
    rw [e1]
    go_wp2
    go_ret
    exact ⟨ret_bool (by rw [← HB.out]; rfl), HQ2.out⟩
set_option maxRecDepth 100000 in
set_option maxHeartbeats 8000000 in
theorem check_any (F : Nat → Prop) (l : List TC) (A : Option Addr) (m c : Nat) (w : World) (h : LT3.rd w F A m l) (hm : m ≤ 9223372036854775807) (hT : Tab w) (hs : ∀ (k : Nat) (t : TC), l[k]? = some t → Sz t) :
    Calls Tryd.prog 20 #[.agg #[.slice A m c]] w fun e w' => e = .returned (.int .i64 (eC (catB l))) ∧ Below w.heap.size w w' := by
  have HL := Lib.hid (Lay.rd_len h)
  have HR := Lib.hid (catB_eq l)
  rw [HL.out] at HR
  have HSZ := Lib.hid hs
  generalize catB l = r at *
  have q1 := bl_al (Below.refl w.heap.size w) (.cells #[.slice A m c] 24)
  have h1 := Lay.rd_below h q1
  have HT := Lib.hid (hT.below q1)
  have HB := Lib.hid (Blk.new w 24 #[.slice A m c])
  have HQ := Lib.hid q1
  clear q1 h hT hs
  go_enter Tryd.func20, Tryd.ntmps20
  go_upto_region 2 with fail
  generalize w.alloc (.cells #[.slice A m c] 24) = w1 at *
  obtain ⟨bad, hbad⟩ : ∃ bad, bad = l.any fun t => !tabB t := ⟨_, rfl⟩
  obtain ⟨on, hon⟩ : ∃ on, on = onceB (l.map TC.name) := ⟨_, rfl⟩
  have HBAD := Lib.hid hbad
  have HON := Lib.hid hon
  rw [← hbad, ← hon] at HR
  clear hbad hon
  refine wp_region_ps0 .text (S := fun _ _ w' => Below w1.heap.size w1 w') (by kernel_rfl) ?spswg1 ?ppswg1
  case spswg1 =>
    exact (Below.refl w1.heap.size w1)
  refine Ps.st (i := 0) (d := some 4) (u := (.pointer (some ⟨w.heap.size, 0, none⟩))) rfl rfl (by exact StepS.pure nP rfl fun _ => rfl) ?_
  try simp only [Act.put, sA, sZ, sS]
  refine Ps.st (i := 1) (d := some 5) (u := (.slice A m c)) rfl rfl ?ywg1_3 ?rwg1_3
  case ywg1_3 =>
    refine StepS.read [] (by kernel_rfl) nP (by rfl) (fun L9 m9 w9 hSh hAt hDn hS => ?_)
    have hT : Below _ _ w9 := hS
    have x0 : w9.cell? ⟨w.heap.size, 0, none⟩ = some (.slice A m c) := (HB.out.ca hT).cell 0
    clear hT hS
    go_simp
    try rfl
  try simp only [Act.put, sA, sZ, sS]
  refine Ps.st (i := 2) (d := some 6) (u := (.int .i64 ((m : Int)))) rfl rfl (by exact StepS.pure nP rfl fun _ => by first | rfl | (go_simp; done) | (go_simp; rfl)) ?_
  try simp only [Act.put, sA, sZ, sS]
  refine Ps.st (i := 3) (d := some 7) (u := (.bool (decide ((4 : Int) < (m : Int))))) rfl rfl (by exact StepS.pure nP rfl fun _ => rfl) ?_
  try simp only [Act.put, sA, sZ, sS]
  obtain ⟨b2_4, hb9⟩ : ∃ zb : Bool, zb = (decide ((4 : Int) < (m : Int))) := ⟨_, rfl⟩
  have HEb2_4 := Lib.hid hb9
  clear hb9
  refine Ps.st (i := 4) (d := some 8) (u := (.bool (b2_4))) rfl rfl ?ywg1_6 ?rwg1_6
  case ywg1_6 =>
    refine StepS.pure nP (by rfl) (fun w9 => ?_)
    have e9 : (decide ((4 : Int) < (m : Int))) = b2_4 := by rw [HEb2_4.out]
    rw [← e9]
    clear e9
    first | rfl | (go_simp; done) | (go_simp; rfl)
  try simp only [Act.put, sA, sZ, sS]
  refine Ps.st (i := 5) (d := some 9) (u := (cond b2_4 (undef) (.pointer (some ⟨w.heap.size, 0, none⟩)))) rfl rfl (by cases b2_4; (exact StepS.pure nP rfl fun _ => rfl); exact StepS.skip nP rfl) ?_
  try simp only [Act.put, sA, sZ, sS]
  refine Ps.st (i := 6) (d := some 10) (u := (cond b2_4 (undef) (.slice A m c))) rfl rfl ?ywg1_8 ?rwg1_8
  case ywg1_8 =>
    cases b2_4
    · skip
      refine StepS.read [] (by kernel_rfl) nP (by rfl) (fun L9 m9 w9 hSh hAt hDn hS => ?_)
      have hT : Below _ _ w9 := hS
      have x0 : w9.cell? ⟨w.heap.size, 0, none⟩ = some (.slice A m c) := (HB.out.ca hT).cell 0
      clear hT hS
      go_simp
      try rfl
    · exact StepS.skip nP (by rfl)
  try simp only [Act.put, sA, sZ, sS]
  refine Ps.st (i := 7) (d := some 11) (u := (cond b2_4 (undef) (.func (.func 36) #[] #[]))) rfl rfl (by cases b2_4; (exact StepS.pure nP rfl fun _ => rfl); exact StepS.skip nP rfl) ?_
  try simp only [Act.put, sA, sZ, sS]
  refine Ps.st (i := 8) (d := some 12) (u := (cond b2_4 (undef) (.bool (bad)))) rfl rfl ?ywg1_10 ?rwg1_10
  case ywg1_10 =>
    cases b2_4
    · skip
      refine StepS.call ?fwg1_10 ?awg1_10 [] (by kernel_rfl) (by rfl) (fun w9 => ?hwg1_10) (fun L9 m9 w9 hSh hAt hDn hS => ?cwg1_10)
      case hwg1_10 => go_simp; refine ⟨?_, ?_⟩ <;> rfl
      case cwg1_10 =>
        have hT : Below _ _ w9 := hS
        refine (containsT F A m c l 36 #[] (fun t => !tabB t) w9 (Lay.rd_below h1 hT) hm (fun args w => enters_of Tryd.func36 (by kernel_rfl) rfl args w) (fun i t A n c B m d W b hx g1 g2 g3 g4 g5 g6 => chk1_any F t A n c B m d W g1 g4 (by omega) (by omega) ((HT.out.below hT).below b) (HSZ.out i t hx))).mono ?_
        rintro e w8 ⟨rfl, q8⟩
        exact ⟨by rw [HBAD.out]; first | done | rfl, bl_ca hT q8⟩
    · exact StepS.skip nP (by rfl)
  try simp only [Act.put, sA, sZ, sS]
  refine Ps.st (i := 9) (d := some 13) (u := (.bool (b2_4 || bad))) rfl rfl ?ywg1_11 ?rwg1_11
  case ywg1_11 =>
    refine StepS.pure nP (by rfl) (fun w9 => ?_)
    cases b2_4 <;> (first | rfl | (go_simp; done) | (go_simp; rfl))
  try simp only [Act.put, sA, sZ, sS]
  obtain ⟨b2_10, hb9⟩ : ∃ zb : Bool, zb = ((decide ((4 : Int) < (m : Int))) || bad) := ⟨_, rfl⟩
  have HEb2_10 := Lib.hid hb9
  clear hb9
  refine Ps.st (i := 10) (d := some 14) (u := (.bool (b2_10))) rfl rfl ?ywg1_12 ?rwg1_12
  case ywg1_12 =>
    refine StepS.pure nP (by rfl) (fun w9 => ?_)
    have e9 : (b2_4 || bad) = b2_10 := by rw [HEb2_10.out, HEb2_4.out]
    rw [← e9]
    clear e9
    first | rfl | (go_simp; done) | (go_simp; rfl)
  try simp only [Act.put, sA, sZ, sS]
  refine Ps.st (i := 11) (d := some 15) (u := (cond b2_10 (undef) (.pointer (some ⟨w.heap.size, 0, none⟩)))) rfl rfl (by cases b2_10; (exact StepS.pure nP rfl fun _ => rfl); exact StepS.skip nP rfl) ?_
  try simp only [Act.put, sA, sZ, sS]
  refine Ps.st (i := 12) (d := some 16) (u := (cond b2_10 (undef) (.slice A m c))) rfl rfl ?ywg1_14 ?rwg1_14
  case ywg1_14 =>
    cases b2_10
    · skip
      refine StepS.read [] (by kernel_rfl) nP (by rfl) (fun L9 m9 w9 hSh hAt hDn hS => ?_)
      have hT : Below _ _ w9 := hS
      have x0 : w9.cell? ⟨w.heap.size, 0, none⟩ = some (.slice A m c) := (HB.out.ca hT).cell 0
      clear hT hS
      go_simp
      try rfl
    · exact StepS.skip nP (by rfl)
  try simp only [Act.put, sA, sZ, sS]
  refine Ps.st (i := 13) (d := some 17) (u := (cond b2_10 (undef) (.bool (on)))) rfl rfl ?ywg1_15 ?rwg1_15
  case ywg1_15 =>
    cases b2_10
    · skip
      refine StepS.call ?fwg1_15 ?awg1_15 [] (by kernel_rfl) (by rfl) (fun w9 => ?hwg1_15) (fun L9 m9 w9 hSh hAt hDn hS => ?cwg1_15)
      case hwg1_15 => go_simp; refine ⟨?_, ?_⟩ <;> rfl
      case cwg1_15 =>
        have hT : Below _ _ w9 := hS
        refine (onceT_any F l A m c w9 (Lay.rd_below h1 hT) hm (HT.out.below hT) (fun k t h9 => by have := (HSZ.out k t h9).1; omega)).mono ?_
        rintro e w8 ⟨rfl, q8⟩
        exact ⟨by rw [HON.out]; first | done | rfl, bl_ca hT q8⟩
    · exact StepS.skip nP (by rfl)
  try simp only [Act.put, sA, sZ, sS]
  refine Ps.st (i := 14) (d := some 18) (u := (cond b2_10 (undef) (.bool (!on)))) rfl rfl (by cases b2_10; (exact StepS.pure nP rfl fun _ => rfl); exact StepS.skip nP rfl) ?_
  try simp only [Act.put, sA, sZ, sS]
  obtain ⟨fin, hb9⟩ : ∃ zb : Bool, zb = (((decide ((4 : Int) < (m : Int))) || bad) || !on) := ⟨_, rfl⟩
  have HEfin := Lib.hid hb9
  clear hb9
  refine Ps.st (i := 15) (d := some 19) (u := (.bool (fin))) rfl rfl ?ywg1_17 ?rwg1_17
  case ywg1_17 =>
    refine StepS.pure nP (by rfl) (fun w9 => ?_)
    have e9 : (b2_10 || !on) = fin := by rw [HEfin.out, HEb2_10.out]
    rw [← e9]
    clear e9
    cases b2_10 <;> (first | rfl | (go_simp; done) | (go_simp; rfl))
  try simp only [Act.put, sA, sZ, sS]
  refine Ps.done (by kernel_rfl) (fun wg1 hS => ?_) _
  try generalize (cond b2_4 (undef) (.func (.func 36) #[] #[]) : Value) = zz18
  try generalize (cond b2_10 (undef) (.pointer (some ⟨w.heap.size, 0, none⟩)) : Value) = zz19
  try generalize (cond b2_4 (undef) (.pointer (some ⟨w.heap.size, 0, none⟩)) : Value) = zz20
  try generalize (cond b2_10 (undef) (.slice A m c) : Value) = zz21
  try generalize (cond b2_10 (undef) (.bool (!on)) : Value) = zz22
  try generalize (cond b2_4 (undef) (.slice A m c) : Value) = zz23
  try generalize (cond b2_10 (undef) (.bool (on)) : Value) = zz24
  try generalize (cond b2_4 (undef) (.bool (bad)) : Value) = zz25
  try generalize (.bool (b2_4 || bad) : Value) = zz26
  have HT2 := Lib.hid (show Below w1.heap.size w1 wg1 from hS)
  clear hS
  obtain ⟨w2, rfl⟩ : ∃ x, x = wg1 := ⟨_, rfl⟩
  have HK := Lib.hid (show fin = !r from by
    rw [HEfin.out, HR.out]
    rw [show decide (4 < (m : Int)) = !decide (m ≤ 4) from by rw [Bool.eq_iff_iff]; simp <;> omega]
    cases decide (m ≤ 4) <;> cases bad <;> cases on <;> rfl)
  have HQ2 := Lib.hid (bl_ca HQ.out HT2.out)
  clear HB h1 HT HQ HT2 HBAD HON HR
  cases fin
  · have HF := Lib.hid (show eC r = 0 from by cases r; exact absurd HK.out (by simp); rfl)
    go_wp2
    go_ret
    exact ⟨by rw [HF.out]; rfl, HQ2.out⟩
  · have HF := Lib.hid (show eC r = 210 from by cases r; rfl; exact absurd HK.out (by simp))
    go_wp2
    go_ret
    exact ⟨by rw [HF.out]; rfl, HQ2.out⟩
set_option maxRecDepth 100000 in
set_option maxHeartbeats 4000000 in
theorem find_any (F : Nat → Prop) (l : List TC) (A : Option Addr) (m c : Nat) (s : ByteArray) (w : World) (h : LT3.rd w F A m l) (hm : m ≤ 9223372036854775807) :
    Calls Tryd.prog 22 #[.agg #[.slice A m c], .string s] w fun e w' => e = .returned (.tuple #[.int .i64 (fnd (idxL (fun t => decide (t.name = s)) l)), .bool (decide (0 ≤ idxL (fun t : TC => decide (t.name = s)) l))]) ∧ Below w.heap.size w w' := by
  have q1 := bl_al (Below.refl w.heap.size w) (.cells #[.slice A m c] 24)
  have HC := Lib.hid (findT_any F l A m c s _ (Lay.rd_below h q1) hm)
  have HQ := Lib.hid q1
  have y0 := (Blk.new w 24 #[.slice A m c]).cell 0
  clear q1 h
  obtain ⟨z, hz⟩ : ∃ z, z = idxL (fun t : TC => decide (t.name = s)) l := ⟨_, rfl⟩
  rw [← hz] at HC ⊢
  clear hz
  obtain ⟨v1, hv1⟩ : ∃ v1, v1 = fnd z := ⟨_, rfl⟩
  obtain ⟨v2, hv2⟩ : ∃ v2, v2 = decide (0 ≤ z) := ⟨_, rfl⟩
  rw [← hv1, ← hv2] at HC ⊢
  clear hv1 hv2
  go_enter Tryd.func22, Tryd.ntmps22
  go_wp2_with fail
  refine HC.out.mono ?_
  rintro e w2 ⟨rfl, q2⟩
  have HQ2 := Lib.hid (bl_ca HQ.out q2)
  clear q2 HC y0
  go_wp2
  exact bodyPost_ret (results_tmp2 Tryd.results22 _ _ _) rfl ⟨rfl, HQ2.out⟩
set_option maxRecDepth 100000 in
set_option maxHeartbeats 4000000 in
theorem column_any (F : Nat → Prop) (t : TC) (A : Option Addr) (m c : Nat) (B : Option Addr) (n d : Nat) (s : ByteArray) (w : World) (h : LCO.rd w F A m t.cols) (hm : m ≤ 9223372036854775807) :
    Calls Tryd.prog 24 #[.agg (t.cells A m c B n d), .string s] w fun e w' => e = .returned (.tuple #[.int .i64 (fnd (idxL (fun t => decide (t.name = s)) t.cols)), .bool (decide (0 ≤ idxL (fun t : CO => decide (t.name = s)) t.cols))]) ∧ Below w.heap.size w w' := by
  have q1 := bl_al (Below.refl w.heap.size w) (.cells (t.cells A m c B n d) 28)
  have HC := Lib.hid (findO_any F t.cols A m c s _ (Lay.rd_below h q1) hm)
  have HQ := Lib.hid q1
  have y0 := (Blk.new w 28 (t.cells A m c B n d)).cell 1
  clear q1 h
  obtain ⟨z, hz⟩ : ∃ z, z = idxL (fun t : CO => decide (t.name = s)) t.cols := ⟨_, rfl⟩
  rw [← hz] at HC ⊢
  clear hz
  obtain ⟨v1, hv1⟩ : ∃ v1, v1 = fnd z := ⟨_, rfl⟩
  obtain ⟨v2, hv2⟩ : ∃ v2, v2 = decide (0 ≤ z) := ⟨_, rfl⟩
  rw [← hv1, ← hv2] at HC ⊢
  clear hv1 hv2
  go_enter Tryd.func24, Tryd.ntmps24
  go_wp2_with fail
  refine HC.out.mono ?_
  rintro e w2 ⟨rfl, q2⟩
  have HQ2 := Lib.hid (bl_ca HQ.out q2)
  clear q2 HC y0
  go_wp2
  exact bodyPost_ret (results_tmp2 Tryd.results24 _ _ _) rfl ⟨rfl, HQ2.out⟩
end Go.Proofs.YthgcdilkkldgjaaDoor
/- The layer's same, Same. Conditions: the slices read so. -/
namespace Go.Proofs.YthgcdilkkldgjaaDoor
open Go.RowKit
set_option maxRecDepth 100000 in
set_option maxHeartbeats 4000000 in
theorem equalO (F G : Nat → Prop) (xs ys : List CO) (A : Option Addr) (m c : Nat) (B : Option Addr) (n d : Nat) (w : World) (h : LCO.rd w F A m xs) (k : LCO.rd w G B n ys) (hm : m ≤ 9223372036854775807) :
    Calls Tryd.prog 61 #[.slice A m c, .slice B n d] w fun e w' => e = .returned (.bool (decide (xs = ys))) ∧ Below w.heap.size w w' := by
  have HL := Lib.hid (And.intro (Lay.rd_len h) (Lay.rd_len k))
  have HR := Lib.hid (show decide (xs = ys) = true ↔ xs = ys from decide_eq_true_iff)
  generalize decide (xs = ys) = r at *
  have HNO := Lib.hid (show ¬ xs = ys → r = false from fun h => by cases r; rfl; exact absurd (HR.out.1 rfl) h)
  go_enter Tryd.func61, Tryd.ntmps61
  by_cases c4 : m = n
  case neg =>
    have e2 : ((m : Int) == (n : Int)) = false := by simp; omega
    have e3 : (m == n) = false := by simpa using c4
    have HQ := Lib.hid (HNO.out (fun h => c4 (by rw [← HL.out.1, ← HL.out.2, h])))
    clear c4
    go_wp2
    go_ret
    exact ⟨ret_bool HQ.out.symm, Below.refl _ _⟩
  subst c4
  go_wp2_with fail
  go_loopg [13] m (fun g a wr => ∃ i : Nat, i + g = m ∧ a = .int .i64 i ∧ (∀ (k : Nat) (x y : CO), k < i → xs[k]? = some x → ys[k]? = some y → x = y) ∧ Below w.heap.size w wr)
  case atStart => exact ⟨0, by omega, rfl, fun k x y hk => by omega, Below.refl _ _⟩
  case round =>
    obtain ⟨i, hig, rfl, heq, b1⟩ := hrel
    have HEQ := Lib.hid heq
    have HB1 := Lib.hid b1
    have h5 := Lay.rd_below h b1
    have h6 := Lay.rd_below k b1
    clear heq b1
    by_cases hlt : i < m
    · have hi1 : (i : Int) < (m : Int) := by omega
      obtain ⟨p, x, hAe, hx, s1⟩ := LCO_at h5 hlt
      obtain ⟨p2, y, hAe2, hy, s2⟩ := LCO_at h6 hlt
      obtain rfl : A = some p := hAe
      obtain rfl : B = some p2 := hAe2
      have e0 := s1.c0
      have e1 := s1.c1
      have f0 := s2.c0
      have f1 := s2.c1
      have HX := Lib.hid hx
      have HY := Lib.hid hy
      clear hx hy s1 s2
      go_wp2_with fail
      by_cases hq : x = y
      · have HQE : ∀ W, (Op.equalIn 10000 59 (.agg #[.string x.name, .int .i64 x.kind]) (.agg #[.string y.name, .int .i64 y.kind])).run Tryd.prog W = .ok true W := fun W => by rw [run_eqCO, decide_eq_true hq]
        have HN := Lib.hid (show ∀ (k : Nat) (x y : CO), k < i + 1 → xs[k]? = some x → ys[k]? = some y → x = y from fun k x' y' hk h8 h9 => by
          rcases Nat.lt_or_ge k i with h7 | h7
          · exact HEQ.out k x' y' h7 h8 h9
          · obtain rfl : k = i := by omega
            rw [← at_eq HX.out h8, ← at_eq HY.out h9]
            exact hq)
        clear hq
        go_quiet (fail)
        go_wp2
        go_roundg (gk - 1)
        · exact ⟨i + 1, by omega, by go_num, HN.out, bl_dr HB1.out _⟩
        · omega
      · have HQE : ∀ W, (Op.equalIn 10000 59 (.agg #[.string x.name, .int .i64 x.kind]) (.agg #[.string y.name, .int .i64 y.kind])).run Tryd.prog W = .ok false W := fun W => by rw [run_eqCO, decide_eq_false hq]
        have HQ := Lib.hid (HNO.out (fun h => hq (by have h8 := HX.out; rw [h] at h8; exact at_eq h8 HY.out)))
        clear hq
        go_quiet (fail)
        go_wp2
        go_ret
        exact ⟨ret_bool HQ.out.symm, bl_dr HB1.out _⟩
    · obtain rfl : i = m := by omega
      have hi1 : (i : Int) ≤ (i : Int) := by omega
      have HQ := Lib.hid (HR.out.2 (list_ext_lt HL.out.1 HL.out.2 HEQ.out))
      go_wp2
      go_ret
      exact ⟨ret_bool HQ.out.symm, HB1.out⟩
set_option maxRecDepth 100000 in
set_option maxHeartbeats 4000000 in
theorem equalK (F G : Nat → Prop) (xs ys : List Int) (A : Option Addr) (m c : Nat) (B : Option Addr) (n d : Nat) (w : World) (h : LK.rd w F A m xs) (k : LK.rd w G B n ys) (hm : m ≤ 9223372036854775807) :
    Calls Tryd.prog 62 #[.slice A m c, .slice B n d] w fun e w' => e = .returned (.bool (decide (xs = ys))) ∧ Below w.heap.size w w' := by
  have HL := Lib.hid (And.intro (Lay.rd_len h) (Lay.rd_len k))
  have HR := Lib.hid (show decide (xs = ys) = true ↔ xs = ys from decide_eq_true_iff)
  generalize decide (xs = ys) = r at *
  have HNO := Lib.hid (show ¬ xs = ys → r = false from fun h => by cases r; rfl; exact absurd (HR.out.1 rfl) h)
  go_enter Tryd.func62, Tryd.ntmps62
  by_cases c4 : m = n
  case neg =>
    have e2 : ((m : Int) == (n : Int)) = false := by simp; omega
    have e3 : (m == n) = false := by simpa using c4
    have HQ := Lib.hid (HNO.out (fun h => c4 (by rw [← HL.out.1, ← HL.out.2, h])))
    clear c4
    go_wp2
    go_ret
    exact ⟨ret_bool HQ.out.symm, Below.refl _ _⟩
  subst c4
  go_wp2_with fail
  go_loopg [13] m (fun g a wr => ∃ i : Nat, i + g = m ∧ a = .int .i64 i ∧ (∀ (k : Nat) (x y : Int), k < i → xs[k]? = some x → ys[k]? = some y → x = y) ∧ Below w.heap.size w wr)
  case atStart => exact ⟨0, by omega, rfl, fun k x y hk => by omega, Below.refl _ _⟩
  case round =>
    obtain ⟨i, hig, rfl, heq, b1⟩ := hrel
    have HEQ := Lib.hid heq
    have HB1 := Lib.hid b1
    have h5 := Lay.rd_below h b1
    have h6 := Lay.rd_below k b1
    clear heq b1
    by_cases hlt : i < m
    · have hi1 : (i : Int) < (m : Int) := by omega
      obtain ⟨p, x, hAe, hx, s1⟩ := LK_at h5 hlt
      obtain ⟨p2, y, hAe2, hy, s2⟩ := LK_at h6 hlt
      obtain rfl : A = some p := hAe
      obtain rfl : B = some p2 := hAe2
      have e0 := s1
      have f0 := s2
      have HX := Lib.hid hx
      have HY := Lib.hid hy
      clear hx hy s1 s2
      go_wp2_with fail
      by_cases hq : x = y
      · have e9 : (x == y) = true := by simpa using hq
        have HN := Lib.hid (show ∀ (k : Nat) (x y : Int), k < i + 1 → xs[k]? = some x → ys[k]? = some y → x = y from fun k x' y' hk h8 h9 => by
          rcases Nat.lt_or_ge k i with h7 | h7
          · exact HEQ.out k x' y' h7 h8 h9
          · obtain rfl : k = i := by omega
            rw [← at_eq HX.out h8, ← at_eq HY.out h9]
            exact hq)
        clear hq
        go_quiet (fail)
        go_wp2
        go_roundg (gk - 1)
        · exact ⟨i + 1, by omega, by go_num, HN.out, bl_dr HB1.out _⟩
        · omega
      · have e9 : (x == y) = false := by simpa using hq
        have HQ := Lib.hid (HNO.out (fun h => hq (by have h8 := HX.out; rw [h] at h8; exact at_eq h8 HY.out)))
        clear hq
        go_quiet (fail)
        go_wp2
        go_ret
        exact ⟨ret_bool HQ.out.symm, bl_dr HB1.out _⟩
    · obtain rfl : i = m := by omega
      have hi1 : (i : Int) ≤ (i : Int) := by omega
      have HQ := Lib.hid (HR.out.2 (list_ext_lt HL.out.1 HL.out.2 HEQ.out))
      go_wp2
      go_ret
      exact ⟨ret_bool HQ.out.symm, HB1.out⟩
theorem dec_tc (s t : TC) : decide (s = t) = (decide (s.name = t.name) && (decide (s.cols = t.cols) && decide (s.keys = t.keys))) := by
  rw [Bool.eq_iff_iff, Bool.and_eq_true, Bool.and_eq_true, decide_eq_true_eq, decide_eq_true_eq, decide_eq_true_eq, decide_eq_true_eq]
  cases s; cases t; simp
set_option maxRecDepth 100000 in
set_option maxHeartbeats 4000000 in
theorem samet_any (F G : Nat → Prop) (s t : TC) (A : Option Addr) (m c : Nat) (B : Option Addr) (n d : Nat) (A2 : Option Addr) (m2 c2 : Nat) (B2 : Option Addr) (n2 d2 : Nat) (w : World) (h : LCO.rd w F A m s.cols) (k : LK.rd w F B n s.keys) (h2 : LCO.rd w G A2 m2 t.cols) (k2 : LK.rd w G B2 n2 t.keys) (hm : m ≤ 9223372036854775807) (hn : n ≤ 9223372036854775807) :
    Calls Tryd.prog 41 #[.agg #[.string s.name, .slice A m c, .slice B n d], .agg #[.string t.name, .slice A2 m2 c2, .slice B2 n2 d2]] w fun e w' => e = .returned (.bool (decide (s = t))) ∧ Below w.heap.size w w' := by
  have HR := Lib.hid (dec_tc s t)
  generalize decide (s = t) = r at *
  have q1 := bl_al (Below.refl w.heap.size w) (.cells (s.cells A m c B n d) 28)
  have q2 := Lib.hid (bl_al q1 (.cells (t.cells A2 m2 c2 B2 n2 d2) 28))
  have h3 := Lay.rd_below h q2.out
  have k3 := Lay.rd_below k q2.out
  have h4 := Lay.rd_below h2 q2.out
  have k4 := Lay.rd_below k2 q2.out
  have HB := Lib.hid ((Blk.new w 28 (s.cells A m c B n d)).alloc (.cells (t.cells A2 m2 c2 B2 n2 d2) 28))
  have HC := Lib.hid (Blk.new (w.alloc (.cells (s.cells A m c B n d) 28)) 28 (t.cells A2 m2 c2 B2 n2 d2))
  rw [World.size_alloc] at HC
  clear h k h2 k2 q1
  go_enter Tryd.func41, Tryd.ntmps41
  go_upto_region 1 with fail
  generalize (w.alloc (.cells (s.cells A m c B n d) 28)).alloc (.cells (t.cells A2 m2 c2 B2 n2 d2) 28) = w1 at *
  obtain ⟨ec, hec⟩ : ∃ e, e = decide (s.cols = t.cols) := ⟨_, rfl⟩
  obtain ⟨ek, hek⟩ : ∃ e, e = decide (s.keys = t.keys) := ⟨_, rfl⟩
  have HEC := Lib.hid hec
  have HEK := Lib.hid hek
  rw [← hec, ← hek] at HR
  clear hec hek
  refine wp_region_ps0 .text (S := fun _ _ w' => Below w1.heap.size w1 w') (by kernel_rfl) ?spswg1 ?ppswg1
  case spswg1 =>
    exact (Below.refl w1.heap.size w1)
  refine Ps.st (i := 0) (d := some 5) (u := (.pointer (some ⟨w.heap.size, 0, none⟩))) rfl rfl (by exact StepS.pure nP rfl fun _ => rfl) ?_
  try simp only [Act.put, sA, sZ, sS]
  refine Ps.st (i := 1) (d := some 6) (u := (.string s.name)) rfl rfl ?ywg1_3 ?rwg1_3
  case ywg1_3 =>
    refine StepS.read [] (by kernel_rfl) nP (by rfl) (fun L9 m9 w9 hSh hAt hDn hS => ?_)
    have hT : Below _ _ w9 := hS
    have x0 : w9.cell? ⟨w.heap.size, 0, none⟩ = some (.string s.name) := (HB.out.ca hT).cell 0
    clear hT hS
    go_simp
    try rfl
  try simp only [Act.put, sA, sZ, sS]
  refine Ps.st (i := 2) (d := some 7) (u := (.pointer (some ⟨w.heap.size + 1, 0, none⟩))) rfl rfl (by exact StepS.pure nP rfl fun _ => rfl) ?_
  try simp only [Act.put, sA, sZ, sS]
  refine Ps.st (i := 3) (d := some 8) (u := (.string t.name)) rfl rfl ?ywg1_5 ?rwg1_5
  case ywg1_5 =>
    refine StepS.read [] (by kernel_rfl) nP (by rfl) (fun L9 m9 w9 hSh hAt hDn hS => ?_)
    have hT : Below _ _ w9 := hS
    have x0 : w9.cell? ⟨w.heap.size + 1, 0, none⟩ = some (.string t.name) := (HC.out.ca hT).cell 0
    clear hT hS
    go_simp
    try rfl
  try simp only [Act.put, sA, sZ, sS]
  refine Ps.st (i := 4) (d := some 9) (u := (.bool ((s.name.toList == t.name.toList)))) rfl rfl (by exact StepS.pure nP rfl fun _ => rfl) ?_
  try simp only [Act.put, sA, sZ, sS]
  obtain ⟨b1_5, hb9⟩ : ∃ zb : Bool, zb = ((s.name.toList == t.name.toList)) := ⟨_, rfl⟩
  have HEb1_5 := Lib.hid hb9
  clear hb9
  refine Ps.st (i := 5) (d := some 10) (u := (.bool (b1_5))) rfl rfl ?ywg1_7 ?rwg1_7
  case ywg1_7 =>
    refine StepS.pure nP (by rfl) (fun w9 => ?_)
    have e9 : ((s.name.toList == t.name.toList)) = b1_5 := by rw [HEb1_5.out]
    rw [← e9]
    clear e9
    first | rfl | (go_simp; done) | (go_simp; rfl)
  try simp only [Act.put, sA, sZ, sS]
  refine Ps.st (i := 6) (d := some 11) (u := (cond b1_5 (.pointer (some ⟨w.heap.size, 1, none⟩)) (undef))) rfl rfl (by cases b1_5; exact StepS.skip nP rfl; exact StepS.pure nP rfl fun _ => rfl) ?_
  try simp only [Act.put, sA, sZ, sS]
  refine Ps.st (i := 7) (d := some 12) (u := (cond b1_5 (.slice A m c) (undef))) rfl rfl ?ywg1_9 ?rwg1_9
  case ywg1_9 =>
    cases b1_5
    · exact StepS.skip nP (by rfl)
    · skip
      refine StepS.read [] (by kernel_rfl) nP (by rfl) (fun L9 m9 w9 hSh hAt hDn hS => ?_)
      have hT : Below _ _ w9 := hS
      have x0 : w9.cell? ⟨w.heap.size, 1, none⟩ = some (.slice A m c) := (HB.out.ca hT).cell 1
      clear hT hS
      go_simp
      try rfl
  try simp only [Act.put, sA, sZ, sS]
  refine Ps.st (i := 8) (d := some 13) (u := (cond b1_5 (.pointer (some ⟨w.heap.size + 1, 1, none⟩)) (undef))) rfl rfl (by cases b1_5; exact StepS.skip nP rfl; exact StepS.pure nP rfl fun _ => rfl) ?_
  try simp only [Act.put, sA, sZ, sS]
  refine Ps.st (i := 9) (d := some 14) (u := (cond b1_5 (.slice A2 m2 c2) (undef))) rfl rfl ?ywg1_11 ?rwg1_11
  case ywg1_11 =>
    cases b1_5
    · exact StepS.skip nP (by rfl)
    · skip
      refine StepS.read [] (by kernel_rfl) nP (by rfl) (fun L9 m9 w9 hSh hAt hDn hS => ?_)
      have hT : Below _ _ w9 := hS
      have x0 : w9.cell? ⟨w.heap.size + 1, 1, none⟩ = some (.slice A2 m2 c2) := (HC.out.ca hT).cell 1
      clear hT hS
      go_simp
      try rfl
  try simp only [Act.put, sA, sZ, sS]
  refine Ps.st (i := 10) (d := some 15) (u := (cond b1_5 (.bool (ec)) (undef))) rfl rfl ?ywg1_12 ?rwg1_12
  case ywg1_12 =>
    cases b1_5
    · exact StepS.skip nP (by rfl)
    · skip
      refine StepS.call ?fwg1_12 ?awg1_12 [] (by kernel_rfl) (by rfl) (fun w9 => ?hwg1_12) (fun L9 m9 w9 hSh hAt hDn hS => ?cwg1_12)
      case hwg1_12 => go_simp; refine ⟨?_, ?_⟩ <;> rfl
      case cwg1_12 =>
        have hT : Below _ _ w9 := hS
        refine (equalO F G s.cols t.cols A m c A2 m2 c2 w9 (Lay.rd_below h3 hT) (Lay.rd_below h4 hT) hm).mono ?_
        rintro e w8 ⟨rfl, q8⟩
        exact ⟨by rw [HEC.out]; first | done | rfl, bl_ca hT q8⟩
  try simp only [Act.put, sA, sZ, sS]
  refine Ps.st (i := 11) (d := some 16) (u := (.bool (b1_5 && ec))) rfl rfl ?ywg1_13 ?rwg1_13
  case ywg1_13 =>
    refine StepS.pure nP (by rfl) (fun w9 => ?_)
    cases b1_5 <;> (first | rfl | (go_simp; done) | (go_simp; rfl))
  try simp only [Act.put, sA, sZ, sS]
  obtain ⟨b1_12, hb9⟩ : ∃ zb : Bool, zb = (((s.name.toList == t.name.toList)) && ec) := ⟨_, rfl⟩
  have HEb1_12 := Lib.hid hb9
  clear hb9
  refine Ps.st (i := 12) (d := some 17) (u := (.bool (b1_12))) rfl rfl ?ywg1_14 ?rwg1_14
  case ywg1_14 =>
    refine StepS.pure nP (by rfl) (fun w9 => ?_)
    have e9 : (b1_5 && ec) = b1_12 := by rw [HEb1_12.out, HEb1_5.out]
    rw [← e9]
    clear e9
    first | rfl | (go_simp; done) | (go_simp; rfl)
  try simp only [Act.put, sA, sZ, sS]
  refine Ps.st (i := 13) (d := some 18) (u := (cond b1_12 (.pointer (some ⟨w.heap.size, 2, none⟩)) (undef))) rfl rfl (by cases b1_12; exact StepS.skip nP rfl; exact StepS.pure nP rfl fun _ => rfl) ?_
  try simp only [Act.put, sA, sZ, sS]
  refine Ps.st (i := 14) (d := some 19) (u := (cond b1_12 (.slice B n d) (undef))) rfl rfl ?ywg1_16 ?rwg1_16
  case ywg1_16 =>
    cases b1_12
    · exact StepS.skip nP (by rfl)
    · skip
      refine StepS.read [] (by kernel_rfl) nP (by rfl) (fun L9 m9 w9 hSh hAt hDn hS => ?_)
      have hT : Below _ _ w9 := hS
      have x0 : w9.cell? ⟨w.heap.size, 2, none⟩ = some (.slice B n d) := (HB.out.ca hT).cell 2
      clear hT hS
      go_simp
      try rfl
  try simp only [Act.put, sA, sZ, sS]
  refine Ps.st (i := 15) (d := some 20) (u := (cond b1_12 (.pointer (some ⟨w.heap.size + 1, 2, none⟩)) (undef))) rfl rfl (by cases b1_12; exact StepS.skip nP rfl; exact StepS.pure nP rfl fun _ => rfl) ?_
  try simp only [Act.put, sA, sZ, sS]
  refine Ps.st (i := 16) (d := some 21) (u := (cond b1_12 (.slice B2 n2 d2) (undef))) rfl rfl ?ywg1_18 ?rwg1_18
  case ywg1_18 =>
    cases b1_12
    · exact StepS.skip nP (by rfl)
    · skip
      refine StepS.read [] (by kernel_rfl) nP (by rfl) (fun L9 m9 w9 hSh hAt hDn hS => ?_)
      have hT : Below _ _ w9 := hS
      have x0 : w9.cell? ⟨w.heap.size + 1, 2, none⟩ = some (.slice B2 n2 d2) := (HC.out.ca hT).cell 2
      clear hT hS
      go_simp
      try rfl
  try simp only [Act.put, sA, sZ, sS]
  refine Ps.st (i := 17) (d := some 22) (u := (cond b1_12 (.bool (ek)) (undef))) rfl rfl ?ywg1_19 ?rwg1_19
  case ywg1_19 =>
    cases b1_12
    · exact StepS.skip nP (by rfl)
    · skip
      refine StepS.call ?fwg1_19 ?awg1_19 [] (by kernel_rfl) (by rfl) (fun w9 => ?hwg1_19) (fun L9 m9 w9 hSh hAt hDn hS => ?cwg1_19)
      case hwg1_19 => go_simp; refine ⟨?_, ?_⟩ <;> rfl
      case cwg1_19 =>
        have hT : Below _ _ w9 := hS
        refine (equalK F G s.keys t.keys B n d B2 n2 d2 w9 (Lay.rd_below k3 hT) (Lay.rd_below k4 hT) hn).mono ?_
        rintro e w8 ⟨rfl, q8⟩
        exact ⟨by rw [HEK.out]; first | done | rfl, bl_ca hT q8⟩
  try simp only [Act.put, sA, sZ, sS]
  refine Ps.st (i := 18) (d := some 23) (u := (.bool (b1_12 && ek))) rfl rfl ?ywg1_20 ?rwg1_20
  case ywg1_20 =>
    refine StepS.pure nP (by rfl) (fun w9 => ?_)
    cases b1_12 <;> (first | rfl | (go_simp; done) | (go_simp; rfl))
  try simp only [Act.put, sA, sZ, sS]
  obtain ⟨fin, hb9⟩ : ∃ zb : Bool, zb = ((((s.name.toList == t.name.toList)) && ec) && ek) := ⟨_, rfl⟩
  have HEfin := Lib.hid hb9
  clear hb9
  refine Ps.st (i := 19) (d := some 4) (u := (.bool (fin))) rfl rfl ?ywg1_21 ?rwg1_21
  case ywg1_21 =>
    refine StepS.pure nP (by rfl) (fun w9 => ?_)
    have e9 : (b1_12 && ek) = fin := by rw [HEfin.out, HEb1_12.out]
    rw [← e9]
    clear e9
    first | rfl | (go_simp; done) | (go_simp; rfl)
  try simp only [Act.put, sA, sZ, sS]
  refine Ps.done (by kernel_rfl) (fun wg1 hS => ?_) _
  try generalize (cond b1_12 (.pointer (some ⟨w.heap.size + 1, 2, none⟩)) (undef) : Value) = zz22
  try generalize (cond b1_5 (.pointer (some ⟨w.heap.size + 1, 1, none⟩)) (undef) : Value) = zz23
  try generalize (cond b1_12 (.pointer (some ⟨w.heap.size, 2, none⟩)) (undef) : Value) = zz24
  try generalize (cond b1_5 (.pointer (some ⟨w.heap.size, 1, none⟩)) (undef) : Value) = zz25
  try generalize (cond b1_12 (.slice B2 n2 d2) (undef) : Value) = zz26
  try generalize (cond b1_5 (.slice A2 m2 c2) (undef) : Value) = zz27
  try generalize (cond b1_12 (.slice B n d) (undef) : Value) = zz28
  try generalize (cond b1_5 (.slice A m c) (undef) : Value) = zz29
  try generalize (cond b1_12 (.bool (ek)) (undef) : Value) = zz30
  try generalize (cond b1_5 (.bool (ec)) (undef) : Value) = zz31
  try generalize (.bool (b1_12 && ek) : Value) = zz32
  try generalize (.bool (b1_5 && ec) : Value) = zz33
  have HT2 := Lib.hid (show Below w1.heap.size w1 wg1 from hS)
  clear hS
  obtain ⟨w2, rfl⟩ : ∃ x, x = wg1 := ⟨_, rfl⟩
  have HF := Lib.hid (show fin = r from by
    rw [HEfin.out, HR.out, seq_iff]
    cases decide (s.name = t.name) <;> cases ec <;> cases ek <;> rfl)
  have HQ2 := Lib.hid (bl_ca q2.out HT2.out)
  go_wp2
  go_ret
  exact ⟨ret_bool HF.out, HQ2.out⟩
set_option maxRecDepth 100000 in
set_option maxHeartbeats 4000000 in
theorem equalT (F G : Nat → Prop) (xs ys : List TC) (A : Option Addr) (m c : Nat) (B : Option Addr) (n d : Nat) (w : World) (h : LT3.rd w F A m xs) (k : LT3.rd w G B n ys) (hm : m ≤ 9223372036854775807) :
    Calls Tryd.prog 40 #[.slice A m c, .slice B n d, .func (.func 41) #[] #[]] w fun e w' => e = .returned (.bool (decide (xs = ys))) ∧ Below w.heap.size w w' := by
  have HL := Lib.hid (And.intro (Lay.rd_len h) (Lay.rd_len k))
  have HR := Lib.hid (show decide (xs = ys) = true ↔ xs = ys from decide_eq_true_iff)
  generalize decide (xs = ys) = r at *
  have HNO := Lib.hid (show ¬ xs = ys → r = false from fun h => by cases r; rfl; exact absurd (HR.out.1 rfl) h)
  go_enter Tryd.func40, Tryd.ntmps40
  by_cases c4 : m = n
  case neg =>
    have e2 : ((m : Int) == (n : Int)) = false := by simp; omega
    have e3 : (m == n) = false := by simpa using c4
    have HQ := Lib.hid (HNO.out (fun h => c4 (by rw [← HL.out.1, ← HL.out.2, h])))
    clear c4
    go_wp2
    go_ret
    exact ⟨ret_bool HQ.out.symm, Below.refl _ _⟩
  subst c4
  go_wp2_with fail
  go_loopg [17] m (fun g a wr => ∃ i : Nat, i + g = m ∧ a = .int .i64 i ∧ (∀ (k : Nat) (x y : TC), k < i → xs[k]? = some x → ys[k]? = some y → x = y) ∧ Below w.heap.size w wr)
  case atStart => exact ⟨0, by omega, rfl, fun k x y hk => by omega, Below.refl _ _⟩
  case round =>
    obtain ⟨i, hig, rfl, heq, b1⟩ := hrel
    have HEQ := Lib.hid heq
    have HB1 := Lib.hid b1
    have h5 := Lay.rd_below h b1
    have h6 := Lay.rd_below k b1
    clear heq b1
    by_cases hlt : i < m
    · have hi1 : (i : Int) < (m : Int) := by omega
      obtain ⟨p, x, A1, n1, c1, B1, m1, d1, hAe, hx, s1⟩ := LT3_at h5 hlt
      obtain ⟨p2, y, A2, n2, c2, B2, m2, d2, hAe2, hy, s2⟩ := LT3_at h6 hlt
      obtain rfl : A = some p := hAe
      obtain rfl : B = some p2 := hAe2
      have e0 := s1.c0
      have e1 := s1.c1
      have e2 := s1.c2
      have q7 := bl_al (Below.refl wr.heap.size wr) (.cells #[.string x.name, .slice A1 n1 c1, .slice B1 m1 d1] 28)
      have f0 := ce s2.c0 q7
      have f1 := ce s2.c1 q7
      have f2 := ce s2.c2 q7
      have q8 := bl_al q7 (.cells #[.string y.name, .slice A2 n2 c2, .slice B2 m2 d2] 28)
      have g0 := ((Blk.new wr 28 #[.string x.name, .slice A1 n1 c1, .slice B1 m1 d1]).alloc (.cells #[.string y.name, .slice A2 n2 c2, .slice B2 m2 d2] 28)).cell 0
      have g1 := ((Blk.new wr 28 #[.string x.name, .slice A1 n1 c1, .slice B1 m1 d1]).alloc (.cells #[.string y.name, .slice A2 n2 c2, .slice B2 m2 d2] 28)).cell 1
      have g2 := ((Blk.new wr 28 #[.string x.name, .slice A1 n1 c1, .slice B1 m1 d1]).alloc (.cells #[.string y.name, .slice A2 n2 c2, .slice B2 m2 d2] 28)).cell 2
      have HX := Lib.hid hx
      have HY := Lib.hid hy
      have HCT := Lib.hid (samet_any F G x y A1 n1 c1 B1 m1 d1 A2 n2 c2 B2 m2 d2 _ (Lay.rd_below s1.rd q8) (Lay.rd_below s1.rk q8) (Lay.rd_below s2.rd q8) (Lay.rd_below s2.rk q8) (Nat.le_trans s1.nc s1.cm) (Nat.le_trans s1.md s1.dm))
      have HQ8 := Lib.hid q8
      clear hx hy s1 s2 q7 q8
      go_wp2_with fail
      refine HCT.out.mono ?_
      rintro e w5 ⟨rfl, q5⟩
      have HQ5 := Lib.hid (bl_ca HQ8.out q5)
      clear q5 HQ8 HCT e0 e1 e2 f0 f1 f2 g0 g1 g2
      by_cases hq : x = y
      · rw [decide_eq_true hq]
        have HN := Lib.hid (show ∀ (k : Nat) (x y : TC), k < i + 1 → xs[k]? = some x → ys[k]? = some y → x = y from fun k x' y' hk h8 h9 => by
          rcases Nat.lt_or_ge k i with h7 | h7
          · exact HEQ.out k x' y' h7 h8 h9
          · obtain rfl : k = i := by omega
            rw [← at_eq HX.out h8, ← at_eq HY.out h9]
            exact hq)
        clear hq
        go_wp2
        go_roundg (gk - 1)
        · exact ⟨i + 1, by omega, by go_num, HN.out, bl_ca HB1.out HQ5.out⟩
        · omega
      · rw [decide_eq_false hq]
        have HQ := Lib.hid (HNO.out (fun h => hq (by have h8 := HX.out; rw [h] at h8; exact at_eq h8 HY.out)))
        clear hq
        go_wp2
        go_ret
        exact ⟨ret_bool HQ.out.symm, bl_ca HB1.out HQ5.out⟩
    · obtain rfl : i = m := by omega
      have hi1 : (i : Int) ≤ (i : Int) := by omega
      have HQ := Lib.hid (HR.out.2 (list_ext_lt HL.out.1 HL.out.2 HEQ.out))
      go_wp2
      go_ret
      exact ⟨ret_bool HQ.out.symm, HB1.out⟩
set_option maxRecDepth 100000 in
set_option maxHeartbeats 4000000 in
theorem same_any (F G : Nat → Prop) (xs ys : List TC) (A : Option Addr) (m c : Nat) (B : Option Addr) (n d : Nat) (w : World) (h : LT3.rd w F A m xs) (k : LT3.rd w G B n ys) (hm : m ≤ 9223372036854775807) :
    Calls Tryd.prog 21 #[.agg #[.slice A m c], .agg #[.slice B n d]] w fun e w' => e = .returned (.bool (decide (xs = ys))) ∧ Below w.heap.size w w' := by
  have q1 := bl_al (Below.refl w.heap.size w) (.cells #[.slice A m c] 24)
  have q2 := bl_al q1 (.cells #[.slice B n d] 24)
  have HC := Lib.hid (equalT F G xs ys A m c B n d _ (Lay.rd_below h q2) (Lay.rd_below k q2) hm)
  have y0 := ((Blk.new w 24 #[.slice A m c]).alloc (.cells #[.slice B n d] 24)).cell 0
  have z0 := (Blk.new (w.alloc (.cells #[.slice A m c] 24)) 24 #[.slice B n d]).cell 0
  rw [World.size_alloc] at z0
  have HQ := Lib.hid q2
  generalize decide (xs = ys) = r at *
  clear q1 q2 h k
  go_enter Tryd.func21, Tryd.ntmps21
  go_wp2_with fail
  refine HC.out.mono ?_
  rintro e w2 ⟨rfl, q2⟩
  have HQ2 := Lib.hid (bl_ca HQ.out q2)
  clear q2 HC y0 z0
  go_wp2
  go_ret
  exact ⟨rfl, HQ2.out⟩
end Go.Proofs.YthgcdilkkldgjaaDoor
/- slices.Clone of columns and ints; the layer's copied, copies. Conditions: the slices read so. -/
namespace Go.Proofs.YthgcdilkkldgjaaDoor
open Go.RowKit
set_option maxRecDepth 100000 in
set_option maxHeartbeats 1000000 in
theorem cloneO_any (F : Nat → Prop) (xs : List CO) (A : Option Addr) (m c : Nat) (w : World) (h : LCO.rd w F A m xs) (hm : m ≤ 100000) :
    Calls Tryd.prog 54 #[.slice A m c] w fun e w' => ∃ A2 c2, e = .returned (.slice A2 m c2) ∧ LCO.rd w' (fun b => w.heap.size ≤ b) A2 m xs ∧ m ≤ c2 ∧ c2 ≤ 9223372036854775807 ∧ Below w.heap.size w w' := by
  cases A with
  | none =>
    obtain rfl : m = 0 := by
      rcases Nat.eq_zero_or_pos m with h0 | h0
      · exact h0
      · obtain ⟨_, _, _, e, _⟩ := Lay.rd_at h h0; cases e
    obtain rfl : xs = [] := List.eq_nil_of_length_eq_zero (Lay.rd_len h)
    clear h
    have HQ0 : ∀ W, (binOp .eql 25 (.slice none 0 c) (.slice none 0 0)).run Tryd.prog W = .ok (.bool true) W := fun W => Lib.run_eql_slice_nil W _ _ _ _ _ _ _ Tryd.underlying25
    go_enter Tryd.func54, Tryd.ntmps54
    go_wp2
    go_ret
    exact ⟨none, 0, rfl, Lay.rd_nil _, Nat.le_refl _, by omega, Below.refl _ _⟩
  | some ad =>
    have q1 := bl_al (Below.refl w.heap.size w) (.cells #[] 59)
    have HR := Lib.hid (Lay.rd_below h q1)
    have HQ := Lib.hid q1
    have hs1 : (w.alloc (.cells #[] 59)).heap.size = w.heap.size + 1 := by simp only [World.size_alloc]
    clear h q1
    have HQ0 : ∀ W, (binOp .eql 25 (.slice (some ad) m c) (.slice none 0 0)).run Tryd.prog W = .ok (.bool false) W := fun W => Lib.run_eql_slice_nil W _ _ _ _ _ _ _ Tryd.underlying25
    go_enter Tryd.func54, Tryd.ntmps54
    go_wp2_with (at_builtin; refine wpList_appC (L := LCO) (e := 59) rfl (.tmp 5) (.tmp 6) 25 rfl _ 2 24 Tryd.underlying25 Tryd.colInfo rfl rfl (by decide) LCO_free w.heap.size _ (some ad) m c xs rfl rfl HR.out (by omega) (by unfold maxLen; omega) ?_; intro A2 c2 w2 hr2 q2 hc1 hc2)
    go_ret
    exact ⟨A2, c2, rfl, Lay.rd_weak (fun b hb _ => by omega) hr2, hc1, hc2, bl_ca HQ.out q2⟩
set_option maxRecDepth 100000 in
set_option maxHeartbeats 1000000 in
theorem cloneK_any (F : Nat → Prop) (xs : List Int) (A : Option Addr) (m c : Nat) (w : World) (h : LK.rd w F A m xs) (hm : m ≤ 100000) :
    Calls Tryd.prog 55 #[.slice A m c] w fun e w' => ∃ A2 c2, e = .returned (.slice A2 m c2) ∧ LK.rd w' (fun b => w.heap.size ≤ b) A2 m xs ∧ m ≤ c2 ∧ c2 ≤ 9223372036854775807 ∧ Below w.heap.size w w' := by
  cases A with
  | none =>
    obtain rfl : m = 0 := by
      rcases Nat.eq_zero_or_pos m with h0 | h0
      · exact h0
      · obtain ⟨_, _, _, e, _⟩ := Lay.rd_at h h0; cases e
    obtain rfl : xs = [] := List.eq_nil_of_length_eq_zero (Lay.rd_len h)
    clear h
    have HQ0 : ∀ W, (binOp .eql 26 (.slice none 0 c) (.slice none 0 0)).run Tryd.prog W = .ok (.bool true) W := fun W => Lib.run_eql_slice_nil W _ _ _ _ _ _ _ Tryd.underlying26
    go_enter Tryd.func55, Tryd.ntmps55
    go_wp2
    go_ret
    exact ⟨none, 0, rfl, Lay.rd_nil _, Nat.le_refl _, by omega, Below.refl _ _⟩
  | some ad =>
    have q1 := bl_al (Below.refl w.heap.size w) (.cells #[] 3)
    have HR := Lib.hid (Lay.rd_below h q1)
    have HQ := Lib.hid q1
    have hs1 : (w.alloc (.cells #[] 3)).heap.size = w.heap.size + 1 := by simp only [World.size_alloc]
    clear h q1
    have HQ0 : ∀ W, (binOp .eql 26 (.slice (some ad) m c) (.slice none 0 0)).run Tryd.prog W = .ok (.bool false) W := fun W => Lib.run_eql_slice_nil W _ _ _ _ _ _ _ Tryd.underlying26
    go_enter Tryd.func55, Tryd.ntmps55
    go_wp2_with (at_builtin; refine wpList_appC (L := LK) (e := 3) rfl (.tmp 5) (.tmp 6) 26 rfl _ 1 8 Tryd.underlying26 Tryd.intInfo rfl rfl (by decide) LK_free w.heap.size _ (some ad) m c xs rfl rfl HR.out (by omega) (by unfold maxLen; omega) ?_; intro A2 c2 w2 hr2 q2 hc1 hc2)
    go_ret
    exact ⟨A2, c2, rfl, Lay.rd_weak (fun b hb _ => by omega) hr2, hc1, hc2, bl_ca HQ.out q2⟩
theorem tableI : (Tryd.prog.info? 28).map (·.size) = some 3 := by kernel_rfl
set_option maxRecDepth 100000 in
set_option maxHeartbeats 4000000 in
theorem copiedt_any (F : Nat → Prop) (t : TC) (A : Option Addr) (n c : Nat) (B : Option Addr) (m d : Nat) (w : World) (h : LCO.rd w F A n t.cols) (h2 : LK.rd w F B m t.keys) (hn : n ≤ 100000) (hm : m ≤ 100000) :
    Calls Tryd.prog 31 #[.agg #[.string t.name, .slice A n c, .slice B m d]] w fun e w' => ∃ A2 c2 B2 d2, e = .returned (.agg #[.string t.name, .slice A2 n c2, .slice B2 m d2]) ∧ LCO.rd w' (fun b => w.heap.size ≤ b) A2 n t.cols ∧ n ≤ c2 ∧ c2 ≤ 9223372036854775807 ∧ LK.rd w' (fun b => w.heap.size ≤ b) B2 m t.keys ∧ m ≤ d2 ∧ d2 ≤ 9223372036854775807 ∧ Below w.heap.size w w' := by
  have q2 := bl_al (bl_al (Below.refl w.heap.size w) (.cells (t.cells A n c B m d) 28)) (.cells #[.string ⟨#[]⟩, .slice none 0 0, .slice none 0 0] 28)
  have HC := Lib.hid (Lay.rd_below h q2)
  have HK := Lib.hid (Lay.rd_below h2 q2)
  have HB := Lib.hid ((Blk.new w 28 (t.cells A n c B m d)).alloc (.cells #[.string ⟨#[]⟩, .slice none 0 0, .slice none 0 0] 28))
  have HR := Lib.hid (Blk.new (w.alloc (.cells (t.cells A n c B m d) 28)) 28 #[.string ⟨#[]⟩, .slice none 0 0, .slice none 0 0])
  rw [World.size_alloc] at HR
  have HQ := Lib.hid q2
  have hs2 : ((w.alloc (.cells (t.cells A n c B m d) 28)).alloc (.cells #[.string ⟨#[]⟩, .slice none 0 0, .slice none 0 0] 28)).heap.size = w.heap.size + 2 := by simp only [World.size_alloc]
  clear q2 h h2
  go_enter Tryd.func31, Tryd.ntmps31
  go_upto_region 1 with fail
  generalize (w.alloc (.cells (t.cells A n c B m d) 28)).alloc (.cells #[.string ⟨#[]⟩, .slice none 0 0, .slice none 0 0] 28) = w1 at *
  refine wp_region_ps (S := SeqN [2, 5, 7, 9] (fun z mm w' => match z with | 0 => Below w1.heap.size w1 w' | 1 => Below w1.heap.size w1 w' ∧ (∃ A2 c2, mm 2 = .slice A2 n c2 ∧ LCO.rd w' (fun b => w1.heap.size ≤ b) A2 n t.cols ∧ n ≤ c2 ∧ c2 ≤ 9223372036854775807) | 2 => Below w1.heap.size w1 w' ∧ (∃ A2 c2, mm 2 = .slice A2 n c2 ∧ LCO.rd w' (fun b => w1.heap.size ≤ b) A2 n t.cols ∧ n ≤ c2 ∧ c2 ≤ 9223372036854775807) ∧ (∃ B2 d2, mm 5 = .slice B2 m d2 ∧ LK.rd w' (fun b => w1.heap.size ≤ b) B2 m t.keys ∧ m ≤ d2 ∧ d2 ≤ 9223372036854775807) | 3 => Chg (fun b => b = w.heap.size) w1 w' ∧ (∃ A2 c2, mm 2 = .slice A2 n c2 ∧ LCO.rd w' (fun b => w1.heap.size ≤ b) A2 n t.cols ∧ n ≤ c2 ∧ c2 ≤ 9223372036854775807) ∧ (∃ B2 d2, mm 5 = .slice B2 m d2 ∧ LK.rd w' (fun b => w1.heap.size ≤ b) B2 m t.keys ∧ m ≤ d2 ∧ d2 ≤ 9223372036854775807) ∧ Blk w' w.heap.size 28 #[.string t.name, mm 2, .slice B m d] | _ => Chg (fun b => b = w.heap.size) w1 w' ∧ (∃ A2 c2, mm 2 = .slice A2 n c2 ∧ LCO.rd w' (fun b => w1.heap.size ≤ b) A2 n t.cols ∧ n ≤ c2 ∧ c2 ≤ 9223372036854775807) ∧ (∃ B2 d2, mm 5 = .slice B2 m d2 ∧ LK.rd w' (fun b => w1.heap.size ≤ b) B2 m t.keys ∧ m ≤ d2 ∧ d2 ≤ 9223372036854775807) ∧ Blk w' w.heap.size 28 #[.string t.name, mm 2, mm 5])) (by kernel_rfl) ?spswg1 ?ppswg1
  case spswg1 =>
    exact SeqN.start (by decide) (Below.refl _ _).drew
  refine Ps.st (i := 0) (d := some 3) (u := (.pointer (some ⟨w.heap.size, 1, none⟩))) rfl rfl (by exact StepS.pure (SeqN.pass (by decide)) rfl fun _ => rfl) ?_
  try simp only [Act.put, sA, sZ, sS]
  refine Ps.st (i := 1) (d := some 4) (u := (.slice A n c)) rfl rfl ?ywg1_3 ?rwg1_3
  case ywg1_3 =>
    refine StepS.read [] (by kernel_rfl) (SeqN.pass (by decide)) (by rfl) (fun L9 m9 w9 hSh hAt hDn hS => ?_)
    have hT : Below w1.heap.size w1 w9 := SeqN.z012 hSh (reach_no hSh (f := 12) (j := 7) (by kernel_rfl) hDn) (by kernel_rfl) (fun _ _ h => h) (fun _ _ h => h.1) (fun _ _ h => h.1) hS
    have x0 : w9.cell? ⟨w.heap.size, 1, none⟩ = some (.slice A n c) := (HB.out.ca hT).cell 1
    clear hT hS
    go_simp
    try rfl
  try simp only [Act.put, sA, sZ, sS]
  refine Ps.st (i := 3) (d := some 6) (u := (.pointer (some ⟨w.heap.size, 2, none⟩))) rfl rfl (by exact StepS.pure (SeqN.pass (by decide)) rfl fun _ => rfl) ?_
  try simp only [Act.put, sA, sZ, sS]
  refine Ps.st (i := 4) (d := some 7) (u := (.slice B m d)) rfl rfl ?ywg1_5 ?rwg1_5
  case ywg1_5 =>
    refine StepS.read [] (by kernel_rfl) (SeqN.pass (by decide)) (by rfl) (fun L9 m9 w9 hSh hAt hDn hS => ?_)
    have hT : Below w1.heap.size w1 w9 := SeqN.z012 hSh (reach_no hSh (f := 12) (j := 7) (by kernel_rfl) hDn) (by kernel_rfl) (fun _ _ h => h) (fun _ _ h => h.1) (fun _ _ h => h.1) hS
    have x0 : w9.cell? ⟨w.heap.size, 2, none⟩ = some (.slice B m d) := (HB.out.ca hT).cell 2
    clear hT hS
    go_simp
    try rfl
  try simp only [Act.put, sA, sZ, sS]
  refine Ps.one (k := 2) (d := some 5) rfl rfl (by kernel_rfl) (TurnS.call (V := fun v => ∃ A2 c2, v = .slice A2 n c2) ?fwg1_6 ?awg1_6 [] (by kernel_rfl) (by rfl) (fun w9 => ?hwg1_6) (fun L9 m9 w9 hSh hAt hDn hS => ?cwg1_6)) (fun v2 hVv2 => ?rwg1_6)
  case hwg1_6 => go_simp; refine ⟨?_, ?_⟩ <;> rfl
  case cwg1_6 =>
    have hT := SeqN.at_ (m0 := m9) (m1 := m9) [] [5, 7, 9] hSh (fun d hd => by cases hd) hDn (by kernel_rfl) hS
    have hsz := hT.size
    refine (cloneO_any _ t.cols A n c w9 (Lay.rd_below HC.out hT) hn).mono ?_
    rintro e w8 ⟨A2, c2, rfl, hr, h1, h2, q8⟩
    exact ⟨_, rfl, ⟨A2, c2, rfl⟩, SeqN.set_ (m0 := m9) (m1 := m9) [] [5, 7, 9] hSh (fun d hd => by cases hd) hDn (by kernel_rfl) (by decide) (by decide) ⟨bl_ca hT q8, A2, c2, upd_same _ _ _, Lay.rd_weak (fun b hb _ => Nat.le_trans hsz hb) hr, h1, h2⟩⟩
  try simp only [Act.put, sA, sZ, sS]
  obtain ⟨A2, c2, rfl⟩ := hVv2
  refine Ps.st (i := 6) (d := some 9) (u := (.pointer (some ⟨w.heap.size, 1, none⟩))) rfl rfl (by exact StepS.pure (SeqN.pass (by decide)) rfl fun _ => rfl) ?_
  try simp only [Act.put, sA, sZ, sS]
  refine Ps.one (k := 5) (d := some 8) rfl rfl (by kernel_rfl) (TurnS.call (V := fun v => ∃ B2 d2, v = .slice B2 m d2) ?fwg1_8 ?awg1_8 [2] (by kernel_rfl) (by rfl) (fun w9 => ?hwg1_8) (fun L9 m9 w9 hSh hAt hDn hS => ?cwg1_8)) (fun v5 hVv5 => ?rwg1_8)
  case hwg1_8 => go_simp; refine ⟨?_, ?_⟩ <;> rfl
  case cwg1_8 =>
    obtain ⟨hT, A3, c3, hv, hr3, h31, h32⟩ := SeqN.at_ [2] [7, 9] hSh hAt hDn (by kernel_rfl) hS
    have hsz := hT.size
    refine (cloneK_any _ t.keys B m d w9 (Lay.rd_below HK.out hT) hm).mono ?_
    rintro e w8 ⟨B2, d2, rfl, hr, h1, h2, q8⟩
    exact ⟨_, rfl, ⟨B2, d2, rfl⟩, SeqN.set_ [2] [7, 9] hSh hAt hDn (by kernel_rfl) (by decide) (by decide) ⟨bl_ca hT q8, ⟨A3, c3, (upd_ne (by decide)).trans hv, Lay.rd_below hr3 q8, h31, h32⟩, B2, d2, upd_same _ _ _, Lay.rd_weak (fun b hb _ => Nat.le_trans hsz hb) hr, h1, h2⟩⟩
  try simp only [Act.put, sA, sZ, sS]
  obtain ⟨B2, d2, rfl⟩ := hVv5
  refine Ps.st (i := 7) (d := none) (u := undef) rfl rfl ?ywg1_9 ?rwg1_9
  case ywg1_9 =>
    refine StepS.store [2, 5] (by kernel_rfl) (by rfl) (fun L9 m9 w9 hSh hAt hDn hS => ?_)
    obtain ⟨hT, ⟨A3, c3, hv, hr3, h31, h32⟩, B3, d3, hv5, hr5, h51, h52⟩ := SeqN.at_ [2, 5] [9] hSh hAt hDn (by kernel_rfl) hS
    have hm2 : m9 2 = .slice A2 n c2 := (hAt 2 (by simp)).2
    have hm5 : m9 5 = .slice B2 m d2 := (hAt 5 (by simp)).2
    have hN := HB.out.ca hT
    have hN2 : Blk (w9.setCell ⟨w.heap.size, 1, none⟩ (.slice A2 n c2)) w.heap.size 28 #[.string t.name, .slice A2 n c2, .slice B m d] := by simpa using hN.set_ 1 (.slice A2 n c2)
    have hg2 : w9.grownBy (w9.setCell ⟨w.heap.size, 1, none⟩ (.slice A2 n c2)) (some w.heap.size) := only_setCell (World.grownBy.refl _ _) (.inl rfl) _
    have x2 := hN.cell 1
    have fx : w9.frozen? ⟨w.heap.size, 1, none⟩ = false := hN.frozen 1
    refine ⟨w9.setCell ⟨w.heap.size, 1, none⟩ (.slice A2 n c2), ?_, SeqN.set_ [2, 5] [9] hSh hAt hDn (by kernel_rfl) (by decide) (by decide) ⟨(Chg.of_below hT).grown hg2 (fun k e => .inl (by injection e with e; exact e.symm)), ⟨A3, c3, hv, rd_grownH hr3 hg2 (fun b hb => by omega), h31, h32⟩, ⟨B3, d3, hv5, rd_grownH hr5 hg2 (fun b hb => by omega), h51, h52⟩, by rw [hm2]; exact hN2⟩⟩
    clear hN2 hg2 hN hS hr3 hr5 hv hv5 hm2 hm5 hT
    go_simp
  try simp only [Act.put]
  refine Ps.st (i := 8) (d := some 10) (u := (.pointer (some ⟨w.heap.size, 2, none⟩))) rfl rfl (by exact StepS.pure (SeqN.pass (by decide)) rfl fun _ => rfl) ?_
  try simp only [Act.put, sA, sZ, sS]
  refine Ps.st (i := 9) (d := none) (u := undef) rfl rfl ?ywg1_11 ?rwg1_11
  case ywg1_11 =>
    refine StepS.store [2, 5, 7] (by kernel_rfl) (by rfl) (fun L9 m9 w9 hSh hAt hDn hS => ?_)
    obtain ⟨hch, ⟨A3, c3, hv, hr3, h31, h32⟩, ⟨B3, d3, hv5, hr5, h51, h52⟩, hN⟩ := SeqN.at_ [2, 5, 7] [] hSh hAt hDn (by kernel_rfl) hS
    have hm2 : m9 2 = .slice A2 n c2 := (hAt 2 (by simp)).2
    have hm5 : m9 5 = .slice B2 m d2 := (hAt 5 (by simp)).2
    rw [hm2] at hN
    have hN2 : Blk (w9.setCell ⟨w.heap.size, 2, none⟩ (.slice B2 m d2)) w.heap.size 28 #[.string t.name, .slice A2 n c2, .slice B2 m d2] := by simpa using hN.set_ 2 (.slice B2 m d2)
    have hg2 : w9.grownBy (w9.setCell ⟨w.heap.size, 2, none⟩ (.slice B2 m d2)) (some w.heap.size) := only_setCell (World.grownBy.refl _ _) (.inl rfl) _
    have x2 := hN.cell 2
    have fx : w9.frozen? ⟨w.heap.size, 2, none⟩ = false := hN.frozen 2
    refine ⟨w9.setCell ⟨w.heap.size, 2, none⟩ (.slice B2 m d2), ?_, SeqN.set_ [2, 5, 7] [] hSh hAt hDn (by kernel_rfl) (by decide) (by decide) ⟨hch.grown hg2 (fun k e => .inl (by injection e with e; exact e.symm)), ⟨A3, c3, hv, rd_grownH hr3 hg2 (fun b hb => by omega), h31, h32⟩, ⟨B3, d3, hv5, rd_grownH hr5 hg2 (fun b hb => by omega), h51, h52⟩, by rw [hm2, hm5]; exact hN2⟩⟩
    clear hN2 hg2 hN hS hr3 hr5 hv hv5 hm2 hm5 hch
    go_simp
  try simp only [Act.put]
  refine Ps.done (by kernel_rfl) (fun wg1 hS => ?_) _
  obtain ⟨hch, ⟨A3, c3, hv, hr3, h31, h32⟩, ⟨B3, d3, hv5, hr5, h51, h52⟩, hN⟩ := SeqN.fin (by rfl) hS
  clear hS
  rw [hv, hv5] at hN
  obtain ⟨rfl, rfl⟩ : A2 = A3 ∧ c2 = c3 := by have h9 : Value.slice A2 n c2 = .slice A3 n c3 := hv; simpa using h9
  obtain ⟨rfl, rfl⟩ : B2 = B3 ∧ d2 = d3 := by have h9 : Value.slice B2 m d2 = .slice B3 m d3 := hv5; simpa using h9
  clear hv hv5
  obtain ⟨w6, rfl⟩ : ∃ x, x = wg1 := ⟨_, rfl⟩
  have HCH := Lib.hid hch
  have HXX := Lib.hid hN
  have HC6 := Lib.hid hr3
  have HK6 := Lib.hid hr5
  have HCP := Lib.hid (And.intro (And.intro h31 h32) (And.intro h51 h52))
  clear hch hN hr3 hr5 h31 h32 h51 h52
  have HRS := Lib.hid (HR.out.chg HCH.out (by omega))
  have HBL := Lib.hid (Chg.bel HQ.out HCH.out (fun b _ h9 => by omega) HQ.out.size)
  have hsz := HCH.out.size
  have y0 := HXX.out.cell 0
  have y1 := HXX.out.cell 1
  have y2 := HXX.out.cell 2
  go_wp2_with (first | (refine wpList_store_blk rfl 28 (.tmp 2) (.tmp 11) rfl (w.heap.size + 1) 28 #[.string ⟨#[]⟩, .slice none 0 0, .slice none 0 0] #[.string t.name, .slice A2 n c2, .slice B2 m d2] rfl rfl HRS.out rfl tableI (by simp [Value.oneCell']) ?_; intro w8 h8 g8))
  exact bodyPost_ret (res1 Tryd.results31 rfl h8 Tryd.underlying28 rfl tableI) rfl ⟨A2, c2, B2, d2, rfl, Lay.rd_weak (fun b hb _ => by omega) (rd_grownH HC6.out g8 (fun b hb => by omega)), HCP.out.1.1, HCP.out.1.2, Lay.rd_weak (fun b hb _ => by omega) (rd_grownH HK6.out g8 (fun b hb => by omega)), HCP.out.2.1, HCP.out.2.2, bl_gr HBL.out g8 (by omega)⟩
end Go.Proofs.YthgcdilkkldgjaaDoor
/- The layer's copies. Conditions: the slice reads so; the rows are not endless. -/
namespace Go.Proofs.YthgcdilkkldgjaaDoor
open Go.RowKit
set_option maxRecDepth 100000 in
set_option maxHeartbeats 4000000 in
theorem copies_any (F : Nat → Prop) (l : List TC) (A : Option Addr) (m c : Nat) (w : World) (h : LT3.rd w F A m l) (hm : m ≤ 100000) (hlen : ∀ (k : Nat) (t : TC), l[k]? = some t → t.cols.length ≤ 100000 ∧ t.keys.length ≤ 100000) :
    Calls Tryd.prog 30 #[.slice A m c] w fun e w' => ∃ A2 c2, e = .returned (.slice A2 m c2) ∧ LT3.own 28 w' w.heap.size (fun b => w.heap.size ≤ b ∧ b < w'.heap.size) A2 m c2 l ∧ Below w.heap.size w w' := by
  have HL := Lib.hid (Lay.rd_len h)
  have HLEN := Lib.hid hlen
  have HRD := Lib.hid h
  clear h hlen
  go_enter Tryd.func30, Tryd.ntmps30
  go_wp2_with fail
  go_loopg [3, 8] m (fun g a b wr => ∃ (i : Nat) (A2 : Option Addr) (c2 : Nat), i + g = m ∧ a = .slice A2 i c2 ∧ b = .int .i64 i ∧ LT3.own 28 wr w.heap.size (fun b => w.heap.size ≤ b ∧ b < wr.heap.size) A2 i c2 (l.take i) ∧ Below w.heap.size w wr)
  case atStart => exact ⟨0, none, 0, by omega, rfl, rfl, Lay.own_nil _ _, Below.refl _ _⟩
  case round =>
    obtain ⟨i, A2, c2, hig, rfl, rfl, hown, hbel⟩ := hrel
    have HOW := Lib.hid hown
    have HBL := Lib.hid hbel
    have h1 := Lay.rd_below HRD.out hbel
    have hsz := hbel.size
    clear hown hbel
    by_cases hlt : i < m
    · have hi1 : (i : Int) < (m : Int) := by omega
      obtain ⟨p, t, A1, n1, c1, B1, m1, d1, hAe, hx, s1⟩ := LT3_at h1 hlt
      obtain rfl : A = some p := hAe
      have HT := Lib.hid (take_next hx)
      have HLN := Lib.hid (HLEN.out i t hx)
      have HLC := Lib.hid (And.intro (Lay.rd_len s1.rd) (Lay.rd_len s1.rk))
      have e0 := s1.c0
      have e1 := s1.c1
      have e2 := s1.c2
      have q5 := bl_al (Below.refl wr.heap.size wr) (.cells (t.cells A1 n1 c1 B1 m1 d1) 28)
      have HCP := Lib.hid (copiedt_any F t A1 n1 c1 B1 m1 d1 _ (Lay.rd_below s1.rd q5) (Lay.rd_below s1.rk q5) (by have := HLN.out.1; rw [HLC.out.1] at this; exact this) (by have := HLN.out.2; rw [HLC.out.2] at this; exact this))
      have HOW5 := Lib.hid (Lay.own_below HOW.out q5)
      have HQ5 := Lib.hid q5
      have HOB := Lib.hid (fun k e => Lay.own_base HOW.out k e)
      have hs5 : (wr.alloc (.cells (t.cells A1 n1 c1 B1 m1 d1) 28)).heap.size = wr.heap.size + 1 := by simp only [World.size_alloc]
      clear hx s1 q5 HOW HLN HLC h1
      go_wp2_with fail
      refine HCP.out.mono ?_
      rintro e w6 ⟨A6, c6, B6, d6, rfl, hr6, h6a, h6b, hk6, h6c, h6d, q6⟩
      have hs6 := q6.size
      have q8 := bl_al (Below.refl w6.heap.size w6) (.cells #[.string t.name, .slice A6 n1 c6, .slice B6 m1 d6] 28)
      have HOW8 := Lib.hid (Lay.own_weak (G' := fun b => w.heap.size ≤ b ∧ b < w6.heap.size + 1) (fun b hb _ => ⟨hb.1, by have := hb.2; omega⟩) (Lay.own_below (Lay.own_below HOW5.out q6) q8))
      have HQ8 := Lib.hid (bl_ca HBL.out (bl_ca (bl_ca HQ5.out q6) q8))
      have HRB := Lib.hid (show LT3.rd (w6.alloc (.cells #[.string t.name, .slice A6 n1 c6, .slice B6 m1 d6] 28)) (fun b => wr.heap.size + 1 ≤ b ∧ b < w6.heap.size + 1) (some ⟨w6.heap.size, 0, none⟩) 1 [t] from Lay.rd_blk (Blk.new w6 28 _) rfl (Lay.reps_single ⟨A6, n1, c6, B6, m1, d6, rfl, h6a, h6b, Lay.rd_weak (fun b hb hl => by simp only [World.size_alloc] at hb hl; omega) (Lay.rd_below hr6 q8), h6c, h6d, Lay.rd_weak (fun b hb hl => by simp only [World.size_alloc] at hb hl; omega) (Lay.rd_below hk6 q8)⟩) (by omega))
      clear hr6 hk6 q6 q8 HOW5 HQ5 e0 e1 e2 HCP HBL
      go_wp2_with (at_builtin; refine wpList_appLs (L := LT3) rfl (.tmp 12) (.tmp 15) 22 rfl _ 3 64 Tryd.underlying22 Tryd.tableInfo rfl rfl (by omega) w.heap.size (fun b => w.heap.size ≤ b ∧ b < w6.heap.size + 1) (fun b => wr.heap.size + 1 ≤ b ∧ b < w6.heap.size + 1) A2 i c2 (l.take i) (some ⟨w6.heap.size, 0, none⟩) 1 1 [t] (i + 1) rfl rfl rfl HOW8.out HRB.out (fun b hb _ => ⟨⟨by omega, hb.2⟩, fun e => by have h9 := HOB.out b e; omega⟩) (fun b hb => by simp only [World.size_alloc]; omega) (by omega) (by unfold maxLen; omega) (by simp only [World.size_alloc]; omega) ?_; intro A9 c9 w9 ho9 hg9 hat9; have HBL9 := Lib.hid (HQ8.out.grown hg9 HQ8.out.size (fun k e => by have h9 := HOB.out k e; omega)); have HOW9 := Lib.hid ho9; have HSZ := Lib.hid hg9.size; clear ho9 hg9 hat9)
      have hsz9 := HSZ.out
      simp only [World.size_alloc] at hsz9
      go_roundg (gk - 1)
      · exact ⟨i + 1, A9, c9, by omega, rfl, by go_num, by rw [HT.out]; exact Lay.own_weak (fun b hb _ => ⟨hb.1, by have := hb.2; omega⟩) HOW9.out, HBL9.out⟩
      · omega
    · obtain rfl : i = m := by omega
      have hi1 : (i : Int) ≤ (i : Int) := by omega
      have HTK := Lib.hid (show l.take i = l from List.take_of_length_le (by rw [HL.out]; exact Nat.le_refl _))
      go_wp2
      go_ret
      exact ⟨A2, c2, rfl, by have h9 := HOW.out; rw [HTK.out] at h9; exact h9, HBL.out⟩
end Go.Proofs.YthgcdilkkldgjaaDoor
