/- The layer's Check, Find, Column. Conditions: the slices read so; what the tables hold; the names are short. -/
import Derived.Test.YthgcdilkkldgjaaDoorCCheck
namespace Go.Proofs.YthgcdilkkldgjaaDoor
open Go.RowKit
theorem catB_eq (l : List TC) : catB l = (decide (l.length ≤ 4) && (!(l.any fun t => !tabB t) && onceB (l.map TC.name))) := by
  rw [Bool.eq_iff_iff, catB_iff]
  simp only [Bool.and_eq_true, decide_eq_true_eq, onceB_iff, Bool.not_eq_true', List.any_eq_false]
  constructor
  · rintro ⟨h1, h2, h3⟩
    refine ⟨h1, fun t ht => ?_, fun i x hx => ?_⟩
    · obtain ⟨k, hk, e⟩ := List.getElem_of_mem ht
      rw [h2 k t (by rw [← e]; exact List.getElem?_eq_getElem hk)]
      simp
    · rw [List.getElem?_map] at hx
      cases e : l[i]? with
      | none => rw [e] at hx; cases hx
      | some t =>
        rw [e] at hx
        injection hx with hx
        subst hx
        refine ⟨((tabB_iff t).1 (h2 i t e)).nm, fun j y hj hy => ?_⟩
        rw [List.getElem?_map] at hy
        cases e2 : l[j]? with
        | none => rw [e2] at hy; cases hy
        | some u =>
          rw [e2] at hy
          injection hy with hy
          subst hy
          exact h3 j i u t hj e2 e
  · rintro ⟨h1, h2, h3⟩
    refine ⟨h1, fun k t ht => ?_, fun i k a b hik ha hb => (h3 k b.name (by rw [List.getElem?_map, hb]; rfl)).2 i a.name hik (by rw [List.getElem?_map, ha]; rfl)⟩
    have h9 := h2 t (List.mem_of_getElem? ht)
    cases e : tabB t
    · rw [e] at h9; simp at h9
    · rfl
theorem eT_ne (b : Bool) : (!decide (eT b = 0)) = !b := by cases b <;> rfl
set_option maxRecDepth 100000 in
set_option maxHeartbeats 4000000 in
theorem chk1_any (F : Nat → Prop) (t : TC) (A : Option Addr) (n c : Nat) (B : Option Addr) (m d : Nat) (w : World) (h : LCO.rd w F A n t.cols) (h2 : LK.rd w F B m t.keys) (hn : n ≤ 9223372036854775807) (hm : m ≤ 9223372036854775807) (hT : Tab w) (hs : Sz t) :
    Calls Tryd.prog 36 #[.agg #[.string t.name, .slice A n c, .slice B m d]] w fun e w' => e = .returned (.bool (!tabB t)) ∧ Below w.heap.size w w' := by
  have HS := Lib.hid hs
  have q1 := bl_al (Below.refl w.heap.size w) (.cells (t.cells A n c B m d) 28)
  have HC := Lib.hid (checkt_any F F t A n c B m d _ (Lay.rd_below h q1) (Lay.rd_below h2 q1) hn hm (hT.below q1) hs)
  have HQ := Lib.hid q1
  have HX := Lib.hid (Blk.new w 28 (t.cells A n c B m d))
  have y0 := HX.out.cell 0
  have y1 := HX.out.cell 1
  have y2 := HX.out.cell 2
  clear q1 h h2 hT hs
  go_enter Tryd.func36, Tryd.ntmps36
  go_wp2_with fail
  refine HC.out.mono ?_
  rintro e w2 ⟨rfl, q2⟩
  have HQ2 := Lib.hid (bl_ca HQ.out q2)
  clear q2 HC y0 y1 y2
  obtain ⟨b, hb⟩ : ∃ b, b = tabB t := ⟨_, rfl⟩
  rw [← hb]
  have HB := Lib.hid hb
  clear hb
  cases b
  · have e1 : eT false = 211 := rfl
    rw [e1]
    go_wp2
    go_ret
    exact ⟨ret_bool (by rw [← HB.out]; rfl), HQ2.out⟩
  · have e1 : eT true = 0 := rfl
    rw [e1]
    go_wp2
    go_ret
    exact ⟨ret_bool (by rw [← HB.out]; rfl), HQ2.out⟩
set_option maxRecDepth 100000 in
set_option maxHeartbeats 8000000 in
theorem check_any (F : Nat → Prop) (l : List TC) (A : Option Addr) (m c : Nat) (w : World) (h : LT3.rd w F A m l) (hm : m ≤ 9223372036854775807) (hT : Tab w) (hs : ∀ (k : Nat) (t : TC), l[k]? = some t → Sz t) :
    Calls Tryd.prog 20 #[.agg #[.slice A m c]] w fun e w' => e = .returned (.int .i64 (eC (catB l))) ∧ Below w.heap.size w w' := by
  have HL := Lib.hid (Lay.rd_len h)
  have HR := Lib.hid (catB_eq l)
  rw [HL.out] at HR
  have HSZ := Lib.hid hs
  generalize catB l = r at *
  have q1 := bl_al (Below.refl w.heap.size w) (.cells #[.slice A m c] 24)
  have h1 := Lay.rd_below h q1
  have HT := Lib.hid (hT.below q1)
  have HB := Lib.hid (Blk.new w 24 #[.slice A m c])
  have HQ := Lib.hid q1
  clear q1 h hT hs
  go_enter Tryd.func20, Tryd.ntmps20
  go_upto_region 2 with fail
  generalize w.alloc (.cells #[.slice A m c] 24) = w1 at *
  obtain ⟨bad, hbad⟩ : ∃ bad, bad = l.any fun t => !tabB t := ⟨_, rfl⟩
  obtain ⟨on, hon⟩ : ∃ on, on = onceB (l.map TC.name) := ⟨_, rfl⟩
  have HBAD := Lib.hid hbad
  have HON := Lib.hid hon
  rw [← hbad, ← hon] at HR
  clear hbad hon
  refine wp_region_ps0 .text (S := fun _ _ w' => Below w1.heap.size w1 w') (by kernel_rfl) ?spswg1 ?ppswg1
  case spswg1 =>
    exact (Below.refl w1.heap.size w1)
  refine Ps.st (i := 0) (d := some 4) (u := (.pointer (some ⟨w.heap.size, 0, none⟩))) rfl rfl (by exact StepS.pure nP rfl fun _ => rfl) ?_
  try simp only [Act.put, sA, sZ, sS]
  refine Ps.st (i := 1) (d := some 5) (u := (.slice A m c)) rfl rfl ?ywg1_3 ?rwg1_3
  case ywg1_3 =>
    refine StepS.read [] (by kernel_rfl) nP (by rfl) (fun L9 m9 w9 hSh hAt hDn hS => ?_)
    have hT : Below _ _ w9 := hS
    have x0 : w9.cell? ⟨w.heap.size, 0, none⟩ = some (.slice A m c) := (HB.out.ca hT).cell 0
    clear hT hS
    go_simp
    try rfl
  try simp only [Act.put, sA, sZ, sS]
  refine Ps.st (i := 2) (d := some 6) (u := (.int .i64 ((m : Int)))) rfl rfl (by exact StepS.pure nP rfl fun _ => by first | rfl | (go_simp; done) | (go_simp; rfl)) ?_
  try simp only [Act.put, sA, sZ, sS]
  refine Ps.st (i := 3) (d := some 7) (u := (.bool (decide ((4 : Int) < (m : Int))))) rfl rfl (by exact StepS.pure nP rfl fun _ => rfl) ?_
  try simp only [Act.put, sA, sZ, sS]
  obtain ⟨b2_4, hb9⟩ : ∃ zb : Bool, zb = (decide ((4 : Int) < (m : Int))) := ⟨_, rfl⟩
  have HEb2_4 := Lib.hid hb9
  clear hb9
  refine Ps.st (i := 4) (d := some 8) (u := (.bool (b2_4))) rfl rfl ?ywg1_6 ?rwg1_6
  case ywg1_6 =>
    refine StepS.pure nP (by rfl) (fun w9 => ?_)
    have e9 : (decide ((4 : Int) < (m : Int))) = b2_4 := by rw [HEb2_4.out]
    rw [← e9]
    clear e9
    first | rfl | (go_simp; done) | (go_simp; rfl)
  try simp only [Act.put, sA, sZ, sS]
  refine Ps.st (i := 5) (d := some 9) (u := (cond b2_4 (undef) (.pointer (some ⟨w.heap.size, 0, none⟩)))) rfl rfl (by cases b2_4; (exact StepS.pure nP rfl fun _ => rfl); exact StepS.skip nP rfl) ?_
  try simp only [Act.put, sA, sZ, sS]
  refine Ps.st (i := 6) (d := some 10) (u := (cond b2_4 (undef) (.slice A m c))) rfl rfl ?ywg1_8 ?rwg1_8
  case ywg1_8 =>
    cases b2_4
    · skip
      refine StepS.read [] (by kernel_rfl) nP (by rfl) (fun L9 m9 w9 hSh hAt hDn hS => ?_)
      have hT : Below _ _ w9 := hS
      have x0 : w9.cell? ⟨w.heap.size, 0, none⟩ = some (.slice A m c) := (HB.out.ca hT).cell 0
      clear hT hS
      go_simp
      try rfl
    · exact StepS.skip nP (by rfl)
  try simp only [Act.put, sA, sZ, sS]
  refine Ps.st (i := 7) (d := some 11) (u := (cond b2_4 (undef) (.func (.func 36) #[] #[]))) rfl rfl (by cases b2_4; (exact StepS.pure nP rfl fun _ => rfl); exact StepS.skip nP rfl) ?_
  try simp only [Act.put, sA, sZ, sS]
  refine Ps.st (i := 8) (d := some 12) (u := (cond b2_4 (undef) (.bool (bad)))) rfl rfl ?ywg1_10 ?rwg1_10
  case ywg1_10 =>
    cases b2_4
    · skip
      refine StepS.call ?fwg1_10 ?awg1_10 [] (by kernel_rfl) (by rfl) (fun w9 => ?hwg1_10) (fun L9 m9 w9 hSh hAt hDn hS => ?cwg1_10)
      case hwg1_10 => go_simp; refine ⟨?_, ?_⟩ <;> rfl
      case cwg1_10 =>
        have hT : Below _ _ w9 := hS
        refine (containsT F A m c l 36 #[] (fun t => !tabB t) w9 (Lay.rd_below h1 hT) hm (fun args w => enters_of Tryd.func36 (by kernel_rfl) rfl args w) (fun i t A n c B m d W b hx g1 g2 g3 g4 g5 g6 => chk1_any F t A n c B m d W g1 g4 (by omega) (by omega) ((HT.out.below hT).below b) (HSZ.out i t hx))).mono ?_
        rintro e w8 ⟨rfl, q8⟩
        exact ⟨by rw [HBAD.out]; first | done | rfl, bl_ca hT q8⟩
    · exact StepS.skip nP (by rfl)
  try simp only [Act.put, sA, sZ, sS]
  refine Ps.st (i := 9) (d := some 13) (u := (.bool (b2_4 || bad))) rfl rfl ?ywg1_11 ?rwg1_11
  case ywg1_11 =>
    refine StepS.pure nP (by rfl) (fun w9 => ?_)
    cases b2_4 <;> (first | rfl | (go_simp; done) | (go_simp; rfl))
  try simp only [Act.put, sA, sZ, sS]
  obtain ⟨b2_10, hb9⟩ : ∃ zb : Bool, zb = ((decide ((4 : Int) < (m : Int))) || bad) := ⟨_, rfl⟩
  have HEb2_10 := Lib.hid hb9
  clear hb9
  refine Ps.st (i := 10) (d := some 14) (u := (.bool (b2_10))) rfl rfl ?ywg1_12 ?rwg1_12
  case ywg1_12 =>
    refine StepS.pure nP (by rfl) (fun w9 => ?_)
    have e9 : (b2_4 || bad) = b2_10 := by rw [HEb2_10.out, HEb2_4.out]
    rw [← e9]
    clear e9
    first | rfl | (go_simp; done) | (go_simp; rfl)
  try simp only [Act.put, sA, sZ, sS]
  refine Ps.st (i := 11) (d := some 15) (u := (cond b2_10 (undef) (.pointer (some ⟨w.heap.size, 0, none⟩)))) rfl rfl (by cases b2_10; (exact StepS.pure nP rfl fun _ => rfl); exact StepS.skip nP rfl) ?_
  try simp only [Act.put, sA, sZ, sS]
  refine Ps.st (i := 12) (d := some 16) (u := (cond b2_10 (undef) (.slice A m c))) rfl rfl ?ywg1_14 ?rwg1_14
  case ywg1_14 =>
    cases b2_10
    · skip
      refine StepS.read [] (by kernel_rfl) nP (by rfl) (fun L9 m9 w9 hSh hAt hDn hS => ?_)
      have hT : Below _ _ w9 := hS
      have x0 : w9.cell? ⟨w.heap.size, 0, none⟩ = some (.slice A m c) := (HB.out.ca hT).cell 0
      clear hT hS
      go_simp
      try rfl
    · exact StepS.skip nP (by rfl)
  try simp only [Act.put, sA, sZ, sS]
  refine Ps.st (i := 13) (d := some 17) (u := (cond b2_10 (undef) (.bool (on)))) rfl rfl ?ywg1_15 ?rwg1_15
  case ywg1_15 =>
    cases b2_10
    · skip
      refine StepS.call ?fwg1_15 ?awg1_15 [] (by kernel_rfl) (by rfl) (fun w9 => ?hwg1_15) (fun L9 m9 w9 hSh hAt hDn hS => ?cwg1_15)
      case hwg1_15 => go_simp; refine ⟨?_, ?_⟩ <;> rfl
      case cwg1_15 =>
        have hT : Below _ _ w9 := hS
        refine (onceT_any F l A m c w9 (Lay.rd_below h1 hT) hm (HT.out.below hT) (fun k t h9 => by have := (HSZ.out k t h9).1; omega)).mono ?_
        rintro e w8 ⟨rfl, q8⟩
        exact ⟨by rw [HON.out]; first | done | rfl, bl_ca hT q8⟩
    · exact StepS.skip nP (by rfl)
  try simp only [Act.put, sA, sZ, sS]
  refine Ps.st (i := 14) (d := some 18) (u := (cond b2_10 (undef) (.bool (!on)))) rfl rfl (by cases b2_10; (exact StepS.pure nP rfl fun _ => rfl); exact StepS.skip nP rfl) ?_
  try simp only [Act.put, sA, sZ, sS]
  obtain ⟨fin, hb9⟩ : ∃ zb : Bool, zb = (((decide ((4 : Int) < (m : Int))) || bad) || !on) := ⟨_, rfl⟩
  have HEfin := Lib.hid hb9
  clear hb9
  refine Ps.st (i := 15) (d := some 19) (u := (.bool (fin))) rfl rfl ?ywg1_17 ?rwg1_17
  case ywg1_17 =>
    refine StepS.pure nP (by rfl) (fun w9 => ?_)
    have e9 : (b2_10 || !on) = fin := by rw [HEfin.out, HEb2_10.out]
    rw [← e9]
    clear e9
    cases b2_10 <;> (first | rfl | (go_simp; done) | (go_simp; rfl))
  try simp only [Act.put, sA, sZ, sS]
  refine Ps.done (by kernel_rfl) (fun wg1 hS => ?_) _
  try generalize (cond b2_4 (undef) (.func (.func 36) #[] #[]) : Value) = zz18
  try generalize (cond b2_10 (undef) (.pointer (some ⟨w.heap.size, 0, none⟩)) : Value) = zz19
  try generalize (cond b2_4 (undef) (.pointer (some ⟨w.heap.size, 0, none⟩)) : Value) = zz20
  try generalize (cond b2_10 (undef) (.slice A m c) : Value) = zz21
  try generalize (cond b2_10 (undef) (.bool (!on)) : Value) = zz22
  try generalize (cond b2_4 (undef) (.slice A m c) : Value) = zz23
  try generalize (cond b2_10 (undef) (.bool (on)) : Value) = zz24
  try generalize (cond b2_4 (undef) (.bool (bad)) : Value) = zz25
  try generalize (.bool (b2_4 || bad) : Value) = zz26
  have HT2 := Lib.hid (show Below w1.heap.size w1 wg1 from hS)
  clear hS
  obtain ⟨w2, rfl⟩ : ∃ x, x = wg1 := ⟨_, rfl⟩
  have HK := Lib.hid (show fin = !r from by
    rw [HEfin.out, HR.out]
    rw [show decide (4 < (m : Int)) = !decide (m ≤ 4) from by rw [Bool.eq_iff_iff]; simp <;> omega]
    cases decide (m ≤ 4) <;> cases bad <;> cases on <;> rfl)
  have HQ2 := Lib.hid (bl_ca HQ.out HT2.out)
  clear HB h1 HT HQ HT2 HBAD HON HR
  cases fin
  · have HF := Lib.hid (show eC r = 0 from by cases r; exact absurd HK.out (by simp); rfl)
    go_wp2
    go_ret
    exact ⟨by rw [HF.out]; rfl, HQ2.out⟩
  · have HF := Lib.hid (show eC r = 210 from by cases r; rfl; exact absurd HK.out (by simp))
    go_wp2
    go_ret
    exact ⟨by rw [HF.out]; rfl, HQ2.out⟩
set_option maxRecDepth 100000 in
set_option maxHeartbeats 4000000 in
theorem find_any (F : Nat → Prop) (l : List TC) (A : Option Addr) (m c : Nat) (s : ByteArray) (w : World) (h : LT3.rd w F A m l) (hm : m ≤ 9223372036854775807) :
    Calls Tryd.prog 22 #[.agg #[.slice A m c], .string s] w fun e w' => e = .returned (.tuple #[.int .i64 (fnd (idxL (fun t => decide (t.name = s)) l)), .bool (decide (0 ≤ idxL (fun t : TC => decide (t.name = s)) l))]) ∧ Below w.heap.size w w' := by
  have q1 := bl_al (Below.refl w.heap.size w) (.cells #[.slice A m c] 24)
  have HC := Lib.hid (findT_any F l A m c s _ (Lay.rd_below h q1) hm)
  have HQ := Lib.hid q1
  have y0 := (Blk.new w 24 #[.slice A m c]).cell 0
  clear q1 h
  obtain ⟨z, hz⟩ : ∃ z, z = idxL (fun t : TC => decide (t.name = s)) l := ⟨_, rfl⟩
  rw [← hz] at HC ⊢
  clear hz
  obtain ⟨v1, hv1⟩ : ∃ v1, v1 = fnd z := ⟨_, rfl⟩
  obtain ⟨v2, hv2⟩ : ∃ v2, v2 = decide (0 ≤ z) := ⟨_, rfl⟩
  rw [← hv1, ← hv2] at HC ⊢
  clear hv1 hv2
  go_enter Tryd.func22, Tryd.ntmps22
  go_wp2_with fail
  refine HC.out.mono ?_
  rintro e w2 ⟨rfl, q2⟩
  have HQ2 := Lib.hid (bl_ca HQ.out q2)
  clear q2 HC y0
  go_wp2
  exact bodyPost_ret (results_tmp2 Tryd.results22 _ _ _) rfl ⟨rfl, HQ2.out⟩
set_option maxRecDepth 100000 in
set_option maxHeartbeats 4000000 in
theorem column_any (F : Nat → Prop) (t : TC) (A : Option Addr) (m c : Nat) (B : Option Addr) (n d : Nat) (s : ByteArray) (w : World) (h : LCO.rd w F A m t.cols) (hm : m ≤ 9223372036854775807) :
    Calls Tryd.prog 24 #[.agg (t.cells A m c B n d), .string s] w fun e w' => e = .returned (.tuple #[.int .i64 (fnd (idxL (fun t => decide (t.name = s)) t.cols)), .bool (decide (0 ≤ idxL (fun t : CO => decide (t.name = s)) t.cols))]) ∧ Below w.heap.size w w' := by
  have q1 := bl_al (Below.refl w.heap.size w) (.cells (t.cells A m c B n d) 28)
  have HC := Lib.hid (findO_any F t.cols A m c s _ (Lay.rd_below h q1) hm)
  have HQ := Lib.hid q1
  have y0 := (Blk.new w 28 (t.cells A m c B n d)).cell 1
  clear q1 h
  obtain ⟨z, hz⟩ : ∃ z, z = idxL (fun t : CO => decide (t.name = s)) t.cols := ⟨_, rfl⟩
  rw [← hz] at HC ⊢
  clear hz
  obtain ⟨v1, hv1⟩ : ∃ v1, v1 = fnd z := ⟨_, rfl⟩
  obtain ⟨v2, hv2⟩ : ∃ v2, v2 = decide (0 ≤ z) := ⟨_, rfl⟩
  rw [← hv1, ← hv2] at HC ⊢
  clear hv1 hv2
  go_enter Tryd.func24, Tryd.ntmps24
  go_wp2_with fail
  refine HC.out.mono ?_
  rintro e w2 ⟨rfl, q2⟩
  have HQ2 := Lib.hid (bl_ca HQ.out q2)
  clear q2 HC y0
  go_wp2
  exact bodyPost_ret (results_tmp2 Tryd.results24 _ _ _) rfl ⟨rfl, HQ2.out⟩
end Go.Proofs.YthgcdilkkldgjaaDoor
