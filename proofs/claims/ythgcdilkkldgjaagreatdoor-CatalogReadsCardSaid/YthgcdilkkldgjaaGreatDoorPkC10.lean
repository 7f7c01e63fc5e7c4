/- The layer's Check, Find, Column. Conditions: the slices read so; what the tables hold; the names are short. -/
import Derived.Test.YthgcdilkkldgjaaGreatDoorPkC9
import Derived.Lib.SlicesDelete
import Derived.Deep.RegionLaw
import Derived.Shelf.RegionOpen
import Derived.Shelf.RegionOpenPlain
namespace Go.Proofs.YthgcdilkkldgjaaGreatDoor
open Go.RowKit
theorem catB_eq (l : List TC) : catB l = (decide (l.length ≤ 4) && (!(l.any fun t => !tabB t) && onceB (l.map TC.name))) := by
  rw [Bool.eq_iff_iff, catB_iff]
  simp only [Bool.and_eq_true, decide_eq_true_eq, onceB_iff, Bool.not_eq_true', List.any_eq_false]
  constructor
  · rintro ⟨h1, h2, h3⟩
    refine ⟨h1, fun t ht => ?_, fun i x hx => ?_⟩
    · obtain ⟨k, hk, e⟩ := List.getElem_of_mem ht
      rw [h2 k t (by rw [← e]; exact List.getElem?_eq_getElem hk)]
      simp
    · rw [List.getElem?_map] at hx
      cases e : l[i]? with
      | none => rw [e] at hx; cases hx
      | some t =>
        rw [e] at hx
        injection hx with hx
        subst hx
        refine ⟨((tabB_iff t).1 (h2 i t e)).nm, fun j y hj hy => ?_⟩
        rw [List.getElem?_map] at hy
        cases e2 : l[j]? with
        | none => rw [e2] at hy; cases hy
        | some u =>
          rw [e2] at hy
          injection hy with hy
          subst hy
          exact h3 j i u t hj e2 e
  · rintro ⟨h1, h2, h3⟩
    refine ⟨h1, fun k t ht => ?_, fun i k a b hik ha hb => (h3 k b.name (by rw [List.getElem?_map, hb]; rfl)).2 i a.name hik (by rw [List.getElem?_map, ha]; rfl)⟩
    have h9 := h2 t (List.mem_of_getElem? ht)
    cases e : tabB t
    · rw [e] at h9; simp at h9
    · rfl
theorem eT_ne (b : Bool) : (!decide (eT b = 0)) = !b := by cases b <;> rfl
set_option maxRecDepth 100000 in
set_option maxHeartbeats 4000000 in
theorem chk1_any (F : Nat → Prop) (t : TC) (A : Option Addr) (n c : Nat) (B : Option Addr) (m d : Nat) (w : World) (h : LCO.rd w F A n t.cols) (h2 : LK.rd w F B m t.keys) (hn : n ≤ 9223372036854775807) (hm : m ≤ 9223372036854775807) (hT : Tab w) (hs : Sz t) :
    Calls Tryz.prog 35 #[.agg #[.string t.name, .slice A n c, .slice B m d]] w fun e w' => e = .returned (.bool (!tabB t)) ∧ Below w.heap.size w w' := by
  have HS := Lib.hid hs
  have q1 := bl_al (Below.refl w.heap.size w) (.cells (t.cells A n c B m d) 41)
  have HC := Lib.hid (checkt_any F F t A n c B m d _ (Lay.rd_below h q1) (Lay.rd_below h2 q1) hn hm (hT.below q1) hs)
  have HQ := Lib.hid q1
  have HX := Lib.hid (Blk.new w 41 (t.cells A n c B m d))
  have y0 := HX.out.cell 0
  have y1 := HX.out.cell 1
  have y2 := HX.out.cell 2
  clear q1 h h2 hT hs
  go_enter Tryz.func35, Tryz.ntmps35
  go_wp2_with fail
  refine HC.out.mono ?_
  rintro e w2 ⟨rfl, q2⟩
  have HQ2 := Lib.hid (bl_ca HQ.out q2)
  clear q2 HC y0 y1 y2
  obtain ⟨b, hb⟩ : ∃ b, b = tabB t := ⟨_, rfl⟩
  rw [← hb]
  have HB := Lib.hid hb
  clear hb
  cases b
  · have e1 : eT false = 211 := rfl
    rw [e1]
    go_wp2
    go_ret
    exact ⟨ret_bool (by rw [← HB.out]; rfl), HQ2.out⟩
  · have e1 : eT true = 0 := rfl
    rw [e1]
    go_wp2
    go_ret
    exact ⟨ret_bool (by rw [← HB.out]; rfl), HQ2.out⟩
set_option maxRecDepth 100000 in
set_option maxHeartbeats 8000000 in
theorem check_any (F : Nat → Prop) (l : List TC) (A : Option Addr) (m c : Nat) (w : World) (h : LT3.rd w F A m l) (hm : m ≤ 9223372036854775807) (hT : Tab w) (hs : ∀ (k : Nat) (t : TC), l[k]? = some t → Sz t) :
    Calls Tryz.prog 17 #[.agg #[.slice A m c]] w fun e w' => e = .returned (.int .i64 (eC (catB l))) ∧ Below w.heap.size w w' := by
  have HL := Lib.hid (Lay.rd_len h)
  have HR := Lib.hid (catB_eq l)
  rw [HL.out] at HR
  have HSZ := Lib.hid hs
  generalize catB l = r at *
  have q1 := bl_al (Below.refl w.heap.size w) (.cells #[.slice A m c] 24)
  have h1 := Lay.rd_below h q1
  have HT := Lib.hid (hT.below q1)
  have HB := Lib.hid (Blk.new w 24 #[.slice A m c])
  have HQ := Lib.hid q1
  clear q1 h hT hs
  go_enter Tryz.func17, Tryz.ntmps17
  go_upto_region 2 with fail
  generalize w.alloc (.cells #[.slice A m c] 24) = w1 at *
  obtain ⟨bad, hbad⟩ : ∃ bad, bad = l.any fun t => !tabB t := ⟨_, rfl⟩
  obtain ⟨on, hon⟩ : ∃ on, on = onceB (l.map TC.name) := ⟨_, rfl⟩
  have HBAD := Lib.hid hbad
  have HON := Lib.hid hon
  rw [← hbad, ← hon] at HR
  clear hbad hon
  refine wp_region_ps0 .text (S := fun _ _ w' => Below w1.heap.size w1 w') (by kernel_rfl) ?spswg1 ?ppswg1
  case spswg1 =>
    exact (Below.refl w1.heap.size w1)
  refine Ps.st (i := 0) (d := some 4) (u := (.pointer (some ⟨w.heap.size, 0, none⟩))) rfl rfl (by exact StepS.pure nP rfl fun _ => rfl) ?_
  try simp only [Act.put, sA, sZ, sS]
  refine Ps.st (i := 1) (d := some 5) (u := (.slice A m c)) rfl rfl ?ywg1_3 ?rwg1_3
  case ywg1_3 =>
    refine StepS.read [] (by kernel_rfl) nP (by rfl) (fun L9 m9 w9 hSh hAt hDn hS => ?_)
    have hT : Below _ _ w9 := hS
    have x0 : w9.cell? ⟨w.heap.size, 0, none⟩ = some (.slice A m c) := (HB.out.ca hT).cell 0
    clear hT hS
    go_simp
    try rfl
  try simp only [Act.put, sA, sZ, sS]
  refine Ps.st (i := 2) (d := some 6) (u := (.int .i64 ((m : Int)))) rfl rfl (by exact StepS.pure nP rfl fun _ => by first | rfl | (go_simp; done) | (go_simp; rfl)) ?_
  try simp only [Act.put, sA, sZ, sS]
  refine Ps.st (i := 3) (d := some 7) (u := (.bool (decide ((4 : Int) < (m : Int))))) rfl rfl (by exact StepS.pure nP rfl fun _ => rfl) ?_
  try simp only [Act.put, sA, sZ, sS]
  obtain ⟨b2_4, hb9⟩ : ∃ zb : Bool, zb = (decide ((4 : Int) < (m : Int))) := ⟨_, rfl⟩
  have HEb2_4 := Lib.hid hb9
  clear hb9
  refine Ps.st (i := 4) (d := some 8) (u := (.bool (b2_4))) rfl rfl ?ywg1_6 ?rwg1_6
  case ywg1_6 =>
    refine StepS.pure nP (by rfl) (fun w9 => ?_)
    have e9 : (decide ((4 : Int) < (m : Int))) = b2_4 := by rw [HEb2_4.out]
    rw [← e9]
    clear e9
    first | rfl | (go_simp; done) | (go_simp; rfl)
  try simp only [Act.put, sA, sZ, sS]
  refine Ps.st (i := 5) (d := some 9) (u := (cond b2_4 (undef) (.pointer (some ⟨w.heap.size, 0, none⟩)))) rfl rfl (by cases b2_4; (exact StepS.pure nP rfl fun _ => rfl); exact StepS.skip nP rfl) ?_
  try simp only [Act.put, sA, sZ, sS]
  refine Ps.st (i := 6) (d := some 10) (u := (cond b2_4 (undef) (.slice A m c))) rfl rfl ?ywg1_8 ?rwg1_8
  case ywg1_8 =>
    cases b2_4
    · skip
      refine StepS.read [] (by kernel_rfl) nP (by rfl) (fun L9 m9 w9 hSh hAt hDn hS => ?_)
      have hT : Below _ _ w9 := hS
      have x0 : w9.cell? ⟨w.heap.size, 0, none⟩ = some (.slice A m c) := (HB.out.ca hT).cell 0
      clear hT hS
      go_simp
      try rfl
    · exact StepS.skip nP (by rfl)
  try simp only [Act.put, sA, sZ, sS]
  refine Ps.st (i := 7) (d := some 11) (u := (cond b2_4 (undef) (.func (.func 35) #[] #[]))) rfl rfl (by cases b2_4; (exact StepS.pure nP rfl fun _ => rfl); exact StepS.skip nP rfl) ?_
  try simp only [Act.put, sA, sZ, sS]
  refine Ps.st (i := 8) (d := some 12) (u := (cond b2_4 (undef) (.bool (bad)))) rfl rfl ?ywg1_10 ?rwg1_10
  case ywg1_10 =>
    cases b2_4
    · skip
      refine StepS.call ?fwg1_10 ?awg1_10 [] (by kernel_rfl) (by rfl) (fun w9 => ?hwg1_10) (fun L9 m9 w9 hSh hAt hDn hS => ?cwg1_10)
      case hwg1_10 => go_simp; refine ⟨?_, ?_⟩ <;> rfl
      case cwg1_10 =>
        have hT : Below _ _ w9 := hS
        refine (containsT F A m c l 35 #[] (fun t => !tabB t) w9 (Lay.rd_below h1 hT) hm (fun args w => enters_of Tryz.func35 (by kernel_rfl) rfl args w) (fun i t A n c B m d W b hx g1 g2 g3 g4 g5 g6 => chk1_any F t A n c B m d W g1 g4 (by omega) (by omega) ((HT.out.below hT).below b) (HSZ.out i t hx))).mono ?_
        rintro e w8 ⟨rfl, q8⟩
        exact ⟨by rw [HBAD.out]; first | done | rfl, bl_ca hT q8⟩
    · exact StepS.skip nP (by rfl)
  try simp only [Act.put, sA, sZ, sS]
  refine Ps.st (i := 9) (d := some 13) (u := (.bool (b2_4 || bad))) rfl rfl ?ywg1_11 ?rwg1_11
  case ywg1_11 =>
    refine StepS.pure nP (by rfl) (fun w9 => ?_)
    cases b2_4 <;> (first | rfl | (go_simp; done) | (go_simp; rfl))
  try simp only [Act.put, sA, sZ, sS]
  obtain ⟨b2_10, hb9⟩ : ∃ zb : Bool, zb = ((decide ((4 : Int) < (m : Int))) || bad) := ⟨_, rfl⟩
  have HEb2_10 := Lib.hid hb9
  clear hb9
  refine Ps.st (i := 10) (d := some 14) (u := (.bool (b2_10))) rfl rfl ?ywg1_12 ?rwg1_12
  case ywg1_12 =>
    refine StepS.pure nP (by rfl) (fun w9 => ?_)
    have e9 : (b2_4 || bad) = b2_10 := by rw [HEb2_10.out, HEb2_4.out]
    rw [← e9]
    clear e9
    first | rfl | (go_simp; done) | (go_simp; rfl)
  try simp only [Act.put, sA, sZ, sS]
  refine Ps.st (i := 11) (d := some 15) (u := (cond b2_10 (undef) (.pointer (some ⟨w.heap.size, 0, none⟩)))) rfl rfl (by cases b2_10; (exact StepS.pure nP rfl fun _ => rfl); exact StepS.skip nP rfl) ?_
  try simp only [Act.put, sA, sZ, sS]
  refine Ps.st (i := 12) (d := some 16) (u := (cond b2_10 (undef) (.slice A m c))) rfl rfl ?ywg1_14 ?rwg1_14
  case ywg1_14 =>
    cases b2_10
    · skip
      refine StepS.read [] (by kernel_rfl) nP (by rfl) (fun L9 m9 w9 hSh hAt hDn hS => ?_)
      have hT : Below _ _ w9 := hS
      have x0 : w9.cell? ⟨w.heap.size, 0, none⟩ = some (.slice A m c) := (HB.out.ca hT).cell 0
      clear hT hS
      go_simp
      try rfl
    · exact StepS.skip nP (by rfl)
  try simp only [Act.put, sA, sZ, sS]
  refine Ps.st (i := 13) (d := some 17) (u := (cond b2_10 (undef) (.bool (on)))) rfl rfl ?ywg1_15 ?rwg1_15
  case ywg1_15 =>
    cases b2_10
    · skip
      refine StepS.call ?fwg1_15 ?awg1_15 [] (by kernel_rfl) (by rfl) (fun w9 => ?hwg1_15) (fun L9 m9 w9 hSh hAt hDn hS => ?cwg1_15)
      case hwg1_15 => go_simp; refine ⟨?_, ?_⟩ <;> rfl
      case cwg1_15 =>
        have hT : Below _ _ w9 := hS
        refine (onceT_any F l A m c w9 (Lay.rd_below h1 hT) hm (HT.out.below hT) (fun k t h9 => by have := (HSZ.out k t h9).1; omega)).mono ?_
        rintro e w8 ⟨rfl, q8⟩
        exact ⟨by rw [HON.out]; first | done | rfl, bl_ca hT q8⟩
    · exact StepS.skip nP (by rfl)
  try simp only [Act.put, sA, sZ, sS]
  refine Ps.st (i := 14) (d := some 18) (u := (cond b2_10 (undef) (.bool (!on)))) rfl rfl (by cases b2_10; (exact StepS.pure nP rfl fun _ => rfl); exact StepS.skip nP rfl) ?_
  try simp only [Act.put, sA, sZ, sS]
  obtain ⟨fin, hb9⟩ : ∃ zb : Bool, zb = (((decide ((4 : Int) < (m : Int))) || bad) || !on) := ⟨_, rfl⟩
  have HEfin := Lib.hid hb9
  clear hb9
  refine Ps.st (i := 15) (d := some 19) (u := (.bool (fin))) rfl rfl ?ywg1_17 ?rwg1_17
  case ywg1_17 =>
    refine StepS.pure nP (by rfl) (fun w9 => ?_)
    have e9 : (b2_10 || !on) = fin := by rw [HEfin.out, HEb2_10.out]
    rw [← e9]
    clear e9
    cases b2_10 <;> (first | rfl | (go_simp; done) | (go_simp; rfl))
  try simp only [Act.put, sA, sZ, sS]
  refine Ps.done (by kernel_rfl) (fun wg1 hS => ?_) _
  try generalize (cond b2_4 (undef) (.func (.func 35) #[] #[]) : Value) = zz18
  try generalize (cond b2_10 (undef) (.pointer (some ⟨w.heap.size, 0, none⟩)) : Value) = zz19
  try generalize (cond b2_4 (undef) (.pointer (some ⟨w.heap.size, 0, none⟩)) : Value) = zz20
  try generalize (cond b2_10 (undef) (.slice A m c) : Value) = zz21
  try generalize (cond b2_10 (undef) (.bool (!on)) : Value) = zz22
  try generalize (cond b2_4 (undef) (.slice A m c) : Value) = zz23
  try generalize (cond b2_10 (undef) (.bool (on)) : Value) = zz24
  try generalize (cond b2_4 (undef) (.bool (bad)) : Value) = zz25
  try generalize (.bool (b2_4 || bad) : Value) = zz26
  have HT2 := Lib.hid (show Below w1.heap.size w1 wg1 from hS)
  clear hS
  obtain ⟨w2, rfl⟩ : ∃ x, x = wg1 := ⟨_, rfl⟩
  have HK := Lib.hid (show fin = !r from by
    rw [HEfin.out, HR.out]
    rw [show decide (4 < (m : Int)) = !decide (m ≤ 4) from by rw [Bool.eq_iff_iff]; simp <;> omega]
    cases decide (m ≤ 4) <;> cases bad <;> cases on <;> rfl)
  have HQ2 := Lib.hid (bl_ca HQ.out HT2.out)
  clear HB h1 HT HQ HT2 HBAD HON HR
  cases fin
  · have HF := Lib.hid (show eC r = 0 from by cases r; exact absurd HK.out (by simp); rfl)
    go_wp2
    go_ret
    exact ⟨by rw [HF.out]; rfl, HQ2.out⟩
  · have HF := Lib.hid (show eC r = 210 from by cases r; rfl; exact absurd HK.out (by simp))
    go_wp2
    go_ret
    exact ⟨by rw [HF.out]; rfl, HQ2.out⟩
set_option maxRecDepth 100000 in
set_option maxHeartbeats 4000000 in
theorem find_any (F : Nat → Prop) (l : List TC) (A : Option Addr) (m c : Nat) (s : ByteArray) (w : World) (h : LT3.rd w F A m l) (hm : m ≤ 9223372036854775807) :
    Calls Tryz.prog 29 #[.agg #[.slice A m c], .string s] w fun e w' => e = .returned (.tuple #[.int .i64 (fnd (idxL (fun t => decide (t.name = s)) l)), .bool (decide (0 ≤ idxL (fun t : TC => decide (t.name = s)) l))]) ∧ Below w.heap.size w w' := by
  have q1 := bl_al (Below.refl w.heap.size w) (.cells #[.slice A m c] 24)
  have HC := Lib.hid (findT_any F l A m c s _ (Lay.rd_below h q1) hm)
  have HQ := Lib.hid q1
  have y0 := (Blk.new w 24 #[.slice A m c]).cell 0
  clear q1 h
  obtain ⟨z, hz⟩ : ∃ z, z = idxL (fun t : TC => decide (t.name = s)) l := ⟨_, rfl⟩
  rw [← hz] at HC ⊢
  clear hz
  obtain ⟨v1, hv1⟩ : ∃ v1, v1 = fnd z := ⟨_, rfl⟩
  obtain ⟨v2, hv2⟩ : ∃ v2, v2 = decide (0 ≤ z) := ⟨_, rfl⟩
  rw [← hv1, ← hv2] at HC ⊢
  clear hv1 hv2
  go_enter Tryz.func29, Tryz.ntmps29
  go_wp2_with fail
  refine HC.out.mono ?_
  rintro e w2 ⟨rfl, q2⟩
  have HQ2 := Lib.hid (bl_ca HQ.out q2)
  clear q2 HC y0
  go_wp2
  exact bodyPost_ret (results_tmp2 Tryz.results29 _ _ _) rfl ⟨rfl, HQ2.out⟩
set_option maxRecDepth 100000 in
set_option maxHeartbeats 4000000 in
theorem column_any (F : Nat → Prop) (t : TC) (A : Option Addr) (m c : Nat) (B : Option Addr) (n d : Nat) (s : ByteArray) (w : World) (h : LCO.rd w F A m t.cols) (hm : m ≤ 9223372036854775807) :
    Calls Tryz.prog 15 #[.agg (t.cells A m c B n d), .string s] w fun e w' => e = .returned (.tuple #[.int .i64 (fnd (idxL (fun t => decide (t.name = s)) t.cols)), .bool (decide (0 ≤ idxL (fun t : CO => decide (t.name = s)) t.cols))]) ∧ Below w.heap.size w w' := by
  have q1 := bl_al (Below.refl w.heap.size w) (.cells (t.cells A m c B n d) 41)
  have HC := Lib.hid (findO_any F t.cols A m c s _ (Lay.rd_below h q1) hm)
  have HQ := Lib.hid q1
  have y0 := (Blk.new w 41 (t.cells A m c B n d)).cell 1
  clear q1 h
  obtain ⟨z, hz⟩ : ∃ z, z = idxL (fun t : CO => decide (t.name = s)) t.cols := ⟨_, rfl⟩
  rw [← hz] at HC ⊢
  clear hz
  obtain ⟨v1, hv1⟩ : ∃ v1, v1 = fnd z := ⟨_, rfl⟩
  obtain ⟨v2, hv2⟩ : ∃ v2, v2 = decide (0 ≤ z) := ⟨_, rfl⟩
  rw [← hv1, ← hv2] at HC ⊢
  clear hv1 hv2
  go_enter Tryz.func15, Tryz.ntmps15
  go_wp2_with fail
  refine HC.out.mono ?_
  rintro e w2 ⟨rfl, q2⟩
  have HQ2 := Lib.hid (bl_ca HQ.out q2)
  clear q2 HC y0
  go_wp2
  exact bodyPost_ret (results_tmp2 Tryz.results15 _ _ _) rfl ⟨rfl, HQ2.out⟩
end Go.Proofs.YthgcdilkkldgjaaGreatDoor
/- The layer's same, Same. Conditions: the slices read so. -/
namespace Go.Proofs.YthgcdilkkldgjaaGreatDoor
open Go.RowKit
theorem dec_tc (s t : TC) : decide (s = t) = (decide (s.name = t.name) && (decide (s.cols = t.cols) && decide (s.keys = t.keys))) := by
  rw [Bool.eq_iff_iff, Bool.and_eq_true, Bool.and_eq_true, decide_eq_true_eq, decide_eq_true_eq, decide_eq_true_eq, decide_eq_true_eq]
  cases s; cases t; simp
end Go.Proofs.YthgcdilkkldgjaaGreatDoor
/- slices.Clone of columns and ints; the layer's copied, copies. Conditions: the slices read so. -/
namespace Go.Proofs.YthgcdilkkldgjaaGreatDoor
open Go.RowKit
set_option maxRecDepth 100000 in
set_option maxHeartbeats 1000000 in
theorem cloneO_any (F : Nat → Prop) (xs : List CO) (A : Option Addr) (m c : Nat) (w : World) (h : LCO.rd w F A m xs) (hm : m ≤ 100000) :
    Calls Tryz.prog 54 #[.slice A m c] w fun e w' => ∃ A2 c2, e = .returned (.slice A2 m c2) ∧ LCO.rd w' (fun b => w.heap.size ≤ b) A2 m xs ∧ m ≤ c2 ∧ c2 ≤ 9223372036854775807 ∧ Below w.heap.size w w' := by
  cases A with
  | none =>
    obtain rfl : m = 0 := by
      rcases Nat.eq_zero_or_pos m with h0 | h0
      · exact h0
      · obtain ⟨_, _, _, e, _⟩ := Lay.rd_at h h0; cases e
    obtain rfl : xs = [] := List.eq_nil_of_length_eq_zero (Lay.rd_len h)
    clear h
    have HQ0 : ∀ W, (binOp .eql 38 (.slice none 0 c) (.slice none 0 0)).run Tryz.prog W = .ok (.bool true) W := fun W => Lib.run_eql_slice_nil W _ _ _ _ _ _ _ Tryz.underlying38
    go_enter Tryz.func54, Tryz.ntmps54
    go_wp2
    go_ret
    exact ⟨none, 0, rfl, Lay.rd_nil _, Nat.le_refl _, by omega, Below.refl _ _⟩
  | some ad =>
    have q1 := bl_al (Below.refl w.heap.size w) (.cells #[] 71)
    have HR := Lib.hid (Lay.rd_below h q1)
    have HQ := Lib.hid q1
    have hs1 : (w.alloc (.cells #[] 71)).heap.size = w.heap.size + 1 := by simp only [World.size_alloc]
    clear h q1
    have HQ0 : ∀ W, (binOp .eql 38 (.slice (some ad) m c) (.slice none 0 0)).run Tryz.prog W = .ok (.bool false) W := fun W => Lib.run_eql_slice_nil W _ _ _ _ _ _ _ Tryz.underlying38
    go_enter Tryz.func54, Tryz.ntmps54
    go_wp2_with (at_builtin; refine wpList_appC (L := LCO) (e := 71) rfl (.tmp 5) (.tmp 6) 38 rfl _ 2 24 Tryz.underlying38 Tryz.colInfo rfl rfl (by decide) LCO_free w.heap.size _ (some ad) m c xs rfl rfl HR.out (by omega) (by unfold maxLen; omega) ?_; intro A2 c2 w2 hr2 q2 hc1 hc2)
    go_ret
    exact ⟨A2, c2, rfl, Lay.rd_weak (fun b hb _ => by omega) hr2, hc1, hc2, bl_ca HQ.out q2⟩
set_option maxRecDepth 100000 in
set_option maxHeartbeats 1000000 in
theorem cloneK_any (F : Nat → Prop) (xs : List Int) (A : Option Addr) (m c : Nat) (w : World) (h : LK.rd w F A m xs) (hm : m ≤ 100000) :
    Calls Tryz.prog 55 #[.slice A m c] w fun e w' => ∃ A2 c2, e = .returned (.slice A2 m c2) ∧ LK.rd w' (fun b => w.heap.size ≤ b) A2 m xs ∧ m ≤ c2 ∧ c2 ≤ 9223372036854775807 ∧ Below w.heap.size w w' := by
  cases A with
  | none =>
    obtain rfl : m = 0 := by
      rcases Nat.eq_zero_or_pos m with h0 | h0
      · exact h0
      · obtain ⟨_, _, _, e, _⟩ := Lay.rd_at h h0; cases e
    obtain rfl : xs = [] := List.eq_nil_of_length_eq_zero (Lay.rd_len h)
    clear h
    have HQ0 : ∀ W, (binOp .eql 39 (.slice none 0 c) (.slice none 0 0)).run Tryz.prog W = .ok (.bool true) W := fun W => Lib.run_eql_slice_nil W _ _ _ _ _ _ _ Tryz.underlying39
    go_enter Tryz.func55, Tryz.ntmps55
    go_wp2
    go_ret
    exact ⟨none, 0, rfl, Lay.rd_nil _, Nat.le_refl _, by omega, Below.refl _ _⟩
  | some ad =>
    have q1 := bl_al (Below.refl w.heap.size w) (.cells #[] 3)
    have HR := Lib.hid (Lay.rd_below h q1)
    have HQ := Lib.hid q1
    have hs1 : (w.alloc (.cells #[] 3)).heap.size = w.heap.size + 1 := by simp only [World.size_alloc]
    clear h q1
    have HQ0 : ∀ W, (binOp .eql 39 (.slice (some ad) m c) (.slice none 0 0)).run Tryz.prog W = .ok (.bool false) W := fun W => Lib.run_eql_slice_nil W _ _ _ _ _ _ _ Tryz.underlying39
    go_enter Tryz.func55, Tryz.ntmps55
    go_wp2_with (at_builtin; refine wpList_appC (L := LK) (e := 3) rfl (.tmp 5) (.tmp 6) 39 rfl _ 1 8 Tryz.underlying39 Tryz.intInfo rfl rfl (by decide) LK_free w.heap.size _ (some ad) m c xs rfl rfl HR.out (by omega) (by unfold maxLen; omega) ?_; intro A2 c2 w2 hr2 q2 hc1 hc2)
    go_ret
    exact ⟨A2, c2, rfl, Lay.rd_weak (fun b hb _ => by omega) hr2, hc1, hc2, bl_ca HQ.out q2⟩
theorem tableI : (Tryz.prog.info? 41).map (·.size) = some 3 := by kernel_rfl
set_option maxRecDepth 100000 in
set_option maxHeartbeats 4000000 in
theorem copiedt_any (F : Nat → Prop) (t : TC) (A : Option Addr) (n c : Nat) (B : Option Addr) (m d : Nat) (w : World) (h : LCO.rd w F A n t.cols) (h2 : LK.rd w F B m t.keys) (hn : n ≤ 100000) (hm : m ≤ 100000) :
    Calls Tryz.prog 32 #[.agg #[.string t.name, .slice A n c, .slice B m d]] w fun e w' => ∃ A2 c2 B2 d2, e = .returned (.agg #[.string t.name, .slice A2 n c2, .slice B2 m d2]) ∧ LCO.rd w' (fun b => w.heap.size ≤ b) A2 n t.cols ∧ n ≤ c2 ∧ c2 ≤ 9223372036854775807 ∧ LK.rd w' (fun b => w.heap.size ≤ b) B2 m t.keys ∧ m ≤ d2 ∧ d2 ≤ 9223372036854775807 ∧ Below w.heap.size w w' := by
  have q2 := bl_al (bl_al (Below.refl w.heap.size w) (.cells (t.cells A n c B m d) 41)) (.cells #[.string ⟨#[]⟩, .slice none 0 0, .slice none 0 0] 41)
  have HC := Lib.hid (Lay.rd_below h q2)
  have HK := Lib.hid (Lay.rd_below h2 q2)
  have HB := Lib.hid ((Blk.new w 41 (t.cells A n c B m d)).alloc (.cells #[.string ⟨#[]⟩, .slice none 0 0, .slice none 0 0] 41))
  have HR := Lib.hid (Blk.new (w.alloc (.cells (t.cells A n c B m d) 41)) 41 #[.string ⟨#[]⟩, .slice none 0 0, .slice none 0 0])
  rw [World.size_alloc] at HR
  have HQ := Lib.hid q2
  have hs2 : ((w.alloc (.cells (t.cells A n c B m d) 41)).alloc (.cells #[.string ⟨#[]⟩, .slice none 0 0, .slice none 0 0] 41)).heap.size = w.heap.size + 2 := by simp only [World.size_alloc]
  clear q2 h h2
  go_enter Tryz.func32, Tryz.ntmps32
  go_upto_region 1 with fail
  generalize (w.alloc (.cells (t.cells A n c B m d) 41)).alloc (.cells #[.string ⟨#[]⟩, .slice none 0 0, .slice none 0 0] 41) = w1 at *
  refine wp_region_ps (S := SeqN [2, 5, 7, 9] (fun z mm w' => match z with | 0 => Below w1.heap.size w1 w' | 1 => Below w1.heap.size w1 w' ∧ (∃ A2 c2, mm 2 = .slice A2 n c2 ∧ LCO.rd w' (fun b => w1.heap.size ≤ b) A2 n t.cols ∧ n ≤ c2 ∧ c2 ≤ 9223372036854775807) | 2 => Below w1.heap.size w1 w' ∧ (∃ A2 c2, mm 2 = .slice A2 n c2 ∧ LCO.rd w' (fun b => w1.heap.size ≤ b) A2 n t.cols ∧ n ≤ c2 ∧ c2 ≤ 9223372036854775807) ∧ (∃ B2 d2, mm 5 = .slice B2 m d2 ∧ LK.rd w' (fun b => w1.heap.size ≤ b) B2 m t.keys ∧ m ≤ d2 ∧ d2 ≤ 9223372036854775807) | 3 => Chg (fun b => b = w.heap.size) w1 w' ∧ (∃ A2 c2, mm 2 = .slice A2 n c2 ∧ LCO.rd w' (fun b => w1.heap.size ≤ b) A2 n t.cols ∧ n ≤ c2 ∧ c2 ≤ 9223372036854775807) ∧ (∃ B2 d2, mm 5 = .slice B2 m d2 ∧ LK.rd w' (fun b => w1.heap.size ≤ b) B2 m t.keys ∧ m ≤ d2 ∧ d2 ≤ 9223372036854775807) ∧ Blk w' w.heap.size 41 #[.string t.name, mm 2, .slice B m d] | _ => Chg (fun b => b = w.heap.size) w1 w' ∧ (∃ A2 c2, mm 2 = .slice A2 n c2 ∧ LCO.rd w' (fun b => w1.heap.size ≤ b) A2 n t.cols ∧ n ≤ c2 ∧ c2 ≤ 9223372036854775807) ∧ (∃ B2 d2, mm 5 = .slice B2 m d2 ∧ LK.rd w' (fun b => w1.heap.size ≤ b) B2 m t.keys ∧ m ≤ d2 ∧ d2 ≤ 9223372036854775807) ∧ Blk w' w.heap.size 41 #[.string t.name, mm 2, mm 5])) (by kernel_rfl) ?spswg1 ?ppswg1
  case spswg1 =>
    exact SeqN.start (by decide) (Below.refl _ _).drew
  refine Ps.st (i := 0) (d := some 3) (u := (.pointer (some ⟨w.heap.size, 1, none⟩))) rfl rfl (by exact StepS.pure (SeqN.pass (by decide)) rfl fun _ => rfl) ?_
  try simp only [Act.put, sA, sZ, sS]
  refine Ps.st (i := 1) (d := some 4) (u := (.slice A n c)) rfl rfl ?ywg1_3 ?rwg1_3
  case ywg1_3 =>
    refine StepS.read [] (by kernel_rfl) (SeqN.pass (by decide)) (by rfl) (fun L9 m9 w9 hSh hAt hDn hS => ?_)
    have hT : Below w1.heap.size w1 w9 := SeqN.z012 hSh (reach_no hSh (f := 12) (j := 7) (by kernel_rfl) hDn) (by kernel_rfl) (fun _ _ h => h) (fun _ _ h => h.1) (fun _ _ h => h.1) hS
    have x0 : w9.cell? ⟨w.heap.size, 1, none⟩ = some (.slice A n c) := (HB.out.ca hT).cell 1
    clear hT hS
    go_simp
    try rfl
  try simp only [Act.put, sA, sZ, sS]
  refine Ps.st (i := 3) (d := some 6) (u := (.pointer (some ⟨w.heap.size, 2, none⟩))) rfl rfl (by exact StepS.pure (SeqN.pass (by decide)) rfl fun _ => rfl) ?_
  try simp only [Act.put, sA, sZ, sS]
  refine Ps.st (i := 4) (d := some 7) (u := (.slice B m d)) rfl rfl ?ywg1_5 ?rwg1_5
  case ywg1_5 =>
    refine StepS.read [] (by kernel_rfl) (SeqN.pass (by decide)) (by rfl) (fun L9 m9 w9 hSh hAt hDn hS => ?_)
    have hT : Below w1.heap.size w1 w9 := SeqN.z012 hSh (reach_no hSh (f := 12) (j := 7) (by kernel_rfl) hDn) (by kernel_rfl) (fun _ _ h => h) (fun _ _ h => h.1) (fun _ _ h => h.1) hS
    have x0 : w9.cell? ⟨w.heap.size, 2, none⟩ = some (.slice B m d) := (HB.out.ca hT).cell 2
    clear hT hS
    go_simp
    try rfl
  try simp only [Act.put, sA, sZ, sS]
  refine Ps.one (k := 2) (d := some 5) rfl rfl (by kernel_rfl) (TurnS.call (V := fun v => ∃ A2 c2, v = .slice A2 n c2) ?fwg1_6 ?awg1_6 [] (by kernel_rfl) (by rfl) (fun w9 => ?hwg1_6) (fun L9 m9 w9 hSh hAt hDn hS => ?cwg1_6)) (fun v2 hVv2 => ?rwg1_6)
  case hwg1_6 => go_simp; refine ⟨?_, ?_⟩ <;> rfl
  case cwg1_6 =>
    have hT := SeqN.at_ (m0 := m9) (m1 := m9) [] [5, 7, 9] hSh (fun d hd => by cases hd) hDn (by kernel_rfl) hS
    have hsz := hT.size
    refine (cloneO_any _ t.cols A n c w9 (Lay.rd_below HC.out hT) hn).mono ?_
    rintro e w8 ⟨A2, c2, rfl, hr, h1, h2, q8⟩
    exact ⟨_, rfl, ⟨A2, c2, rfl⟩, SeqN.set_ (m0 := m9) (m1 := m9) [] [5, 7, 9] hSh (fun d hd => by cases hd) hDn (by kernel_rfl) (by decide) (by decide) ⟨bl_ca hT q8, A2, c2, upd_same _ _ _, Lay.rd_weak (fun b hb _ => Nat.le_trans hsz hb) hr, h1, h2⟩⟩
  try simp only [Act.put, sA, sZ, sS]
  obtain ⟨A2, c2, rfl⟩ := hVv2
  refine Ps.st (i := 6) (d := some 9) (u := (.pointer (some ⟨w.heap.size, 1, none⟩))) rfl rfl (by exact StepS.pure (SeqN.pass (by decide)) rfl fun _ => rfl) ?_
  try simp only [Act.put, sA, sZ, sS]
  refine Ps.one (k := 5) (d := some 8) rfl rfl (by kernel_rfl) (TurnS.call (V := fun v => ∃ B2 d2, v = .slice B2 m d2) ?fwg1_8 ?awg1_8 [2] (by kernel_rfl) (by rfl) (fun w9 => ?hwg1_8) (fun L9 m9 w9 hSh hAt hDn hS => ?cwg1_8)) (fun v5 hVv5 => ?rwg1_8)
  case hwg1_8 => go_simp; refine ⟨?_, ?_⟩ <;> rfl
  case cwg1_8 =>
    obtain ⟨hT, A3, c3, hv, hr3, h31, h32⟩ := SeqN.at_ [2] [7, 9] hSh hAt hDn (by kernel_rfl) hS
    have hsz := hT.size
    refine (cloneK_any _ t.keys B m d w9 (Lay.rd_below HK.out hT) hm).mono ?_
    rintro e w8 ⟨B2, d2, rfl, hr, h1, h2, q8⟩
    exact ⟨_, rfl, ⟨B2, d2, rfl⟩, SeqN.set_ [2] [7, 9] hSh hAt hDn (by kernel_rfl) (by decide) (by decide) ⟨bl_ca hT q8, ⟨A3, c3, (upd_ne (by decide)).trans hv, Lay.rd_below hr3 q8, h31, h32⟩, B2, d2, upd_same _ _ _, Lay.rd_weak (fun b hb _ => Nat.le_trans hsz hb) hr, h1, h2⟩⟩
  try simp only [Act.put, sA, sZ, sS]
  obtain ⟨B2, d2, rfl⟩ := hVv5
  refine Ps.st (i := 7) (d := none) (u := undef) rfl rfl ?ywg1_9 ?rwg1_9
  case ywg1_9 =>
    refine StepS.store [2, 5] (by kernel_rfl) (by rfl) (fun L9 m9 w9 hSh hAt hDn hS => ?_)
    obtain ⟨hT, ⟨A3, c3, hv, hr3, h31, h32⟩, B3, d3, hv5, hr5, h51, h52⟩ := SeqN.at_ [2, 5] [9] hSh hAt hDn (by kernel_rfl) hS
    have hm2 : m9 2 = .slice A2 n c2 := (hAt 2 (by simp)).2
    have hm5 : m9 5 = .slice B2 m d2 := (hAt 5 (by simp)).2
    have hN := HB.out.ca hT
    have hN2 : Blk (w9.setCell ⟨w.heap.size, 1, none⟩ (.slice A2 n c2)) w.heap.size 41 #[.string t.name, .slice A2 n c2, .slice B m d] := by simpa using hN.set_ 1 (.slice A2 n c2)
    have hg2 : w9.grownBy (w9.setCell ⟨w.heap.size, 1, none⟩ (.slice A2 n c2)) (some w.heap.size) := only_setCell (World.grownBy.refl _ _) (.inl rfl) _
    have x2 := hN.cell 1
    have fx : w9.frozen? ⟨w.heap.size, 1, none⟩ = false := hN.frozen 1
    refine ⟨w9.setCell ⟨w.heap.size, 1, none⟩ (.slice A2 n c2), ?_, SeqN.set_ [2, 5] [9] hSh hAt hDn (by kernel_rfl) (by decide) (by decide) ⟨(Chg.of_below hT).grown hg2 (fun k e => .inl (by injection e with e; exact e.symm)), ⟨A3, c3, hv, rd_grownH hr3 hg2 (fun b hb => by omega), h31, h32⟩, ⟨B3, d3, hv5, rd_grownH hr5 hg2 (fun b hb => by omega), h51, h52⟩, by rw [hm2]; exact hN2⟩⟩
    clear hN2 hg2 hN hS hr3 hr5 hv hv5 hm2 hm5 hT
    go_simp
  try simp only [Act.put]
  refine Ps.st (i := 8) (d := some 10) (u := (.pointer (some ⟨w.heap.size, 2, none⟩))) rfl rfl (by exact StepS.pure (SeqN.pass (by decide)) rfl fun _ => rfl) ?_
  try simp only [Act.put, sA, sZ, sS]
  refine Ps.st (i := 9) (d := none) (u := undef) rfl rfl ?ywg1_11 ?rwg1_11
  case ywg1_11 =>
    refine StepS.store [2, 5, 7] (by kernel_rfl) (by rfl) (fun L9 m9 w9 hSh hAt hDn hS => ?_)
    obtain ⟨hch, ⟨A3, c3, hv, hr3, h31, h32⟩, ⟨B3, d3, hv5, hr5, h51, h52⟩, hN⟩ := SeqN.at_ [2, 5, 7] [] hSh hAt hDn (by kernel_rfl) hS
    have hm2 : m9 2 = .slice A2 n c2 := (hAt 2 (by simp)).2
    have hm5 : m9 5 = .slice B2 m d2 := (hAt 5 (by simp)).2
    rw [hm2] at hN
    have hN2 : Blk (w9.setCell ⟨w.heap.size, 2, none⟩ (.slice B2 m d2)) w.heap.size 41 #[.string t.name, .slice A2 n c2, .slice B2 m d2] := by simpa using hN.set_ 2 (.slice B2 m d2)
    have hg2 : w9.grownBy (w9.setCell ⟨w.heap.size, 2, none⟩ (.slice B2 m d2)) (some w.heap.size) := only_setCell (World.grownBy.refl _ _) (.inl rfl) _
    have x2 := hN.cell 2
    have fx : w9.frozen? ⟨w.heap.size, 2, none⟩ = false := hN.frozen 2
    refine ⟨w9.setCell ⟨w.heap.size, 2, none⟩ (.slice B2 m d2), ?_, SeqN.set_ [2, 5, 7] [] hSh hAt hDn (by kernel_rfl) (by decide) (by decide) ⟨hch.grown hg2 (fun k e => .inl (by injection e with e; exact e.symm)), ⟨A3, c3, hv, rd_grownH hr3 hg2 (fun b hb => by omega), h31, h32⟩, ⟨B3, d3, hv5, rd_grownH hr5 hg2 (fun b hb => by omega), h51, h52⟩, by rw [hm2, hm5]; exact hN2⟩⟩
    clear hN2 hg2 hN hS hr3 hr5 hv hv5 hm2 hm5 hch
    go_simp
  try simp only [Act.put]
  refine Ps.done (by kernel_rfl) (fun wg1 hS => ?_) _
  obtain ⟨hch, ⟨A3, c3, hv, hr3, h31, h32⟩, ⟨B3, d3, hv5, hr5, h51, h52⟩, hN⟩ := SeqN.fin (by rfl) hS
  clear hS
  rw [hv, hv5] at hN
  obtain ⟨rfl, rfl⟩ : A2 = A3 ∧ c2 = c3 := by have h9 : Value.slice A2 n c2 = .slice A3 n c3 := hv; simpa using h9
  obtain ⟨rfl, rfl⟩ : B2 = B3 ∧ d2 = d3 := by have h9 : Value.slice B2 m d2 = .slice B3 m d3 := hv5; simpa using h9
  clear hv hv5
  obtain ⟨w6, rfl⟩ : ∃ x, x = wg1 := ⟨_, rfl⟩
  have HCH := Lib.hid hch
  have HXX := Lib.hid hN
  have HC6 := Lib.hid hr3
  have HK6 := Lib.hid hr5
  have HCP := Lib.hid (And.intro (And.intro h31 h32) (And.intro h51 h52))
  clear hch hN hr3 hr5 h31 h32 h51 h52
  have HRS := Lib.hid (HR.out.chg HCH.out (by omega))
  have HBL := Lib.hid (Chg.bel HQ.out HCH.out (fun b _ h9 => by omega) HQ.out.size)
  have hsz := HCH.out.size
  have y0 := HXX.out.cell 0
  have y1 := HXX.out.cell 1
  have y2 := HXX.out.cell 2
  go_wp2_with (first | (refine wpList_store_blk rfl 41 (.tmp 2) (.tmp 11) rfl (w.heap.size + 1) 41 #[.string ⟨#[]⟩, .slice none 0 0, .slice none 0 0] #[.string t.name, .slice A2 n c2, .slice B2 m d2] rfl rfl HRS.out rfl tableI (by simp [Value.oneCell']) ?_; intro w8 h8 g8))
  exact bodyPost_ret (res1 Tryz.results32 rfl h8 Tryz.underlying41 rfl tableI) rfl ⟨A2, c2, B2, d2, rfl, Lay.rd_weak (fun b hb _ => by omega) (rd_grownH HC6.out g8 (fun b hb => by omega)), HCP.out.1.1, HCP.out.1.2, Lay.rd_weak (fun b hb _ => by omega) (rd_grownH HK6.out g8 (fun b hb => by omega)), HCP.out.2.1, HCP.out.2.2, bl_gr HBL.out g8 (by omega)⟩
end Go.Proofs.YthgcdilkkldgjaaGreatDoor
/- The layer's copies. Conditions: the slice reads so; the rows are not endless. -/
namespace Go.Proofs.YthgcdilkkldgjaaGreatDoor
open Go.RowKit
set_option maxRecDepth 100000 in
set_option maxHeartbeats 4000000 in
theorem copies_any (F : Nat → Prop) (l : List TC) (A : Option Addr) (m c : Nat) (w : World) (h : LT3.rd w F A m l) (hm : m ≤ 100000) (hlen : ∀ (k : Nat) (t : TC), l[k]? = some t → t.cols.length ≤ 100000 ∧ t.keys.length ≤ 100000) :
    Calls Tryz.prog 31 #[.slice A m c] w fun e w' => ∃ A2 c2, e = .returned (.slice A2 m c2) ∧ LT3.own 41 w' w.heap.size (fun b => w.heap.size ≤ b ∧ b < w'.heap.size) A2 m c2 l ∧ Below w.heap.size w w' := by
  have HL := Lib.hid (Lay.rd_len h)
  have HLEN := Lib.hid hlen
  have HRD := Lib.hid h
  clear h hlen
  go_enter Tryz.func31, Tryz.ntmps31
  go_wp2_with fail
  go_loopg [3, 8] m (fun g a b wr => ∃ (i : Nat) (A2 : Option Addr) (c2 : Nat), i + g = m ∧ a = .slice A2 i c2 ∧ b = .int .i64 i ∧ LT3.own 41 wr w.heap.size (fun b => w.heap.size ≤ b ∧ b < wr.heap.size) A2 i c2 (l.take i) ∧ Below w.heap.size w wr)
  case atStart => exact ⟨0, none, 0, by omega, rfl, rfl, Lay.own_nil _ _, Below.refl _ _⟩
  case round =>
    obtain ⟨i, A2, c2, hig, rfl, rfl, hown, hbel⟩ := hrel
    have HOW := Lib.hid hown
    have HBL := Lib.hid hbel
    have h1 := Lay.rd_below HRD.out hbel
    have hsz := hbel.size
    clear hown hbel
    by_cases hlt : i < m
    · have hi1 : (i : Int) < (m : Int) := by omega
      obtain ⟨p, t, A1, n1, c1, B1, m1, d1, hAe, hx, s1⟩ := LT3_at h1 hlt
      obtain rfl : A = some p := hAe
      have HT := Lib.hid (take_next hx)
      have HLN := Lib.hid (HLEN.out i t hx)
      have HLC := Lib.hid (And.intro (Lay.rd_len s1.rd) (Lay.rd_len s1.rk))
      have e0 := s1.c0
      have e1 := s1.c1
      have e2 := s1.c2
      have q5 := bl_al (Below.refl wr.heap.size wr) (.cells (t.cells A1 n1 c1 B1 m1 d1) 41)
      have HCP := Lib.hid (copiedt_any F t A1 n1 c1 B1 m1 d1 _ (Lay.rd_below s1.rd q5) (Lay.rd_below s1.rk q5) (by have := HLN.out.1; rw [HLC.out.1] at this; exact this) (by have := HLN.out.2; rw [HLC.out.2] at this; exact this))
      have HOW5 := Lib.hid (Lay.own_below HOW.out q5)
      have HQ5 := Lib.hid q5
      have HOB := Lib.hid (fun k e => Lay.own_base HOW.out k e)
      have hs5 : (wr.alloc (.cells (t.cells A1 n1 c1 B1 m1 d1) 41)).heap.size = wr.heap.size + 1 := by simp only [World.size_alloc]
      clear hx s1 q5 HOW HLN HLC h1
      go_wp2_with fail
      refine HCP.out.mono ?_
      rintro e w6 ⟨A6, c6, B6, d6, rfl, hr6, h6a, h6b, hk6, h6c, h6d, q6⟩
      have hs6 := q6.size
      have q8 := bl_al (Below.refl w6.heap.size w6) (.cells #[.string t.name, .slice A6 n1 c6, .slice B6 m1 d6] 41)
      have HOW8 := Lib.hid (Lay.own_weak (G' := fun b => w.heap.size ≤ b ∧ b < w6.heap.size + 1) (fun b hb _ => ⟨hb.1, by have := hb.2; omega⟩) (Lay.own_below (Lay.own_below HOW5.out q6) q8))
      have HQ8 := Lib.hid (bl_ca HBL.out (bl_ca (bl_ca HQ5.out q6) q8))
      have HRB := Lib.hid (show LT3.rd (w6.alloc (.cells #[.string t.name, .slice A6 n1 c6, .slice B6 m1 d6] 41)) (fun b => wr.heap.size + 1 ≤ b ∧ b < w6.heap.size + 1) (some ⟨w6.heap.size, 0, none⟩) 1 [t] from Lay.rd_blk (Blk.new w6 41 _) rfl (Lay.reps_single ⟨A6, n1, c6, B6, m1, d6, rfl, h6a, h6b, Lay.rd_weak (fun b hb hl => by simp only [World.size_alloc] at hb hl; omega) (Lay.rd_below hr6 q8), h6c, h6d, Lay.rd_weak (fun b hb hl => by simp only [World.size_alloc] at hb hl; omega) (Lay.rd_below hk6 q8)⟩) (by omega))
      clear hr6 hk6 q6 q8 HOW5 HQ5 e0 e1 e2 HCP HBL
      go_wp2_with (at_builtin; refine wpList_appLs (L := LT3) rfl (.tmp 12) (.tmp 15) 22 rfl _ 3 64 Tryz.underlying22 Tryz.tableInfo rfl rfl (by omega) w.heap.size (fun b => w.heap.size ≤ b ∧ b < w6.heap.size + 1) (fun b => wr.heap.size + 1 ≤ b ∧ b < w6.heap.size + 1) A2 i c2 (l.take i) (some ⟨w6.heap.size, 0, none⟩) 1 1 [t] (i + 1) rfl rfl rfl HOW8.out HRB.out (fun b hb _ => ⟨⟨by omega, hb.2⟩, fun e => by have h9 := HOB.out b e; omega⟩) (fun b hb => by simp only [World.size_alloc]; omega) (by omega) (by unfold maxLen; omega) (by simp only [World.size_alloc]; omega) ?_; intro A9 c9 w9 ho9 hg9 hat9; have HBL9 := Lib.hid (HQ8.out.grown hg9 HQ8.out.size (fun k e => by have h9 := HOB.out k e; omega)); have HOW9 := Lib.hid ho9; have HSZ := Lib.hid hg9.size; clear ho9 hg9 hat9)
      have hsz9 := HSZ.out
      simp only [World.size_alloc] at hsz9
      go_roundg (gk - 1)
      · exact ⟨i + 1, A9, c9, by omega, rfl, by go_num, by rw [HT.out]; exact Lay.own_weak (fun b hb _ => ⟨hb.1, by have := hb.2; omega⟩) HOW9.out, HBL9.out⟩
      · omega
    · obtain rfl : i = m := by omega
      have hi1 : (i : Int) ≤ (i : Int) := by omega
      have HTK := Lib.hid (show l.take i = l from List.take_of_length_le (by rw [HL.out]; exact Nat.le_refl _))
      go_wp2
      go_ret
      exact ⟨A2, c2, rfl, by have h9 := HOW.out; rw [HTK.out] at h9; exact h9, HBL.out⟩
end Go.Proofs.YthgcdilkkldgjaaGreatDoor
/- The layer's Add. Conditions: the slices read so; what the tables hold; names and rows are not endless. -/
namespace Go.Proofs.YthgcdilkkldgjaaGreatDoor
open Go.RowKit
/-- a table's rows are not endless -/
def Ln (t : TC) : Prop := t.cols.length ≤ 100000 ∧ t.keys.length ≤ 100000
noncomputable def addE (l : List TC) (t : TC) : Int := if catB l = false then 210 else if tabB t = false then 211 else if 0 ≤ idxL (fun x : TC => decide (x.name = t.name)) l then 5 else if l.length = 4 then 6 else 0
noncomputable def addR (l : List TC) (t : TC) : List TC := if addE l t = 0 then l ++ [t] else []
def AddO (E : Int) (R : List TC) (w : World) (e : Ending) (w' : World) : Prop := ∃ A2 n2 c2, e = .returned (.tuple #[.agg #[.slice A2 n2 c2], .int .i64 E]) ∧ LT3.rd w' (fun b => w.heap.size ≤ b) A2 n2 R ∧ n2 ≤ c2 ∧ c2 ≤ 9223372036854775807 ∧ Below w.heap.size w w'
set_option maxRecDepth 100000 in
set_option maxHeartbeats 16000000 in
theorem add_any (F : Nat → Prop) (l : List TC) (A : Option Addr) (m c : Nat) (t : TC) (A1 : Option Addr) (n1 c1 : Nat) (B1 : Option Addr) (m1 d1 : Nat) (w : World) (h : LT3.rd w F A m l) (hm : m ≤ 100000) (hT : Tab w) (hs : ∀ (k : Nat) (t : TC), l[k]? = some t → Sz t ∧ Ln t)
    (h1 : LCO.rd w F A1 n1 t.cols) (h2 : LK.rd w F B1 m1 t.keys) (hst : Sz t) (hlt : Ln t) :
    Calls Tryz.prog 13 #[.agg #[.slice A m c], .agg (t.cells A1 n1 c1 B1 m1 d1)] w (AddO (addE l t) (addR l t) w) := by
  have HL := Lib.hid (Lay.rd_len h)
  have HS := Lib.hid hs
  have HST := Lib.hid hst
  have hn1 : n1 ≤ 100000 := by have := hlt.1; rw [Lay.rd_len h1] at this; exact this
  have hm1 : m1 ≤ 100000 := by have := hlt.2; rw [Lay.rd_len h2] at this; exact this
  have q3 := bl_al (bl_al (bl_al (Below.refl w.heap.size w) (.cells #[.slice A m c] 24)) (.cells (t.cells A1 n1 c1 B1 m1 d1) 41)) (.cells #[.slice none 0 0] 24)
  have HRD := Lib.hid (Lay.rd_below h q3)
  have HR1 := Lib.hid (Lay.rd_below h1 q3)
  have HR2 := Lib.hid (Lay.rd_below h2 q3)
  have HTB := Lib.hid (hT.below q3)
  have HB := Lib.hid (((Blk.new w 24 #[.slice A m c]).alloc (.cells (t.cells A1 n1 c1 B1 m1 d1) 41)).alloc (.cells #[.slice none 0 0] 24))
  have HT := Lib.hid ((Blk.new (w.alloc (.cells #[.slice A m c] 24)) 41 (t.cells A1 n1 c1 B1 m1 d1)).alloc (.cells #[.slice none 0 0] 24))
  have HO := Lib.hid (Blk.new ((w.alloc (.cells #[.slice A m c] 24)).alloc (.cells (t.cells A1 n1 c1 B1 m1 d1) 41)) 24 #[.slice none 0 0])
  rw [World.size_alloc] at HT
  rw [World.size_alloc, World.size_alloc] at HO
  have HQ3 := Lib.hid q3
  have hs3 : (((w.alloc (.cells #[.slice A m c] 24)).alloc (.cells (t.cells A1 n1 c1 B1 m1 d1) 41)).alloc (.cells #[.slice none 0 0] 24)).heap.size = w.heap.size + 3 := by simp only [World.size_alloc]
  have y0 := HB.out.cell 0
  have t0 := HT.out.cell 0
  clear q3 h h1 h2 hs hst hlt hT
  have HE := Lib.hid (show addE l t = if catB l = false then 210 else if tabB t = false then 211 else if 0 ≤ idxL (fun x : TC => decide (x.name = t.name)) l then 5 else if l.length = 4 then 6 else 0 from rfl)
  have HRR := Lib.hid (show addR l t = if addE l t = 0 then l ++ [t] else [] from rfl)
  generalize addE l t = E at *
  generalize addR l t = RR at *
  go_enter Tryz.func13, Tryz.ntmps13
  go_wp2_with fail
  generalize ((w.alloc (.cells #[.slice A m c] 24)).alloc (.cells (t.cells A1 n1 c1 B1 m1 d1) 41)).alloc (.cells #[.slice none 0 0] 24) = w1 at *
  refine (find_any F l A m c t.name w1 HRD.out (by omega)).mono ?_
  rintro e w2 ⟨rfl, q2⟩
  clear y0 t0
  obtain ⟨z, hz⟩ : ∃ z, z = idxL (fun x : TC => decide (x.name = t.name)) l := ⟨_, rfl⟩
  rw [← hz] at HE ⊢
  clear hz
  have HB2 := Lib.hid (HB.out.ca q2)
  have HT2 := Lib.hid (HT.out.ca q2)
  have HO2 := Lib.hid (HO.out.ca q2)
  have HRD2 := Lib.hid (Lay.rd_below HRD.out q2)
  have HR12 := Lib.hid (Lay.rd_below HR1.out q2)
  have HR22 := Lib.hid (Lay.rd_below HR2.out q2)
  have HTB2 := Lib.hid (HTB.out.below q2)
  have HQ2 := Lib.hid (bl_ca HQ3.out q2)
  have hs2 := q2.size
  clear q2 HB HT HO HRD HR1 HR2 HTB HQ3
  have y0 := HB2.out.cell 0
  go_wp2_with fail
  refine (check_any F l A m c w2 HRD2.out (by omega) HTB2.out (fun k x hx => (HS.out k x hx).1)).mono ?_
  rintro e w3 ⟨rfl, q3⟩
  clear y0
  have HB3 := Lib.hid (HB2.out.ca q3)
  have HT3 := Lib.hid (HT2.out.ca q3)
  have HO3 := Lib.hid (HO2.out.ca q3)
  have HRD3 := Lib.hid (Lay.rd_below HRD2.out q3)
  have HR13 := Lib.hid (Lay.rd_below HR12.out q3)
  have HR23 := Lib.hid (Lay.rd_below HR22.out q3)
  have HTB3 := Lib.hid (HTB2.out.below q3)
  have HQ3 := Lib.hid (bl_ca HQ2.out q3)
  have hs4 := q3.size
  clear q3 HB2 HT2 HO2 HRD2 HR12 HR22 HTB2 HQ2
  obtain ⟨cb, hcb⟩ : ∃ cb, cb = catB l := ⟨_, rfl⟩
  rw [← hcb] at HE ⊢
  clear hcb
  cases cb
  · have HF := Lib.hid (show E = 210 ∧ RR = [] from by
      have h9 : E = 210 := by rw [HE.out, if_pos rfl]
      exact ⟨h9, by rw [HRR.out, h9]; rfl⟩)
    rw [show eC false = 210 from rfl]
    go_wp2_with (first | (refine wpList_store_blk rfl 24 (.tmp 4) (.tmp 19) rfl (w.heap.size + 1 + 1) 24 #[.slice none 0 0] #[.slice none 0 0] rfl rfl HO3.out rfl catI (by simp [Value.oneCell']) ?_; intro w8 h8 g8))
    exact bodyPost_ret (res2 Tryz.results13 rfl rfl h8 Tryz.underlying24 rfl catI) rfl ⟨none, 0, 0, by rw [HF.out.1]; rfl, by rw [HF.out.2]; exact Lay.rd_nil _, by omega, by omega, bl_gr HQ3.out g8 (by omega)⟩
  rw [show eC true = 0 from rfl]
  have t0 := HT3.out.cell 0
  have t1 := HT3.out.cell 1
  have t2 := HT3.out.cell 2
  go_wp2_with fail
  refine (checkt_any F F t A1 n1 c1 B1 m1 d1 w3 HR13.out HR23.out (by omega) (by omega) HTB3.out HST.out).mono ?_
  rintro e w4 ⟨rfl, q4⟩
  clear t0 t1 t2
  have HB4 := Lib.hid (HB3.out.ca q4)
  have HT4 := Lib.hid (HT3.out.ca q4)
  have HO4 := Lib.hid (HO3.out.ca q4)
  have HRD4 := Lib.hid (Lay.rd_below HRD3.out q4)
  have HR14 := Lib.hid (Lay.rd_below HR13.out q4)
  have HR24 := Lib.hid (Lay.rd_below HR23.out q4)
  have HQ4 := Lib.hid (bl_ca HQ3.out q4)
  have hs5 := q4.size
  clear q4 HB3 HT3 HO3 HRD3 HR13 HR23 HTB3 HQ3
  obtain ⟨tb, htb⟩ : ∃ tb, tb = tabB t := ⟨_, rfl⟩
  rw [← htb] at HE ⊢
  clear htb
  cases tb
  · have HF := Lib.hid (show E = 211 ∧ RR = [] from by
      have h9 : E = 211 := by rw [HE.out, if_neg (by simp), if_pos rfl]
      exact ⟨h9, by rw [HRR.out, h9]; rfl⟩)
    rw [show eT false = 211 from rfl]
    go_wp2_with (first | (refine wpList_store_blk rfl 24 (.tmp 4) (.tmp 24) rfl (w.heap.size + 1 + 1) 24 #[.slice none 0 0] #[.slice none 0 0] rfl rfl HO4.out rfl catI (by simp [Value.oneCell']) ?_; intro w8 h8 g8))
    exact bodyPost_ret (res2 Tryz.results13 rfl rfl h8 Tryz.underlying24 rfl catI) rfl ⟨none, 0, 0, by rw [HF.out.1]; rfl, by rw [HF.out.2]; exact Lay.rd_nil _, by omega, by omega, bl_gr HQ4.out g8 (by omega)⟩
  rw [show eT true = 0 from rfl]
  by_cases hz : 0 ≤ z
  · have HF := Lib.hid (show E = 5 ∧ RR = [] from by
      have h9 : E = 5 := by rw [HE.out, if_neg (by simp), if_neg (by simp), if_pos hz]
      exact ⟨h9, by rw [HRR.out, h9]; rfl⟩)
    have hz1 : decide (0 ≤ z) = true := decide_eq_true hz
    go_wp2_with (first | (refine wpList_store_blk rfl 24 (.tmp 4) (.tmp 27) rfl (w.heap.size + 1 + 1) 24 #[.slice none 0 0] #[.slice none 0 0] rfl rfl HO4.out rfl catI (by simp [Value.oneCell']) ?_; intro w8 h8 g8))
    exact bodyPost_ret (res2 Tryz.results13 rfl rfl h8 Tryz.underlying24 rfl catI) rfl ⟨none, 0, 0, by rw [HF.out.1]; rfl, by rw [HF.out.2]; exact Lay.rd_nil _, by omega, by omega, bl_gr HQ4.out g8 (by omega)⟩
  have hz1 : decide (0 ≤ z) = false := decide_eq_false hz
  have y0 := HB4.out.cell 0
  by_cases h4 : m = 4
  · have HF := Lib.hid (show E = 6 ∧ RR = [] from by
      have h9 : E = 6 := by rw [HE.out, if_neg (by simp), if_neg (by simp), if_neg hz, if_pos (by rw [HL.out]; exact h4)]
      exact ⟨h9, by rw [HRR.out, h9]; rfl⟩)
    have e4 : ((m : Int) == 4) = true := by simp; omega
    clear hz h4
    go_wp2_with (first | (refine wpList_store_blk rfl 24 (.tmp 4) (.tmp 33) rfl (w.heap.size + 1 + 1) 24 #[.slice none 0 0] #[.slice none 0 0] rfl rfl HO4.out rfl catI (by simp [Value.oneCell']) ?_; intro w8 h8 g8))
    exact bodyPost_ret (res2 Tryz.results13 rfl rfl h8 Tryz.underlying24 rfl catI) rfl ⟨none, 0, 0, by rw [HF.out.1]; rfl, by rw [HF.out.2]; exact Lay.rd_nil _, by omega, by omega, bl_gr HQ4.out g8 (by omega)⟩
  have HF := Lib.hid (show E = 0 ∧ RR = l ++ [t] from by
    have h9 : E = 0 := by rw [HE.out, if_neg (by simp), if_neg (by simp), if_neg hz, if_neg (by rw [HL.out]; exact h4)]
    exact ⟨h9, by rw [HRR.out, h9]; rfl⟩)
  have e4 : ((m : Int) == 4) = false := by simp; omega
  clear hz h4
  go_upto_region 10 with fail
  clear e4 hz1 y0 HE HRR
  refine wp_region_ps (S := SeqN [2, 4, 5, 6, 8] (fun z mm w' => match z with | 0 => Below w4.heap.size w4 w' | 1 => Below w4.heap.size w4 w' ∧ ∃ A2 c2 Bx, mm 2 = .slice A2 m c2 ∧ w4.heap.size ≤ Bx ∧ LT3.own 41 w' Bx (fun b => w4.heap.size ≤ b ∧ b < w'.heap.size) A2 m c2 l | 2 => Below w4.heap.size w4 w' ∧ ∃ A2 c2 Bx A4 c4 B4 d4, (mm 2 = .slice A2 m c2 ∧ w4.heap.size ≤ Bx ∧ LT3.own 41 w' Bx (fun b => w4.heap.size ≤ b ∧ b < w'.heap.size) A2 m c2 l) ∧ mm 4 = .agg #[.string t.name, .slice A4 n1 c4, .slice B4 m1 d4] ∧ LCO.rd w' (fun b => w4.heap.size ≤ b ∧ (Value.slice A2 m c2).ownBlock ≠ some b) A4 n1 t.cols ∧ n1 ≤ c4 ∧ c4 ≤ 9223372036854775807 ∧ LK.rd w' (fun b => w4.heap.size ≤ b ∧ (Value.slice A2 m c2).ownBlock ≠ some b) B4 m1 t.keys ∧ m1 ≤ d4 ∧ d4 ≤ 9223372036854775807 | 3 => Below w4.heap.size w4 w' ∧ ∃ A2 c2 Bx A4 c4 B4 d4 gb, (mm 2 = .slice A2 m c2 ∧ w4.heap.size ≤ Bx ∧ LT3.own 41 w' Bx (fun b => w4.heap.size ≤ b ∧ b < w'.heap.size) A2 m c2 l) ∧ (mm 4 = .agg #[.string t.name, .slice A4 n1 c4, .slice B4 m1 d4] ∧ LCO.rd w' (fun b => w4.heap.size ≤ b ∧ (Value.slice A2 m c2).ownBlock ≠ some b) A4 n1 t.cols ∧ n1 ≤ c4 ∧ c4 ≤ 9223372036854775807 ∧ LK.rd w' (fun b => w4.heap.size ≤ b ∧ (Value.slice A2 m c2).ownBlock ≠ some b) B4 m1 t.keys ∧ m1 ≤ d4 ∧ d4 ≤ 9223372036854775807) ∧ mm 5 = .slice (some ⟨gb, 0, none⟩) 1 1 ∧ Blk w' gb 41 #[.string t.name, .slice A4 n1 c4, .slice B4 m1 d4] ∧ w4.heap.size ≤ gb ∧ (Value.slice A2 m c2).ownBlock ≠ some gb | 4 => Below w4.heap.size w4 w' ∧ ∃ A6 c6, mm 6 = .slice A6 (m + 1) c6 ∧ LT3.rd w' (fun b => w4.heap.size ≤ b) A6 (m + 1) (l ++ [t]) ∧ m + 1 ≤ c6 ∧ c6 ≤ 9223372036854775807 | _ => Chg (fun b => b = w.heap.size + 1 + 1) w4 w' ∧ ∃ A6 c6, (mm 6 = .slice A6 (m + 1) c6 ∧ LT3.rd w' (fun b => w4.heap.size ≤ b) A6 (m + 1) (l ++ [t]) ∧ m + 1 ≤ c6 ∧ c6 ≤ 9223372036854775807) ∧ Blk w' (w.heap.size + 1 + 1) 24 #[.slice A6 (m + 1) c6])) (by kernel_rfl) ?spswg1 ?ppswg1
  case spswg1 =>
    exact SeqN.start (by decide) (Below.refl _ _).drew
  refine Ps.st (i := 0) (d := some 34) (u := (.pointer (some ⟨w.heap.size, 0, none⟩))) rfl rfl (by exact StepS.pure (SeqN.pass (by decide)) rfl fun _ => rfl) ?_
  try simp only [Act.put, sA, sZ, sS]
  refine Ps.st (i := 1) (d := some 35) (u := (.slice A m c)) rfl rfl ?ywg1_3 ?rwg1_3
  case ywg1_3 =>
    refine StepS.read [] (by kernel_rfl) (SeqN.pass (by decide)) (by rfl) (fun L9 m9 w9 hSh hAt hDn hS => ?_)
    have hT : Below w4.heap.size w4 w9 := SeqN.lt (ks := [2, 4, 5, 6, 8]) (k := 8) (by simp) (reach_no hSh (f := 14) (j := 8) (by kernel_rfl) hDn) (fun z _ _ hz h => by match z, hz, h with | 0, _, h => exact h | 1, _, h => exact h.1 | 2, _, h => exact h.1 | 3, _, h => exact h.1 | 4, _, h => exact h.1 | _ + 5, hz, _ => exact absurd hz (by simp)) hS
    have x0 : w9.cell? ⟨w.heap.size, 0, none⟩ = some (.slice A m c) := (HB4.out.ca hT).cell 0
    clear hT hS
    go_simp
    try rfl
  try simp only [Act.put, sA, sZ, sS]
  refine Ps.st (i := 3) (d := some 37) (u := (.agg #[.string t.name, .slice A1 n1 c1, .slice B1 m1 d1])) rfl rfl ?ywg1_4 ?rwg1_4
  case ywg1_4 =>
    refine StepS.read [] (by kernel_rfl) (SeqN.pass (by decide)) (by rfl) (fun L9 m9 w9 hSh hAt hDn hS => ?_)
    have hT : Below w4.heap.size w4 w9 := SeqN.lt (ks := [2, 4, 5, 6, 8]) (k := 8) (by simp) (reach_no hSh (f := 14) (j := 8) (by kernel_rfl) hDn) (fun z _ _ hz h => by match z, hz, h with | 0, _, h => exact h | 1, _, h => exact h.1 | 2, _, h => exact h.1 | 3, _, h => exact h.1 | 4, _, h => exact h.1 | _ + 5, hz, _ => exact absurd hz (by simp)) hS
    have x0 : w9.cell? ⟨w.heap.size + 1, 0, none⟩ = some (.string t.name) := (HT4.out.ca hT).cell 0
    have x1 : w9.cell? ⟨w.heap.size + 1, 1, none⟩ = some (.slice A1 n1 c1) := (HT4.out.ca hT).cell 1
    have x2 : w9.cell? ⟨w.heap.size + 1, 2, none⟩ = some (.slice B1 m1 d1) := (HT4.out.ca hT).cell 2
    clear hT hS
    go_simp
    try rfl
  try simp only [Act.put, sA, sZ, sS]
  refine Ps.one (k := 2) (d := some 36) rfl rfl (by kernel_rfl) (TurnS.call (V := fun v => ∃ A2 c2, v = .slice A2 m c2) ?fwg1_5 ?awg1_5 [] (by kernel_rfl) (by rfl) (fun w9 => ?hwg1_5) (fun L9 m9 w9 hSh hAt hDn hS => ?cwg1_5)) (fun v2 hVv2 => ?rwg1_5)
  case hwg1_5 => go_simp; refine ⟨?_, ?_⟩ <;> rfl
  case cwg1_5 =>
    have hT := SeqN.at_ (m0 := m9) (m1 := m9) [] [4, 5, 6, 8] hSh (fun d hd => by cases hd) hDn (by kernel_rfl) hS
    have hsz := hT.size
    refine (copies_any F l A m c w9 (Lay.rd_below HRD4.out hT) hm (fun k x hx => (HS.out k x hx).2)).mono ?_
    rintro e w8 ⟨A2, c2, rfl, ho, q8⟩
    exact ⟨_, rfl, ⟨A2, c2, rfl⟩, SeqN.set_ (m0 := m9) (m1 := m9) [] [4, 5, 6, 8] hSh (fun d hd => by cases hd) hDn (by kernel_rfl) (by decide) (by decide) ⟨bl_ca hT q8, A2, c2, w9.heap.size, upd_same _ _ _, hsz, Lay.own_weak (fun b hb _ => ⟨by have := hb.1; omega, hb.2⟩) ho⟩⟩
  try simp only [Act.put, sA, sZ, sS]
  obtain ⟨A2, c2, rfl⟩ := hVv2
  refine Ps.one (k := 4) (d := some 38) rfl rfl (by kernel_rfl) (TurnS.call (V := fun v => ∃ A4 c4 B4 d4, v = .agg #[.string t.name, .slice A4 n1 c4, .slice B4 m1 d4]) ?fwg1_6 ?awg1_6 [2] (by kernel_rfl) (by rfl) (fun w9 => ?hwg1_6) (fun L9 m9 w9 hSh hAt hDn hS => ?cwg1_6)) (fun v4 hVv4 => ?rwg1_6)
  case hwg1_6 => go_simp; refine ⟨?_, ?_⟩ <;> rfl
  case cwg1_6 =>
    obtain ⟨hT, A3, c3, Bx, hv, hB, ho⟩ := SeqN.at_ [2] [5, 6, 8] hSh hAt hDn (by kernel_rfl) hS
    have hsz := hT.size
    have hob := Lay.own_base ho
    refine (copiedt_any F t A1 n1 c1 B1 m1 d1 w9 (Lay.rd_below HR14.out hT) (Lay.rd_below HR24.out hT) hn1 hm1).mono ?_
    rintro e w8 ⟨A4, c4, B4, d4, rfl, hr, g1, g2, hk, g3, g4, q8⟩
    exact ⟨_, rfl, ⟨A4, c4, B4, d4, rfl⟩, SeqN.set_ [2] [5, 6, 8] hSh hAt hDn (by kernel_rfl) (by decide) (by decide) ⟨bl_ca hT q8, A3, c3, Bx, A4, c4, B4, d4, ⟨(upd_ne (by decide)).trans hv, hB, Lay.own_weak (fun b hb _ => ⟨hb.1, by have := hb.2; have := q8.size; omega⟩) (Lay.own_below ho q8)⟩, upd_same _ _ _, Lay.rd_weak (fun b hb _ => ⟨by omega, fun e => by have := hob b e; omega⟩) hr, g1, g2, Lay.rd_weak (fun b hb _ => ⟨by omega, fun e => by have := hob b e; omega⟩) hk, g3, g4⟩⟩
  try simp only [Act.put, sA, sZ, sS]
  obtain ⟨A4, c4, B4, d4, rfl⟩ := hVv4
  refine Ps.one (k := 5) (d := some 39) rfl rfl (by kernel_rfl) (TurnS.value (V := fun v => ∃ gb, v = .slice (some ⟨gb, 0, none⟩) 1 1) [2, 4] (by kernel_rfl) (by rfl) (fun L9 m9 w9 hSh hAt hDn hS => ?cwg1_7)) (fun v5 hVv5 => ?rwg1_7)
  case cwg1_7 =>
    obtain ⟨hT, A3, c3, Bx, A5, c5, B5, d5, ⟨hv, hB, ho⟩, hv4, hr, g1, g2, hk, g3, g4⟩ := SeqN.at_ [2, 4] [6, 8] hSh hAt hDn (by kernel_rfl) hS
    obtain ⟨rfl, rfl⟩ : A2 = A3 ∧ c2 = c3 := by have h9 : Value.slice A2 m c2 = .slice A3 m c3 := (hAt 2 (by simp)).2.symm.trans hv; simpa using h9
    obtain ⟨rfl, rfl, rfl, rfl⟩ : A4 = A5 ∧ c4 = c5 ∧ B4 = B5 ∧ d4 = d5 := by have h9 : Value.agg #[.string t.name, .slice A4 n1 c4, .slice B4 m1 d4] = .agg #[.string t.name, .slice A5 n1 c5, .slice B5 m1 d5] := (hAt 4 (by simp)).2.symm.trans hv4; simpa [and_assoc] using h9
    have hsz := hT.size
    have hob := Lay.own_base ho
    have q8 := bl_al (Below.refl w9.heap.size w9) (.cells #[.string t.name, .slice A4 n1 c4, .slice B4 m1 d4] 41)
    refine ⟨.slice (some ⟨w9.heap.size, 0, none⟩) 1 1, w9.alloc (.cells #[.string t.name, .slice A4 n1 c4, .slice B4 m1 d4] 41), ?_, ⟨_, rfl⟩, SeqN.set_ [2, 4] [6, 8] hSh hAt hDn (by kernel_rfl) (by decide) (by decide) ⟨bl_ca hT q8, A2, c2, Bx, A4, c4, B4, d4, w9.heap.size, ⟨(upd_ne (by decide)).trans hv, hB, Lay.own_weak (fun b hb _ => ⟨hb.1, by have := hb.2; have := q8.size; omega⟩) (Lay.own_below ho q8)⟩, ⟨(upd_ne (by decide)).trans hv4, Lay.rd_below hr q8, g1, g2, Lay.rd_below hk q8, g3, g4⟩, upd_same _ _ _, Blk.new _ _ _, hsz, fun e => by have := hob _ e; omega⟩⟩
    clear hT hS ho hr hk q8 hv hv4 hob
    go_simp
  try simp only [Act.put, sA, sZ, sS]
  obtain ⟨gb, rfl⟩ := hVv5
  refine Ps.one (k := 6) (d := some 40) rfl rfl (by kernel_rfl) (TurnS.value (V := fun v => ∃ A6 c6, v = .slice A6 (m + 1) c6) [2, 4, 5] (by kernel_rfl) (by rfl) (fun L9 m9 w9 hSh hAt hDn hS => ?cwg1_8)) (fun v6 hVv6 => ?rwg1_8)
  case cwg1_8 =>
    obtain ⟨hT, A3, c3, Bx, A5, c5, B5, d5, gb2, ⟨hv, hB, ho⟩, ⟨hv4, hr, g1, g2, hk, g3, g4⟩, hv5, hbk, hgb, hne⟩ := SeqN.at_ [2, 4, 5] [8] hSh hAt hDn (by kernel_rfl) hS
    obtain ⟨rfl, rfl⟩ : A2 = A3 ∧ c2 = c3 := by have h9 : Value.slice A2 m c2 = .slice A3 m c3 := (hAt 2 (by simp)).2.symm.trans hv; simpa using h9
    obtain ⟨rfl, rfl, rfl, rfl⟩ : A4 = A5 ∧ c4 = c5 ∧ B4 = B5 ∧ d4 = d5 := by have h9 : Value.agg #[.string t.name, .slice A4 n1 c4, .slice B4 m1 d4] = .agg #[.string t.name, .slice A5 n1 c5, .slice B5 m1 d5] := (hAt 4 (by simp)).2.symm.trans hv4; simpa [and_assoc] using h9
    obtain rfl : gb = gb2 := by have h9 : Value.slice (some ⟨gb, 0, none⟩) 1 1 = .slice (some ⟨gb2, 0, none⟩) 1 1 := (hAt 5 (by simp)).2.symm.trans hv5; simpa using h9
    have hsz9 := hT.size
    have hob := Lay.own_base ho
    have ho2 := Lay.own_weak (G' := fun b => w4.heap.size ≤ b ∧ b < w9.heap.size) (fun b hb _ => hb) ho
    obtain ⟨A6, c6, w8, hrun, ho6, hgr, hat6⟩ := run_appL (L := LT3) (e := 41) (P := Tryz.prog) (w := w9) 22 22 _ 3 64 Tryz.underlying22 Tryz.tableInfo rfl rfl (by decide) w4.heap.size (fun b => w4.heap.size ≤ b ∧ b < w9.heap.size) A2 m c2 l gb 1 41 #[.string t.name, .slice A4 n1 c4, .slice B4 m1 d4] t (Lay.own_less ho2 hB) hbk ⟨A4, n1, c4, B4, m1, d4, rfl, g1, g2, Lay.rd_weak (fun b hb hl => ⟨⟨hb.1, hl⟩, hb.2⟩) hr, g3, g4, Lay.rd_weak (fun b hb hl => ⟨⟨hb.1, hl⟩, hb.2⟩) hk⟩ (fun b hb => hb.2) (by omega) (by unfold maxLen; omega) hsz9
    have hbel : Below w4.heap.size w4 w8 := hT.grown hgr hsz9 (fun k e => by have := hob k e; omega)
    exact ⟨_, w8, exec_append (.tmp 36) (.tmp 39) 22 rfl rfl rfl hrun, ⟨A6, c6, rfl⟩, SeqN.set_ [2, 4, 5] [8] hSh hAt hDn (by kernel_rfl) (by decide) (by decide) ⟨hbel, A6, c6, upd_same _ _ _, Lay.own_rd ho6 (fun b hb _ => hb) (fun b hb _ => hb.1), (Lay.own_caps ho6).1, (Lay.own_caps ho6).2⟩⟩
  try simp only [Act.put, sA, sZ, sS]
  obtain ⟨A6, c6, rfl⟩ := hVv6
  refine Ps.st (i := 7) (d := some 41) (u := (.agg #[.slice A6 (m + 1) c6])) rfl rfl (by exact StepS.pure (SeqN.pass (by decide)) rfl fun _ => by first | rfl | (go_simp; done) | (go_simp; rfl)) ?_
  try simp only [Act.put, sA, sZ, sS]
  refine Ps.st (i := 8) (d := none) (u := undef) rfl rfl ?ywg1_10 ?rwg1_10
  case ywg1_10 =>
    refine StepS.store [2, 4, 5, 6] (by kernel_rfl) (by rfl) (fun L9 m9 w9 hSh hAt hDn hS => ?_)
    obtain ⟨hT, A7, c7, hv, hr, g1, g2⟩ := SeqN.at_ [2, 4, 5, 6] [] hSh hAt hDn (by kernel_rfl) hS
    obtain ⟨rfl, rfl⟩ : A6 = A7 ∧ c6 = c7 := by have h9 : Value.slice A6 (m + 1) c6 = .slice A7 (m + 1) c7 := (hAt 6 (by simp)).2.symm.trans hv; simpa using h9
    refine (exec_store_blk (w := w9) 24 (.tmp 4) (.tmp 41) (by rfl) (w.heap.size + 1 + 1) 24 #[.slice none 0 0] #[.slice A6 (m + 1) c6] (by rfl) (by rfl) (HO4.out.ca hT) rfl catI (by simp [Value.oneCell'])).imp fun w7 hx => ⟨hx.1, SeqN.set_ [2, 4, 5, 6] [] hSh hAt hDn (by kernel_rfl) (by decide) (by decide) ⟨(Chg.of_below hT).grown hx.2.2 (fun k e => .inl (by injection e with e; exact e.symm)), A6, c6, ⟨hv, rd_grownH hr hx.2.2 (fun b hb => by omega), g1, g2⟩, hx.2.1⟩⟩
  try simp only [Act.put]
  refine Ps.st (i := 9) (d := some 5) (u := (.int .i64 (0))) rfl rfl (by exact StepS.pure (SeqN.pass (by decide)) rfl fun _ => rfl) ?_
  try simp only [Act.put, sA, sZ, sS]
  refine Ps.done (by kernel_rfl) (fun wg1 hS => ?_) _
  obtain ⟨hch, A7, c7, ⟨hv, hr, g1, g2⟩, hbx⟩ := SeqN.fin (by rfl) hS
  clear hS
  obtain ⟨rfl, rfl⟩ : A6 = A7 ∧ c6 = c7 := by have h9 : Value.slice A6 (m + 1) c6 = .slice A7 (m + 1) c7 := hv; simpa using h9
  clear hv
  obtain ⟨w6, rfl⟩ : ∃ x, x = wg1 := ⟨_, rfl⟩
  have HCH := Lib.hid hch
  have HRO := Lib.hid hr
  have HBX := Lib.hid hbx
  have HCP := Lib.hid (And.intro g1 g2)
  clear hch hr hbx g1 g2
  have hs6 := HCH.out.size
  go_wp2
  exact bodyPost_ret (res2 Tryz.results13 rfl rfl HBX.out Tryz.underlying24 rfl catI) rfl ⟨A6, m + 1, c6, by rw [HF.out.1]; rfl, by rw [HF.out.2]; exact Lay.rd_weak (fun b hb _ => by omega) HRO.out, HCP.out.1, HCP.out.2, Chg.bel HQ4.out HCH.out (fun b _ h9 => by omega) HQ4.out.size⟩
end Go.Proofs.YthgcdilkkldgjaaGreatDoor
/- slices.Delete of one table of tables of one's own. Conditions: the place is there. -/
namespace Go.Proofs.YthgcdilkkldgjaaGreatDoor
open Go.RowKit
theorem isSome_setCellsI (b : Nat) (vs : List Value) (o : Nat) (w : World) (h : ∀ j, j < vs.length → (w.cell? ⟨b, o + j, none⟩).isSome = true) (k : Nat) (hk : (w.cell? ⟨b, k, none⟩).isSome = true) : ((w.setCells b o vs).cell? ⟨b, k, none⟩).isSome = true := by
  by_cases hin : o ≤ k ∧ k < o + vs.length
  · have := World.cell?_setCells_in b vs o w h (k - o) (by omega)
    rw [show o + (k - o) = k by omega] at this
    rw [this]; rfl
  · rw [World.cell?_setCells_out b vs o w ⟨b, k, none⟩ (fun _ _ => by show k < o ∨ o + vs.length ≤ k; omega)]
    exact hk
theorem cell_list {w : World} {g : Nat} {t : TypeId} {cs : Array Value} (h : Blk w g t cs) {j : Nat} {v : Value} (hj : cs.toList[j]? = some v) : w.cell? ⟨g, j, none⟩ = some v := by
  have := h.cell j
  rw [this]
  simpa using hj
theorem run_clear_sliceK {P : Program} (w : World) (t e ty : TypeId) (z : Value) (ht : P.underlying t = some (.slice e)) (hv : (zeroValue e).run P w = .ok z w) (b o n c : Nat) (hn : 0 < n) (zs : List Value) (hz : (Builtin.zeroCells z.cells n).toList = zs) (h1 : ∀ v ∈ zs, v.oneCell' = true)
    (hc : ∀ j, j < zs.length → (w.cell? ⟨b, o + j, none⟩).isSome = true) (hf : ∀ j, j < zs.length → w.frozen? ⟨b, o + j, none⟩ = false) :
    (Builtin.clear_ #[t] ty #[.slice (some ⟨b, o, none⟩) n c]).run P w = .ok (.tuple #[]) (w.setCells b o zs) := by
  have hst := run_storeCells_cells (P := P) b o zs 0 w (by simpa using hc) (by simpa using hf) h1
  simp only [Nat.add_zero] at hst
  obtain ⟨m, rfl⟩ : ∃ m, n = m + 1 := ⟨n - 1, by omega⟩
  simp [Builtin.clear_, run_underlying ht, hv, hz, hst]
end Go.Proofs.YthgcdilkkldgjaaGreatDoor
/- The layer's Drop. Conditions: the slice reads so; what the tables hold; names and rows are not endless. -/
namespace Go.Proofs.YthgcdilkkldgjaaGreatDoor
open Go.RowKit
noncomputable def dropE (l : List TC) (s : ByteArray) : Int := if catB l = false then 210 else if 0 ≤ idxL (fun x : TC => decide (x.name = s)) l then 0 else 4
noncomputable def dropR (l : List TC) (s : ByteArray) : List TC := if dropE l s = 0 then l.eraseIdx (idxL (fun x : TC => decide (x.name = s)) l).toNat else []
end Go.Proofs.YthgcdilkkldgjaaGreatDoor
