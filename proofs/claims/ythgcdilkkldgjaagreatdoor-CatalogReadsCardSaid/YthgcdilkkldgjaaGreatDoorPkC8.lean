/- The layer's once over columns and tables. Conditions: the slice reads so; what the tables hold. -/
import Derived.Test.YthgcdilkkldgjaaGreatDoorPkC7
namespace Go.Proofs.YthgcdilkkldgjaaGreatDoor
open Go.RowKit
/-- each has a name, no two the same -/
def OnceP (l : List ByteArray) : Prop := ∀ (i : Nat) (x : ByteArray), l[i]? = some x → nameB x = true ∧ ∀ (j : Nat) (y : ByteArray), j < i → l[j]? = some y → y ≠ x
noncomputable def onceB (l : List ByteArray) : Bool := @decide (OnceP l) (Classical.propDecidable _)
theorem onceB_iff (l : List ByteArray) : onceB l = true ↔ OnceP l := by unfold onceB; exact @decide_eq_true_iff _ (Classical.propDecidable _)
theorem onceB_no {l : List ByteArray} (h : ¬ OnceP l) : onceB l = false := by
  cases e : onceB l
  · rfl
  · exact absurd ((onceB_iff l).1 e) h
theorem idxL_le {α : Type} {f : α → Bool} {l : List α} {i : Nat} {x : α} (h : l[i]? = some x) (hf : f x = true) : ∃ j : Nat, j ≤ i ∧ idxL f l = (j : Int) ∧ (∃ y, l[j]? = some y ∧ f y = true) ∧ ∀ (k : Nat) (q : α), k < j → l[k]? = some q → f q = false := by
  have hi := at_lt rfl h
  have hlt : l.findIdx f < l.length := List.findIdx_lt_length.2 ⟨x, List.mem_of_getElem? h, hf⟩
  have hle : l.findIdx f ≤ i := by
    rcases Nat.lt_or_ge i (l.findIdx f) with h9 | h9
    · have h8 := List.not_of_lt_findIdx h9
      rw [List.getElem?_eq_getElem hi] at h
      injection h with h
      rw [h] at h8
      exact absurd hf (by simpa using h8)
    · exact h9
  refine ⟨l.findIdx f, hle, by unfold idxL; rw [if_pos hlt], ⟨_, List.getElem?_eq_getElem hlt, List.findIdx_getElem⟩, fun k q hk hq => ?_⟩
  have h8 := List.not_of_lt_findIdx hk
  rw [List.getElem?_eq_getElem (Nat.lt_trans hk hlt)] at hq
  injection hq with hq
  rw [hq] at h8
  simpa using h8
set_option maxRecDepth 100000 in
set_option maxHeartbeats 4000000 in
theorem onceO_any (F : Nat → Prop) (l : List CO) (A : Option Addr) (m c : Nat) (w : World) (h : LCO.rd w F A m l) (hm : m ≤ 9223372036854775807) (hT : Tab w) (hsz : ∀ (k : Nat) (t : CO), l[k]? = some t → t.name.size ≤ 9223372036854775807) :
    Calls Tryz.prog 53 #[.slice A m c, .func (.func 34) #[] #[]] w fun e w' => e = .returned (.bool (onceB (l.map CO.name))) ∧ Below w.heap.size w w' := by
  have HL := Lib.hid (Lay.rd_len h)
  have HTB := Lib.hid hT
  have HSZ := Lib.hid hsz
  have HNO := Lib.hid (fun (e : ¬ OnceP (l.map CO.name)) => onceB_no e)
  have HYES := Lib.hid (onceB_iff (l.map CO.name)).2
  clear hT hsz
  generalize onceB (l.map CO.name) = r at *
  go_enter Tryz.func53, Tryz.ntmps53
  go_wp2_with fail
  go_loopg [11] m (fun g a wr => ∃ i : Nat, i + g = m ∧ a = .int .i64 i ∧ (∀ (k : Nat) (x : CO), k < i → l[k]? = some x → nameB x.name = true ∧ ∀ (j : Nat) (y : CO), j < k → l[j]? = some y → y.name ≠ x.name) ∧ Below w.heap.size w wr)
  case atStart => exact ⟨0, by omega, rfl, fun k x hk => by omega, Below.refl _ _⟩
  case round =>
    obtain ⟨i, hig, rfl, hlo, bb⟩ := hrel
    have HLO := Lib.hid hlo
    have HBB := Lib.hid bb
    have h3 := Lay.rd_below h bb
    have HT3 := Lib.hid (HTB.out.below bb)
    clear hlo bb
    by_cases hlt : i < m
    · have hi1 : (i : Int) < (m : Int) := by omega
      obtain ⟨p, t, hAe, hx, s1⟩ := LCO_at h3 hlt
      obtain rfl : A = some p := hAe
      have e0 := s1.c0
      have e1 := s1.c1
      have HX := Lib.hid hx
      have q5 := bl_al (Below.refl wr.heap.size wr) (.cells #[.string t.name, .int .i64 t.kind] 71)
      have HX5 := Lib.hid (Blk.new wr 71 #[.string t.name, .int .i64 t.kind])
      have h5 := Lay.rd_below h3 q5
      have HQ5 := Lib.hid q5
      have HF := Lib.hid (idxL_le (f := fun y : CO => decide (y.name = t.name)) hx (by simp))
      clear hx s1 q5 h3
      go_wp2_with fail
      generalize wr.alloc (.cells #[.string t.name, .int .i64 t.kind] 71) = w5 at *
      refine (cname_any t _).mono ?_
      rintro e w6 ⟨rfl, q6⟩
      clear e0 e1
      have HX6 := Lib.hid (HX5.out.ca q6)
      have h6 := Lay.rd_below h5 q6
      have HQ6 := Lib.hid (bl_ca HQ5.out q6)
      clear q6 HX5 h5 HQ5
      go_wp2_with fail
      refine (findO_any F l (some p) m c t.name w6 h6 hm).mono ?_
      rintro e w7 ⟨rfl, q7⟩
      have HX7 := Lib.hid (HX6.out.ca q7)
      have HQ7 := Lib.hid (bl_ca HQ6.out q7)
      have HT7 := HT3.out.below HQ7.out
      clear q7 HX6 h6 HQ6
      obtain ⟨j, hji, hje, ⟨y, hy, hye⟩, hlo2⟩ := HF.out
      rw [hje]
      have hfj : fnd (j : Int) = (j : Int) := by unfold fnd; omega
      rw [hfj]
      have HJ := Lib.hid (And.intro hji (And.intro hy (And.intro hye hlo2)))
      clear hje hy hye hlo2 hfj HF
      have z0 := HX7.out.cell 0
      have z1 := HX7.out.cell 1
      by_cases hj : j = i
      case neg =>
        have e9 : ((j : Int) == (i : Int)) = false := by simp; omega
        have e8 : (j == i) = false := by simp; omega
        have e7 : ((j : Int) != (i : Int)) = true := by simp; omega
        have e6 : decide ((j : Int) = (i : Int)) = false := by simp; omega
        have e5 : decide (j = i) = false := by simp; omega
        have e4 : ¬ (j : Int) = (i : Int) := by omega
        have HR := Lib.hid (HNO.out (fun p => by
          have h9 := (p i t.name (by rw [List.getElem?_map, HX.out]; rfl)).2 j y.name (by omega) (by rw [List.getElem?_map, HJ.out.2.1]; rfl)
          exact h9 (by simpa using HJ.out.2.2.1)))
        clear hj hji HT7
        go_wp2
        go_ret
        exact ⟨ret_bool HR.out.symm, bl_ca HBB.out HQ7.out⟩
      subst hj
      go_wp2_with fail
      refine (cname_any t _).mono ?_
      rintro e w8 ⟨rfl, q8⟩
      clear z0 z1
      have HQ8 := Lib.hid (bl_ca HQ7.out q8)
      have HT8 := HT7.below q8
      clear q8 HX7 HQ7 HT7
      go_wp2_with fail
      refine (isname_any t.name w8 HT8 (HSZ.out _ _ HX.out)).mono ?_
      rintro e w9 ⟨rfl, q9⟩
      have HQ9 := Lib.hid (bl_ca HQ8.out q9)
      clear q9 HQ8 HT8
      obtain ⟨q, hq⟩ : ∃ q, q = nameB t.name := ⟨_, rfl⟩
      rw [← hq]
      have HQN := Lib.hid hq
      clear hq
      cases q
      · have HR := Lib.hid (HNO.out (fun p => by
          have h9 := (p j t.name (by rw [List.getElem?_map, HX.out]; rfl)).1
          rw [← HQN.out] at h9
          cases h9))
        go_wp2
        go_ret
        exact ⟨ret_bool HR.out.symm, bl_ca HBB.out HQ9.out⟩
      · have HN := Lib.hid (show ∀ (k : Nat) (x : CO), k < j + 1 → l[k]? = some x → nameB x.name = true ∧ ∀ (j : Nat) (y : CO), j < k → l[j]? = some y → y.name ≠ x.name from fun k x hk hx => by
          rcases Nat.lt_or_ge k j with h9 | h9
          · exact HLO.out k x h9 hx
          · obtain rfl : k = j := by omega
            obtain rfl := at_eq hx HX.out
            exact ⟨HQN.out.symm, fun j' y' hj' hy' => by simpa using HJ.out.2.2.2 j' y' hj' hy'⟩)
        go_wp2
        go_roundg (gk - 1)
        · exact ⟨j + 1, by omega, by go_num, HN.out, bl_ca HBB.out HQ9.out⟩
        · omega
    · obtain rfl : i = m := by omega
      have hi1 : (i : Int) ≤ (i : Int) := by omega
      have HR := Lib.hid (HYES.out (fun k x hx => by
        rw [List.getElem?_map] at hx
        obtain ⟨t, ht, rfl⟩ : ∃ t, l[k]? = some t ∧ t.name = x := by
          cases e : l[k]? with
          | none => rw [e] at hx; cases hx
          | some t => rw [e] at hx; injection hx with hx; exact ⟨t, rfl, hx⟩
        refine ⟨(HLO.out k t (at_lt HL.out ht) ht).1, fun j y hj hy => ?_⟩
        rw [List.getElem?_map] at hy
        obtain ⟨u, hu, rfl⟩ : ∃ u, l[j]? = some u ∧ u.name = y := by
          cases e : l[j]? with
          | none => rw [e] at hy; cases hy
          | some t => rw [e] at hy; injection hy with hy; exact ⟨t, rfl, hy⟩
        exact (HLO.out k t (at_lt HL.out ht) ht).2 j u hj hu))
      go_wp2
      go_ret
      exact ⟨ret_bool HR.out.symm, HBB.out⟩
set_option maxRecDepth 100000 in
set_option maxHeartbeats 4000000 in
theorem onceT_any (F : Nat → Prop) (l : List TC) (A : Option Addr) (m c : Nat) (w : World) (h : LT3.rd w F A m l) (hm : m ≤ 9223372036854775807) (hT : Tab w) (hsz : ∀ (k : Nat) (t : TC), l[k]? = some t → t.name.size ≤ 9223372036854775807) :
    Calls Tryz.prog 37 #[.slice A m c, .func (.func 38) #[] #[]] w fun e w' => e = .returned (.bool (onceB (l.map TC.name))) ∧ Below w.heap.size w w' := by
  have HL := Lib.hid (Lay.rd_len h)
  have HTB := Lib.hid hT
  have HSZ := Lib.hid hsz
  have HNO := Lib.hid (fun (e : ¬ OnceP (l.map TC.name)) => onceB_no e)
  have HYES := Lib.hid (onceB_iff (l.map TC.name)).2
  clear hT hsz
  generalize onceB (l.map TC.name) = r at *
  go_enter Tryz.func37, Tryz.ntmps37
  go_wp2_with fail
  go_loopg [11] m (fun g a wr => ∃ i : Nat, i + g = m ∧ a = .int .i64 i ∧ (∀ (k : Nat) (x : TC), k < i → l[k]? = some x → nameB x.name = true ∧ ∀ (j : Nat) (y : TC), j < k → l[j]? = some y → y.name ≠ x.name) ∧ Below w.heap.size w wr)
  case atStart => exact ⟨0, by omega, rfl, fun k x hk => by omega, Below.refl _ _⟩
  case round =>
    obtain ⟨i, hig, rfl, hlo, bb⟩ := hrel
    have HLO := Lib.hid hlo
    have HBB := Lib.hid bb
    have h3 := Lay.rd_below h bb
    have HT3 := Lib.hid (HTB.out.below bb)
    clear hlo bb
    by_cases hlt : i < m
    · have hi1 : (i : Int) < (m : Int) := by omega
      obtain ⟨p, t, A1, n1, c1, B1, m1, d1, hAe, hx, s1⟩ := LT3_at h3 hlt
      obtain rfl : A = some p := hAe
      have e0 := s1.c0
      have e1 := s1.c1
      have e2 := s1.c2
      have HX := Lib.hid hx
      have q5 := bl_al (Below.refl wr.heap.size wr) (.cells #[.string t.name, .slice A1 n1 c1, .slice B1 m1 d1] 41)
      have HX5 := Lib.hid (Blk.new wr 41 #[.string t.name, .slice A1 n1 c1, .slice B1 m1 d1])
      have h5 := Lay.rd_below h3 q5
      have HQ5 := Lib.hid q5
      have HF := Lib.hid (idxL_le (f := fun y : TC => decide (y.name = t.name)) hx (by simp))
      clear hx s1 q5 h3
      go_wp2_with fail
      generalize wr.alloc (.cells #[.string t.name, .slice A1 n1 c1, .slice B1 m1 d1] 41) = w5 at *
      refine (tname_any t A1 n1 c1 B1 m1 d1 _).mono ?_
      rintro e w6 ⟨rfl, q6⟩
      clear e0 e1 e2
      have HX6 := Lib.hid (HX5.out.ca q6)
      have h6 := Lay.rd_below h5 q6
      have HQ6 := Lib.hid (bl_ca HQ5.out q6)
      clear q6 HX5 h5 HQ5
      go_wp2_with fail
      refine (findT_any F l (some p) m c t.name w6 h6 hm).mono ?_
      rintro e w7 ⟨rfl, q7⟩
      have HX7 := Lib.hid (HX6.out.ca q7)
      have HQ7 := Lib.hid (bl_ca HQ6.out q7)
      have HT7 := HT3.out.below HQ7.out
      clear q7 HX6 h6 HQ6
      obtain ⟨j, hji, hje, ⟨y, hy, hye⟩, hlo2⟩ := HF.out
      rw [hje]
      have hfj : fnd (j : Int) = (j : Int) := by unfold fnd; omega
      rw [hfj]
      have HJ := Lib.hid (And.intro hji (And.intro hy (And.intro hye hlo2)))
      clear hje hy hye hlo2 hfj HF
      have z0 := HX7.out.cell 0
      have z1 := HX7.out.cell 1
      have z2 := HX7.out.cell 2
      by_cases hj : j = i
      case neg =>
        have e9 : ((j : Int) == (i : Int)) = false := by simp; omega
        have e8 : (j == i) = false := by simp; omega
        have e7 : ((j : Int) != (i : Int)) = true := by simp; omega
        have e6 : decide ((j : Int) = (i : Int)) = false := by simp; omega
        have e5 : decide (j = i) = false := by simp; omega
        have e4 : ¬ (j : Int) = (i : Int) := by omega
        have HR := Lib.hid (HNO.out (fun p => by
          have h9 := (p i t.name (by rw [List.getElem?_map, HX.out]; rfl)).2 j y.name (by omega) (by rw [List.getElem?_map, HJ.out.2.1]; rfl)
          exact h9 (by simpa using HJ.out.2.2.1)))
        clear hj hji HT7
        go_wp2
        go_ret
        exact ⟨ret_bool HR.out.symm, bl_ca HBB.out HQ7.out⟩
      subst hj
      go_wp2_with fail
      refine (tname_any t A1 n1 c1 B1 m1 d1 _).mono ?_
      rintro e w8 ⟨rfl, q8⟩
      clear z0 z1 z2
      have HQ8 := Lib.hid (bl_ca HQ7.out q8)
      have HT8 := HT7.below q8
      clear q8 HX7 HQ7 HT7
      go_wp2_with fail
      refine (isname_any t.name w8 HT8 (HSZ.out _ _ HX.out)).mono ?_
      rintro e w9 ⟨rfl, q9⟩
      have HQ9 := Lib.hid (bl_ca HQ8.out q9)
      clear q9 HQ8 HT8
      obtain ⟨q, hq⟩ : ∃ q, q = nameB t.name := ⟨_, rfl⟩
      rw [← hq]
      have HQN := Lib.hid hq
      clear hq
      cases q
      · have HR := Lib.hid (HNO.out (fun p => by
          have h9 := (p j t.name (by rw [List.getElem?_map, HX.out]; rfl)).1
          rw [← HQN.out] at h9
          cases h9))
        go_wp2
        go_ret
        exact ⟨ret_bool HR.out.symm, bl_ca HBB.out HQ9.out⟩
      · have HN := Lib.hid (show ∀ (k : Nat) (x : TC), k < j + 1 → l[k]? = some x → nameB x.name = true ∧ ∀ (j : Nat) (y : TC), j < k → l[j]? = some y → y.name ≠ x.name from fun k x hk hx => by
          rcases Nat.lt_or_ge k j with h9 | h9
          · exact HLO.out k x h9 hx
          · obtain rfl : k = j := by omega
            obtain rfl := at_eq hx HX.out
            exact ⟨HQN.out.symm, fun j' y' hj' hy' => by simpa using HJ.out.2.2.2 j' y' hj' hy'⟩)
        go_wp2
        go_roundg (gk - 1)
        · exact ⟨j + 1, by omega, by go_num, HN.out, bl_ca HBB.out HQ9.out⟩
        · omega
    · obtain rfl : i = m := by omega
      have hi1 : (i : Int) ≤ (i : Int) := by omega
      have HR := Lib.hid (HYES.out (fun k x hx => by
        rw [List.getElem?_map] at hx
        obtain ⟨t, ht, rfl⟩ : ∃ t, l[k]? = some t ∧ t.name = x := by
          cases e : l[k]? with
          | none => rw [e] at hx; cases hx
          | some t => rw [e] at hx; injection hx with hx; exact ⟨t, rfl, hx⟩
        refine ⟨(HLO.out k t (at_lt HL.out ht) ht).1, fun j y hj hy => ?_⟩
        rw [List.getElem?_map] at hy
        obtain ⟨u, hu, rfl⟩ : ∃ u, l[j]? = some u ∧ u.name = y := by
          cases e : l[j]? with
          | none => rw [e] at hy; cases hy
          | some t => rw [e] at hy; injection hy with hy; exact ⟨t, rfl, hy⟩
        exact (HLO.out k t (at_lt HL.out ht) ht).2 j u hj hu))
      go_wp2
      go_ret
      exact ⟨ret_bool HR.out.symm, HBB.out⟩
end Go.Proofs.YthgcdilkkldgjaaGreatDoor
