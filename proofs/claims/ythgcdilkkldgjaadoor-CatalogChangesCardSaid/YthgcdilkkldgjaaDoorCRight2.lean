/- The reference's Right, SameTable, Same; the law's over. Conditions: the slices read so; the names are short. -/
import Derived.Test.YthgcdilkkldgjaaDoorCRight
namespace Go.Proofs.YthgcdilkkldgjaaDoor
open Go.RowKit
/-- the names are short -/
def Sz (t : TC) : Prop := t.name.size ≤ 100000 ∧ ∀ (k : Nat) (c : CO), t.cols[k]? = some c → c.name.size ≤ 100000
structure CatP (l : List TC) : Prop where
  hi : l.length ≤ 4
  ok : ∀ (k : Nat) (t : TC), l[k]? = some t → tabB t = true
  nd : ∀ (i k : Nat) (a b : TC), i < k → l[i]? = some a → l[k]? = some b → a.name ≠ b.name
noncomputable def catB (l : List TC) : Bool := @decide (CatP l) (Classical.propDecidable _)
theorem catB_iff (l : List TC) : catB l = true ↔ CatP l := by unfold catB; exact @decide_eq_true_iff _ (Classical.propDecidable _)
theorem catB_no {l : List TC} (h : ¬ CatP l) : catB l = false := by
  cases e : catB l
  · rfl
  · exact absurd ((catB_iff l).1 e) h
theorem at_lt {α : Type} {l : List α} {k n : Nat} {x : α} (hl : l.length = n) (h : l[k]? = some x) : k < n := by
  rcases Nat.lt_or_ge k l.length with h9 | h9
  · omega
  · rw [List.getElem?_eq_none h9] at h; cases h
theorem at_eq {α : Type} {l : List α} {k : Nat} {x y : α} (h : l[k]? = some x) (h2 : l[k]? = some y) : x = y := by rw [h] at h2; injection h2
set_option maxRecDepth 100000 in
set_option maxHeartbeats 4000000 in
theorem rcat_any (F : Nat → Prop) (l : List TC) (A : Option Addr) (m c : Nat) (w : World) (h : LT3.rd w F A m l) (hm : m ≤ 9223372036854775807) (hs : ∀ (k : Nat) (t : TC), l[k]? = some t → Sz t) :
    Calls Tryd.prog 15 #[.agg #[.slice A m c]] w fun e w' => e = .returned (.bool (catB l)) ∧ Below w.heap.size w w' := by
  have HL := Lib.hid (Lay.rd_len h)
  have HNO := Lib.hid (fun (e : ¬ CatP l) => catB_no e)
  have HYES := Lib.hid (catB_iff l).2
  have HS := Lib.hid hs
  clear hs
  generalize catB l = r at *
  have q1 := Lib.hid (bl_al (Below.refl w.heap.size w) (.cells #[.slice A m c] 24))
  have h1 := Lay.rd_below h q1.out
  have HB := Lib.hid (Blk.new w 24 #[.slice A m c])
  have y0 := HB.out.cell 0
  clear h
  go_enter Tryd.func15, Tryd.ntmps15
  by_cases c3 : 4 < m
  · have c4 : 4 < (m : Int) := by omega
    have HR := Lib.hid (HNO.out (fun p => by have := p.hi; rw [HL.out] at this; omega))
    clear c3
    go_wp2
    go_ret
    exact ⟨ret_bool HR.out.symm, q1.out⟩
  have c4 : (m : Int) ≤ 4 := by omega
  have HM := Lib.hid (show m ≤ 4 by omega)
  clear c3
  go_wp2_with fail
  clear y0 c4
  generalize w.alloc (.cells #[.slice A m c] 24) = w2 at *
  go_loopg [3] m (fun g a wr => ∃ i : Nat, i + g = m ∧ a = .int .i64 i ∧ (∀ (k : Nat) (t : TC), k < i → l[k]? = some t → tabB t = true) ∧ (∀ (p k : Nat) (a b : TC), p < k → k < i → l[p]? = some a → l[k]? = some b → a.name ≠ b.name) ∧ Below w2.heap.size w2 wr)
  case atStart => exact ⟨0, by omega, rfl, fun k c hk => by omega, fun p k a b h1 h2 => by omega, Below.refl _ _⟩
  case round =>
    obtain ⟨i, hig, rfl, hok, hnd, b1⟩ := hrel
    have HOK := Lib.hid hok
    have HND := Lib.hid hnd
    have HBB := Lib.hid (bl_ca q1.out b1)
    have HB3 := Lib.hid (HB.out.ca b1)
    have h3 := Lay.rd_below h1 b1
    have HB1 := Lib.hid b1
    clear hok hnd b1
    have y1 := HB3.out.cell 0
    by_cases hlt : i < m
    · have hi1 : (i : Int) < (m : Int) := by omega
      obtain ⟨p, t, A1, n1, c1, B1, m1, d1, hAe, hx, s1⟩ := LT3_at h3 hlt
      obtain rfl : A = some p := hAe
      have e0 := s1.c0
      have e1 := s1.c1
      have e2 := s1.c2
      have HX := Lib.hid hx
      have HST := Lib.hid s1
      have HCT := Lib.hid (rtable_any F F t A1 n1 c1 B1 m1 d1 wr s1.rd s1.rk (Nat.le_trans s1.nc s1.cm) (Nat.le_trans s1.md s1.dm) (by have := (HS.out i t hx).1; omega) (fun k c h9 => by have := (HS.out i t hx).2 k c h9; omega))
      clear hx s1
      obtain ⟨gi, rfl⟩ : ∃ g, g = gk := ⟨_, rfl⟩
      go_wp2_with fail
      refine HCT.out.mono ?_
      rintro e w5 ⟨rfl, q5⟩
      clear e1 e2 y1 HCT
      have HB5 := Lib.hid (HB3.out.ca q5)
      have h5 := Lay.rd_below h3 q5
      have HBB5 := Lib.hid (bl_ca HBB.out q5)
      have HB15 := Lib.hid (bl_ca HB1.out q5)
      clear q5 HB3 h3 e0 HST
      obtain ⟨q, hq⟩ : ∃ q, q = tabB t := ⟨_, rfl⟩
      rw [← hq]
      have HQ := Lib.hid hq
      clear hq
      cases q
      · have HR := Lib.hid (HNO.out (fun p => by have := p.ok i _ HX.out; rw [← HQ.out] at this; cases this))
        go_wp2
        go_ret
        exact ⟨ret_bool HR.out.symm, HBB5.out⟩
      go_wp2_with fail
      go_loopg [4] i (fun g a wr => ∃ k : Nat, k + g = i ∧ a = .int .i64 k ∧ (∀ (j : Nat) (c : TC), j < k → l[j]? = some c → c.name ≠ t.name) ∧ Below w5.heap.size w5 wr)
      case atStart => exact ⟨0, by omega, rfl, fun j c hj => by omega, Below.refl _ _⟩
      case round =>
        obtain ⟨k, hkg, rfl, hne, b5⟩ := hrel
        have HNE := Lib.hid hne
        have HB6 := Lib.hid (HB5.out.ca b5)
        have h6 := Lay.rd_below h5 b5
        have HBB6 := Lib.hid (bl_ca HBB5.out b5)
        have HB16 := Lib.hid (bl_ca HB15.out b5)
        have HB55 := Lib.hid b5
        clear hne b5
        by_cases hlt2 : k < i
        · have hk1 : (k : Int) < (i : Int) := by omega
          have hk2 : (k : Int) < (m : Int) := by omega
          have y1 := HB6.out.cell 0
          obtain ⟨p', x, A2, n2, c2, B2, m2, d2, hAe, hx, s1⟩ := LT3_at h6 (show k < m by omega)
          obtain rfl : p = p' := by injection hAe
          have e0 := s1.c0
          have HXK := Lib.hid hx
          clear hx s1 hAe
          obtain ⟨p', x2, A3, n3, c3, B3, m3, d3, hAe, hx, s1⟩ := LT3_at h6 hlt
          obtain rfl : p = p' := by injection hAe
          obtain rfl := at_eq hx HX.out
          have e1 := s1.c0
          clear hx s1 hAe
          go_wp2_with fail
          by_cases hq : x.name = x2.name
          · have e9 := eqt hq
            have HR := Lib.hid (HNO.out (fun p => p.nd k i _ _ hlt2 HXK.out HX.out hq))
            clear hq
            go_quiet (fail)
            go_wp2
            go_ret
            exact ⟨ret_bool HR.out.symm, bl_dr HBB6.out _⟩
          · have e9 := eqf hq
            have HNE2 := Lib.hid (show ∀ (j : Nat) (c : TC), j < k + 1 → l[j]? = some c → c.name ≠ x2.name from fun j c hj hc => by
              rcases Nat.lt_or_ge j k with h9 | h9
              · exact HNE.out j c h9 hc
              · obtain rfl : j = k := by omega
                obtain rfl := at_eq hc HXK.out
                exact hq)
            clear hq
            go_quiet (fail)
            go_wp2
            go_roundg (gk - 1)
            · exact ⟨k + 1, by omega, by go_num, HNE2.out, bl_dr HB55.out _⟩
            · omega
        · obtain rfl : k = i := by omega
          have HOK2 := Lib.hid (show ∀ (j : Nat) (c : TC), j < k + 1 → l[j]? = some c → tabB c = true from fun j c hj hc => by
            rcases Nat.lt_or_ge j k with h9 | h9
            · exact HOK.out j c h9 hc
            · obtain rfl : j = k := by omega
              obtain rfl := at_eq hc HX.out
              exact HQ.out.symm)
          have HND2 := Lib.hid (show ∀ (p j : Nat) (a b : TC), p < j → j < k + 1 → l[p]? = some a → l[j]? = some b → a.name ≠ b.name from fun p j a b h8 hj ha hb => by
            rcases Nat.lt_or_ge j k with h9 | h9
            · exact HND.out p j a b h8 h9 ha hb
            · obtain rfl : j = k := by omega
              obtain rfl := at_eq hb HX.out
              exact HNE.out p a h8 ha)
          have hk1 : ((k : Int) < (k : Int)) = False := by simp
          go_wp2
          go_roundg (gi - 1)
          · exact ⟨k + 1, by omega, by go_num, HOK2.out, HND2.out, HB16.out⟩
          · omega
    · obtain rfl : i = m := by omega
      have hi1 : (i : Int) ≤ (i : Int) := by omega
      have HR := Lib.hid (HYES.out ⟨by rw [HL.out]; exact HM.out, fun k t h => HOK.out k t (at_lt HL.out h) h, fun p k a b h8 ha hb => HND.out p k a b h8 (at_lt HL.out hb) ha hb⟩)
      go_wp2
      go_ret
      exact ⟨ret_bool HR.out.symm, HBB.out⟩
set_option maxRecDepth 100000 in
set_option maxHeartbeats 1000000 in
theorem over_any (F : Nat → Prop) (l : List TC) (A : Option Addr) (m c : Nat) (w : World) (h : LT3.rd w F A m l) (hm : m ≤ 9223372036854775807) :
    Calls Tryd.prog 9 #[.agg #[.slice A m c]] w fun e w' => e = .returned (.bool (overB l)) ∧ Below w.heap.size w w' := by
  have HL := Lib.hid (Lay.rd_len h)
  have HR := Lib.hid (show overB l = (decide (20 < l.length) || l.any largeB) from rfl)
  rw [HL.out] at HR
  generalize overB l = r at *
  have q1 := Lib.hid (bl_al (Below.refl w.heap.size w) (.cells #[.slice A m c] 24))
  have h1 := Lay.rd_below h q1.out
  have HB := Lib.hid (Blk.new w 24 #[.slice A m c])
  have y0 := HB.out.cell 0
  clear h
  go_enter Tryd.func9, Tryd.ntmps9
  by_cases c3 : 20 < m
  · have c4 : 20 < (m : Int) := by omega
    go_wp2
    go_ret
    exact ⟨ret_bool (by rw [HR.out]; simp [c3]), q1.out⟩
  have c4 : (m : Int) ≤ 20 := by omega
  have HR2 := Lib.hid (show r = l.any largeB from by rw [HR.out]; simp [c3])
  clear c3 HR
  go_wp2_with fail
  clear y0 c4
  generalize w.alloc (.cells #[.slice A m c] 24) = w2 at *
  go_loopg [12] m (fun g a wr => ∃ i : Nat, i + g = m ∧ a = .int .i64 i ∧ r = (l.drop i).any largeB ∧ Below w2.heap.size w2 wr)
  case atStart => exact ⟨0, by omega, rfl, by rw [HR2.out]; simp, Below.refl _ _⟩
  case round =>
    obtain ⟨i, hig, rfl, hri, b1⟩ := hrel
    have HRI := Lib.hid hri
    have HBB := Lib.hid (bl_ca q1.out b1)
    have HB1 := Lib.hid b1
    have h3 := Lay.rd_below h1 b1
    clear hri b1
    by_cases hlt : i < m
    · have hi1 : (i : Int) < (m : Int) := by omega
      obtain ⟨p, t, A1, n1, c1, B1, m1, d1, rfl, hx, s1⟩ := LT3_at h3 hlt
      have e0 := s1.c0
      have e1 := s1.c1
      have e2 := s1.c2
      have HA := Lib.hid (any_drop (f := largeB) hx)
      have q2 := bl_al (Below.refl wr.heap.size wr) (.cells (t.cells A1 n1 c1 B1 m1 d1) 28)
      have HCT := Lib.hid (large_any F F t A1 n1 c1 B1 m1 d1 _ (Lay.rd_below s1.rd q2) (Lay.rd_below s1.rk q2) (Nat.le_trans s1.nc s1.cm))
      have HQ2 := Lib.hid q2
      clear hx s1 h3 q2
      go_wp2_with fail
      refine HCT.out.mono ?_
      rintro e w5 ⟨rfl, q5⟩
      have HQ5 := Lib.hid (bl_ca HQ2.out q5)
      clear q5 HCT HQ2 e0 e1 e2
      obtain ⟨q, hq⟩ : ∃ q, q = largeB t := ⟨_, rfl⟩
      rw [← hq] at HA ⊢
      clear hq
      cases q
      · have HQ := Lib.hid (show r = (l.drop (i + 1)).any largeB from by rw [HRI.out, HA.out]; rfl)
        go_wp2
        go_roundg (gk - 1)
        · exact ⟨i + 1, by omega, by go_num, HQ.out, bl_ca HB1.out HQ5.out⟩
        · omega
      · have HQ := Lib.hid (show r = true from by rw [HRI.out, HA.out]; rfl)
        go_wp2
        go_ret
        exact ⟨ret_bool HQ.out.symm, bl_ca HBB.out HQ5.out⟩
    · obtain rfl : i = m := by omega
      have hi1 : (i : Int) ≤ (i : Int) := by omega
      have HQ := Lib.hid (show r = false from by rw [HRI.out, List.drop_of_length_le (by rw [HL.out]; exact Nat.le_refl _)]; rfl)
      go_wp2
      go_ret
      exact ⟨ret_bool HQ.out.symm, HBB.out⟩
end Go.Proofs.YthgcdilkkldgjaaDoor
