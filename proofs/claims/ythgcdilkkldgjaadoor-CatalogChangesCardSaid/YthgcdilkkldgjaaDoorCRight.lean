/- The reference's RightTable. Conditions: the slices read so. -/
import Derived.Test.YthgcdilkkldgjaaDoorCRef11
namespace Go.Proofs.YthgcdilkkldgjaaDoor
open Go.RowKit
def kindB (k : Int) : Bool := decide (k = 1) || (decide (k = 2) || decide (k = 3))
def colB (c : CO) : Bool := nameB c.name && kindB c.kind
def strictB (n : Int) : Int → List Int → Bool
  | _, [] => true
  | p, k :: l => decide (p < k) && (decide (k < n) && strictB n k l)
structure TabP (t : TC) : Prop where
  nm : nameB t.name = true
  lo : 1 ≤ t.cols.length
  hi : t.cols.length ≤ 4
  ok : ∀ (k : Nat) (c : CO), t.cols[k]? = some c → colB c = true
  nd : ∀ (i k : Nat) (a b : CO), i < k → t.cols[i]? = some a → t.cols[k]? = some b → a.name ≠ b.name
  ks : strictB t.cols.length (-1) t.keys = true
noncomputable def tabB (t : TC) : Bool := @decide (TabP t) (Classical.propDecidable _)
theorem tabB_iff (t : TC) : tabB t = true ↔ TabP t := by unfold tabB; exact @decide_eq_true_iff _ (Classical.propDecidable _)
theorem tabB_no {t : TC} (h : ¬ TabP t) : tabB t = false := by
  cases e : tabB t
  · rfl
  · exact absurd ((tabB_iff t).1 e) h
theorem wordS_none (k : Int) : (wordS k).toList.isEmpty = !kindB k := by
  unfold wordS kindB
  by_cases h1 : k = 1
  · subst h1; rw [if_pos rfl, ByteArray.toList_eq]; rfl
  by_cases h2 : k = 2
  · subst h2; rw [if_neg (by omega), if_pos rfl, ByteArray.toList_eq]; rfl
  by_cases h3 : k = 3
  · subst h3; rw [if_neg (by omega), if_neg (by omega), if_pos rfl, ByteArray.toList_eq]; rfl
  rw [if_neg h1, if_neg h2, if_neg h3, decide_eq_false h1, decide_eq_false h2, decide_eq_false h3, ByteArray.toList_eq]
  rfl
def prevK (l : List Int) (i : Nat) : Int := if i = 0 then -1 else l.getD (i - 1) 0
theorem strict_at {l : List Int} {n p x : Int} {i : Nat} (h : l[i]? = some x) : strictB n p (l.drop i) = (decide (p < x) && (decide (x < n) && strictB n x (l.drop (i + 1)))) := by
  have hi : i < l.length := by
    rcases Nat.lt_or_ge i l.length with h1 | h1
    · exact h1
    · rw [List.getElem?_eq_none h1] at h; cases h
  rw [List.getElem?_eq_getElem hi] at h
  injection h with h
  rw [List.drop_eq_getElem_cons hi, h]
  rfl
theorem prevK_next {l : List Int} {i : Nat} {x : Int} (h : l[i]? = some x) : prevK l (i + 1) = x := by
  unfold prevK
  rw [if_neg (by omega), Nat.add_sub_cancel, List.getD, h]
  rfl
set_option maxRecDepth 100000 in
set_option maxHeartbeats 4000000 in
theorem rtable_any (F F2 : Nat → Prop) (t : TC) (A : Option Addr) (m c : Nat) (B : Option Addr) (n d : Nat) (w : World) (h : LCO.rd w F A m t.cols) (h2 : LK.rd w F2 B n t.keys) (hm : m ≤ 9223372036854775807) (hn : n ≤ 9223372036854775807) (hs : t.name.size ≤ 9223372036854775807) (hs2 : ∀ (k : Nat) (c : CO), t.cols[k]? = some c → c.name.size ≤ 9223372036854775807) :
    Calls Tryd.prog 16 #[.agg (t.cells A m c B n d)] w fun e w' => e = .returned (.bool (tabB t)) ∧ Below w.heap.size w w' := by
  have HL := Lib.hid (Lay.rd_len h)
  have HL2 := Lib.hid (Lay.rd_len h2)
  have HNO := Lib.hid (fun (e : ¬ TabP t) => tabB_no e)
  have HYES := Lib.hid (tabB_iff t).2
  have HS2 := Lib.hid hs2
  clear hs2
  generalize tabB t = r at *
  have q1 := bl_al (Below.refl w.heap.size w) (.cells (t.cells A m c B n d) 28)
  have h1 := Lay.rd_below h q1
  have k1 := Lay.rd_below h2 q1
  have HB := Lib.hid (Blk.new w 28 (t.cells A m c B n d))
  have y0 := HB.out.cell 0
  go_enter Tryd.func16, Tryd.ntmps16
  go_wp2_with fail
  generalize w.alloc (.cells (t.cells A m c B n d) 28) = w1 at *
  refine (risname_any _ _ hs).mono ?_
  rintro e w2 ⟨rfl, q2⟩
  clear y0 h h2
  have HB2 := Lib.hid (HB.out.ca q2)
  have h2 := Lay.rd_below h1 q2
  have k2 := Lay.rd_below k1 q2
  have b2 := Lib.hid (bl_ca q1 q2)
  clear HB q1 q2 h1 k1
  have y1 := HB2.out.cell 1
  obtain ⟨q, hq⟩ : ∃ q, q = nameB t.name := ⟨_, rfl⟩
  rw [← hq]
  have HQ := Lib.hid hq
  clear hq
  cases q
  · have HR := Lib.hid (HNO.out (fun p => by have := p.nm; rw [← HQ.out] at this; cases this))
    go_wp2
    go_ret
    exact ⟨ret_bool HR.out.symm, b2.out⟩
  have HQ0 := Lib.hid HQ.out
  by_cases c1 : m < 1
  · have c2 : (m : Int) < 1 := by omega
    have HR := Lib.hid (HNO.out (fun p => by have := p.lo; rw [HL.out] at this; omega))
    clear c1
    go_wp2
    go_ret
    exact ⟨ret_bool HR.out.symm, b2.out⟩
  have c2 : 1 ≤ (m : Int) := by omega
  by_cases c3 : 4 < m
  · have c4 : 4 < (m : Int) := by omega
    have HR := Lib.hid (HNO.out (fun p => by have := p.hi; rw [HL.out] at this; omega))
    clear c1 c3
    go_wp2
    go_ret
    exact ⟨ret_bool HR.out.symm, b2.out⟩
  have c4 : (m : Int) ≤ 4 := by omega
  have HM := Lib.hid (show 1 ≤ m ∧ m ≤ 4 by omega)
  clear c1 c3
  go_wp2_with fail
  clear y1 c2 c4
  go_loopg [3] m (fun g a wr => ∃ i : Nat, i + g = m ∧ a = .int .i64 i ∧ (∀ (k : Nat) (c : CO), k < i → t.cols[k]? = some c → colB c = true) ∧ (∀ (p k : Nat) (a b : CO), p < k → k < i → t.cols[p]? = some a → t.cols[k]? = some b → a.name ≠ b.name) ∧ Below w.heap.size w wr ∧ Below w2.heap.size w2 wr)
  case atStart => exact ⟨0, by omega, rfl, fun k c hk => by omega, fun p k a b h1 h2 => by omega, b2.out, Below.refl _ _⟩
  case round =>
    obtain ⟨i, hig, rfl, hok, hnd, bb, b1⟩ := hrel
    have HOK := Lib.hid hok
    have HND := Lib.hid hnd
    have HBB := Lib.hid bb
    have HB3 := Lib.hid (HB2.out.ca b1)
    have h3 := Lay.rd_below h2 b1
    have k3 := Lay.rd_below k2 b1
    have HB1 := Lib.hid b1
    clear hok hnd bb b1
    have y1 := HB3.out.cell 1
    by_cases hlt : i < m
    · have hi1 : (i : Int) < (m : Int) := by omega
      obtain ⟨p, x, hAe, hx, s1⟩ := LCO_at h3 hlt
      obtain rfl : A = some p := hAe
      have e0 := s1.c0
      have e1 := s1.c1
      have HX := Lib.hid hx
      obtain ⟨xn, xk⟩ := x
      dsimp only at e0 e1
      clear hx s1
      obtain ⟨gi, rfl⟩ : ∃ g, g = gk := ⟨_, rfl⟩
      obtain ⟨w4, hw4⟩ : ∃ w4, w4 = wr.alloc (.cells #[.string xn, .int .i64 xk] 59) := ⟨_, rfl⟩
      have q4 : Below wr.heap.size wr w4 := by rw [hw4]; exact bl_al (Below.refl _ _) _
      have HX4 := Lib.hid (show Blk w4 wr.heap.size 59 #[.string xn, .int .i64 xk] from by rw [hw4]; exact Blk.new wr _ _)
      go_wp2_with fail
      rw [← hw4]
      refine (risname_any xn w4 (HS2.out i _ HX.out)).mono ?_
      rintro e w5 ⟨rfl, q5⟩
      clear hw4 e0 e1 y1
      have q45 := bl_ca q4 q5
      have HX5 := Lib.hid (HX4.out.ca q5)
      have HB5 := Lib.hid (HB3.out.ca q45)
      have h5 := Lay.rd_below h3 q45
      have HBB5 := Lib.hid (bl_ca HBB.out q45)
      have HB15 := Lib.hid (bl_ca HB1.out q45)
      clear q4 q5 q45 HX4 HB3 h3
      have z0 := HX5.out.cell 0
      have z1 := HX5.out.cell 1
      obtain ⟨q, hq⟩ : ∃ q, q = nameB xn := ⟨_, rfl⟩
      rw [← hq]
      have HQ := Lib.hid hq
      clear hq
      cases q
      · have HR := Lib.hid (HNO.out (fun p => by have := p.ok i _ HX.out; unfold colB at this; dsimp only at this; rw [← HQ.out] at this; cases this))
        go_wp2
        go_ret
        exact ⟨ret_bool HR.out.symm, HBB5.out⟩
      go_wp2_with fail
      refine (rword_any xk _).mono ?_
      rintro e w6 ⟨rfl, rfl⟩
      have hk9 := wordS_none xk
      obtain ⟨q, hq⟩ : ∃ q, q = kindB xk := ⟨_, rfl⟩
      rw [← hq] at hk9
      have HK := Lib.hid hq
      clear hq
      cases q
      · have hk8 : (wordS xk).toList.isEmpty = true := hk9
        have HR := Lib.hid (HNO.out (fun p => by have := p.ok i _ HX.out; unfold colB at this; dsimp only at this; rw [← HK.out, ← HQ.out] at this; cases this))
        clear hk9
        go_wp2
        go_ret
        exact ⟨ret_bool HR.out.symm, HBB5.out⟩
      have hk8 : (wordS xk).toList.isEmpty = false := hk9
      have HCB := Lib.hid (show colB ⟨xn, xk⟩ = true from by unfold colB; dsimp only; rw [← HK.out, ← HQ.out]; rfl)
      clear hk9 z1
      go_wp2_with fail
      clear z0 hk8
      go_loopg [5] i (fun g a wr => ∃ k : Nat, k + g = i ∧ a = .int .i64 k ∧ (∀ (j : Nat) (c : CO), j < k → t.cols[j]? = some c → c.name ≠ xn) ∧ Below w5.heap.size w5 wr)
      case atStart => exact ⟨0, by omega, rfl, fun j c hj => by omega, Below.refl _ _⟩
      case round =>
        obtain ⟨k, hkg, rfl, hne, b5⟩ := hrel
        have HNE := Lib.hid hne
        have HB6 := Lib.hid (HB5.out.ca b5)
        have HX6 := Lib.hid (HX5.out.ca b5)
        have h6 := Lay.rd_below h5 b5
        have HBB6 := Lib.hid (bl_ca HBB5.out b5)
        have HB16 := Lib.hid (bl_ca HB15.out b5)
        have HB55 := Lib.hid b5
        clear hne b5
        by_cases hlt2 : k < i
        · have hk1 : (k : Int) < (i : Int) := by omega
          have hk2 : (k : Int) < (m : Int) := by omega
          have y1 := HB6.out.cell 1
          have z0 := HX6.out.cell 0
          obtain ⟨p', x, hAe, hx, s1⟩ := LCO_at h6 (show k < m by omega)
          obtain rfl : p = p' := by injection hAe
          have e0 := s1.c0
          have HXK := Lib.hid hx
          obtain ⟨yn, yk⟩ := x
          dsimp only at e0
          clear hx s1 hAe
          go_wp2_with fail
          by_cases hq : yn = xn
          · have e1 := eqt hq
            have HR := Lib.hid (HNO.out (fun p => p.nd k i _ _ hlt2 HXK.out HX.out hq))
            clear hq
            go_quiet (fail)
            go_wp2
            go_ret
            exact ⟨ret_bool HR.out.symm, bl_dr HBB6.out _⟩
          · have e1 := eqf hq
            have HNE2 := Lib.hid (show ∀ (j : Nat) (c : CO), j < k + 1 → t.cols[j]? = some c → c.name ≠ xn from fun j c hj hc => by
              rcases Nat.lt_or_ge j k with h9 | h9
              · exact HNE.out j c h9 hc
              · obtain rfl : j = k := by omega
                have := HXK.out
                rw [hc] at this
                injection this with this
                subst this
                exact hq)
            clear hq
            go_quiet (fail)
            go_wp2
            go_roundg (gk - 1)
            · exact ⟨k + 1, by omega, by go_num, HNE2.out, bl_dr HB55.out _⟩
            · omega
        · obtain rfl : k = i := by omega
          have hk1 : (k : Int) ≤ (k : Int) := by omega
          have HOK2 := Lib.hid (show ∀ (j : Nat) (c : CO), j < k + 1 → t.cols[j]? = some c → colB c = true from fun j c hj hc => by
            rcases Nat.lt_or_ge j k with h9 | h9
            · exact HOK.out j c h9 hc
            · obtain rfl : j = k := by omega
              have := HX.out
              rw [hc] at this
              injection this with this
              subst this
              exact HCB.out)
          have HND2 := Lib.hid (show ∀ (p j : Nat) (a b : CO), p < j → j < k + 1 → t.cols[p]? = some a → t.cols[j]? = some b → a.name ≠ b.name from fun p j a b h8 hj ha hb => by
            rcases Nat.lt_or_ge j k with h9 | h9
            · exact HND.out p j a b h8 h9 ha hb
            · obtain rfl : j = k := by omega
              have := HX.out
              rw [hb] at this
              injection this with this
              subst this
              exact HNE.out p a h8 ha)
          clear hk1
          have hk1 : ((k : Int) < (k : Int)) = False := by simp
          go_wp2
          go_roundg (gi - 1)
          · exact ⟨k + 1, by omega, by go_num, HOK2.out, HND2.out, HBB6.out, HB16.out⟩
          · omega
    · obtain rfl : i = m := by omega
      have hi1 : (i : Int) ≤ (i : Int) := by omega
      have HRK := Lib.hid (show r = strictB i (-1) t.keys from by
        cases e : strictB i (-1) t.keys
        · exact HNO.out (fun p => by have := p.ks; rw [HL.out, e] at this; cases this)
        · exact HYES.out ⟨HQ0.out.symm, by rw [HL.out]; exact HM.out.1, by rw [HL.out]; exact HM.out.2, fun k c h => HOK.out k c (by rw [← HL.out]; rcases Nat.lt_or_ge k t.cols.length with h9 | h9; exact h9; rw [List.getElem?_eq_none h9] at h; cases h) h, fun p k a b h8 ha hb => HND.out p k a b h8 (by rw [← HL.out]; rcases Nat.lt_or_ge k t.cols.length with h9 | h9; exact h9; rw [List.getElem?_eq_none h9] at hb; cases hb) ha hb, by rw [HL.out]; exact e⟩)
      clear HNO HYES HOK HND h2 h3 HB1 k2 HB2 hig hlt HM
      go_wp2_with fail
      clear hi1 y1
      obtain ⟨w7, rfl⟩ : ∃ x, x = wr := ⟨_, rfl⟩
      go_loopg [6] n (fun g a wr => ∃ k : Nat, k + g = n ∧ a = .int .i64 k ∧ r = strictB i (prevK t.keys k) (t.keys.drop k) ∧ -1 ≤ prevK t.keys k ∧ Below w7.heap.size w7 wr)
      case atStart => exact ⟨0, by omega, rfl, by rw [HRK.out]; rfl, by unfold prevK; simp, Below.refl _ _⟩
      case round =>
        obtain ⟨k, hkg, rfl, hrk, hpv, b7⟩ := hrel
        have HRI := Lib.hid hrk
        have HPV := Lib.hid hpv
        have HB8 := Lib.hid (HB3.out.ca b7)
        have HBB8 := Lib.hid (bl_ca HBB.out b7)
        have HB7 := Lib.hid b7
        have k8 := Lay.rd_below k3 b7
        clear hrk hpv b7
        have y2 := HB8.out.cell 2
        by_cases hlt : k < n
        · have hk1 : (k : Int) < (n : Int) := by omega
          obtain ⟨p, x, hAe, hx, e0⟩ := LK_at k8 hlt
          obtain rfl : B = some p := hAe
          have HX := Lib.hid hx
          have HSA := Lib.hid (strict_at (n := (i : Int)) (p := prevK t.keys k) hx)
          have HPN := Lib.hid (prevK_next hx)
          clear hx
          have y1 := HB8.out.cell 1
          go_wp2_with fail
          by_cases c1 : x < 0
          · have HQ := Lib.hid (show r = false from by rw [HRI.out, HSA.out, decide_eq_false (by have := HPV.out; omega)]; rfl)
            go_quiet (fail)
            go_wp2
            go_ret
            exact ⟨ret_bool HQ.out.symm, bl_dr HBB8.out _⟩
          have c2 : decide (x < 0) = false := by simpa using c1
          have C1 := Lib.hid c1
          clear c1
          by_cases c3 : (i : Int) ≤ x
          · have HQ := Lib.hid (show r = false from by rw [HRI.out, HSA.out, decide_eq_false (show ¬ x < (i : Int) by omega)]; simp)
            go_quiet (fail)
            go_wp2
            go_ret
            exact ⟨ret_bool HQ.out.symm, bl_dr HBB8.out _⟩
          have c4 : decide ((i : Int) ≤ x) = false := by simpa using c3
          have C3 := Lib.hid c3
          clear c3
          by_cases h0 : k = 0
          · have c5 : decide (0 < k) = false := by simp; omega
            have HQ := Lib.hid (show r = strictB i (prevK t.keys (k + 1)) (t.keys.drop (k + 1)) from by
              rw [HRI.out, HSA.out, HPN.out, decide_eq_true (show x < (i : Int) by have := C3.out; omega), decide_eq_true (show prevK t.keys k < x by have := C1.out; rw [h0]; unfold prevK; simp; omega)]
              rfl)
            have HP2 := Lib.hid (show -1 ≤ prevK t.keys (k + 1) from by rw [HPN.out]; have := C1.out; omega)
            clear h0
            go_quiet (fail)
            go_wp2
            go_roundg (gk - 1)
            · exact ⟨k + 1, by omega, by go_num, HQ.out, HP2.out, bl_dr HB7.out _⟩
            · omega
          have c5 : decide (0 < k) = true := by simp; omega
          obtain ⟨j, hjk⟩ : ∃ j, k = j + 1 := ⟨k - 1, by omega⟩
          obtain ⟨p', z, hAe, hz, e1⟩ := LK_at k8 (show j < n by omega)
          obtain rfl : p = p' := by injection hAe
          have HZ := Lib.hid (show prevK t.keys k = z from by rw [hjk]; exact prevK_next hz)
          clear hAe hz h0
          have hj1 : (k : Int) - 1 = (j : Int) := by omega
          have hj2 : (j : Int) < (n : Int) := by omega
          clear hjk
          by_cases c6 : x ≤ z
          · have HQ := Lib.hid (show r = false from by rw [HRI.out, HSA.out, HZ.out, decide_eq_false (show ¬ z < x by omega)]; rfl)
            go_quiet (fail)
            go_wp2
            go_ret
            exact ⟨ret_bool HQ.out.symm, bl_dr HBB8.out _⟩
          have c7 : decide (x ≤ z) = false := by simpa using c6
          have HQ := Lib.hid (show r = strictB i (prevK t.keys (k + 1)) (t.keys.drop (k + 1)) from by
            rw [HRI.out, HSA.out, HPN.out, HZ.out, decide_eq_true (show x < (i : Int) by have := C3.out; omega), decide_eq_true (show z < x by omega)]
            rfl)
          have HP2 := Lib.hid (show -1 ≤ prevK t.keys (k + 1) from by rw [HPN.out]; have := C1.out; omega)
          clear c6
          go_quiet (fail)
          go_wp2
          go_roundg (gk - 1)
          · exact ⟨k + 1, by omega, by go_num, HQ.out, HP2.out, bl_dr HB7.out _⟩
          · omega
        · obtain rfl : k = n := by omega
          have hk1 : ((k : Int) < (k : Int)) = False := by simp
          have HQ := Lib.hid (show r = true from by rw [HRI.out, List.drop_of_length_le (by rw [HL2.out]; exact Nat.le_refl _)]; rfl)
          go_wp2
          go_ret
          exact ⟨ret_bool HQ.out.symm, HBB8.out⟩
end Go.Proofs.YthgcdilkkldgjaaDoor
