/- The reference's Right, SameTable, Same; the law's over. Conditions: the slices read so; the names are short. -/
import Derived.Test.YthgcdilkkldgjaaGreatDoorPkC4
import Derived.Deep.AppendLies
import Derived.ArgAppend
namespace Go.Proofs.YthgcdilkkldgjaaGreatDoor
open Go.RowKit
/-- the names are short -/
def Sz (t : TC) : Prop := t.name.size ≤ 100000 ∧ ∀ (k : Nat) (c : CO), t.cols[k]? = some c → c.name.size ≤ 100000
structure CatP (l : List TC) : Prop where
  hi : l.length ≤ 4
  ok : ∀ (k : Nat) (t : TC), l[k]? = some t → tabB t = true
  nd : ∀ (i k : Nat) (a b : TC), i < k → l[i]? = some a → l[k]? = some b → a.name ≠ b.name
noncomputable def catB (l : List TC) : Bool := @decide (CatP l) (Classical.propDecidable _)
theorem catB_iff (l : List TC) : catB l = true ↔ CatP l := by unfold catB; exact @decide_eq_true_iff _ (Classical.propDecidable _)
theorem catB_no {l : List TC} (h : ¬ CatP l) : catB l = false := by
  cases e : catB l
  · rfl
  · exact absurd ((catB_iff l).1 e) h
theorem at_lt {α : Type} {l : List α} {k n : Nat} {x : α} (hl : l.length = n) (h : l[k]? = some x) : k < n := by
  rcases Nat.lt_or_ge k l.length with h9 | h9
  · omega
  · rw [List.getElem?_eq_none h9] at h; cases h
theorem at_eq {α : Type} {l : List α} {k : Nat} {x y : α} (h : l[k]? = some x) (h2 : l[k]? = some y) : x = y := by rw [h] at h2; injection h2
set_option maxRecDepth 100000 in
set_option maxHeartbeats 4000000 in
theorem rcat_any (F : Nat → Prop) (l : List TC) (A : Option Addr) (m c : Nat) (w : World) (h : LT3.rd w F A m l) (hm : m ≤ 9223372036854775807) (hs : ∀ (k : Nat) (t : TC), l[k]? = some t → Sz t) :
    Calls Tryz.prog 8 #[.agg #[.slice A m c]] w fun e w' => e = .returned (.bool (catB l)) ∧ Below w.heap.size w w' := by
  have HL := Lib.hid (Lay.rd_len h)
  have HNO := Lib.hid (fun (e : ¬ CatP l) => catB_no e)
  have HYES := Lib.hid (catB_iff l).2
  have HS := Lib.hid hs
  clear hs
  generalize catB l = r at *
  have q1 := Lib.hid (bl_al (Below.refl w.heap.size w) (.cells #[.slice A m c] 24))
  have h1 := Lay.rd_below h q1.out
  have HB := Lib.hid (Blk.new w 24 #[.slice A m c])
  have y0 := HB.out.cell 0
  clear h
  go_enter Tryz.func8, Tryz.ntmps8
  by_cases c3 : 4 < m
  · have c4 : 4 < (m : Int) := by omega
    have HR := Lib.hid (HNO.out (fun p => by have := p.hi; rw [HL.out] at this; omega))
    clear c3
    go_wp2
    go_ret
    exact ⟨ret_bool HR.out.symm, q1.out⟩
  have c4 : (m : Int) ≤ 4 := by omega
  have HM := Lib.hid (show m ≤ 4 by omega)
  clear c3
  go_wp2_with fail
  clear y0 c4
  generalize w.alloc (.cells #[.slice A m c] 24) = w2 at *
  go_loopg [3] m (fun g a wr => ∃ i : Nat, i + g = m ∧ a = .int .i64 i ∧ (∀ (k : Nat) (t : TC), k < i → l[k]? = some t → tabB t = true) ∧ (∀ (p k : Nat) (a b : TC), p < k → k < i → l[p]? = some a → l[k]? = some b → a.name ≠ b.name) ∧ Below w2.heap.size w2 wr)
  case atStart => exact ⟨0, by omega, rfl, fun k c hk => by omega, fun p k a b h1 h2 => by omega, Below.refl _ _⟩
  case round =>
    obtain ⟨i, hig, rfl, hok, hnd, b1⟩ := hrel
    have HOK := Lib.hid hok
    have HND := Lib.hid hnd
    have HBB := Lib.hid (bl_ca q1.out b1)
    have HB3 := Lib.hid (HB.out.ca b1)
    have h3 := Lay.rd_below h1 b1
    have HB1 := Lib.hid b1
    clear hok hnd b1
    have y1 := HB3.out.cell 0
    by_cases hlt : i < m
    · have hi1 : (i : Int) < (m : Int) := by omega
      obtain ⟨p, t, A1, n1, c1, B1, m1, d1, hAe, hx, s1⟩ := LT3_at h3 hlt
      obtain rfl : A = some p := hAe
      have e0 := s1.c0
      have e1 := s1.c1
      have e2 := s1.c2
      have HX := Lib.hid hx
      have HST := Lib.hid s1
      have HCT := Lib.hid (rtable_any F F t A1 n1 c1 B1 m1 d1 wr s1.rd s1.rk (Nat.le_trans s1.nc s1.cm) (Nat.le_trans s1.md s1.dm) (by have := (HS.out i t hx).1; omega) (fun k c h9 => by have := (HS.out i t hx).2 k c h9; omega))
      clear hx s1
      obtain ⟨gi, rfl⟩ : ∃ g, g = gk := ⟨_, rfl⟩
      go_wp2_with fail
      refine HCT.out.mono ?_
      rintro e w5 ⟨rfl, q5⟩
      clear e1 e2 y1 HCT
      have HB5 := Lib.hid (HB3.out.ca q5)
      have h5 := Lay.rd_below h3 q5
      have HBB5 := Lib.hid (bl_ca HBB.out q5)
      have HB15 := Lib.hid (bl_ca HB1.out q5)
      clear q5 HB3 h3 e0 HST
      obtain ⟨q, hq⟩ : ∃ q, q = tabB t := ⟨_, rfl⟩
      rw [← hq]
      have HQ := Lib.hid hq
      clear hq
      cases q
      · have HR := Lib.hid (HNO.out (fun p => by have := p.ok i _ HX.out; rw [← HQ.out] at this; cases this))
        go_wp2
        go_ret
        exact ⟨ret_bool HR.out.symm, HBB5.out⟩
      go_wp2_with fail
      go_loopg [4] i (fun g a wr => ∃ k : Nat, k + g = i ∧ a = .int .i64 k ∧ (∀ (j : Nat) (c : TC), j < k → l[j]? = some c → c.name ≠ t.name) ∧ Below w5.heap.size w5 wr)
      case atStart => exact ⟨0, by omega, rfl, fun j c hj => by omega, Below.refl _ _⟩
      case round =>
        obtain ⟨k, hkg, rfl, hne, b5⟩ := hrel
        have HNE := Lib.hid hne
        have HB6 := Lib.hid (HB5.out.ca b5)
        have h6 := Lay.rd_below h5 b5
        have HBB6 := Lib.hid (bl_ca HBB5.out b5)
        have HB16 := Lib.hid (bl_ca HB15.out b5)
        have HB55 := Lib.hid b5
        clear hne b5
        by_cases hlt2 : k < i
        · have hk1 : (k : Int) < (i : Int) := by omega
          have hk2 : (k : Int) < (m : Int) := by omega
          have y1 := HB6.out.cell 0
          obtain ⟨p', x, A2, n2, c2, B2, m2, d2, hAe, hx, s1⟩ := LT3_at h6 (show k < m by omega)
          obtain rfl : p = p' := by injection hAe
          have e0 := s1.c0
          have HXK := Lib.hid hx
          clear hx s1 hAe
          obtain ⟨p', x2, A3, n3, c3, B3, m3, d3, hAe, hx, s1⟩ := LT3_at h6 hlt
          obtain rfl : p = p' := by injection hAe
          obtain rfl := at_eq hx HX.out
          have e1 := s1.c0
          clear hx s1 hAe
          go_wp2_with fail
          by_cases hq : x.name = x2.name
          · have e9 := eqt hq
            have HR := Lib.hid (HNO.out (fun p => p.nd k i _ _ hlt2 HXK.out HX.out hq))
            clear hq
            go_quiet (fail)
            go_wp2
            go_ret
            exact ⟨ret_bool HR.out.symm, bl_dr HBB6.out _⟩
          · have e9 := eqf hq
            have HNE2 := Lib.hid (show ∀ (j : Nat) (c : TC), j < k + 1 → l[j]? = some c → c.name ≠ x2.name from fun j c hj hc => by
              rcases Nat.lt_or_ge j k with h9 | h9
              · exact HNE.out j c h9 hc
              · obtain rfl : j = k := by omega
                obtain rfl := at_eq hc HXK.out
                exact hq)
            clear hq
            go_quiet (fail)
            go_wp2
            go_roundg (gk - 1)
            · exact ⟨k + 1, by omega, by go_num, HNE2.out, bl_dr HB55.out _⟩
            · omega
        · obtain rfl : k = i := by omega
          have HOK2 := Lib.hid (show ∀ (j : Nat) (c : TC), j < k + 1 → l[j]? = some c → tabB c = true from fun j c hj hc => by
            rcases Nat.lt_or_ge j k with h9 | h9
            · exact HOK.out j c h9 hc
            · obtain rfl : j = k := by omega
              obtain rfl := at_eq hc HX.out
              exact HQ.out.symm)
          have HND2 := Lib.hid (show ∀ (p j : Nat) (a b : TC), p < j → j < k + 1 → l[p]? = some a → l[j]? = some b → a.name ≠ b.name from fun p j a b h8 hj ha hb => by
            rcases Nat.lt_or_ge j k with h9 | h9
            · exact HND.out p j a b h8 h9 ha hb
            · obtain rfl : j = k := by omega
              obtain rfl := at_eq hb HX.out
              exact HNE.out p a h8 ha)
          have hk1 : ((k : Int) < (k : Int)) = False := by simp
          go_wp2
          go_roundg (gi - 1)
          · exact ⟨k + 1, by omega, by go_num, HOK2.out, HND2.out, HB16.out⟩
          · omega
    · obtain rfl : i = m := by omega
      have hi1 : (i : Int) ≤ (i : Int) := by omega
      have HR := Lib.hid (HYES.out ⟨by rw [HL.out]; exact HM.out, fun k t h => HOK.out k t (at_lt HL.out h) h, fun p k a b h8 ha hb => HND.out p k a b h8 (at_lt HL.out hb) ha hb⟩)
      go_wp2
      go_ret
      exact ⟨ret_bool HR.out.symm, HBB.out⟩
set_option maxRecDepth 100000 in
set_option maxHeartbeats 1000000 in
theorem over_any (F : Nat → Prop) (l : List TC) (A : Option Addr) (m c : Nat) (w : World) (h : LT3.rd w F A m l) (hm : m ≤ 9223372036854775807) :
    Calls Tryz.prog 5 #[.agg #[.slice A m c]] w fun e w' => e = .returned (.bool (overB l)) ∧ Below w.heap.size w w' := by
  have HL := Lib.hid (Lay.rd_len h)
  have HR := Lib.hid (show overB l = (decide (20 < l.length) || l.any largeB) from rfl)
  rw [HL.out] at HR
  generalize overB l = r at *
  have q1 := Lib.hid (bl_al (Below.refl w.heap.size w) (.cells #[.slice A m c] 24))
  have h1 := Lay.rd_below h q1.out
  have HB := Lib.hid (Blk.new w 24 #[.slice A m c])
  have y0 := HB.out.cell 0
  clear h
  go_enter Tryz.func5, Tryz.ntmps5
  by_cases c3 : 20 < m
  · have c4 : 20 < (m : Int) := by omega
    go_wp2
    go_ret
    exact ⟨ret_bool (by rw [HR.out]; simp [c3]), q1.out⟩
  have c4 : (m : Int) ≤ 20 := by omega
  have HR2 := Lib.hid (show r = l.any largeB from by rw [HR.out]; simp [c3])
  clear c3 HR
  go_wp2_with fail
  clear y0 c4
  generalize w.alloc (.cells #[.slice A m c] 24) = w2 at *
  go_loopg [12] m (fun g a wr => ∃ i : Nat, i + g = m ∧ a = .int .i64 i ∧ r = (l.drop i).any largeB ∧ Below w2.heap.size w2 wr)
  case atStart => exact ⟨0, by omega, rfl, by rw [HR2.out]; simp, Below.refl _ _⟩
  case round =>
    obtain ⟨i, hig, rfl, hri, b1⟩ := hrel
    have HRI := Lib.hid hri
    have HBB := Lib.hid (bl_ca q1.out b1)
    have HB1 := Lib.hid b1
    have h3 := Lay.rd_below h1 b1
    clear hri b1
    by_cases hlt : i < m
    · have hi1 : (i : Int) < (m : Int) := by omega
      obtain ⟨p, t, A1, n1, c1, B1, m1, d1, rfl, hx, s1⟩ := LT3_at h3 hlt
      have e0 := s1.c0
      have e1 := s1.c1
      have e2 := s1.c2
      have HA := Lib.hid (any_drop (f := largeB) hx)
      have q2 := bl_al (Below.refl wr.heap.size wr) (.cells (t.cells A1 n1 c1 B1 m1 d1) 41)
      have HCT := Lib.hid (large_any F F t A1 n1 c1 B1 m1 d1 _ (Lay.rd_below s1.rd q2) (Lay.rd_below s1.rk q2) (Nat.le_trans s1.nc s1.cm))
      have HQ2 := Lib.hid q2
      clear hx s1 h3 q2
      go_wp2_with fail
      refine HCT.out.mono ?_
      rintro e w5 ⟨rfl, q5⟩
      have HQ5 := Lib.hid (bl_ca HQ2.out q5)
      clear q5 HCT HQ2 e0 e1 e2
      obtain ⟨q, hq⟩ : ∃ q, q = largeB t := ⟨_, rfl⟩
      rw [← hq] at HA ⊢
      clear hq
      cases q
      · have HQ := Lib.hid (show r = (l.drop (i + 1)).any largeB from by rw [HRI.out, HA.out]; rfl)
        go_wp2
        go_roundg (gk - 1)
        · exact ⟨i + 1, by omega, by go_num, HQ.out, bl_ca HB1.out HQ5.out⟩
        · omega
      · have HQ := Lib.hid (show r = true from by rw [HRI.out, HA.out]; rfl)
        go_wp2
        go_ret
        exact ⟨ret_bool HQ.out.symm, bl_ca HBB.out HQ5.out⟩
    · obtain rfl : i = m := by omega
      have hi1 : (i : Int) ≤ (i : Int) := by omega
      have HQ := Lib.hid (show r = false from by rw [HRI.out, List.drop_of_length_le (by rw [HL.out]; exact Nat.le_refl _)]; rfl)
      go_wp2
      go_ret
      exact ⟨ret_bool HQ.out.symm, HBB.out⟩
end Go.Proofs.YthgcdilkkldgjaaGreatDoor
/- A region whose order Go leaves open, with any number of operations, one behind the other, that change what is known. Conditions: none. -/
namespace Go.Proofs.YthgcdilkkldgjaaGreatDoor
open Go.RowKit
def cntD (L : Array Bool) : List Nat → Nat
  | [] => 0
  | k :: ks => (if Dn L k then 1 else 0) + cntD L ks
theorem cntD_ne {L : Array Bool} {i : Nat} : ∀ {ks : List Nat}, i ∉ ks → cntD (L.setIfInBounds i true) ks = cntD L ks
  | [], _ => rfl
  | k :: ks, h => by
    simp only [List.mem_cons, not_or] at h
    unfold cntD
    rw [dn_ne (Ne.symm h.1), cntD_ne h.2]
theorem cntD_all {L : Array Bool} : ∀ {ks : List Nat}, (∀ x ∈ ks, Dn L x = true) → cntD L ks = ks.length
  | [], _ => rfl
  | k :: ks, h => by
    unfold cntD
    rw [h k (by simp), cntD_all (fun x hx => h x (by simp [hx])), if_pos rfl, List.length_cons, Nat.add_comm]
theorem cntD_none {L : Array Bool} : ∀ {ks : List Nat}, (∀ x ∈ ks, Dn L x = false) → cntD L ks = 0
  | [], _ => rfl
  | k :: ks, h => by
    unfold cntD
    rw [h k (by simp), cntD_none (fun x hx => h x (by simp [hx]))]; rfl
theorem cntD_append (L : Array Bool) : ∀ (a b : List Nat), cntD L (a ++ b) = cntD L a + cntD L b
  | [], b => by simp [cntD]
  | k :: ks, b => by
    show (if Dn L k then 1 else 0) + cntD L (ks ++ b) = (if Dn L k then 1 else 0) + cntD L ks + cntD L b
    rw [cntD_append L ks b, Nat.add_assoc]
/-- how many of ks are done says what is known -/
def SeqN (ks : List Nat) (B : Nat → (Nat → Value) → World → Prop) : Array Bool → (Nat → Value) → World → Prop := fun L m w => B (cntD L ks) m w
section
variable {ks pre post : List Nat} {k : Nat} {B : Nat → (Nat → Value) → World → Prop} {L : Array Bool} {m : Nat → Value} {w w' : World}
theorem SeqN.start {n : Nat} (h1 : (ks.all fun k => decide (k < n)) = true) (h : B 0 m w) : SeqN ks B (Array.replicate n false) m w := by
  unfold SeqN
  rw [cntD_none (fun x hx => by
    have := List.all_eq_true.1 h1 x hx
    simp only [decide_eq_true_eq] at this
    unfold Dn
    simp [this])]
  exact h
theorem SeqN.any {T : World → Prop} (t : ∀ j m w, B j m w → T w) (hS : SeqN ks B L m w) : T w := t _ _ _ hS
theorem SeqN.pass {i : Nat} (h : (ks.all fun k => k != i) = true) : Pass (SeqN ks B) i := fun L m w hS => by
  unfold SeqN at *
  rw [cntD_ne (fun hi => by have := List.all_eq_true.1 h i hi; simp at this)]
  exact hS
theorem post_no {md : Region.Mode} {ops : Array Oper} (hsh : Shut md ops L) (hun : Dn L k = false) (h : (post.all fun x => reach md ops ops.size x k) = true) : ∀ x ∈ post, Dn L x = false :=
  fun x hx => reach_no hsh (List.all_eq_true.1 h x hx) hun
theorem SeqN.at_ (pre post : List Nat) {md : Region.Mode} {ops : Array Oper} {m0 m1 : Nat → Value} (hsh : Shut md ops L) (hat : At m0 pre L m1) (hun : Dn L k = false) (hp : (post.all fun x => reach md ops ops.size x k) = true)
    (hS : SeqN (pre ++ k :: post) B L m w) : B pre.length m w := by
  unfold SeqN at hS
  rw [cntD_append, cntD_all (fun x hx => (hat x hx).1)] at hS
  unfold cntD at hS
  rw [hun, cntD_none (post_no hsh hun hp)] at hS
  exact hS
theorem SeqN.set_ (pre post : List Nat) {md : Region.Mode} {ops : Array Oper} {m0 m1 m' : Nat → Value} (hsh : Shut md ops L) (hat : At m0 pre L m1) (hun : Dn L k = false) (hp : (post.all fun x => reach md ops ops.size x k) = true)
    (h1 : (pre.all fun x => x != k) = true) (h2 : (post.all fun x => x != k) = true) (h : B (pre.length + 1) m' w') : SeqN (pre ++ k :: post) B (L.setIfInBounds k true) m' w' := by
  unfold SeqN
  rw [cntD_append, cntD_ne (fun hi => by have := List.all_eq_true.1 h1 k hi; simp at this), cntD_all (fun x hx => (hat x hx).1)]
  unfold cntD
  rw [dn_eq, cntD_ne (fun hi => by have := List.all_eq_true.1 h2 k hi; simp at this), cntD_none (post_no hsh hun hp)]
  exact h
theorem SeqN.fin (h : (ks.all fun x => Dn L x) = true) (hS : SeqN ks B L m w) : B ks.length m w := by
  unfold SeqN at hS
  rw [cntD_all (fun x hx => List.all_eq_true.1 h x hx)] at hS
  exact hS
/-- what is listed elsewhere, of which B knows nothing -/
theorem SeqN.turn {i : Nat} {v : Value} (h : (ks.all fun k => k != i) = true) (hB : ∀ j m w, B j m w → B j (upd m i v) w) (hS : SeqN ks B L m w) : SeqN ks B (L.setIfInBounds i true) (upd m i v) w := by
  have := SeqN.pass h L m w hS
  exact hB _ _ _ this
end
end Go.Proofs.YthgcdilkkldgjaaGreatDoor
/- A part of a whole variable is stored. Conditions: none. -/
namespace Go.Proofs.YthgcdilkkldgjaaGreatDoor
open Go.RowKit
def splice (cs : Array Value) (o : Nat) (vs : List Value) : Array Value := (cs.toList.take o ++ vs ++ cs.toList.drop (o + vs.length)).toArray
theorem blk_setMid {g : Nat} {t : TypeId} : ∀ (vs : List Value) (o : Nat) (w : World) (cs : List Value), Blk w g t cs.toArray → o + vs.length ≤ cs.length → Blk (w.setCells g o vs) g t (cs.take o ++ vs ++ cs.drop (o + vs.length)).toArray
  | [], o, w, cs, h, _ => by rw [World.setCells]; simpa using h
  | v :: vs, o, w, cs, h, hl => by
    rw [World.setCells]
    simp only [List.length_cons] at hl
    have h1 := h.set_ o v
    rw [List.setIfInBounds_toArray] at h1
    have h2 := blk_setMid vs (o + 1) _ _ h1 (by rw [List.length_set]; omega)
    have e : (cs.set o v).take (o + 1) ++ vs ++ (cs.set o v).drop (o + 1 + vs.length) = cs.take o ++ v :: vs ++ cs.drop (o + (v :: vs).length) := by
      rw [List.take_add_one, List.take_set, List.set_eq_of_length_le (by rw [List.length_take]; omega), List.getElem?_set_self (by omega), List.drop_set_of_lt (by omega)]
      simp only [Option.toList, List.length_cons, List.append_assoc, List.cons_append]
      rw [show o + 1 + vs.length = o + (vs.length + 1) from by omega]
      rfl
    rw [e] at h2
    exact h2
theorem there_mid {w : World} {g : Nat} {t : TypeId} {cs : Array Value} (h : Blk w g t cs) {o n : Nat} (hl : o + n ≤ cs.size) : w.there g o n := fun j hj => by
  have := there_blk h (o + j) (by omega)
  rwa [Nat.zero_add] at this
section
variable {P : Program}
theorem wpList_store_part {ops : Array Oper} {rest : List Oper} {op : Oper} {a : Act} {w : World} {Q : Exit → Act → World → Prop} (hgd : op.guard = none) (ty : TypeId) (x y : Operand) (ho : op.op = .store ty x y)
    (g o : Nat) (t : TypeId) (cs new cs' : Array Value) (hx : a.eval x = .pointer (some ⟨g, o, none⟩)) (hy : a.eval y = .agg new) (hb : Blk w g t cs) (hs : o + new.size ≤ cs.size) (hi : (P.info? ty).map (·.size) = some new.size) (h1 : new.all (·.oneCell') = true) (hc : splice cs o new.toList = cs')
    (h : ∀ w', Blk w' g t cs' → w.grownBy w' (some g) → wpList P ops Q rest (a.put op.dst undef) w') : wpList P ops Q (op :: rest) a w :=
  wpList_store_mid hgd ty x y ho g o new hx hy (there_mid hb hs) hi h1 (h _ (by rw [← hc]; exact blk_setMid new.toList o w cs.toList (by simpa using hb) (by simpa using hs)) (grown_setCells _ _ _ (World.grownBy.refl w _)))
theorem exec_store_part {o : Oper} {a : Act} {w : World} (ty : TypeId) (x y : Operand) (ho : o.op = .store ty x y) (g k : Nat) (t : TypeId) (cs new cs' : Array Value) (hx : a.eval x = .pointer (some ⟨g, k, none⟩)) (hy : a.eval y = .agg new) (hb : Blk w g t cs) (hs : k + new.size ≤ cs.size)
    (hi : (P.info? ty).map (·.size) = some new.size) (h1 : new.all (·.oneCell') = true) (hc : splice cs k new.toList = cs') : ∃ w', (execOp a.eval o).run P w = .ok .skip w' ∧ Blk w' g t cs' ∧ w.grownBy w' (some g) := by
  refine ⟨w.setCells g k new.toList, ?_, ?_, grown_setCells _ _ _ (World.grownBy.refl w _)⟩
  · unfold execOp
    simp only [ho, hx, hy, Instr.storeAt, Instr.sureAddr, Sem.run_bind, Sem.run_pure, Result.andThen_ok, run_storeVar_mid w g k ty new (there_mid hb hs) hi h1]
  · rw [← hc]; exact blk_setMid new.toList k w cs.toList (by simpa using hb) (by simpa using hs)
end
end Go.Proofs.YthgcdilkkldgjaaGreatDoor
/- append(out, x) of whatever data in a region that draws its order; the memory that changes. Conditions: none. -/
namespace Go.Proofs.YthgcdilkkldgjaaGreatDoor
open Go.RowKit
section
variable {α : Type} {L : Lay α} {e : TypeId} {P : Program}
theorem run_appL {w : World} (t ty : TypeId)
    (z : Value) (k bytes : Nat) (ht : P.underlying t = some (.slice e)) (hi : (P.info? e).map (fun i => (i.zero, i.size, i.bytes)) = some (some z, k, bytes)) (hk : L.size = k) (hzs : z.cells.size = k) (hk0 : 0 < k)
    (B : Nat) (G : Nat → Prop) (A : Option Addr) (n c : Nat) (xs : List α) (g c2 : Nat) (t' : TypeId) (vs : Array Value) (y : α)
    (hown : L.own e w B G A n c xs) (hr : Blk w g t' vs)
    (hy : L.rep w (fun b => G b ∧ (Value.slice A n c).ownBlock ≠ some b) y vs.toList) (hG : ∀ b, G b → b < w.heap.size) (hb : (n + 1) * bytes ≤ 140737488355328) (hn : n + 1 ≤ maxLen) (hB : B ≤ w.heap.size) :
    ∃ A' c' w', (Builtin.append_ #[t, t] ty #[.slice A n c, .slice (some ⟨g, 0, none⟩) 1 c2]).run P w = .ok (.slice A' (n + 1) c') w' ∧ L.own e w' B G A' (n + 1) c' (xs ++ [y]) ∧ w.grownBy w' (Value.slice A n c).ownBlock ∧ ((Value.slice A' (n + 1) c').ownBlock = (Value.slice A n c).ownBlock ∨ (Value.slice A' (n + 1) c').ownBlock = some w.heap.size) := by
  obtain ⟨hl, cs, hreps, hrow⟩ := hown
  obtain ⟨i0, hi0, hz0, hz1, hz2⟩ := info_parts hi
  subst hk
  have hR := reads_blk (s := L.size) (m := 1) hr rfl (by rw [L.len hy]; omega)
  obtain ⟨ad, e1, _, hcl⟩ := hR.2 (by omega)
  injection e1 with e1
  subst e1
  obtain ⟨g8, c8, w8, hrun, hown', hgr, hat, _⟩ := run_append_lies (P := P) (w := w) t ty B e i0 _ L.size bytes ht hi0 hz0 hz1 hz2 hzs hk0 (.slice A n c) n cs hrow ⟨g, 0, none⟩ 1 c2 vs.toList (by rw [L.len hy]; omega) hcl (L.one hy) (by omega) hn hb hB w.heap.size rfl
  have hat' : (Value.slice (some ⟨g8, 0, none⟩) (n + 1) c8).ownBlock = (Value.slice A n c).ownBlock ∨ (Value.slice (some ⟨g8, 0, none⟩) (n + 1) c8).ownBlock = some w.heap.size := by
    rcases hat with h | h
    · exact .inl (by rw [h]; simp [Value.ownBlock])
    · exact .inr (by rw [h]; simp [Value.ownBlock])
  have hne : ∀ b, G b → (Value.slice A n c).ownBlock ≠ some b → (Value.slice (some ⟨g8, 0, none⟩) (n + 1) c8).ownBlock ≠ some b := fun b hb hne => by
    rcases hat' with hat | hat
    · rw [hat]; exact hne
    · rw [hat]; intro e; injection e with e; have := hG b hb; omega
  have hkeep : ∀ b, (G b ∧ (Value.slice A n c).ownBlock ≠ some b) → b < w.heap.size → w8.heap[b]? = w.heap[b]? := fun b hb hlt => hgr.block b hlt (fun e => hb.2 e.symm)
  exact ⟨some ⟨g8, 0, none⟩, c8, w8, hrun, ⟨by rw [List.length_append, hl]; rfl, cs ++ vs.toList, Lay.reps_append (Lay.reps_weak (fun b hb _ => ⟨hb.1, hne b hb.1 hb.2⟩) (Lay.reps_keep hkeep hreps)) (Lay.reps_single (L.weak (fun b hb _ => ⟨hb.1, hne b hb.1 hb.2⟩) (L.keep hkeep hy))), hown'⟩, hgr, hat'⟩
end
theorem Lay.reads {α : Type} {L : Lay α} {w : World} {F : Nat → Prop} {A : Option Addr} {m : Nat} {ys : List α} (h : L.rd w F A m ys) : ∃ cs, L.reps w F ys cs ∧ Reads w w.heap.size L.size A m cs := by
  obtain ⟨hl, cs, hr, hc⟩ := h
  refine ⟨cs, hr, by rw [Lay.reps_len hr, hl], fun hn => ?_⟩
  obtain ⟨ad, e, hb, _, hh⟩ := hc hn
  exact ⟨ad, e, hb, hh⟩
theorem wpList_appLs {α : Type} {L : Lay α} {e : TypeId} {P : Program} {ops : Array Oper} {rest : List Oper} {o : Oper} {a : Act} {w : World} {Q : Exit → Act → World → Prop} (hgd : o.guard = none) (s x : Operand) (t : TypeId)
    (ho : o.op = .call { callee := .builtin .append, args := #[s, x], argTypes := #[t, t] })
    (z : Value) (k bytes : Nat) (ht : P.underlying t = some (.slice e)) (hi : (P.info? e).map (fun i => (i.zero, i.size, i.bytes)) = some (some z, k, bytes)) (hk : L.size = k) (hzs : z.cells.size = k) (hk0 : 0 < k)
    (B : Nat) (G F : Nat → Prop) (A : Option Addr) (n c : Nat) (xs : List α) (A2 : Option Addr) (m c2 : Nat) (ys : List α) (k2 : Nat) (hk2 : k2 = n + m)
    (hs : a.eval s = .slice A n c) (hx : a.eval x = .slice A2 m c2) (hown : L.own e w B G A n c xs) (hr : L.rd w F A2 m ys)
    (hFG : ∀ b, F b → b < w.heap.size → G b ∧ (Value.slice A n c).ownBlock ≠ some b) (hG : ∀ b, G b → b < w.heap.size) (hb : (n + m) * bytes ≤ 140737488355328) (hn : n + m ≤ maxLen) (hB : B ≤ w.heap.size)
    (h : ∀ A' c' w', L.own e w' B G A' k2 c' (xs ++ ys) → w.grownBy w' (Value.slice A n c).ownBlock → ((Value.slice A' k2 c').ownBlock = (Value.slice A n c).ownBlock ∨ (Value.slice A' k2 c').ownBlock = some w.heap.size) → wpList P ops Q rest (a.put o.dst (.slice A' k2 c')) w') : wpList P ops Q (o :: rest) a w := by
  subst hk2
  obtain ⟨hl, cs, hreps, hrow⟩ := hown
  obtain ⟨ds, hys, hrd⟩ := Lay.reads hr
  obtain ⟨i0, hi0, hz0, hz1, hz2⟩ := info_parts hi
  subst hk
  have hyl := Lay.rd_len hr
  refine wpList_append_any w hgd s x t ho B e i0 _ L.size bytes ht hi0 hz0 hz1 hz2 hzs hk0 (.slice A n c) n cs hs hrow w.heap.size A2 m c2 ds hx hrd (Lay.reps_one hys) hn hb hB ?_
  intro v' w' hown' hg hat
  obtain ⟨A', c', rfl⟩ := own_form' hown'
  have hne : ∀ b, G b → (Value.slice A n c).ownBlock ≠ some b → (Value.slice A' (n + m) c').ownBlock ≠ some b := fun b hb hne => by
    rcases hat with hat | hat
    · rw [hat]; exact hne
    · rw [hat]; intro e; injection e with e; have := hG b hb; omega
  have hkeep : ∀ b, (G b ∧ (Value.slice A n c).ownBlock ≠ some b) → b < w.heap.size → w'.heap[b]? = w.heap[b]? := fun b hb hlt => hg.block b hlt (fun e => hb.2 e.symm)
  have hys2 := Lay.reps_keep hkeep (Lay.reps_weak hFG hys)
  exact h A' c' w' ⟨by rw [List.length_append, hl, hyl], cs ++ ds, Lay.reps_append (Lay.reps_weak (fun b hb _ => ⟨hb.1, hne b hb.1 hb.2⟩) (Lay.reps_keep hkeep hreps)) (Lay.reps_weak (fun b hb _ => ⟨hb.1, hne b hb.1 hb.2⟩) hys2), hown'⟩ hg hat
/-- a literal without elements -/
theorem Lay.own_empty {α : Type} (L : Lay α) (w : World) (e : TypeId) (G : Nat → Prop) (_hz : 0 < L.size) : L.own e (w.alloc (.cells #[] e)) w.heap.size G (some ⟨w.heap.size, 0, none⟩) 0 0 [] :=
  ⟨rfl, [], rfl, by simp, .inr ⟨w.heap.size, 0, #[], rfl, Nat.le_refl _, heap_alloc_new w _, Nat.le_refl _, by decide, by simp, by simp⟩⟩
theorem run_appLs {α : Type} {L : Lay α} {e : TypeId} {P : Program} {w : World} (t ty : TypeId)
    (z : Value) (k bytes : Nat) (ht : P.underlying t = some (.slice e)) (hi : (P.info? e).map (fun i => (i.zero, i.size, i.bytes)) = some (some z, k, bytes)) (hk : L.size = k) (hzs : z.cells.size = k) (hk0 : 0 < k)
    (B : Nat) (G F : Nat → Prop) (A : Option Addr) (n c : Nat) (xs : List α) (A2 : Option Addr) (m c2 : Nat) (ys : List α)
    (hown : L.own e w B G A n c xs) (hr : L.rd w F A2 m ys)
    (hFG : ∀ b, F b → b < w.heap.size → G b ∧ (Value.slice A n c).ownBlock ≠ some b) (hG : ∀ b, G b → b < w.heap.size) (hb : (n + m) * bytes ≤ 140737488355328) (hn : n + m ≤ maxLen) (hB : B ≤ w.heap.size) :
    ∃ A' c' w', (Builtin.append_ #[t, t] ty #[.slice A n c, .slice A2 m c2]).run P w = .ok (.slice A' (n + m) c') w' ∧ L.own e w' B G A' (n + m) c' (xs ++ ys) ∧ w.grownBy w' (Value.slice A n c).ownBlock := by
  obtain ⟨hl, cs, hreps, hrow⟩ := hown
  obtain ⟨ds, hys, hrd⟩ := Lay.reads hr
  obtain ⟨i0, hi0, hz0, hz1, hz2⟩ := info_parts hi
  subst hk
  have hyl := Lay.rd_len hr
  obtain ⟨v', w', hrun, hown', hg, hat⟩ := run_append_any (P := P) w B t ty e i0 _ L.size bytes ht hi0 hz0 hz1 hz2 hzs hk0 (.slice A n c) n cs hrow w.heap.size A2 m c2 ds hrd (Lay.reps_one hys) hn hb hB
  obtain ⟨A', c', rfl⟩ := own_form' hown'
  have hne : ∀ b, G b → (Value.slice A n c).ownBlock ≠ some b → (Value.slice A' (n + m) c').ownBlock ≠ some b := fun b hb hne => by
    rcases hat with hat | hat
    · rw [hat]; exact hne
    · rw [hat]; intro e; injection e with e; have := hG b hb; omega
  have hkeep : ∀ b, (G b ∧ (Value.slice A n c).ownBlock ≠ some b) → b < w.heap.size → w'.heap[b]? = w.heap[b]? := fun b hb hlt => hg.block b hlt (fun e => hb.2 e.symm)
  have hys2 := Lay.reps_keep hkeep (Lay.reps_weak hFG hys)
  exact ⟨A', c', w', hrun, ⟨by rw [List.length_append, hl, hyl], cs ++ ds, Lay.reps_append (Lay.reps_weak (fun b hb _ => ⟨hb.1, hne b hb.1 hb.2⟩) (Lay.reps_keep hkeep hreps)) (Lay.reps_weak (fun b hb _ => ⟨hb.1, hne b hb.1 hb.2⟩) hys2), hown'⟩, hg⟩
theorem ownsRow_same {w w' : World} {B s n : Nat} {e : TypeId} {v : Value} {xs : List Value} (h : w.ownsRow B e s v n xs) (hk : ∀ k, v.ownBlock = some k → w'.heap[k]? = w.heap[k]?) : w'.ownsRow B e s v n xs := by
  refine ⟨h.1, ?_⟩
  rcases h.2 with h2 | ⟨g, cap, cur, rfl, hg, hh, r⟩
  · exact .inl h2
  · exact .inr ⟨g, cap, cur, rfl, hg, (hk g (by simp [Value.ownBlock])).trans hh, r⟩
theorem Lay.own_same {α : Type} {L : Lay α} {e : TypeId} {w w' : World} {B n c : Nat} {G : Nat → Prop} {A : Option Addr} {xs : List α} (h : L.own e w B G A n c xs) (hk : ∀ k, (Value.slice A n c).ownBlock = some k → w'.heap[k]? = w.heap[k]?) (hG : ∀ b, G b → (Value.slice A n c).ownBlock ≠ some b → b < w.heap.size → w'.heap[b]? = w.heap[b]?) : L.own e w' B G A n c xs := by
  obtain ⟨hl, cs, hr, ho⟩ := h
  exact ⟨hl, cs, Lay.reps_keep (fun b hb hlt => hG b hb.1 hb.2 hlt) hr, ownsRow_same ho hk⟩
theorem Lay.own_base {α : Type} {L : Lay α} {e : TypeId} {w : World} {B n c : Nat} {G : Nat → Prop} {A : Option Addr} {xs : List α} (h : L.own e w B G A n c xs) : ∀ k, (Value.slice A n c).ownBlock = some k → B ≤ k ∧ k < w.heap.size := by
  obtain ⟨hl, cs, hr, ho⟩ := h
  exact own_base' ho
theorem Lay.own_caps {α : Type} {L : Lay α} {e : TypeId} {w : World} {B n c : Nat} {G : Nat → Prop} {A : Option Addr} {xs : List α} (h : L.own e w B G A n c xs) : n ≤ c ∧ c ≤ 9223372036854775807 := by
  obtain ⟨hl, cs, hr, ho⟩ := h
  rcases ho.2 with ⟨e, _⟩ | ⟨g, cap, _, e, _, _, h1, h2, _⟩
  · injection e with _ e1 e2; omega
  · injection e with _ _ e2; unfold maxLen at h2; omega
/-- from w to w' at most blocks of X change -/
structure Chg (X : Nat → Prop) (w w' : World) : Prop where
  os : w'.os = w.os
  tape : w'.tape = w.tape
  output : w'.output = w.output
  size : w.heap.size ≤ w'.heap.size
  block : ∀ b, b < w.heap.size → ¬ X b → w'.heap[b]? = w.heap[b]?
theorem Chg.refl (X : Nat → Prop) (w : World) : Chg X w w := ⟨rfl, rfl, rfl, Nat.le_refl _, fun _ _ _ => rfl⟩
theorem Chg.below {X : Nat → Prop} {w w1 w2 : World} {B : Nat} (h : Chg X w w1) (q : Below B w1 w2) (hB : w.heap.size ≤ B) : Chg X w w2 :=
  ⟨q.os.trans h.os, q.tape.trans h.tape, q.output.trans h.output, Nat.le_trans h.size q.size, fun b hb hx => (q.block b (by omega)).trans (h.block b hb hx)⟩
theorem Chg.of_below {X : Nat → Prop} {w w1 : World} (q : Below w.heap.size w w1) : Chg X w w1 := (Chg.refl X w).below q (Nat.le_refl _)
theorem Chg.grown {X : Nat → Prop} {w w1 w2 : World} {r : Option Nat} (h : Chg X w w1) (hg : w1.grownBy w2 r) (hr : ∀ k, r = some k → X k ∨ w.heap.size ≤ k) : Chg X w w2 :=
  ⟨hg.os.trans h.os, hg.tape.trans h.tape, hg.output.trans h.output, Nat.le_trans h.size hg.size, fun b hb hx => (hg.block b (Nat.lt_of_lt_of_le hb h.size) (fun e => by rcases hr b e.symm with h9 | h9; exact hx h9; omega)).trans (h.block b hb hx)⟩
theorem Chg.trans {X : Nat → Prop} {w w1 w2 : World} (h : Chg X w w1) (k : Chg X w1 w2) : Chg X w w2 :=
  ⟨k.os.trans h.os, k.tape.trans h.tape, k.output.trans h.output, Nat.le_trans h.size k.size, fun b hb hx => (k.block b (Nat.lt_of_lt_of_le hb h.size) hx).trans (h.block b hb hx)⟩
theorem Chg.weak {X Y : Nat → Prop} {w w1 : World} (h : Chg X w w1) (hxy : ∀ b, b < w.heap.size → X b → Y b) : Chg Y w w1 := ⟨h.os, h.tape, h.output, h.size, fun b hb hy => h.block b hb (fun hx => hy (hxy b hb hx))⟩
theorem Chg.bel {X : Nat → Prop} {w0 w w' : World} {B : Nat} (h : Below B w0 w) (k : Chg X w w') (hX : ∀ b, b < w.heap.size → X b → B ≤ b) (hB : B ≤ w.heap.size) : Below B w0 w' :=
  ⟨k.os.trans h.os, k.tape.trans h.tape, k.output.trans h.output, Nat.le_trans h.size k.size, fun b hb => (k.block b (by omega) (fun hx => by have := hX b (by omega) hx; omega)).trans (h.block b hb)⟩
theorem Blk.chg {X : Nat → Prop} {w w' : World} {g : Nat} {t : TypeId} {cs : Array Value} (h : Blk w g t cs) (k : Chg X w w') (hx : ¬ X g) : Blk w' g t cs := (k.block g h.lt hx).trans h
theorem rd_chg {α : Type} {L : Lay α} {X F : Nat → Prop} {w w' : World} {A : Option Addr} {m : Nat} {xs : List α} (h : L.rd w F A m xs) (k : Chg X w w') (hF : ∀ b, F b → b < w.heap.size → ¬ X b) : L.rd w' F A m xs :=
  Lay.rd_keep (fun b hb hl => k.block b hl (hF b hb hl)) h
theorem ce {w w' : World} {a : Addr} {v : Value} (e : w.cell? a = some v) (b : Below w.heap.size w w') : w'.cell? a = some v := (b.cell (World.block_lt_of_cell? w a e)).trans e
theorem rd_grownH {α : Type} {L : Lay α} {w w' : World} {F : Nat → Prop} {A : Option Addr} {n g : Nat} {xs : List α} (h : L.rd w F A n xs) (q : w.grownBy w' (some g)) (hF : ∀ b, F b → b ≠ g) : L.rd w' F A n xs := Lay.rd_keep (fun b hb hl => q.block b hl (fun e => by injection e with e; exact hF b hb e)) h
theorem own_grownH {α : Type} {L : Lay α} {e : TypeId} {w w' : World} {B n c g : Nat} {G : Nat → Prop} {A : Option Addr} {xs : List α} (h : L.own e w B G A n c xs) (q : w.grownBy w' (some g)) (hg : g < B) (hF : ∀ b, G b → b ≠ g) : L.own e w' B G A n c xs :=
  Lay.own_same h (fun k e => q.block k (Lay.own_base h k e).2 (fun e2 => by injection e2 with e2; have := (Lay.own_base h k e).1; omega)) (fun b hb _ hl => q.block b hl (fun e2 => by injection e2 with e2; exact hF b hb e2))
theorem SeqN.z01 {k1 k2 k3 : Nat} {B : Nat → (Nat → Value) → World → Prop} {L : Array Bool} {m : Nat → Value} {w : World} {md : Region.Mode} {ops : Array Oper} {T : World → Prop} (hsh : Shut md ops L) (h2 : Dn L k2 = false) (hr : ([k3].all fun x => reach md ops ops.size x k2) = true)
    (t0 : ∀ m w, B 0 m w → T w) (t1 : ∀ m w, B 1 m w → T w) (hS : SeqN [k1, k2, k3] B L m w) : T w := by
  have hn := post_no hsh h2 hr
  unfold SeqN cntD cntD at hS
  rw [h2, cntD_none hn] at hS
  cases h7 : Dn L k1
  · rw [h7] at hS; exact t0 _ _ hS
  · rw [h7] at hS; exact t1 _ _ hS
theorem Chg.of_grown {w w1 : World} {row : Option Nat} (h : w.grownBy w1 row) : Chg (fun k => row = some k) w w1 := ⟨h.os, h.tape, h.output, h.size, fun b hb hx => h.block b hb (fun e => hx e.symm)⟩
theorem Chg.trans' {X Z : Nat → Prop} {w w1 w2 : World} (h : Chg X w w1) (k : Chg Z w1 w2) (hz : ∀ b, b < w.heap.size → Z b → X b) : Chg X w w2 :=
  ⟨k.os.trans h.os, k.tape.trans h.tape, k.output.trans h.output, Nat.le_trans h.size k.size, fun b hb hx => (k.block b (Nat.lt_of_lt_of_le hb h.size) (fun e => hx (hz b hb e))).trans (h.block b hb hx)⟩
theorem cntD_lt {L : Array Bool} {k : Nat} : ∀ {ks : List Nat}, k ∈ ks → Dn L k = false → cntD L ks < ks.length
  | [], h, _ => by cases h
  | j :: ks, h, hd => by
    have hle : ∀ l : List Nat, cntD L l ≤ l.length := fun l => by
      induction l with
      | nil => exact Nat.le_refl _
      | cons a l ih => unfold cntD; rw [List.length_cons]; split <;> omega
    unfold cntD
    rw [List.length_cons]
    rcases List.mem_cons.1 h with rfl | h
    · rw [hd]; have := hle ks; simp; omega
    · have := cntD_lt h hd; split <;> omega
theorem SeqN.zero {ks : List Nat} {B : Nat → (Nat → Value) → World → Prop} {L : Array Bool} {m : Nat → Value} {w : World} (h : ∀ x ∈ ks, Dn L x = false) (hS : SeqN ks B L m w) : B 0 m w := by
  unfold SeqN at hS
  rw [cntD_none h] at hS
  exact hS
theorem SeqN.lt {T : World → Prop} {ks : List Nat} {k : Nat} {B : Nat → (Nat → Value) → World → Prop} {L : Array Bool} {m : Nat → Value} {w : World} (hk : k ∈ ks) (hd : Dn L k = false) (t : ∀ j m w, j < ks.length → B j m w → T w) (hS : SeqN ks B L m w) : T w := t _ _ _ (cntD_lt hk hd) hS
theorem Lay.own_rd2 {α : Type} {L : Lay α} {e : TypeId} {w : World} {B n c : Nat} {G F : Nat → Prop} {A : Option Addr} {xs : List α} (h : L.own e w B G A n c xs) (hB : ∀ b, (Value.slice A n c).ownBlock = some b → F b) (hG : ∀ b, G b → b < w.heap.size → F b) : L.rd w F A n xs := by
  obtain ⟨hl, cs, hr, ho⟩ := h
  refine ⟨hl, cs, Lay.reps_weak (fun b hb hl => hG b hb.1 hl) hr, fun hn => ?_⟩
  obtain ⟨g, cap, hv, _, hlt⟩ := ho.form hn
  have hA : A = some ⟨g, 0, none⟩ := by injection hv
  subst hA
  exact ⟨_, rfl, hlt, hB g (by rw [hv]; simp [Value.ownBlock]), ho.cells (g := g) rfl⟩
/-- append([]T{}, src...) at a fresh row of no room: new memory alone -/
theorem run_append_copy {α : Type} {L : Lay α} {e : TypeId} {P : Program} {w : World} (t ty : TypeId)
    (z : Value) (k bytes : Nat) (ht : P.underlying t = some (.slice e)) (hi : (P.info? e).map (fun i => (i.zero, i.size, i.bytes)) = some (some z, k, bytes)) (hk : L.size = k) (hzs : z.cells.size = k) (hk0 : 0 < k)
    (hfree : ∀ (w w' : World) (F G : Nat → Prop) (ys : List α) (cs : List Value), L.reps w F ys cs → L.reps w' G ys cs)
    (g : Nat) (F : Nat → Prop) (A2 : Option Addr) (m c2 : Nat) (ys : List α) (hr : L.rd w F A2 m ys) (hb : m * bytes ≤ 140737488355328) (hn : m ≤ maxLen) :
    ∃ A' c' w', (Builtin.append_ #[t, t] ty #[.slice (some ⟨g, 0, none⟩) 0 0, .slice A2 m c2]).run P w = .ok (.slice A' m c') w' ∧ L.rd w' (fun b => w.heap.size ≤ b) A' m ys ∧ Below w.heap.size w w' ∧ m ≤ c' ∧ c' ≤ 9223372036854775807 := by
  obtain ⟨i0, hi0, hz0, hz1, hz2⟩ := info_parts hi
  subst hk
  rcases Nat.eq_zero_or_pos m with h0 | h0
  · subst h0
    obtain rfl : ys = [] := List.eq_nil_of_length_eq_zero (Lay.rd_len hr)
    refine ⟨some ⟨g, 0, none⟩, 0, w, ?_, Lay.rd_nil _, Below.refl _ _, Nat.le_refl _, by omega⟩
    cases A2 <;> simp [Builtin.append_, run_underlying ht, sizeOf, typeInfo, hi0, Builtin.lenOf, Builtin.firstCells, storeCells, loadCells, loadCellsFrom, Sem.run_pure]
  · obtain ⟨ds, hys, hrd⟩ := Lay.reads hr
    obtain ⟨ad, rfl, _, hc⟩ := hrd.2 h0
    obtain ⟨v', w', hrun, r1, r2⟩ := run_append_arg_grows (P := P) w t ty e i0 z L.size bytes ht hi0 hz0 hz1 hz2 hzs hk0 ⟨g, 0, none⟩ 0 0 [] (by simp) (fun j u hu => by simp at hu) ad m c2 ds hrd.1 hc (by omega) (by rw [Nat.zero_add]; exact hn) (by rw [Nat.zero_add]; exact hb)
    rw [Nat.zero_add, List.nil_append] at r1
    obtain ⟨A', c', rfl⟩ := own_form' r1
    have hown : L.own e w' w.heap.size (fun _ => False) A' m c' ys := ⟨Lay.rd_len hr, ds, hfree _ _ _ _ _ _ hys, r1⟩
    refine ⟨A', c', w', hrun, Lay.own_rd2 hown (fun b e => (Lay.own_base hown b e).1) (fun b hb _ => hb.elim), ?_, (Lay.own_caps hown).1, (Lay.own_caps hown).2⟩
    exact ⟨r2.os, r2.tape, r2.output, r2.size, fun b hb => r2.block b hb (by simp)⟩
theorem wpList_appC {α : Type} {L : Lay α} {e : TypeId} {P : Program} {ops : Array Oper} {rest : List Oper} {o : Oper} {a : Act} {w : World} {Q : Exit → Act → World → Prop} (hgd : o.guard = none) (s x : Operand) (t : TypeId)
    (ho : o.op = .call { callee := .builtin .append, args := #[s, x], argTypes := #[t, t] })
    (z : Value) (k bytes : Nat) (ht : P.underlying t = some (.slice e)) (hi : (P.info? e).map (fun i => (i.zero, i.size, i.bytes)) = some (some z, k, bytes)) (hk : L.size = k) (hzs : z.cells.size = k) (hk0 : 0 < k)
    (hfree : ∀ (w w' : World) (F G : Nat → Prop) (ys : List α) (cs : List Value), L.reps w F ys cs → L.reps w' G ys cs)
    (g : Nat) (F : Nat → Prop) (A2 : Option Addr) (m c2 : Nat) (ys : List α) (hs : a.eval s = .slice (some ⟨g, 0, none⟩) 0 0) (hx : a.eval x = .slice A2 m c2) (hr : L.rd w F A2 m ys) (hb : m * bytes ≤ 140737488355328) (hn : m ≤ maxLen)
    (h : ∀ A' c' w', L.rd w' (fun b => w.heap.size ≤ b) A' m ys → Below w.heap.size w w' → m ≤ c' → c' ≤ 9223372036854775807 → wpList P ops Q rest (a.put o.dst (.slice A' m c')) w') : wpList P ops Q (o :: rest) a w := by
  obtain ⟨A', c', w', hrun, h1, h2, h3, h4⟩ := run_append_copy (P := P) (w := w) t o.type z k bytes ht hi hk hzs hk0 hfree g F A2 m c2 ys hr hb hn
  refine wpList_plain hgd fun _ hK => ?_
  unfold Oper.wp execOp
  simp only [ho, resolve, invoke, builtin, Sem.run_bind, Sem.run_pure, Result.andThen_ok, List.map_toArray, List.map_cons, List.map_nil, hs, hx, hrun]
  exact hK _ _ (h A' c' w' h1 h2 h3 h4)
theorem SeqN.z012 {k1 k2 k3 k4 : Nat} {B : Nat → (Nat → Value) → World → Prop} {L : Array Bool} {m : Nat → Value} {w : World} {md : Region.Mode} {ops : Array Oper} {T : World → Prop} (hsh : Shut md ops L) (h3 : Dn L k3 = false) (hr : ([k4].all fun x => reach md ops ops.size x k3) = true)
    (t0 : ∀ m w, B 0 m w → T w) (t1 : ∀ m w, B 1 m w → T w) (t2 : ∀ m w, B 2 m w → T w) (hS : SeqN [k1, k2, k3, k4] B L m w) : T w := by
  have hn := post_no hsh h3 hr
  unfold SeqN cntD cntD cntD at hS
  rw [h3, cntD_none hn] at hS
  cases h7 : Dn L k1 <;> cases h8 : Dn L k2 <;> rw [h7, h8] at hS
  · exact t0 _ _ hS
  · exact t1 _ _ hS
  · exact t1 _ _ hS
  · exact t2 _ _ hS
theorem ownsRow_less {w : World} {B B' s n : Nat} {e : TypeId} {v : Value} {xs : List Value} (h : w.ownsRow B e s v n xs) (hB : B' ≤ B) : w.ownsRow B' e s v n xs := by
  refine ⟨h.1, ?_⟩
  rcases h.2 with h2 | ⟨g, cap, cur, rfl, hg, r⟩
  · exact .inl h2
  · exact .inr ⟨g, cap, cur, rfl, Nat.le_trans hB hg, r⟩
theorem Lay.own_less {α : Type} {L : Lay α} {e : TypeId} {w : World} {B B' n c : Nat} {G : Nat → Prop} {A : Option Addr} {xs : List α} (h : L.own e w B G A n c xs) (hB : B' ≤ B) : L.own e w B' G A n c xs := by
  obtain ⟨hl, cs, hr, ho⟩ := h
  exact ⟨hl, cs, hr, ownsRow_less ho hB⟩
end Go.Proofs.YthgcdilkkldgjaaGreatDoor
/- The reference's SameTable, Same. Conditions: the slices read so. -/
namespace Go.Proofs.YthgcdilkkldgjaaGreatDoor
open Go.RowKit
def eqCO (a b : CO) : Bool := a.name.toList == b.name.toList && a.kind == b.kind
theorem eqCO_dec (a b : CO) : eqCO a b = decide (a = b) := by
  rw [Bool.eq_iff_iff, decide_eq_true_eq]
  unfold eqCO
  rw [seq_iff, Bool.and_eq_true, decide_eq_true_eq, beq_iff_eq]
  cases a; cases b; simp
theorem run_eqCO (a b : CO) : ∀ W, (Op.equalIn 10000 71 (.agg #[.string a.name, .int .i64 a.kind]) (.agg #[.string b.name, .int .i64 b.kind])).run Tryz.prog W = .ok (decide (a = b)) W := by
  intro W
  rw [← eqCO_dec]
  unfold eqCO
  rw [run_equalIn_agg W 9999 _ _ _ (by kernel_rfl) (by kernel_rfl)]
  go_simp
  by_cases h1 : a.kind = b.kind <;> by_cases h4 : a.name.toList = b.name.toList <;> simp [h1, h4]
theorem list_ext_lt {α : Type} {a b : List α} {n : Nat} (ha : a.length = n) (hb : b.length = n) (h : ∀ (k : Nat) (x y : α), k < n → a[k]? = some x → b[k]? = some y → x = y) : a = b := by
  refine List.ext_getElem (by omega) fun k h1 h2 => h k _ _ (by omega) (List.getElem?_eq_getElem h1) (List.getElem?_eq_getElem h2)
set_option maxRecDepth 100000 in
set_option maxHeartbeats 4000000 in
theorem rsamet_any (F G : Nat → Prop) (s t : TC) (A : Option Addr) (m c : Nat) (B : Option Addr) (n d : Nat) (A2 : Option Addr) (m2 c2 : Nat) (B2 : Option Addr) (n2 d2 : Nat) (w : World) (h : LCO.rd w F A m s.cols) (k : LK.rd w F B n s.keys) (h2 : LCO.rd w G A2 m2 t.cols) (k2 : LK.rd w G B2 n2 t.keys) (hm : m ≤ 9223372036854775807) (hn : n ≤ 9223372036854775807) :
    Calls Tryz.prog 28 #[.agg (s.cells A m c B n d), .agg (t.cells A2 m2 c2 B2 n2 d2)] w fun e w' => e = .returned (.bool (decide (s = t))) ∧ Below w.heap.size w w' := by
  have HL := Lib.hid (And.intro (Lay.rd_len h) (Lay.rd_len k))
  have HL2 := Lib.hid (And.intro (Lay.rd_len h2) (Lay.rd_len k2))
  have HR := Lib.hid (show decide (s = t) = true ↔ (s.name = t.name ∧ s.cols = t.cols ∧ s.keys = t.keys) from by rw [decide_eq_true_eq]; cases s; cases t; simp)
  generalize decide (s = t) = r at *
  have HNO := Lib.hid (show ¬ (s.name = t.name ∧ s.cols = t.cols ∧ s.keys = t.keys) → r = false from fun h => by cases r; rfl; exact absurd (HR.out.1 rfl) h)
  have q1 := bl_al (Below.refl w.heap.size w) (.cells (s.cells A m c B n d) 41)
  have q2 := Lib.hid (bl_al q1 (.cells (t.cells A2 m2 c2 B2 n2 d2) 41))
  have h3 := Lay.rd_below h q2.out
  have k3 := Lay.rd_below k q2.out
  have h4 := Lay.rd_below h2 q2.out
  have k4 := Lay.rd_below k2 q2.out
  have HB := Lib.hid ((Blk.new w 41 (s.cells A m c B n d)).alloc (.cells (t.cells A2 m2 c2 B2 n2 d2) 41))
  have HC := Lib.hid (Blk.new (w.alloc (.cells (s.cells A m c B n d) 41)) 41 (t.cells A2 m2 c2 B2 n2 d2))
  rw [World.size_alloc] at HC
  clear h k h2 k2 q1
  have y0 := HB.out.cell 0
  have y1 := HB.out.cell 1
  have y2 := HB.out.cell 2
  have z0 := HC.out.cell 0
  have z1 := HC.out.cell 1
  have z2 := HC.out.cell 2
  go_enter Tryz.func28, Tryz.ntmps28
  by_cases c1 : s.name = t.name
  case neg =>
    have e1 := eqf c1
    have HQ := Lib.hid (HNO.out (fun h => c1 h.1))
    clear c1
    go_wp2
    go_ret
    exact ⟨ret_bool HQ.out.symm, q2.out⟩
  have e1 := eqt c1
  have HE1 := Lib.hid c1
  clear c1
  by_cases c4 : m = m2
  case neg =>
    have e2 : ((m : Int) == (m2 : Int)) = false := by simp; omega
    have e3 : (m == m2) = false := by simpa using c4
    have HQ := Lib.hid (HNO.out (fun h => c4 (by rw [← HL.out.1, ← HL2.out.1, h.2.1])))
    clear c4
    go_wp2
    go_ret
    exact ⟨ret_bool HQ.out.symm, q2.out⟩
  subst c4
  by_cases c4 : n = n2
  case neg =>
    have e2 : ((n : Int) == (n2 : Int)) = false := by simp; omega
    have e3 : (n == n2) = false := by simpa using c4
    have HQ := Lib.hid (HNO.out (fun h => c4 (by rw [← HL.out.2, ← HL2.out.2, h.2.2])))
    clear c4
    go_wp2
    go_ret
    exact ⟨ret_bool HQ.out.symm, q2.out⟩
  subst c4
  go_wp2_with fail
  generalize (w.alloc (.cells (s.cells A m c B n d) 41)).alloc (.cells (t.cells A2 m c2 B2 n d2) 41) = w1 at *
  clear y0 y1 y2 z0 z1 z2 e1
  go_loopg [5] m (fun g a wr => ∃ i : Nat, i + g = m ∧ a = .int .i64 i ∧ (∀ (k : Nat) (x y : CO), k < i → s.cols[k]? = some x → t.cols[k]? = some y → x = y) ∧ Below w1.heap.size w1 wr)
  case atStart => exact ⟨0, by omega, rfl, fun k x y hk => by omega, Below.refl _ _⟩
  case round =>
    obtain ⟨i, hig, rfl, heq, b1⟩ := hrel
    have HEQ := Lib.hid heq
    have HB1 := Lib.hid b1
    have HBB := Lib.hid (bl_ca q2.out b1)
    have HB3 := Lib.hid (HB.out.ca b1)
    have HC3 := Lib.hid (HC.out.ca b1)
    have h5 := Lay.rd_below h3 b1
    have h6 := Lay.rd_below h4 b1
    have k5 := Lay.rd_below k3 b1
    have k6 := Lay.rd_below k4 b1
    clear heq b1
    have y1 := HB3.out.cell 1
    have z1 := HC3.out.cell 1
    by_cases hlt : i < m
    · have hi1 : (i : Int) < (m : Int) := by omega
      obtain ⟨p, x, hAe, hx, s1⟩ := LCO_at h5 hlt
      obtain ⟨p2, y, hAe2, hy, s2⟩ := LCO_at h6 hlt
      obtain rfl : A = some p := hAe
      obtain rfl : A2 = some p2 := hAe2
      have e0 := s1.c0
      have e1 := s1.c1
      have f0 := s2.c0
      have f1 := s2.c1
      have HX := Lib.hid hx
      have HY := Lib.hid hy
      clear hx hy s1 s2
      go_wp2_with fail
      by_cases hq : x = y
      · have HQE : ∀ W, (Op.equalIn 10000 71 (.agg #[.string x.name, .int .i64 x.kind]) (.agg #[.string y.name, .int .i64 y.kind])).run Tryz.prog W = .ok true W := fun W => by rw [run_eqCO, decide_eq_true hq]
        have HN := Lib.hid (show ∀ (k : Nat) (x y : CO), k < i + 1 → s.cols[k]? = some x → t.cols[k]? = some y → x = y from fun k x' y' hk h8 h9 => by
          rcases Nat.lt_or_ge k i with h7 | h7
          · exact HEQ.out k x' y' h7 h8 h9
          · obtain rfl : k = i := by omega
            rw [← at_eq HX.out h8, ← at_eq HY.out h9]
            exact hq)
        clear hq
        go_quiet (fail)
        go_wp2
        go_roundg (gk - 1)
        · exact ⟨i + 1, by omega, by go_num, HN.out, bl_dr HB1.out _⟩
        · omega
      · have HQE : ∀ W, (Op.equalIn 10000 71 (.agg #[.string x.name, .int .i64 x.kind]) (.agg #[.string y.name, .int .i64 y.kind])).run Tryz.prog W = .ok false W := fun W => by rw [run_eqCO, decide_eq_false hq]
        have HQ := Lib.hid (HNO.out (fun h => hq (by have h8 := HX.out; rw [h.2.1] at h8; exact at_eq h8 HY.out)))
        clear hq
        go_quiet (fail)
        go_wp2
        go_ret
        exact ⟨ret_bool HQ.out.symm, bl_dr HBB.out _⟩
    · obtain rfl : i = m := by omega
      have hi1 : (i : Int) ≤ (i : Int) := by omega
      have HCE := Lib.hid (list_ext_lt HL.out.1 HL2.out.1 HEQ.out)
      go_wp2_with fail
      clear y1 z1 hi1 hig hlt h5 h6 HEQ
      obtain ⟨w7, rfl⟩ : ∃ x, x = wr := ⟨_, rfl⟩
      go_loopg [6] n (fun g a wr => ∃ j : Nat, j + g = n ∧ a = .int .i64 j ∧ (∀ (k : Nat) (x y : Int), k < j → s.keys[k]? = some x → t.keys[k]? = some y → x = y) ∧ Below w7.heap.size w7 wr)
      case atStart => exact ⟨0, by omega, rfl, fun k x y hk => by omega, Below.refl _ _⟩
      case round =>
        obtain ⟨j, hig, rfl, heq, b1⟩ := hrel
        have HEQ := Lib.hid heq
        have HB7 := Lib.hid b1
        have HBB7 := Lib.hid (bl_ca HBB.out b1)
        have HB8 := Lib.hid (HB3.out.ca b1)
        have HC8 := Lib.hid (HC3.out.ca b1)
        have k7 := Lay.rd_below k5 b1
        have k8 := Lay.rd_below k6 b1
        clear heq b1
        have y1 := HB8.out.cell 2
        have z1 := HC8.out.cell 2
        by_cases hlt : j < n
        · have hi1 : (j : Int) < (n : Int) := by omega
          obtain ⟨p, x, hAe, hx, e0⟩ := LK_at k7 hlt
          obtain ⟨p2, y, hAe2, hy, f0⟩ := LK_at k8 hlt
          obtain rfl : B = some p := hAe
          obtain rfl : B2 = some p2 := hAe2
          have HX := Lib.hid hx
          have HY := Lib.hid hy
          clear hx hy
          go_wp2_with fail
          by_cases hq : x = y
          · have e9 : (x == y) = true := by simpa using hq
            have HN := Lib.hid (show ∀ (k : Nat) (x y : Int), k < j + 1 → s.keys[k]? = some x → t.keys[k]? = some y → x = y from fun k x' y' hk h8 h9 => by
              rcases Nat.lt_or_ge k j with h7 | h7
              · exact HEQ.out k x' y' h7 h8 h9
              · obtain rfl : k = j := by omega
                rw [← at_eq HX.out h8, ← at_eq HY.out h9]
                exact hq)
            clear hq
            go_quiet (fail)
            go_wp2
            go_roundg (gk - 1)
            · exact ⟨j + 1, by omega, by go_num, HN.out, bl_dr HB7.out _⟩
            · omega
          · have e9 : (x == y) = false := by simpa using hq
            have HQ := Lib.hid (HNO.out (fun h => hq (by have h8 := HX.out; rw [h.2.2] at h8; exact at_eq h8 HY.out)))
            clear hq
            go_quiet (fail)
            go_wp2
            go_ret
            exact ⟨ret_bool HQ.out.symm, bl_dr HBB7.out _⟩
        · obtain rfl : j = n := by omega
          have hi1 : (j : Int) ≤ (j : Int) := by omega
          have HQ := Lib.hid (HR.out.2 ⟨HE1.out, HCE.out, list_ext_lt HL.out.2 HL2.out.2 HEQ.out⟩)
          go_wp2
          go_ret
          exact ⟨ret_bool HQ.out.symm, HBB7.out⟩
set_option maxRecDepth 100000 in
set_option maxHeartbeats 4000000 in
theorem rsame_any (F G : Nat → Prop) (xs ys : List TC) (A : Option Addr) (m c : Nat) (B : Option Addr) (n d : Nat) (w : World) (h : LT3.rd w F A m xs) (k : LT3.rd w G B n ys) (hm : m ≤ 9223372036854775807) :
    Calls Tryz.prog 12 #[.agg #[.slice A m c], .agg #[.slice B n d]] w fun e w' => e = .returned (.bool (decide (xs = ys))) ∧ Below w.heap.size w w' := by
  have HL := Lib.hid (And.intro (Lay.rd_len h) (Lay.rd_len k))
  have HR := Lib.hid (show decide (xs = ys) = true ↔ xs = ys from decide_eq_true_iff)
  generalize decide (xs = ys) = r at *
  have HNO := Lib.hid (show ¬ xs = ys → r = false from fun h => by cases r; rfl; exact absurd (HR.out.1 rfl) h)
  have q1 := bl_al (Below.refl w.heap.size w) (.cells #[.slice A m c] 24)
  have q2 := Lib.hid (bl_al q1 (.cells #[.slice B n d] 24))
  have h3 := Lay.rd_below h q2.out
  have h4 := Lay.rd_below k q2.out
  have HB := Lib.hid ((Blk.new w 24 #[.slice A m c]).alloc (.cells #[.slice B n d] 24))
  have HC := Lib.hid (Blk.new (w.alloc (.cells #[.slice A m c] 24)) 24 #[.slice B n d])
  rw [World.size_alloc] at HC
  clear h k q1
  have y0 := HB.out.cell 0
  have z0 := HC.out.cell 0
  go_enter Tryz.func12, Tryz.ntmps12
  by_cases c4 : m = n
  case neg =>
    have e2 : ((m : Int) == (n : Int)) = false := by simp; omega
    have e3 : (m == n) = false := by simpa using c4
    have HQ := Lib.hid (HNO.out (fun h => c4 (by rw [← HL.out.1, ← HL.out.2, h])))
    clear c4
    go_wp2
    go_ret
    exact ⟨ret_bool HQ.out.symm, q2.out⟩
  subst c4
  go_wp2_with fail
  generalize (w.alloc (.cells #[.slice A m c] 24)).alloc (.cells #[.slice B m d] 24) = w1 at *
  clear y0 z0
  go_loopg [5] m (fun g a wr => ∃ i : Nat, i + g = m ∧ a = .int .i64 i ∧ (∀ (k : Nat) (x y : TC), k < i → xs[k]? = some x → ys[k]? = some y → x = y) ∧ Below w1.heap.size w1 wr)
  case atStart => exact ⟨0, by omega, rfl, fun k x y hk => by omega, Below.refl _ _⟩
  case round =>
    obtain ⟨i, hig, rfl, heq, b1⟩ := hrel
    have HEQ := Lib.hid heq
    have HB1 := Lib.hid b1
    have HBB := Lib.hid (bl_ca q2.out b1)
    have HB3 := Lib.hid (HB.out.ca b1)
    have HC3 := Lib.hid (HC.out.ca b1)
    have h5 := Lay.rd_below h3 b1
    have h6 := Lay.rd_below h4 b1
    clear heq b1
    have y1 := HB3.out.cell 0
    have z1 := HC3.out.cell 0
    by_cases hlt : i < m
    · have hi1 : (i : Int) < (m : Int) := by omega
      obtain ⟨p, x, A1, n1, c1, B1, m1, d1, hAe, hx, s1⟩ := LT3_at h5 hlt
      obtain ⟨p2, y, A2, n2, c2, B2, m2, d2, hAe2, hy, s2⟩ := LT3_at h6 hlt
      obtain rfl : A = some p := hAe
      obtain rfl : B = some p2 := hAe2
      have e0 := s1.c0
      have e1 := s1.c1
      have e2 := s1.c2
      have f0 := s2.c0
      have f1 := s2.c1
      have f2 := s2.c2
      have HX := Lib.hid hx
      have HY := Lib.hid hy
      have HCT := Lib.hid (fun (W : World) (b : Below wr.heap.size wr W) => rsamet_any F G x y A1 n1 c1 B1 m1 d1 A2 n2 c2 B2 m2 d2 W (Lay.rd_below s1.rd b) (Lay.rd_below s1.rk b) (Lay.rd_below s2.rd b) (Lay.rd_below s2.rk b) (Nat.le_trans s1.nc s1.cm) (Nat.le_trans s1.md s1.dm))
      clear hx hy s1 s2
      go_wp2_with fail
      obtain ⟨q, hq⟩ : ∃ q, q = decide (x = y) := ⟨_, rfl⟩
      rw [← hq] at HCT
      refine wp_region_ps (S := fun _ _ w' => Below wr.heap.size wr w') (by kernel_rfl) ?spswg1 ?ppswg1
      case spswg1 =>
        exact (Below.refl wr.heap.size wr).drew
      refine Ps.st (i := 0) (d := some 20) (u := (.pointer (some ⟨w.heap.size, 0, none⟩))) rfl rfl (by exact StepS.pure nP rfl fun _ => rfl) ?_
      try simp only [Act.put, sA, sZ, sS]
      refine Ps.st (i := 1) (d := some 21) (u := (.slice (some p) m c)) rfl rfl ?ywg1_3 ?rwg1_3
      case ywg1_3 =>
        refine StepS.read [] (by kernel_rfl) nP (by rfl) (fun L9 m9 w9 hSh hAt hDn hS => ?_)
        have hT : Below _ _ w9 := hS
        have x0 : w9.cell? ⟨w.heap.size, 0, none⟩ = some (.slice (some p) m c) := (HB3.out.ca hT).cell 0
        clear hT hS
        go_simp
        try rfl
      try simp only [Act.put, sA, sZ, sS]
      refine Ps.st (i := 2) (d := some 22) (u := (.int .i64 ((i : Int)))) rfl rfl (by exact StepS.pure nP rfl fun _ => rfl) ?_
      try simp only [Act.put, sA, sZ, sS]
      refine Ps.st (i := 3) (d := some 23) (u := (.pointer (some (p.add (i * 3))))) rfl rfl (by exact StepS.pure nP rfl fun _ => by first | rfl | (go_simp; done) | (go_simp; rfl)) ?_
      try simp only [Act.put, sA, sZ, sS]
      refine Ps.st (i := 4) (d := some 24) (u := (.agg #[.string x.name, .slice A1 n1 c1, .slice B1 m1 d1])) rfl rfl ?ywg1_6 ?rwg1_6
      case ywg1_6 =>
        refine StepS.read [] (by kernel_rfl) nP (by rfl) (fun L9 m9 w9 hSh hAt hDn hS => ?_)
        have hT : Below _ _ w9 := hS
        have x0 : w9.cell? (p.add (i * 3)) = some (.string x.name) := ce e0 hT
        have x1 : w9.cell? ⟨(p.add (i * 3)).block, (p.add (i * 3)).off + 1, none⟩ = some (.slice A1 n1 c1) := ce e1 hT
        have x2 : w9.cell? ⟨(p.add (i * 3)).block, (p.add (i * 3)).off + 2, none⟩ = some (.slice B1 m1 d1) := ce e2 hT
        clear hT hS
        go_simp
        try rfl
      try simp only [Act.put, sA, sZ, sS]
      refine Ps.st (i := 5) (d := some 25) (u := (.pointer (some ⟨w.heap.size + 1, 0, none⟩))) rfl rfl (by exact StepS.pure nP rfl fun _ => rfl) ?_
      try simp only [Act.put, sA, sZ, sS]
      refine Ps.st (i := 6) (d := some 26) (u := (.slice (some p2) m d)) rfl rfl ?ywg1_8 ?rwg1_8
      case ywg1_8 =>
        refine StepS.read [] (by kernel_rfl) nP (by rfl) (fun L9 m9 w9 hSh hAt hDn hS => ?_)
        have hT : Below _ _ w9 := hS
        have x0 : w9.cell? ⟨w.heap.size + 1, 0, none⟩ = some (.slice (some p2) m d) := (HC3.out.ca hT).cell 0
        clear hT hS
        go_simp
        try rfl
      try simp only [Act.put, sA, sZ, sS]
      refine Ps.st (i := 7) (d := some 27) (u := (.int .i64 ((i : Int)))) rfl rfl (by exact StepS.pure nP rfl fun _ => rfl) ?_
      try simp only [Act.put, sA, sZ, sS]
      refine Ps.st (i := 8) (d := some 28) (u := (.pointer (some (p2.add (i * 3))))) rfl rfl (by exact StepS.pure nP rfl fun _ => by first | rfl | (go_simp; done) | (go_simp; rfl)) ?_
      try simp only [Act.put, sA, sZ, sS]
      refine Ps.st (i := 9) (d := some 29) (u := (.agg #[.string y.name, .slice A2 n2 c2, .slice B2 m2 d2])) rfl rfl ?ywg1_11 ?rwg1_11
      case ywg1_11 =>
        refine StepS.read [] (by kernel_rfl) nP (by rfl) (fun L9 m9 w9 hSh hAt hDn hS => ?_)
        have hT : Below _ _ w9 := hS
        have x0 : w9.cell? (p2.add (i * 3)) = some (.string y.name) := ce f0 hT
        have x1 : w9.cell? ⟨(p2.add (i * 3)).block, (p2.add (i * 3)).off + 1, none⟩ = some (.slice A2 n2 c2) := ce f1 hT
        have x2 : w9.cell? ⟨(p2.add (i * 3)).block, (p2.add (i * 3)).off + 2, none⟩ = some (.slice B2 m2 d2) := ce f2 hT
        clear hT hS
        go_simp
        try rfl
      try simp only [Act.put, sA, sZ, sS]
      refine Ps.st (i := 10) (d := some 30) (u := (.bool (q))) rfl rfl ?ywg1_12 ?rwg1_12
      case ywg1_12 =>
        refine StepS.call ?fwg1_12 ?awg1_12 [] (by kernel_rfl) (by rfl) (fun w9 => ?hwg1_12) (fun L9 m9 w9 hSh hAt hDn hS => ?cwg1_12)
        case hwg1_12 => go_simp; refine ⟨?_, ?_⟩ <;> rfl
        case cwg1_12 =>
          have hT : Below _ _ w9 := hS
          refine (HCT.out w9 hT).mono ?_
          rintro e w8 ⟨rfl, q8⟩
          exact ⟨rfl, bl_ca hT q8⟩
      try simp only [Act.put, sA, sZ, sS]
      refine Ps.st (i := 11) (d := some 31) (u := (.bool (!q))) rfl rfl (by exact StepS.pure nP rfl fun _ => rfl) ?_
      try simp only [Act.put, sA, sZ, sS]
      refine Ps.done (by kernel_rfl) (fun wg1 hS => ?_) _
      have HT6 := Lib.hid (show Below wr.heap.size wr wg1 from hS)
      clear hS
      obtain ⟨w6, rfl⟩ : ∃ x, x = wg1 := ⟨_, rfl⟩
      have HQ9 := Lib.hid hq
      clear hq y1 z1 e0 e1 e2 f0 f1 f2 HCT
      cases q
      · have HQ := Lib.hid (HNO.out (fun h => by have h8 := HX.out; rw [h] at h8; have h9 := HQ9.out; rw [decide_eq_true (at_eq h8 HY.out)] at h9; cases h9))
        go_wp2_with fail
        go_ret
        exact ⟨ret_bool HQ.out.symm, bl_ca HBB.out HT6.out⟩
      · have HN := Lib.hid (show ∀ (k : Nat) (x y : TC), k < i + 1 → xs[k]? = some x → ys[k]? = some y → x = y from fun k x' y' hk h8 h9 => by
          rcases Nat.lt_or_ge k i with h7 | h7
          · exact HEQ.out k x' y' h7 h8 h9
          · obtain rfl : k = i := by omega
            rw [← at_eq HX.out h8, ← at_eq HY.out h9]
            exact of_decide_eq_true HQ9.out.symm)
        go_wp2_with fail
        go_roundg (gk - 1)
        · exact ⟨i + 1, by omega, by go_num, HN.out, bl_ca HB1.out HT6.out⟩
        · omega
    · obtain rfl : i = m := by omega
      have hi1 : (i : Int) ≤ (i : Int) := by omega
      have HQ := Lib.hid (HR.out.2 (list_ext_lt HL.out.1 HL.out.2 HEQ.out))
      go_wp2
      go_ret
      exact ⟨ret_bool HQ.out.symm, HBB.out⟩
end Go.Proofs.YthgcdilkkldgjaaGreatDoor
