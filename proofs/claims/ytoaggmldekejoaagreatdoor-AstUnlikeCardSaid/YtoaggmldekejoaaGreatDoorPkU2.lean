/- How trees are written, in plain Lean; unlike trees are written unlike. Conditions: none. -/
import Derived.Test.YtoaggmldekejoaaGreatDoorPkU1
import Derived.Lib.MinMax
import Derived.Lib.AppendIntMem
import Derived.Lib.Itoa
import Derived.Shelf.Unicode.CaseTo
import Derived.Shelf.Unicode.DecodeSlow
import Derived.ProofKit
import Derived.OpenShut
import Derived.ShutString
import Derived.ChangeOld
import Derived.Deep.Slices
import Derived.ChangeSame
import Derived.Lib.SlicesS
namespace Go.Proofs.YtoaggmldekejoaaGreatDoor
abbrev eB : ByteArray := ⟨#[]⟩
/-- is a value plain? -/
def plainV (k n u : Int) (s : ByteArray) : Bool :=
 if k = 0 then decide (n = 0 ∧ u = 0 ∧ s.data.toList = [])
 else if k = 1 then decide ((n = 0 ∨ n = 1) ∧ u = 0 ∧ s.data.toList = [])
 else if k = 2 then decide (u = 0 ∧ s.data.toList = [])
 else decide (k = 3 ∧ n = 0 ∧ u = 0 ∧ s.size ≤ 40)
/-- is what counts of a node so, and all else zero? -/
def cntB (p : Py) : Bool :=
 if p.tag = 1 then decide (p.tb.data.toList = []) && (decide (p.nm.data.toList = []) && (plainV p.k p.n p.u p.s && (decide (0 ≤ p.n) && p.s.data.toList.all plU)))
 else if p.tag = 2 then decide (p.k = 0 ∧ p.n = 0 ∧ p.u = 0 ∧ p.s.data.toList = []) && (nameB p.nm && (decide (p.tb.data.toList = []) || nameB p.tb))
 else decide (p.k = 0 ∧ p.n = 0 ∧ p.u = 0 ∧ p.s.data.toList = []) && (decide (p.tb.data.toList = []) && decide (p.nm.data.toList = []))
def sgs : List (List UInt8) := [[], [], [67, 79, 85, 78, 84, 40, 42, 41], [45], [78, 79, 84], [73, 83, 32, 78, 85, 76, 76], [73, 83, 32, 78, 79, 84, 32, 78, 85, 76, 76], [67, 79, 85, 78, 84], [83, 85, 77], [77, 73, 78], [77, 65, 88],
 [43], [45], [42], [47], [61], [60, 62], [60], [60, 61], [62], [62, 61], [65, 78, 68], [79, 82]]
def sgL (t : Int) : List UInt8 := sgs.getD (t.toNat - 1) []
/-- a literal, as it is written -/
def litU (k n : Int) (s : List UInt8) : List UInt8 :=
 if k = 0 then [78, 85, 76, 76] else if k = 1 then (if n = 1 then [84, 82, 85, 69] else [70, 65, 76, 83, 69])
 else if k = 2 then Lib.decDigits n.toNat else 39 :: (quoU s ++ [39])
def namU (tb nm : List UInt8) : List UInt8 := if tb = [] then nm else tb ++ (46 :: nm)
def leafU (p : Py) : List UInt8 := if p.tag = 1 then litU p.k p.n p.s.data.toList else if p.tag = 2 then namU p.tb.data.toList p.nm.data.toList else sgL p.tag
def bareT : Tr → Bool
 | .leaf _ => true
 | .one p _ => decide (8 ≤ p.tag)
 | .two _ _ _ => false
def prT : Tr → List UInt8
 | .leaf p => leafU p
 | .one p a =>
  if p.tag ≤ 5 then sgL p.tag ++ (32 :: (if bareT a then prT a else 40 :: (prT a ++ [41])))
  else if p.tag ≤ 7 then (if bareT a then prT a else 40 :: (prT a ++ [41])) ++ (32 :: sgL p.tag)
  else sgL p.tag ++ (40 :: (prT a ++ [41]))
 | .two p a b => (if bareT a then prT a else 40 :: (prT a ++ [41])) ++ (32 :: (sgL p.tag ++ (32 :: (if bareT b then prT b else 40 :: (prT b ++ [41])))))
def parT (a : Tr) : List UInt8 := if bareT a then prT a else 40 :: (prT a ++ [41])
/-! ### leaves -/
theorem ba_of {s : ByteArray} {l : List UInt8} (h : s.data.toList = l) : s = bS l := by rw [← h]
theorem ba_e {s : ByteArray} (h : s.data.toList = []) : s = eB := ba_of h
theorem leaf_cases {p : Py} (h : cntB p = true) (h0 : partsI p.tag = 0) :
 p = ⟨1, 0, 0, 0, eB, eB, eB⟩ ∨ p = ⟨1, 1, 0, 0, eB, eB, eB⟩ ∨ p = ⟨1, 1, 1, 0, eB, eB, eB⟩ ∨ (∃ n : Nat, p = ⟨1, 2, (n : Int), 0, eB, eB, eB⟩) ∨ (∃ s, p = ⟨1, 3, 0, 0, s, eB, eB⟩) ∨
 (∃ tb nm, p = ⟨2, 0, 0, 0, eB, tb, nm⟩ ∧ nameB nm = true ∧ (tb = eB ∨ nameB tb = true)) ∨ p = ⟨3, 0, 0, 0, eB, eB, eB⟩ := by
 obtain ⟨t, k, n, u, s, tb, nm⟩ := p
 have ht : 1 ≤ t ∧ t ≤ 3 := by
  unfold partsI at h0
  simp only at h0
  split at h0
  · omega
  · split at h0
    · omega
    · split at h0
      · omega
      · split at h0 <;> omega
 unfold cntB at h
 simp only at h
 by_cases h1 : t = 1
 · subst h1
   rw [if_pos rfl] at h
   simp only [Bool.and_eq_true, decide_eq_true_eq] at h
   obtain ⟨e1, e2, e3, e4, _⟩ := h
   rw [ba_e e1, ba_e e2]
   unfold plainV at e3
   split at e3
   · rename_i hk
     obtain ⟨g1, g2, g3⟩ := of_decide_eq_true e3
     rw [hk, g1, g2, ba_e g3]; exact .inl rfl
   · split at e3
     · rename_i hk
       obtain ⟨g1, g2, g3⟩ := of_decide_eq_true e3
       rw [hk, g2, ba_e g3]
       rcases g1 with g1 | g1
       · rw [g1]; exact .inr (.inl rfl)
       · rw [g1]; exact .inr (.inr (.inl rfl))
     · split at e3
       · rename_i hk
         obtain ⟨g2, g3⟩ := of_decide_eq_true e3
         rw [hk, g2, ba_e g3]
         exact .inr (.inr (.inr (.inl ⟨n.toNat, by rw [Int.toNat_of_nonneg e4]⟩)))
       · obtain ⟨g0, g1, g2, g3⟩ := of_decide_eq_true e3
         rw [g0, g1, g2]
         exact .inr (.inr (.inr (.inr (.inl ⟨s, rfl⟩))))
 · rw [if_neg h1] at h
   by_cases h2 : t = 2
   · subst h2
     rw [if_pos rfl] at h
     simp only [Bool.and_eq_true, Bool.or_eq_true, decide_eq_true_eq] at h
     obtain ⟨⟨g1, g2, g3, g4⟩, g5, g6⟩ := h
     rw [g1, g2, g3, ba_e g4]
     exact .inr (.inr (.inr (.inr (.inr (.inl ⟨tb, nm, rfl, g5, g6.imp_left ba_e⟩)))))
   · rw [if_neg h2] at h
     simp only [Bool.and_eq_true, decide_eq_true_eq] at h
     obtain ⟨⟨g1, g2, g3, g4⟩, g5, g6⟩ := h
     have h3 : t = 3 := by omega
     rw [h3, g1, g2, g3, ba_e g4, ba_e g5, ba_e g6]
     exact .inr (.inr (.inr (.inr (.inr (.inr rfl)))))
theorem inner_zero {p : Py} (h : cntB p = true) (h0 : partsI p.tag = 1 ∨ partsI p.tag = 2) : p = ⟨p.tag, 0, 0, 0, eB, eB, eB⟩ := by
 obtain ⟨t, k, n, u, s, tb, nm⟩ := p
 have ht : t ≠ 1 ∧ t ≠ 2 := by
  constructor
  · rintro rfl
    exact absurd (show partsI 1 = 1 ∨ partsI 1 = 2 from h0) (by decide)
  · rintro rfl
    exact absurd (show partsI 2 = 1 ∨ partsI 2 = 2 from h0) (by decide)
 unfold cntB at h
 simp only at h
 rw [if_neg ht.1, if_neg ht.2] at h
 simp only [Bool.and_eq_true, decide_eq_true_eq] at h
 obtain ⟨⟨g1, g2, g3, g4⟩, g5, g6⟩ := h
 rw [g1, g2, g3, ba_e g4, ba_e g5, ba_e g6]
/-- what may stand behind a part -/
def sepP (x : List UInt8) : Prop := x = [] ∨ ∃ r, x = 32 :: r ∨ x = 41 :: r ∨ x = 44 :: r
/-- the words that may stand behind a tree -/
def kws : List (List UInt8) := [[65, 83], [70, 82, 79, 77], [76, 69, 70, 84], [74, 79, 73, 78], [87, 72, 69, 82, 69], [71, 82, 79, 85, 80], [72, 65, 86, 73, 78, 71], [85, 78, 73, 79, 78], [79, 82, 68, 69, 82], [76, 73, 77, 73, 84]]
/-- what may stand behind a tree -/
def endP (x : List UInt8) : Prop := x = [] ∨ ∃ r, x = 41 :: r ∨ x = 44 :: r ∨ ∃ w ∈ kws, x = 32 :: (w ++ 32 :: r)
theorem endP.sep {x : List UInt8} (h : endP x) : sepP x := by
 rcases h with h | ⟨r, h | h | ⟨w, _, h⟩⟩
 · exact .inl h
 · exact .inr ⟨r, .inr (.inl h)⟩
 · exact .inr ⟨r, .inr (.inr h)⟩
 · exact .inr ⟨_, .inl h⟩
theorem sep32 (r : List UInt8) : sepP (32 :: r) := .inr ⟨r, .inl rfl⟩
theorem sep41 (r : List UInt8) : sepP (41 :: r) := .inr ⟨r, .inr (.inl rfl)⟩
/-- the word that stands first -/
def wB (b : UInt8) : Bool := paU b || decide (b = 46)
def notSep (b : UInt8) : Bool := decide (b ≠ 32) && (decide (b ≠ 41) && decide (b ≠ 44))
theorem wB_sep {b : UInt8} (h : wB b = true) : notSep b = true := by
 unfold notSep
 rw [Bool.and_eq_true, Bool.and_eq_true, decide_eq_true_eq, decide_eq_true_eq, decide_eq_true_eq]
 refine ⟨?_, ?_, ?_⟩
 · rintro rfl; revert h; decide
 · rintro rfl; revert h; decide
 · rintro rfl; revert h; decide
theorem sep_no {x : List UInt8} (h : sepP x) : ∀ b r, x = b :: r → notSep b = false := by
 rintro b r rfl
 rcases h with h | ⟨r', h | h | h⟩
 · cases h
 · injection h with h; subst h; rfl
 · injection h with h; subst h; rfl
 · injection h with h; subst h; rfl
theorem ext_w {w x : List UInt8} (h : w.all wB = true) (hx : sepP x) : (w ++ x).takeWhile notSep = w :=
 takeWhile_all (List.all_eq_true.2 fun b hb => wB_sep (List.all_eq_true.1 h b hb)) (sep_no hx)
def leafD (l : List UInt8) : Py :=
 if l.head? = some 39 then (match qGo l.tail with | some (t, _) => ⟨1, 3, 0, 0, bS t, eB, eB⟩ | none => ⟨0, 0, 0, 0, eB, eB, eB⟩)
 else
  if l.takeWhile notSep = [78, 85, 76, 76] then ⟨1, 0, 0, 0, eB, eB, eB⟩
  else if l.takeWhile notSep = [84, 82, 85, 69] then ⟨1, 1, 1, 0, eB, eB, eB⟩
  else if l.takeWhile notSep = [70, 65, 76, 83, 69] then ⟨1, 1, 0, 0, eB, eB, eB⟩
  else if l.takeWhile notSep = [67, 79, 85, 78, 84, 40, 42] then ⟨3, 0, 0, 0, eB, eB, eB⟩
  else if (l.takeWhile notSep).all dgU then ⟨1, 2, (valU 0 (l.takeWhile notSep) : Int), 0, eB, eB, eB⟩
  else if (46 : UInt8) ∈ l.takeWhile notSep then ⟨2, 0, 0, 0, eB, bS ((l.takeWhile notSep).takeWhile fun b => decide (b ≠ 46)), bS (((l.takeWhile notSep).dropWhile fun b => decide (b ≠ 46)).drop 1)⟩
  else ⟨2, 0, 0, 0, eB, eB, bS (l.takeWhile notSep)⟩
theorem name_small {s : ByteArray} (h : nameB s = true) : s.data.toList.all paU = true ∧ (46 : UInt8) ∉ s.data.toList ∧ ∃ b r, s.data.toList = b :: r ∧ smI (b.toNat : Int) = true := by
 obtain ⟨h1, _, _, h4⟩ := name_parts (l := s.data.toList) h
 refine ⟨h1, fun h46 => ?_, h4⟩
 have := List.all_eq_true.1 h1 46 h46
 revert this; decide
theorem not_word {b : UInt8} {r : List UInt8} (h : smI (b.toNat : Int) = true) : (b :: r) ≠ [78, 85, 76, 76] ∧ (b :: r) ≠ [84, 82, 85, 69] ∧ (b :: r) ≠ [70, 65, 76, 83, 69] ∧ (b :: r) ≠ [67, 79, 85, 78, 84, 40, 42] ∧ (b :: r).all dgU = false ∧ b ≠ 39 := by
 refine ⟨?_, ?_, ?_, ?_, ?_, ?_⟩
 · intro e; injection e with e; subst e; revert h; decide
 · intro e; injection e with e; subst e; revert h; decide
 · intro e; injection e with e; subst e; revert h; decide
 · intro e; injection e with e; subst e; revert h; decide
 · rw [List.all_cons]
   have : dgU b = false := by
    unfold smI at h
    unfold dgU dgI
    rw [Bool.and_eq_true, decide_eq_true_eq, decide_eq_true_eq] at h
    rw [Bool.and_eq_false_iff, decide_eq_false_iff_not, decide_eq_false_iff_not]
    omega
   rw [this]; rfl
 · rintro rfl; revert h; decide
theorem pa_w {l : List UInt8} (h : l.all paU = true) : l.all wB = true := List.all_eq_true.2 fun b hb => by unfold wB; rw [List.all_eq_true.1 h b hb]; rfl
theorem split46 : ∀ {t m : List UInt8}, (46 : UInt8) ∉ t → (t ++ 46 :: m).takeWhile (fun b => decide (b ≠ 46)) = t ∧ (t ++ 46 :: m).dropWhile (fun b => decide (b ≠ 46)) = 46 :: m
 | [], m, _ => ⟨rfl, rfl⟩
 | b :: t, m, h => by
  have hb : b ≠ 46 := fun e => h (by rw [e]; simp)
  have ih := split46 (t := t) (m := m) (fun e => h (by simp [e]))
  rw [List.cons_append, List.takeWhile_cons, List.dropWhile_cons, if_pos (by simpa using hb), if_pos (by simpa using hb), ih.1, ih.2]
  exact ⟨rfl, rfl⟩
theorem leaf_dec {p : Py} (h : cntB p = true) (h0 : partsI p.tag = 0) {x : List UInt8} (hx : sepP x) : leafD (leafU p ++ x) = p := by
 rcases leaf_cases h h0 with rfl | rfl | rfl | ⟨n, rfl⟩ | ⟨s, rfl⟩ | ⟨tb, nm, rfl, hn, ht⟩ | rfl
 · have e := ext_w (w := [78, 85, 76, 76]) (x := x) (by decide) hx
   show leafD ([78, 85, 76, 76] ++ x) = _
   unfold leafD
   rw [e]
   rfl
 · have e := ext_w (w := [70, 65, 76, 83, 69]) (x := x) (by decide) hx
   show leafD ([70, 65, 76, 83, 69] ++ x) = _
   unfold leafD
   rw [e]
   rfl
 · have e := ext_w (w := [84, 82, 85, 69]) (x := x) (by decide) hx
   show leafD ([84, 82, 85, 69] ++ x) = _
   unfold leafD
   rw [e]
   rfl
 · have hd := dec_all n
   have e := ext_w (w := Lib.decDigits n) (x := x) (pa_w (List.all_eq_true.2 fun b hb => dg_pa (List.all_eq_true.1 hd b hb))) hx
   show leafD (Lib.decDigits n ++ x) = _
   obtain ⟨b, r, hbr⟩ := List.exists_cons_of_ne_nil (dec_ne n)
   have hb : dgU b = true := List.all_eq_true.1 hd b (by rw [hbr]; simp)
   have hv := dec_val n
   unfold leafD
   rw [e, if_neg (by rw [hbr]; simp only [List.cons_append, List.head?_cons, Option.some.injEq]; rintro rfl; revert hb; decide)]
   rw [if_neg (by rw [hbr]; intro e; injection e with e; subst e; revert hb; decide), if_neg (by rw [hbr]; intro e; injection e with e; subst e; revert hb; decide), if_neg (by rw [hbr]; intro e; injection e with e; subst e; revert hb; decide), if_neg (by rw [hbr]; intro e; injection e with e; subst e; revert hb; decide), if_pos hd, hv]
 · have e := qGo_quo s.data.toList x (by rintro b r rfl; rcases hx with h | ⟨r', h | h | h⟩ <;> cases h <;> decide)
   show leafD (39 :: (quoU s.data.toList ++ [39]) ++ x) = _
   unfold leafD
   rw [List.cons_append, List.head?_cons, if_pos rfl, List.tail_cons, List.append_assoc]
   rw [show [39] ++ x = 39 :: x from rfl, e]
 · obtain ⟨n1, n2, b, r, n3, n4⟩ := name_small hn
   rcases ht with rfl | ht
   · have e := ext_w (w := nm.data.toList) (x := x) (pa_w n1) hx
     show leafD (nm.data.toList ++ x) = _
     have hw := not_word (r := r) n4
     unfold leafD
     rw [e, if_neg (by rw [n3]; simp only [List.cons_append, List.head?_cons, Option.some.injEq]; exact hw.2.2.2.2.2), if_neg (by rw [n3]; exact hw.1), if_neg (by rw [n3]; exact hw.2.1), if_neg (by rw [n3]; exact hw.2.2.1), if_neg (by rw [n3]; exact hw.2.2.2.1), if_neg (by rw [n3, hw.2.2.2.2.1]; decide), if_neg n2]
   · obtain ⟨t1, t2, b2, r2, t3, t4⟩ := name_small ht
     have e := ext_w (w := tb.data.toList ++ (46 :: nm.data.toList)) (x := x) (by rw [List.all_append, pa_w t1, List.all_cons, pa_w n1]; decide) hx
     have hne : tb.data.toList ≠ [] := by rw [t3]; simp
     have hL : leafU ⟨2, 0, 0, 0, eB, tb, nm⟩ = tb.data.toList ++ (46 :: nm.data.toList) := by
      show namU tb.data.toList nm.data.toList = _
      unfold namU; rw [if_neg hne]
     rw [hL]
     have hs := split46 (t := tb.data.toList) (m := nm.data.toList) t2
     have hw := not_word (r := r2 ++ (46 :: nm.data.toList)) t4
     have ec : tb.data.toList ++ (46 :: nm.data.toList) = b2 :: (r2 ++ (46 :: nm.data.toList)) := by rw [t3]; rfl
     unfold leafD
     rw [e, hs.1, hs.2]
     rw [ec]
     rw [if_neg (by simp only [List.cons_append, List.head?_cons, Option.some.injEq]; exact hw.2.2.2.2.2), if_neg hw.1, if_neg hw.2.1, if_neg hw.2.2.1, if_neg hw.2.2.2.1, if_neg (by rw [hw.2.2.2.2.1]; decide), if_pos (by simp)]
     rfl
 · show leafD ([67, 79, 85, 78, 84, 40, 42] ++ (41 :: x)) = _
   have e : ([67, 79, 85, 78, 84, 40, 42] ++ (41 :: x) : List UInt8).takeWhile notSep = [67, 79, 85, 78, 84, 40, 42] := takeWhile_all (by decide) (sep_no (sep41 x))
   unfold leafD
   rw [e]
   rfl
end Go.Proofs.YtoaggmldekejoaaGreatDoor
/- Unlike trees are written unlike. Plain Lean. Conditions: none. -/
namespace Go.Proofs.YtoaggmldekejoaaGreatDoor
def cpU (b : UInt8) : Bool := cpI (b.toNat : Int)
def caps (l : List UInt8) : List UInt8 := l.takeWhile cpU
def hdP (b : UInt8) : Bool := paU b || (decide (b = 39) || decide (b = 40))
theorem small_facts {b : UInt8} (h : smI (b.toNat : Int) = true) : cpU b = false ∧ paU b = true := by
 unfold smI at h
 rw [Bool.and_eq_true, decide_eq_true_eq, decide_eq_true_eq] at h
 constructor
 · unfold cpU cpI
   rw [Bool.and_eq_false_iff, decide_eq_false_iff_not, decide_eq_false_iff_not]
   omega
 · unfold paU paI smI
   rw [decide_eq_true h.1, decide_eq_true h.2]
   simp
theorem dg_facts {b : UInt8} (h : dgU b = true) : cpU b = false := by
 unfold dgU dgI at h
 rw [Bool.and_eq_true, decide_eq_true_eq, decide_eq_true_eq] at h
 unfold cpU cpI
 rw [Bool.and_eq_false_iff, decide_eq_false_iff_not, decide_eq_false_iff_not]
 omega
/-- how a leaf begins -/
theorem leaf_head {p : Py} (h : cntB p = true) (h0 : partsI p.tag = 0) : ∃ b r, leafU p = b :: r ∧ hdP b = true ∧ b ≠ 40 := by
 rcases leaf_cases h h0 with rfl | rfl | rfl | ⟨n, rfl⟩ | ⟨s, rfl⟩ | ⟨tb, nm, rfl, hn, ht⟩ | rfl
 · exact ⟨_, _, rfl, by decide, by decide⟩
 · exact ⟨_, _, rfl, by decide, by decide⟩
 · exact ⟨_, _, rfl, by decide, by decide⟩
 · obtain ⟨b, r, hbr⟩ := List.exists_cons_of_ne_nil (dec_ne n)
   have hb : dgU b = true := List.all_eq_true.1 (dec_all n) b (by rw [hbr]; simp)
   exact ⟨b, r, hbr, by unfold hdP; rw [dg_pa hb]; rfl, by rintro rfl; revert hb; decide⟩
 · exact ⟨_, _, rfl, by decide, by decide⟩
 · obtain ⟨_, _, b, r, n3, n4⟩ := name_small hn
   rcases ht with rfl | ht
   · exact ⟨b, r, n3, by unfold hdP; rw [(small_facts n4).2]; rfl, by rintro rfl; revert n4; decide⟩
   · obtain ⟨_, _, b2, r2, t3, t4⟩ := name_small ht
     refine ⟨b2, r2 ++ (46 :: nm.data.toList), ?_, by unfold hdP; rw [(small_facts t4).2]; rfl, by rintro rfl; revert t4; decide⟩
     show namU tb.data.toList nm.data.toList = _
     unfold namU
     rw [if_neg (by rw [t3]; simp), t3]
     rfl
 · exact ⟨_, _, rfl, by decide, by decide⟩
theorem caps_stop {w x : List UInt8} (h : w.all cpU = true) (hx : ∀ b r, x = b :: r → cpU b = false) : caps (w ++ x) = w := takeWhile_all h hx
theorem sep_cap {x : List UInt8} (h : sepP x) : ∀ b r, x = b :: r → cpU b = false := by
 rintro b r rfl
 rcases h with h | ⟨r', h | h | h⟩
 · cases h
 · injection h with h; subst h; rfl
 · injection h with h; subst h; rfl
 · injection h with h; subst h; rfl
/-- the capitals that a leaf begins with -/
theorem leaf_caps {p : Py} (h : cntB p = true) (h0 : partsI p.tag = 0) {x : List UInt8} (hx : sepP x) : (p = ⟨3, 0, 0, 0, eB, eB, eB⟩) ∨ caps (leafU p ++ x) ∈ ([[], [78, 85, 76, 76], [84, 82, 85, 69], [70, 65, 76, 83, 69]] : List (List UInt8)) := by
 rcases leaf_cases h h0 with rfl | rfl | rfl | ⟨n, rfl⟩ | ⟨s, rfl⟩ | ⟨tb, nm, rfl, hn, ht⟩ | rfl
 · right; rw [show leafU ⟨1, 0, 0, 0, eB, eB, eB⟩ = [78, 85, 76, 76] from rfl, caps_stop (by decide) (sep_cap hx)]; decide
 · right; rw [show leafU ⟨1, 1, 0, 0, eB, eB, eB⟩ = [70, 65, 76, 83, 69] from rfl, caps_stop (by decide) (sep_cap hx)]; decide
 · right; rw [show leafU ⟨1, 1, 1, 0, eB, eB, eB⟩ = [84, 82, 85, 69] from rfl, caps_stop (by decide) (sep_cap hx)]; decide
 · right
   obtain ⟨b, r, hbr⟩ := List.exists_cons_of_ne_nil (dec_ne n)
   have hb : dgU b = true := List.all_eq_true.1 (dec_all n) b (by rw [hbr]; simp)
   rw [show leafU ⟨1, 2, (n : Int), 0, eB, eB, eB⟩ = Lib.decDigits n from rfl, hbr]
   unfold caps
   rw [List.cons_append, List.takeWhile_cons, dg_facts hb]
   exact List.mem_cons_self
 · right; exact List.mem_cons_self
 · right
   obtain ⟨_, _, b, r, n3, n4⟩ := name_small hn
   rcases ht with rfl | ht
   · rw [show leafU ⟨2, 0, 0, 0, eB, eB, nm⟩ = nm.data.toList from rfl, n3]
     unfold caps
     rw [List.cons_append, List.takeWhile_cons, (small_facts n4).1]
     exact List.mem_cons_self
   · obtain ⟨_, _, b2, r2, t3, t4⟩ := name_small ht
     have e : leafU ⟨2, 0, 0, 0, eB, tb, nm⟩ = b2 :: (r2 ++ (46 :: nm.data.toList)) := by
      show namU tb.data.toList nm.data.toList = _
      unfold namU
      rw [if_neg (by rw [t3]; simp), t3]
      rfl
     rw [e]
     unfold caps
     rw [List.cons_append, List.takeWhile_cons, (small_facts t4).1]
     exact List.mem_cons_self
 · left; rfl
theorem tag_one {t : Int} (h : partsI t = 1) : 4 ≤ t ∧ t ≤ 11 := by
 unfold partsI at h
 split at h
 · omega
 · split at h
   · omega
   · split at h
     · omega
     · split at h <;> omega
theorem tag_two {t : Int} (h : partsI t = 2) : 12 ≤ t ∧ t ≤ 23 := by
 unfold partsI at h
 split at h
 · omega
 · split at h
   · omega
   · split at h
     · omega
     · split at h <;> omega
theorem agg_cases {t : Int} (h1 : 8 ≤ t) (h2 : t ≤ 11) : t = 8 ∨ t = 9 ∨ t = 10 ∨ t = 11 := by omega
theorem agg_sg {t : Int} (h1 : 8 ≤ t) (h2 : t ≤ 11) : (sgL t).all cpU = true ∧ sgL t ∈ ([[67, 79, 85, 78, 84], [83, 85, 77], [77, 73, 78], [77, 65, 88]] : List (List UInt8)) := by
 rcases agg_cases h1 h2 with rfl | rfl | rfl | rfl <;> exact ⟨by decide, by decide⟩
theorem agg_inj {t u : Int} (h1 : 8 ≤ t) (h2 : t ≤ 11) (h3 : 8 ≤ u) (h4 : u ≤ 11) (h : sgL t = sgL u) : t = u := by
 rcases agg_cases h1 h2 with rfl | rfl | rfl | rfl <;> rcases agg_cases h3 h4 with rfl | rfl | rfl | rfl <;> first | rfl | exact absurd h (by decide)
theorem two_sgN : ∀ i ∈ List.range 24, 12 ≤ i → (∀ j ∈ List.range 24, 12 ≤ j → sgs.getD (i - 1) [] = sgs.getD (j - 1) [] → i = j) ∧ (sgs.getD (i - 1) []).all (fun b => decide (b ≠ 32)) = true ∧ sgs.getD (i - 1) [] ≠ [73, 83] := by decide
theorem two_sg {t : Int} (h1 : 12 ≤ t) (h2 : t ≤ 23) : (sgL t).all (fun b => decide (b ≠ 32)) = true ∧ sgL t ≠ [73, 83] := (two_sgN t.toNat (List.mem_range.2 (by omega)) (by omega)).2
theorem two_inj {t u : Int} (h1 : 12 ≤ t) (h2 : t ≤ 23) (h3 : 12 ≤ u) (h4 : u ≤ 23) (h : sgL t = sgL u) : t = u := by
 have := (two_sgN t.toNat (List.mem_range.2 (by omega)) (by omega)).1 u.toNat (List.mem_range.2 (by omega)) (by omega) h
 omega
theorem ok_leaf {p : Py} (h : (Tr.leaf p).ok cntB = true) : partsI p.tag = 0 ∧ cntB p = true := by
 unfold Tr.ok at h
 rwa [Bool.and_eq_true, decide_eq_true_eq] at h
theorem ok_one {p : Py} {a : Tr} (h : (Tr.one p a).ok cntB = true) : partsI p.tag = 1 ∧ cntB p = true ∧ a.ok cntB = true := by
 unfold Tr.ok at h
 rwa [Bool.and_eq_true, Bool.and_eq_true, decide_eq_true_eq] at h
theorem ok_two {p : Py} {a b : Tr} (h : (Tr.two p a b).ok cntB = true) : partsI p.tag = 2 ∧ cntB p = true ∧ a.ok cntB = true ∧ b.ok cntB = true := by
 unfold Tr.ok at h
 rwa [Bool.and_eq_true, Bool.and_eq_true, Bool.and_eq_true, decide_eq_true_eq] at h
theorem pr_leaf (p : Py) : prT (.leaf p) = leafU p := by rw [prT]
theorem pr_pre {p : Py} {a : Tr} (h : p.tag ≤ 5) : prT (.one p a) = sgL p.tag ++ (32 :: parT a) := by rw [prT, if_pos h]; rfl
theorem pr_post {p : Py} {a : Tr} (h : 6 ≤ p.tag) (h2 : p.tag ≤ 7) : prT (.one p a) = parT a ++ (32 :: sgL p.tag) := by rw [prT, if_neg (by omega), if_pos h2]; rfl
theorem pr_agg {p : Py} {a : Tr} (h : 8 ≤ p.tag) : prT (.one p a) = sgL p.tag ++ (40 :: (prT a ++ [41])) := by rw [prT, if_neg (by omega), if_neg (by omega)]
theorem pr_two (p : Py) (a b : Tr) : prT (.two p a b) = parT a ++ (32 :: (sgL p.tag ++ (32 :: parT b))) := by rw [prT]; rfl
theorem par_bare {a : Tr} (h : bareT a = true) : parT a = prT a := if_pos h
theorem par_not {a : Tr} (h : bareT a = false) : parT a = 40 :: (prT a ++ [41]) := if_neg (by rw [h]; decide)
/-- how a bare tree begins -/
theorem bare_head {t : Tr} (h : t.ok cntB = true) (hb : bareT t = true) : ∃ b r, prT t = b :: r ∧ hdP b = true ∧ b ≠ 40 := by
 cases t with
 | leaf p => rw [pr_leaf]; exact leaf_head (ok_leaf h).2 (ok_leaf h).1
 | one p a =>
  have h8 : 8 ≤ p.tag := of_decide_eq_true hb
  rw [pr_agg h8]
  have ht := tag_one (ok_one h).1
  rcases agg_cases h8 ht.2 with e | e | e | e <;> rw [e] <;> exact ⟨_, _, rfl, by decide, by decide⟩
 | two p a b => cases hb
theorem par_head {t : Tr} (h : t.ok cntB = true) : ∃ b r, parT t = b :: r ∧ hdP b = true := by
 cases hb : bareT t
 · rw [par_not hb]; exact ⟨_, _, rfl, by decide⟩
 · rw [par_bare hb]
   obtain ⟨b, r, e, h1, _⟩ := bare_head h hb
   exact ⟨b, r, e, h1⟩
/-- how a tree begins: with no star -/
theorem pr_head {t : Tr} (h : t.ok cntB = true) : ∃ b r, prT t = b :: r ∧ b ≠ 42 := by
 have hp : ∀ {a : Tr} {T : List UInt8}, a.ok cntB = true → ∃ b r, parT a ++ T = b :: r ∧ b ≠ 42 := fun {a T} ha => by
  obtain ⟨b, r, e, h1⟩ := par_head ha
  exact ⟨b, r ++ T, by rw [e]; rfl, by rintro rfl; revert h1; decide⟩
 cases t with
 | leaf p =>
  obtain ⟨b, r, e, h1, _⟩ := leaf_head (ok_leaf h).2 (ok_leaf h).1
  exact ⟨b, r, by rw [pr_leaf, e], by rintro rfl; revert h1; decide⟩
 | one p a =>
  have ho := ok_one h
  have ht := tag_one ho.1
  by_cases h5 : p.tag ≤ 5
  · rw [pr_pre h5]
    rcases (show p.tag = 4 ∨ p.tag = 5 by omega) with e | e <;> rw [e] <;> exact ⟨_, _, rfl, by decide⟩
  · by_cases h7 : p.tag ≤ 7
    · rw [pr_post (by omega) h7]; exact hp ho.2.2
    · rw [pr_agg (by omega)]
      rcases agg_cases (show 8 ≤ p.tag by omega) ht.2 with e | e | e | e <;> rw [e] <;> exact ⟨_, _, rfl, by decide⟩
 | two p a b => rw [pr_two]; exact hp (ok_two h).2.2.1
/-- no part begins with NOT -/
theorem par_caps {t : Tr} (h : t.ok cntB = true) {T : List UInt8} (hT : sepP T) : caps (parT t ++ T) ≠ [78, 79, 84] := by
 cases hb : bareT t
 · rw [par_not hb]; show ([] : List UInt8) ≠ _; decide
 · rw [par_bare hb]
   cases t with
   | leaf p =>
    rw [pr_leaf]
    rcases leaf_caps (ok_leaf h).2 (ok_leaf h).1 hT with e | e
    · rw [e]; show caps ([67, 79, 85, 78, 84] ++ (40 :: 42 :: 41 :: T)) ≠ _; rw [caps_stop (by decide) (by rintro b r e; injection e with e; subst e; rfl)]; decide
    · intro e2; rw [e2] at e; exact absurd e (by decide)
   | one p a =>
    have h8 : 8 ≤ p.tag := of_decide_eq_true hb
    have ht := tag_one (ok_one h).1
    have hs := agg_sg h8 ht.2
    rw [pr_agg h8, List.append_assoc, List.cons_append, caps_stop hs.1 (by rintro b r e; injection e with e; subst e; rfl)]
    intro e; rw [e] at hs; exact absurd hs.2 (by decide)
   | two p a b => cases hb
def NP (t : Tr) : Prop := ∀ u x y, u.ok cntB = true → endP x → endP y → prT t ++ x = prT u ++ y → t = u ∧ x = y
def PP (t : Tr) : Prop := ∀ u x y, u.ok cntB = true → sepP x → sepP y → parT t ++ x = parT u ++ y → t = u ∧ x = y
def BP (t : Tr) : Prop := ∀ u x y, bareT u = true → u.ok cntB = true → sepP x → sepP y → prT t ++ x = prT u ++ y → t = u ∧ x = y
theorem leaf_agg {p q : Py} {a : Tr} {x y : List UInt8} (h : (Tr.leaf p).ok cntB = true) (h2 : (Tr.one q a).ok cntB = true) (h8 : 8 ≤ q.tag) (hx : sepP x) (e : leafU p ++ x = sgL q.tag ++ (40 :: (prT a ++ [41])) ++ y) : False := by
 have ho := ok_one h2
 have ht := tag_one ho.1
 have hs := agg_sg h8 ht.2
 have hc : caps (leafU p ++ x) = sgL q.tag := by rw [e, List.append_assoc, List.cons_append, caps_stop hs.1 (by rintro b r e; injection e with e; subst e; rfl)]
 rcases leaf_caps (ok_leaf h).2 (ok_leaf h).1 hx with e3 | e3
 · subst e3
   have hc2 : caps (leafU ⟨3, 0, 0, 0, eB, eB, eB⟩ ++ x) = [67, 79, 85, 78, 84] := by
    show caps ([67, 79, 85, 78, 84] ++ (40 :: 42 :: 41 :: x)) = _
    exact caps_stop (by decide) (by rintro b r e; injection e with e; subst e; rfl)
   rw [← hc, hc2] at e
   have e4 : ([67, 79, 85, 78, 84] ++ (40 :: 42 :: 41 :: x) : List UInt8) = [67, 79, 85, 78, 84] ++ (40 :: (prT a ++ [41] ++ y)) := by
    rw [List.append_assoc] at e
    exact e
   have e5 := List.append_cancel_left e4
   injection e5 with _ e5
   obtain ⟨b, r, hb, hne⟩ := pr_head ho.2.2
   rw [hb] at e5
   injection e5 with e5
   exact hne e5.symm
 · rw [hc] at e3
   have h9 := hs.2
   revert e3 h9
   generalize sgL q.tag = g
   intro e3 h9
   simp only [List.mem_cons, List.not_mem_nil, or_false] at e3 h9
   rcases h9 with rfl | rfl | rfl | rfl <;> revert e3 <;> decide
theorem BP_leaf {p : Py} (h : (Tr.leaf p).ok cntB = true) : BP (.leaf p) := by
 intro u x y hb hu hx hy e
 rw [pr_leaf] at e
 cases u with
 | leaf q =>
  rw [pr_leaf] at e
  have h1 := leaf_dec (ok_leaf h).2 (ok_leaf h).1 hx
  rw [e, leaf_dec (ok_leaf hu).2 (ok_leaf hu).1 hy] at h1
  subst h1
  exact ⟨rfl, List.append_cancel_left e⟩
 | one q b =>
  have h8 : 8 ≤ q.tag := of_decide_eq_true hb
  rw [pr_agg h8] at e
  exact (leaf_agg h hu h8 hx e).elim
 | two q b d => cases hb
theorem BP_agg {p : Py} {a : Tr} (h : (Tr.one p a).ok cntB = true) (h8 : 8 ≤ p.tag) (ha : NP a) : BP (.one p a) := by
 intro u x y hb hu hx hy e
 rw [pr_agg h8] at e
 cases u with
 | leaf q =>
  rw [pr_leaf] at e
  exact (leaf_agg hu h h8 hy e.symm).elim
 | one q b =>
  have g8 : 8 ≤ q.tag := of_decide_eq_true hb
  rw [pr_agg g8] at e
  have ho := ok_one h
  have hp := ok_one hu
  have ht := tag_one ho.1
  have hq := tag_one hp.1
  have c1 : caps (sgL p.tag ++ (40 :: (prT a ++ [41])) ++ x) = sgL p.tag := by rw [List.append_assoc, List.cons_append, caps_stop (agg_sg h8 ht.2).1 (by rintro b r e; injection e with e; subst e; rfl)]
  have c2 : caps (sgL q.tag ++ (40 :: (prT b ++ [41])) ++ y) = sgL q.tag := by rw [List.append_assoc, List.cons_append, caps_stop (agg_sg g8 hq.2).1 (by rintro b r e; injection e with e; subst e; rfl)]
  have ht2 := agg_inj h8 ht.2 g8 hq.2 (by rw [← c1, e, c2])
  have hpq : p = q := by rw [inner_zero ho.2.1 (.inl ho.1), inner_zero hp.2.1 (.inl hp.1), ht2]
  subst hpq
  rw [List.append_assoc, List.append_assoc] at e
  have e2 := List.append_cancel_left e
  rw [List.cons_append, List.cons_append] at e2
  injection e2 with _ e2
  rw [List.append_assoc, List.append_assoc] at e2
  have e3 := ha b _ _ hp.2.2 (.inr ⟨x, .inl rfl⟩) (.inr ⟨y, .inl rfl⟩) e2
  obtain ⟨rfl, e3⟩ := e3
  injection e3 with _ e3
  exact ⟨rfl, e3⟩
 | two q b d => cases hb
theorem PP_bare {t : Tr} (ht : t.ok cntB = true) (hb : bareT t = true) (h : BP t) : PP t := by
 intro u x y hu hx hy e
 rw [par_bare hb] at e
 cases hub : bareT u
 · rw [par_not hub] at e
   obtain ⟨b, r, e1, _, hne⟩ := bare_head ht hb
   rw [e1] at e
   injection e with e
   exact absurd e hne
 · rw [par_bare hub] at e
   exact h u x y hub hu hx hy e
theorem PP_not {t : Tr} (hb : bareT t = false) (h : NP t) : PP t := by
 intro u x y hu hx hy e
 rw [par_not hb] at e
 cases hub : bareT u
 · rw [par_not hub] at e
   rw [List.cons_append, List.cons_append] at e
   injection e with _ e
   rw [List.append_assoc, List.append_assoc] at e
   obtain ⟨rfl, e3⟩ := h u _ _ hu (.inr ⟨x, .inl rfl⟩) (.inr ⟨y, .inl rfl⟩) e
   injection e3 with _ e3
   exact ⟨rfl, e3⟩
 · rw [par_bare hub] at e
   obtain ⟨b, r, e1, _, hne⟩ := bare_head hu hub
   rw [e1] at e
   injection e with e
   exact absurd e.symm hne
end Go.Proofs.YtoaggmldekejoaaGreatDoor
/- Unlike trees are written unlike: whole trees. Plain Lean. Conditions: none. -/
namespace Go.Proofs.YtoaggmldekejoaaGreatDoor
/-- a sign within a tree is none of the words that may stand behind one -/
def opP (T : List UInt8) : Prop := ∃ r, T = 32 :: r ∧ ∀ y : List UInt8, (r ++ y).takeWhile (fun b => decide (b ≠ 32)) ∉ kws
theorem kws32 : ∀ w ∈ kws, w.all (fun b => decide (b ≠ 32)) = true := by decide
theorem end32 {x T y : List UInt8} (h : endP x) (hT : opP T) (e : x = T ++ y) : False := by
 obtain ⟨r, rfl, hr⟩ := hT
 rcases h with h | ⟨r', h | h | ⟨w, hw, h⟩⟩
 · rw [h] at e; cases e
 · rw [h] at e; injection e with e; exact absurd e (by decide)
 · rw [h] at e; injection e with e; exact absurd e (by decide)
 · rw [h] at e
   injection e with _ e
   have e2 : r ++ y = w ++ 32 :: r' := e.symm
   refine hr y ?_
   rw [e2, takeWhile_all (kws32 w hw) (by rintro b r' e; injection e with e; subst e; rfl)]
   exact hw
theorem two_kwN : ∀ i ∈ List.range 24, 12 ≤ i → sgs.getD (i - 1) [] ∉ kws := by decide
theorem two_kw {t : Int} (h1 : 12 ≤ t) (h2 : t ≤ 23) : sgL t ∉ kws := two_kwN t.toNat (List.mem_range.2 (by omega)) (by omega)
theorem tw32 {w r : List UInt8} (h : w.all (fun b => decide (b ≠ 32)) = true) : (w ++ (32 :: r)).takeWhile (fun b => decide (b ≠ 32)) = w :=
 takeWhile_all h (by rintro b r' e; injection e with e; subst e; rfl)
/-- the part that a tree begins with, and what follows it -/
def frontT : Tr → Option (Tr × List UInt8)
 | .leaf p => some (.leaf p, [])
 | .one p a => if p.tag ≤ 5 then none else if p.tag ≤ 7 then some (a, 32 :: sgL p.tag) else some (.one p a, [])
 | .two p a b => some (a, 32 :: (sgL p.tag ++ (32 :: parT b)))
theorem front_one (p : Py) (a : Tr) : frontT (.one p a) = if p.tag ≤ 5 then none else if p.tag ≤ 7 then some (a, 32 :: sgL p.tag) else some (.one p a, []) := rfl
theorem front_some {t h : Tr} {T : List UInt8} (ht : t.ok cntB = true) (e : frontT t = some (h, T)) : prT t = parT h ++ T ∧ h.ok cntB = true ∧ (T = [] ∧ h = t ∧ bareT t = true ∨ opP T ∧ h.size < t.size) := by
 cases t with
 | leaf p =>
  injection e with e
  injection e with e1 e2
  subst e1 e2
  exact ⟨by rw [par_bare rfl, List.append_nil], ht, .inl ⟨rfl, rfl, rfl⟩⟩
 | one p a =>
  rw [front_one] at e
  by_cases h5 : p.tag ≤ 5
  · rw [if_pos h5] at e; cases e
  · rw [if_neg h5] at e
    by_cases h7 : p.tag ≤ 7
    · rw [if_pos h7] at e
      injection e with e
      injection e with e1 e2
      subst e1 e2
      refine ⟨pr_post (by omega) h7, (ok_one ht).2.2, .inr ⟨⟨_, rfl, fun y => ?_⟩, by rw [Tr.size_one]; omega⟩⟩
      have e2 : (sgL p.tag ++ y).takeWhile (fun b => decide (b ≠ 32)) = [73, 83] := by
       rcases (show p.tag = 6 ∨ p.tag = 7 by omega) with hp | hp <;> rw [hp] <;> rfl
      rw [e2]; decide
    · rw [if_neg h7] at e
      injection e with e
      injection e with e1 e2
      subst e1 e2
      have hb : bareT (.one p a) = true := decide_eq_true (by omega)
      exact ⟨by rw [par_bare hb, List.append_nil], ht, .inl ⟨rfl, rfl, hb⟩⟩
 | two p a b =>
  injection e with e
  injection e with e1 e2
  subst e1 e2
  refine ⟨pr_two p a b, (ok_two ht).2.2.1, .inr ⟨⟨_, rfl, fun y => ?_⟩, by rw [Tr.size_two]; omega⟩⟩
  have hg := tag_two (ok_two ht).1
  rw [List.append_assoc, List.cons_append, tw32 (two_sg hg.1 hg.2).1]
  exact two_kw hg.1 hg.2
theorem front_none {t : Tr} (ht : t.ok cntB = true) (e : frontT t = none) : ∃ p a, t = .one p a ∧ (p.tag = 4 ∨ p.tag = 5) := by
 cases t with
 | leaf p => cases e
 | one p a =>
  have hg := tag_one (ok_one ht).1
  rw [front_one] at e
  by_cases h5 : p.tag ≤ 5
  · exact ⟨p, a, rfl, by omega⟩
  · rw [if_neg h5] at e
    by_cases h7 : p.tag ≤ 7
    · rw [if_pos h7] at e; cases e
    · rw [if_neg h7] at e; cases e
 | two p a b => cases e
/-- what begins with a minus or with NOT begins with no part -/
theorem pre_no_front {p : Py} {a h : Tr} {x T y : List UInt8} (hp : p.tag = 4 ∨ p.tag = 5) (hh : h.ok cntB = true) (hT : sepP (T ++ y)) (e : sgL p.tag ++ (32 :: parT a) ++ x = parT h ++ T ++ y) : False := by
 rw [List.append_assoc, List.append_assoc] at e
 rcases hp with hp | hp
 · rw [hp] at e
   obtain ⟨b, r, e1, h1⟩ := par_head hh
   rw [e1] at e
   have e2 : (45 : UInt8) :: (32 :: parT a ++ x) = b :: (r ++ (T ++ y)) := e
   injection e2 with e2
   subst e2
   revert h1; decide
 · rw [hp] at e
   have hc := par_caps hh hT
   rw [← e] at hc
   exact hc (caps_stop (w := [78, 79, 84]) (by decide) (by rintro b r e; injection e with e; subst e; rfl))
theorem tail_sep {T y : List UInt8} (h : T = [] ∨ opP T) (hy : endP y) : sepP (T ++ y) := by
 rcases h with rfl | ⟨r, rfl, _⟩
 · exact hy.sep
 · exact sep32 _
theorem NP_all : ∀ (n : Nat) (t : Tr), t.size ≤ n → t.ok cntB = true → NP t
 | 0, t, h, _ => by have := t.size_pos; omega
 | n + 1, t, h, ht => by
  have ih := NP_all n
  have hPP : ∀ a : Tr, a.size ≤ n → a.ok cntB = true → PP a := fun a ha hoa => by
   cases hb : bareT a
   · exact PP_not hb (ih a ha hoa)
   · refine PP_bare hoa hb ?_
     cases a with
     | leaf p => exact BP_leaf hoa
     | one p c => exact BP_agg hoa (of_decide_eq_true hb) (ih c (by rw [Tr.size_one] at ha; omega) (ok_one hoa).2.2)
     | two p c d => cases hb
  have hPT : bareT t = true → PP t := fun hb => by
   refine PP_bare ht hb ?_
   cases t with
   | leaf p => exact BP_leaf ht
   | one p c => exact BP_agg ht (of_decide_eq_true hb) (ih c (by rw [Tr.size_one] at h; omega) (ok_one ht).2.2)
   | two p c d => cases hb
  intro u x y hu hx hy e
  cases hft : frontT t with
  | none =>
   obtain ⟨p, a, rfl, hp⟩ := front_none ht hft
   have ho := ok_one ht
   rw [pr_pre (by omega)] at e
   cases hfu : frontT u with
   | none =>
    obtain ⟨q, b, rfl, hq⟩ := front_none hu hfu
    have hoq := ok_one hu
    rw [pr_pre (by omega)] at e
    have htag : p.tag = q.tag := by
     rcases hp with hp | hp <;> rcases hq with hq | hq
     · rw [hp, hq]
     · rw [hp, hq] at e
       have e2 : (45 : UInt8) :: (32 :: parT a ++ x) = 78 :: (79 :: 84 :: 32 :: parT b ++ y) := e
       injection e2 with e2
       exact absurd e2 (by decide)
     · rw [hp, hq] at e
       have e2 : (78 : UInt8) :: (79 :: 84 :: 32 :: parT a ++ x) = 45 :: (32 :: parT b ++ y) := e
       injection e2 with e2
       exact absurd e2 (by decide)
     · rw [hp, hq]
    have hpq : p = q := by rw [inner_zero ho.2.1 (.inl ho.1), inner_zero hoq.2.1 (.inl hoq.1), htag]
    subst hpq
    rw [List.append_assoc, List.append_assoc] at e
    have e2 := List.append_cancel_left e
    injection e2 with _ e2
    obtain ⟨rfl, e3⟩ := hPP a (by rw [Tr.size_one] at h; omega) ho.2.2 b x y hoq.2.2 hx.sep hy.sep e2
    exact ⟨rfl, e3⟩
   | some hT =>
    obtain ⟨g, T⟩ := hT
    obtain ⟨f1, f2, f3⟩ := front_some hu hfu
    rw [f1] at e
    exact (pre_no_front hp f2 (tail_sep (f3.imp (·.1) (·.1)) hy) e).elim
  | some hT =>
   obtain ⟨g, T⟩ := hT
   obtain ⟨f1, f2, f3⟩ := front_some ht hft
   cases hfu : frontT u with
   | none =>
    obtain ⟨q, b, rfl, hq⟩ := front_none hu hfu
    rw [f1, pr_pre (by omega)] at e
    exact (pre_no_front hq f2 (tail_sep (f3.imp (·.1) (·.1)) hx) e.symm).elim
   | some hU =>
    obtain ⟨k, U⟩ := hU
    obtain ⟨g1, g2, g3⟩ := front_some hu hfu
    rw [f1, g1, List.append_assoc, List.append_assoc] at e
    have hP : PP g := by
     rcases f3 with ⟨_, e2, hb⟩ | ⟨_, hlt⟩
     · rw [e2]; exact hPT hb
     · exact hPP g (by omega) f2
    obtain ⟨hgk, e2⟩ := hP k _ _ g2 (tail_sep (f3.imp (·.1) (·.1)) hx) (tail_sep (g3.imp (·.1) (·.1)) hy) e
    rcases f3 with ⟨rfl, e3, hb⟩ | ⟨hr, hlt⟩
    · rcases g3 with ⟨rfl, e4, hb2⟩ | ⟨hr2, _⟩
      · exact ⟨by rw [← e3, hgk, e4], e2⟩
      · exact (end32 hx hr2 e2).elim
    · rcases g3 with ⟨rfl, e4, hb2⟩ | ⟨hr2, _⟩
      · exact (end32 hy hr e2.symm).elim
      · -- a sign behind a part, on both sides
        cases t with
        | leaf p =>
         have h8 : some (Tr.leaf p, ([] : List UInt8)) = some (g, T) := hft
         injection h8 with h8
         injection h8 with h8
         subst h8
         exact absurd hlt (Nat.lt_irrefl _)
        | one p a =>
         have ho := ok_one ht
         have htg := tag_one ho.1
         have hnt : ¬ p.tag ≤ 5 ∧ p.tag ≤ 7 := by
          rw [front_one] at hft
          by_cases h5 : p.tag ≤ 5
          · rw [if_pos h5] at hft; cases hft
          · rw [if_neg h5] at hft
            by_cases h7 : p.tag ≤ 7
            · exact ⟨h5, h7⟩
            · rw [if_neg h7] at hft
              injection hft with h8
              injection h8 with h8
              subst h8
              omega
         rw [front_one] at hft
         rw [if_neg hnt.1, if_pos hnt.2] at hft
         injection hft with h8
         injection h8 with h8 h9
         subst h8 h9
         cases u with
         | leaf q => injection hfu with h8; injection h8 with h8 h9; subst h9; exact (end32 hy hr e2.symm).elim
         | one q b =>
          have hoq := ok_one hu
          have htq := tag_one hoq.1
          rw [front_one] at hfu
          by_cases h5 : q.tag ≤ 5
          · rw [if_pos h5] at hfu; cases hfu
          · rw [if_neg h5] at hfu
            by_cases h7 : q.tag ≤ 7
            · rw [if_pos h7] at hfu
              injection hfu with h8
              injection h8 with h8 h9
              subst h8 h9
              subst hgk
              rw [List.cons_append, List.cons_append] at e2
              injection e2 with _ e2
              have htag : p.tag = q.tag := by
               rcases (show p.tag = 6 ∨ p.tag = 7 by omega) with hp | hp <;> rcases (show q.tag = 6 ∨ q.tag = 7 by omega) with hq | hq
               · rw [hp, hq]
               · rw [hp, hq] at e2
                 have e9 : (73 : UInt8) :: 83 :: 32 :: 78 :: 85 :: (76 :: 76 :: x) = 73 :: 83 :: 32 :: 78 :: 79 :: (84 :: 32 :: 78 :: 85 :: 76 :: 76 :: y) := e2
                 injection e9 with _ e9; injection e9 with _ e9; injection e9 with _ e9; injection e9 with _ e9; injection e9 with e9
                 exact absurd e9 (by decide)
               · rw [hp, hq] at e2
                 have e9 : (73 : UInt8) :: 83 :: 32 :: 78 :: 79 :: (84 :: 32 :: 78 :: 85 :: 76 :: 76 :: x) = 73 :: 83 :: 32 :: 78 :: 85 :: (76 :: 76 :: y) := e2
                 injection e9 with _ e9; injection e9 with _ e9; injection e9 with _ e9; injection e9 with _ e9; injection e9 with e9
                 exact absurd e9 (by decide)
               · rw [hp, hq]
              have hpq : p = q := by rw [inner_zero ho.2.1 (.inl ho.1), inner_zero hoq.2.1 (.inl hoq.1), htag]
              subst hpq
              exact ⟨rfl, List.append_cancel_left e2⟩
            · rw [if_neg h7] at hfu
              injection hfu with h8
              injection h8 with h8 h9
              subst h9
              exact (end32 hy hr e2.symm).elim
         | two q b d =>
          have hoq := ok_two hu
          have htq := tag_two hoq.1
          injection hfu with h8
          injection h8 with h8 h9
          subst h8 h9
          rw [List.cons_append, List.cons_append] at e2
          injection e2 with _ e2
          have hs := two_sg htq.1 htq.2
          have hw : (sgL p.tag ++ x).takeWhile (fun b => decide (b ≠ 32)) = sgL q.tag := by rw [e2, List.append_assoc, List.cons_append]; exact tw32 hs.1
          have hw2 : (sgL p.tag ++ x).takeWhile (fun b => decide (b ≠ 32)) = [73, 83] := by
           rcases (show p.tag = 6 ∨ p.tag = 7 by omega) with hp | hp <;> rw [hp] <;> rfl
          exact (hs.2 (hw.symm.trans hw2)).elim
        | two p a b =>
         have ho := ok_two ht
         have htg := tag_two ho.1
         injection hft with h8
         injection h8 with h8 h9
         subst h8 h9
         cases u with
         | leaf q => injection hfu with h8; injection h8 with h8 h9; subst h9; exact (end32 hy hr e2.symm).elim
         | one q d =>
          have hoq := ok_one hu
          have htq := tag_one hoq.1
          rw [front_one] at hfu
          by_cases h5 : q.tag ≤ 5
          · rw [if_pos h5] at hfu; cases hfu
          · rw [if_neg h5] at hfu
            by_cases h7 : q.tag ≤ 7
            · rw [if_pos h7] at hfu
              injection hfu with h8
              injection h8 with h8 h9
              subst h8 h9
              rw [List.cons_append, List.cons_append] at e2
              injection e2 with _ e2
              have hs := two_sg htg.1 htg.2
              have hw : (sgL q.tag ++ y).takeWhile (fun b => decide (b ≠ 32)) = sgL p.tag := by rw [← e2, List.append_assoc, List.cons_append]; exact tw32 hs.1
              have hw2 : (sgL q.tag ++ y).takeWhile (fun b => decide (b ≠ 32)) = [73, 83] := by
               rcases (show q.tag = 6 ∨ q.tag = 7 by omega) with hp | hp <;> rw [hp] <;> rfl
              exact (hs.2 (hw.symm.trans hw2)).elim
            · rw [if_neg h7] at hfu
              injection hfu with h8
              injection h8 with h8 h9
              subst h9
              exact (end32 hy hr e2.symm).elim
         | two q d f =>
          have hoq := ok_two hu
          have htq := tag_two hoq.1
          injection hfu with h8
          injection h8 with h8 h9
          subst h8 h9
          subst hgk
          rw [List.cons_append, List.cons_append] at e2
          injection e2 with _ e2
          rw [List.append_assoc, List.append_assoc, List.cons_append, List.cons_append] at e2
          have hw := congrArg (List.takeWhile fun b => decide (b ≠ 32)) e2
          rw [tw32 (two_sg htg.1 htg.2).1, tw32 (two_sg htq.1 htq.2).1] at hw
          have htag := two_inj htg.1 htg.2 htq.1 htq.2 hw
          have hpq : p = q := by rw [inner_zero ho.2.1 (.inr ho.1), inner_zero hoq.2.1 (.inr hoq.1), htag]
          subst hpq
          have e3 := List.append_cancel_left e2
          injection e3 with _ e3
          obtain ⟨rfl, e4⟩ := hPP b (by rw [Tr.size_two] at h; omega) ho.2.2.2 f x y hoq.2.2.2 hx.sep hy.sep e3
          exact ⟨rfl, e4⟩
end Go.Proofs.YtoaggmldekejoaaGreatDoor
/- Nodes and texts in memory; what the layer's tables hold. Conditions: none. -/
namespace Go.Proofs.YtoaggmldekejoaaGreatDoor
open Go.RowKit
theorem addr_more (a : Addr) (i j : Nat) (hj : 0 < j) : a.add (i + j) = ⟨(a.add i).block, (a.add i).off + j, none⟩ := by
 unfold Addr.add
 by_cases h : i = 0
 · subst h; simp; omega
 · simp [h]; omega
abbrev Nd.cells (x : Nd) : Array Value := #[.int .i64 x.p.tag, .int .i64 x.l, .int .i64 x.r, .int .i64 x.p.k, .int .i64 x.p.n, .int .u64 x.p.u, .string x.p.s, .string x.p.tb, .string x.p.nm]
def LN : Lay Nd where
 size := 9
 rep := fun _ _ x cs => cs = [.int .i64 x.p.tag, .int .i64 x.l, .int .i64 x.r, .int .i64 x.p.k, .int .i64 x.p.n, .int .u64 x.p.u, .string x.p.s, .string x.p.tb, .string x.p.nm]
 len := fun h => by subst h; rfl
 one := fun h u hu => by subst h; simp at hu; rcases hu with rfl | rfl | rfl | rfl | rfl | rfl | rfl | rfl | rfl <;> rfl
 keep := fun _ h => h
 weak := fun _ h => h
structure SN (w : World) (p : Addr) (x : Nd) : Prop where
 c0 : w.cell? p = some (.int .i64 x.p.tag)
 c1 : w.cell? ⟨p.block, p.off + 1, none⟩ = some (.int .i64 x.l)
 c2 : w.cell? ⟨p.block, p.off + 2, none⟩ = some (.int .i64 x.r)
 c3 : w.cell? ⟨p.block, p.off + 3, none⟩ = some (.int .i64 x.p.k)
 c4 : w.cell? ⟨p.block, p.off + 4, none⟩ = some (.int .i64 x.p.n)
 c5 : w.cell? ⟨p.block, p.off + 5, none⟩ = some (.int .u64 x.p.u)
 c6 : w.cell? ⟨p.block, p.off + 6, none⟩ = some (.string x.p.s)
 c7 : w.cell? ⟨p.block, p.off + 7, none⟩ = some (.string x.p.tb)
 c8 : w.cell? ⟨p.block, p.off + 8, none⟩ = some (.string x.p.nm)
theorem LN_at {w : World} {F : Nat → Prop} {A : Option Addr} {n i : Nat} {xs : List Nd} (h : LN.rd w F A n xs) (hi : i < n) : ∃ ad x, A = some ad ∧ xs[i]? = some x ∧ SN w (ad.add (i * 9)) x := by
 obtain ⟨ad, x, cs, e, hx, _, _, rfl, hc⟩ := Lay.rd_at h hi
 refine ⟨ad, x, e, hx, ⟨hc 0 _ rfl, ?_, ?_, ?_, ?_, ?_, ?_, ?_, ?_⟩⟩
 · rw [← addr_more _ _ 1 (by omega)]; exact hc 1 _ rfl
 · rw [← addr_more _ _ 2 (by omega)]; exact hc 2 _ rfl
 · rw [← addr_more _ _ 3 (by omega)]; exact hc 3 _ rfl
 · rw [← addr_more _ _ 4 (by omega)]; exact hc 4 _ rfl
 · rw [← addr_more _ _ 5 (by omega)]; exact hc 5 _ rfl
 · rw [← addr_more _ _ 6 (by omega)]; exact hc 6 _ rfl
 · rw [← addr_more _ _ 7 (by omega)]; exact hc 7 _ rfl
 · rw [← addr_more _ _ 8 (by omega)]; exact hc 8 _ rfl
def AllB : Nat → Prop := fun _ => True
theorem Lay.rd_blk {α : Type} {L : Lay α} {w : World} {F : Nat → Prop} {g n : Nat} {t : TypeId} {vs : Array Value} {xs : List α} (h : Blk w g t vs) (hl : xs.length = n) (hr : L.reps w F xs vs.toList) (hF : F g) : L.rd w F (some ⟨g, 0, none⟩) n xs :=
 ⟨hl, vs.toList, hr, fun _ => ⟨⟨g, 0, none⟩, rfl, h.lt, hF, fun j u hu => by
  rw [show (⟨g, 0, none⟩ : Addr).add j = ⟨g, j, none⟩ from by unfold Addr.add; split <;> simp_all]
  rw [h.cell j]; simpa using hu⟩⟩
theorem Utf8Tabs.below {g h : Nat} {w w' : World} (t : Lib.Utf8Tabs g h w) (b : Below w.heap.size w w') : Lib.Utf8Tabs g h w' := by
 have k : ∀ {a : Addr} {v : Value}, w.cell? a = some v → w'.cell? a = some v := fun {a v} hc => (b.cell (World.block_lt_of_cell? w a hc)).trans hc
 exact ⟨fun i hi => k (t.1 i hi), fun i hi => ⟨k (t.2 i hi).1, k (t.2 i hi).2⟩⟩
theorem CaseVar.below {g : Nat} {T : Array Lib.CaseRow} {w w' : World} (h : Lib.CaseVar g T w) (hb : Below w.heap.size w w') : Lib.CaseVar g T w' := by
 have k : ∀ {a : Addr} {v : Value}, w.cell? a = some v → w'.cell? a = some v := fun {a v} hc => (hb.cell (World.block_lt_of_cell? w a hc)).trans hc
 obtain ⟨R, oR, cap, h1, h2⟩ := h
 exact ⟨R, oR, cap, k h1, fun i hi => ⟨k (h2 i hi).1, k (h2 i hi).2.1, k (h2 i hi).2.2.1, k (h2 i hi).2.2.2.1, k (h2 i hi).2.2.2.2⟩⟩
/-- the literals that are words; the signs, by their tags -/
def vwords : List (List UInt8) := [[70, 65, 76, 83, 69], [78, 85, 76, 76], [84, 82, 85, 69]]
def asigns : List (List UInt8) := [] :: sgs
/-- what the layer's tables hold -/
structure Tab (w : World) : Prop where
 wd : ∀ i s, wordsL[i]? = some s → w.cell? ⟨2, i, none⟩ = some (.string s)
 vw : ∀ i s, vwords[i]? = some s → w.cell? ⟨1, i, none⟩ = some (.string (bS s))
 sg : ∀ i s, asigns[i]? = some s → w.cell? ⟨0, i, none⟩ = some (.string (bS s))
 ml : ∃ m, w.cell? ⟨5, 0, none⟩ = some (.int .i64 m)
 cv : Lib.CaseVar 3 Lib.caseA w
 u8 : Lib.Utf8Tabs 6 7 w
 pw : Lib.TabIs Tryz.prog w "internal/strconv.uint64pow10" .u64 Lib.pow10Tab
theorem Tab.below {w w' : World} (h : Tab w) (b : Below w.heap.size w w') : Tab w' := by
 have k : ∀ {a : Addr} {v : Value}, w.cell? a = some v → w'.cell? a = some v := fun {a v} hc => (b.cell (World.block_lt_of_cell? w a hc)).trans hc
 exact ⟨fun i s e => k (h.wd i s e), fun i s e => k (h.vw i s e), fun i s e => k (h.sg i s e), by obtain ⟨m, hm⟩ := h.ml; exact ⟨m, k hm⟩, CaseVar.below h.cv b, Utf8Tabs.below h.u8 b, Lib.tabBelow_of_tabIs h.pw w' b⟩
theorem ret_bool {a b : Bool} (h : a = b) : Ending.returned (.bool a) = Ending.returned (.bool b) := by rw [h]
end Go.Proofs.YtoaggmldekejoaaGreatDoor
/- Arguments, by what they are made of: what an argument's cells hold. Conditions: none. -/
namespace Go.Proofs.YtoaggmldekejoaaGreatDoor
open Go.ChangeShapes Go.WideShapes Go.ChangeAt Go.RowKit Go.Deep
/-- whatever is laid of type t reads as such data -/
def Opens (P : Program) {α : Type} (t : TypeId) (L : Lay α) (G : α → Prop) : Prop :=
 P.cellsOf t = L.size ∧ ∀ {H : Type} (enc : TypeId × Value → H) (w : World) (fuel : Nat) (cs : List Value) (x : DataW H × List MemPlace),
  DataW.trod enc P w 0 (fun _ => true) true fuel t cs = some x → ∃ a, L.rep w AllB a cs ∧ G a
section
variable {P : Program} {t : TypeId}
theorem opens_int {k : IntKind} (ht : P.underlying t = some (.int k)) (hc : P.cellsOf t = 1) : Opens P t (Lay.cell (Value.int k) (fun _ => rfl)) (fun n => (Lit.int k n).wf = true) :=
 ⟨hc, fun enc w fuel cs x h => by obtain ⟨n, e, _, wf⟩ := DataW.trod_int ht h; exact ⟨n, e, wf⟩⟩
theorem opens_bool (ht : P.underlying t = some .bool) (hc : P.cellsOf t = 1) : Opens P t (Lay.cell Value.bool (fun _ => rfl)) (fun _ => True) :=
 ⟨hc, fun enc w fuel cs x h => by obtain ⟨n, e, _⟩ := DataW.trod_bool ht h; exact ⟨n, e, trivial⟩⟩
theorem opens_str (ht : P.underlying t = some .string) (hc : P.cellsOf t = 1) : Opens P t (Lay.cell Value.string (fun _ => rfl)) (fun s => s.size ≤ maxLen) :=
 ⟨hc, fun enc w fuel cs x h => by obtain ⟨n, e, _, wf⟩ := DataW.trod_string ht h; exact ⟨n, e, wf⟩⟩
theorem lays_of {α : Type} {L : Lay α} {w : World} {F : Nat → Prop} {G : α → Prop} {a : Addr} : ∀ (n : Nat), (∀ i, i < n → ∃ x cs, L.rep w F x cs ∧ G x ∧ ∀ j u, cs[j]? = some u → w.cell? (a.add (i * L.size + j)) = some u) →
 ∃ xs cs, xs.length = n ∧ L.reps w F xs cs ∧ (∀ x ∈ xs, G x) ∧ ∀ j u, cs[j]? = some u → w.cell? (a.add j) = some u
 | 0, _ => ⟨[], [], rfl, rfl, by simp, by simp⟩
 | n + 1, h => by
  obtain ⟨xs, cs, hl, hr, hg, hc⟩ := lays_of n (fun i hi => h i (by omega))
  obtain ⟨x, ds, hx, gx, hd⟩ := h n (by omega)
  refine ⟨xs ++ [x], cs ++ ds, by simp [hl], Lay.reps_append hr (Lay.reps_single hx), ?_, fun j u hu => ?_⟩
  · intro y hy
    rcases List.mem_append.1 hy with hy | hy
    · exact hg y hy
    · rw [List.mem_singleton.1 hy]; exact gx
  · have hcl := Lay.reps_len hr
    rw [hl] at hcl
    rcases Nat.lt_or_ge j cs.length with hj | hj
    · rw [List.getElem?_append_left hj] at hu; exact hc j u hu
    · rw [List.getElem?_append_right hj] at hu
      have := hd _ u hu
      rwa [show n * L.size + (j - cs.length) = j from by rw [hcl] at hj ⊢; omega] at this
theorem cells_block {w : World} {p : Addr} {v : Value} (h : w.cell? p = some v) : p.block < w.heap.size := by
 unfold World.cell? at h
 rcases Nat.lt_or_ge p.block w.heap.size with h' | h'
 · exact h'
 · rw [Array.getElem?_eq_none h'] at h; cases h
theorem opens_slice {α : Type} {L : Lay α} {G : α → Prop} {e : TypeId} (ht : P.underlying t = some (.slice e)) (hc : P.cellsOf t = 1) (hp : 0 < L.size) (ho : Opens P e L G) :
 Opens P t L.slice (fun xs => ∀ x ∈ xs, G x) := by
 refine ⟨hc, fun enc w fuel cs x h => ?_⟩
 obtain ⟨hs, ho⟩ := ho
 rcases open_slice ht h with ⟨hcs, _⟩ | ⟨a, len, cap, m, n, D, Pl, hcs, _, hl, hm, hmm, _, hi⟩
 · exact ⟨[], ⟨none, 0, 0, hcs, Nat.le_refl _, by omega, Lay.rd_nil _⟩, by simp⟩
 · simp only [if_true] at hmm
   obtain ⟨xs, cs', hxl, hr, hg, hcc⟩ := lays_of (L := L) (w := w) (F := AllB) (G := G) (a := a) len (fun i hil => by
    obtain ⟨cs', h1, h2⟩ := hi i (by omega)
    obtain ⟨y, hy, gy⟩ := ho enc w n cs' _ h2
    obtain ⟨_, hlen, hat⟩ := World.cells?_some h1
    refine ⟨y, cs', hy, gy, fun j u hu => ?_⟩
    have hj : j < cs'.length := (List.getElem?_eq_some_iff.1 hu).1
    rw [← hs, ← Go.Deep.add_add, hat j (by omega), hu])
   refine ⟨xs, ⟨some a, len, cap, hcs, hl, hm, hxl, cs', hr, fun hn => ⟨a, rfl, ?_, trivial, hcc⟩⟩, hg⟩
   have hcl := Lay.reps_len hr
   have h0 : cs'[0]? = some (cs'[0]'(by rw [hcl, hxl]; exact Nat.mul_pos hn hp)) := List.getElem?_eq_getElem _
   have := cells_block (hcc 0 _ h0)
   rwa [show (a.add 0).block = a.block from by unfold Addr.add; split <;> rfl] at this
/-- the fields from one on -/
def OpensAt (P : Program) {α : Type} (fs : Array Field) (off : Nat) (L : Lay α) (G : α → Prop) : Prop :=
 ∀ {H : Type} (enc : TypeId × Value → H) (w : World) (fuel : Nat) (cs : List Value), cs.length = off + L.size →
  (∀ (j : Nat) (f : Field), fs[j]? = some f → ∃ x, DataW.trod enc P w 0 (fun _ => true) true fuel f.type ((cs.drop f.offset).take (P.cellsOf f.type)) = some x) → ∃ a, L.rep w AllB a (cs.drop off) ∧ G a
theorem opensAt_last {α : Type} {L : Lay α} {G : α → Prop} {fs : Array Field} {off : Nat} (i : Nat) (ft : TypeId) (hf : (fs[i]?).map (fun f => (f.type, f.offset)) = some (ft, off)) (ho : Opens P ft L G) : OpensAt P fs off L G := by
 intro H enc w fuel cs hl h
 obtain ⟨f, hfi, hfe⟩ := Option.map_eq_some_iff.1 hf
 injection hfe with e1 e2
 obtain ⟨x, hx⟩ := h i f hfi
 rw [e1, e2, ho.1, List.take_of_length_le (by rw [List.length_drop]; omega)] at hx
 exact ho.2 enc w fuel _ x hx
theorem opensAt_cons {α β : Type} {L : Lay α} {G : α → Prop} {M : Lay β} {G' : β → Prop} {fs : Array Field} {off : Nat} (i : Nat) (ft : TypeId) (hf : (fs[i]?).map (fun f => (f.type, f.offset)) = some (ft, off)) (ho : Opens P ft L G) (h2 : OpensAt P fs (off + L.size) M G') :
 OpensAt P fs off (L.pair M) (fun p => G p.1 ∧ G' p.2) := by
 intro H enc w fuel cs hl h
 obtain ⟨f, hfi, hfe⟩ := Option.map_eq_some_iff.1 hf
 injection hfe with e1 e2
 obtain ⟨x, hx⟩ := h i f hfi
 rw [e1, e2, ho.1] at hx
 obtain ⟨a, ra, ga⟩ := ho.2 enc w fuel _ x hx
 obtain ⟨b, rb, gb⟩ := h2 enc w fuel cs (by rw [hl]; exact (Nat.add_assoc _ _ _).symm) h
 refine ⟨(a, b), ⟨_, _, ?_, ra, rb⟩, ga, gb⟩
 rw [← List.drop_drop]
 exact (List.take_append_drop _ _).symm
theorem opens_struct {α : Type} {L : Lay α} {G : α → Prop} {fs : Array Field} (ht : P.underlying t = some (.struct fs)) (hc : P.cellsOf t = L.size) (h : OpensAt P fs 0 L G) : Opens P t L G := by
 refine ⟨hc, fun enc w fuel cs x hx => ?_⟩
 obtain ⟨xs, n, _, _, hl, hxl, hf⟩ := DataW.trod_struct ht hx
 have := h enc w n cs (by rw [hl, hc, Nat.zero_add]) (fun j f hj => by
  have hjl : j < fs.size := (Array.getElem?_eq_some_iff.1 hj).1
  exact ⟨xs[j]'(by omega), (hf j f hj).trans (List.getElem?_eq_getElem _)⟩)
 simpa using this
theorem opens_as {α β : Type} {L : Lay α} {G : α → Prop} {M : Lay β} {G' : β → Prop} (h : Opens P t L G) (hs : L.size = M.size) (hm : ∀ w a cs, L.rep w AllB a cs → G a → ∃ b, M.rep w AllB b cs ∧ G' b) : Opens P t M G' :=
 ⟨h.1.trans hs, fun enc w fuel cs x hx => by obtain ⟨a, ra, ga⟩ := h.2 enc w fuel cs x hx; exact hm w a cs ra ga⟩
end
end Go.Proofs.YtoaggmldekejoaaGreatDoor
/- Names: the reference's IsName and what it calls. Conditions: none. -/
namespace Go.Proofs.YtoaggmldekejoaaGreatDoor
open Go.RowKit
set_option maxRecDepth 100000 in
theorem lsmall_any (c : Int) (w : World) : Calls Tryz.prog 76 #[.int .i32 c] w fun e w' => e = .returned (.bool (smI c)) ∧ w = w' := by
 have HR := Lib.hid (show smI c = (decide (97 ≤ c) && decide (c ≤ 122)) from rfl)
 generalize smI c = r at *
 go_enter Tryz.func76, Tryz.ntmps76
 go_wp2
 all_goals
  go_ret
  exact ⟨by rw [HR.out]; simp [*] <;> omega, rfl⟩
set_option maxRecDepth 100000 in
theorem ldigit_any (c : Int) (w : World) : Calls Tryz.prog 79 #[.int .i32 c] w fun e w' => e = .returned (.bool (dgI c)) ∧ w = w' := by
 have HR := Lib.hid (show dgI c = (decide (48 ≤ c) && decide (c ≤ 57)) from rfl)
 generalize dgI c = r at *
 go_enter Tryz.func79, Tryz.ntmps79
 go_wp2
 all_goals
  go_ret
  exact ⟨by rw [HR.out]; simp [*] <;> omega, rfl⟩
end Go.Proofs.YtoaggmldekejoaaGreatDoor
/- Names: the reference's Words, IsWord, Upper, IsName. Conditions: none. -/
namespace Go.Proofs.YtoaggmldekejoaaGreatDoor
open Go.RowKit
theorem run_bt {s : ByteArray} {i : Nat} {b : UInt8} (h : s.data.toList[i]? = some b) (W : World) : (Instr.index 9 (.string s) (.int .i64 (i : Int))).run Tryz.prog W = .ok (.int .u8 (b.toNat : Int)) W := by
 have hi : i < s.data.toList.length := by
  rcases Nat.lt_or_ge i s.data.toList.length with h1 | h1
  · exact h1
  · rw [List.getElem?_eq_none h1] at h; cases h
 have hs : i < s.size := by simpa using hi
 rw [run_index_string W 9 s .i64 (i : Int) Tryz.underlying9, dif_pos ⟨by omega, by omega⟩]
 rw [List.getElem?_eq_getElem hi] at h
 injection h with h
 have e : s[((i : Int)).toNat]'(by simpa using hs) = b := by
  rw [← h]
  simp only [Int.toNat_natCast]
  simp
  rfl
 rw [e]
theorem bt_of {s : ByteArray} {i : Nat} {b : UInt8} (h : s.data.toList[i]? = some b) : bt s i = (b.toNat : Int) := by unfold bt; rw [List.getD, h]; rfl
theorem byte_at {s : ByteArray} {i : Nat} (h : i < s.size) : ∃ b, s.data.toList[i]? = some b := ⟨s.data.toList[i]'(by simpa using h), List.getElem?_eq_getElem (by simpa using h)⟩
theorem allok_at {l : List Int} {i : Nat} {x : Int} (h : l[i]? = some x) : (l.drop i).all okI = (okI x && (l.drop (i + 1)).all okI) := by
 have hi : i < l.length := by
  rcases Nat.lt_or_ge i l.length with h1 | h1
  · exact h1
  · rw [List.getElem?_eq_none h1] at h; cases h
 rw [List.getElem?_eq_getElem hi] at h
 injection h with h
 rw [List.drop_eq_getElem_cons hi, h, List.all_cons]
theorem bts_at {s : ByteArray} {i : Nat} {b : UInt8} (h : s.data.toList[i]? = some b) : (bts s)[i]? = some (b.toNat : Int) := by unfold bts; rw [List.getElem?_map, h]; rfl
theorem bts_len (s : ByteArray) : (bts s).length = s.size := by unfold bts; simp
end Go.Proofs.YtoaggmldekejoaaGreatDoor
