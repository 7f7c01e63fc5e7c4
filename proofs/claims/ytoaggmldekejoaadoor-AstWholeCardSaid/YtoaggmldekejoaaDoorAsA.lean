/- How trees are written, in plain Lean; unlike trees are written unlike. Conditions: none. -/
import Derived.Test.YtoaggmldekejoaaDoorAsP
import Derived.Test.YtoaggmldekejoaaDoorLxP
namespace Go.Proofs.YtoaggmldekejoaaDoor
abbrev eB : ByteArray := ⟨#[]⟩
/-- is a value plain? -/
def plainV (k n u : Int) (s : ByteArray) : Bool :=
  if k = 0 then decide (n = 0 ∧ u = 0 ∧ s.data.toList = [])
  else if k = 1 then decide ((n = 0 ∨ n = 1) ∧ u = 0 ∧ s.data.toList = [])
  else if k = 2 then decide (u = 0 ∧ s.data.toList = [])
  else decide (k = 3 ∧ n = 0 ∧ u = 0 ∧ s.size ≤ 40)
/-- is what counts of a node so, and all else zero? -/
def cntB (p : Py) : Bool :=
  if p.tag = 1 then decide (p.tb.data.toList = []) && (decide (p.nm.data.toList = []) && (plainV p.k p.n p.u p.s && (decide (0 ≤ p.n) && p.s.data.toList.all plU)))
  else if p.tag = 2 then decide (p.k = 0 ∧ p.n = 0 ∧ p.u = 0 ∧ p.s.data.toList = []) && (nameB p.nm && (decide (p.tb.data.toList = []) || nameB p.tb))
  else decide (p.k = 0 ∧ p.n = 0 ∧ p.u = 0 ∧ p.s.data.toList = []) && (decide (p.tb.data.toList = []) && decide (p.nm.data.toList = []))
def sgs : List (List UInt8) := [[], [], [67, 79, 85, 78, 84, 40, 42, 41], [45], [78, 79, 84], [73, 83, 32, 78, 85, 76, 76], [73, 83, 32, 78, 79, 84, 32, 78, 85, 76, 76], [67, 79, 85, 78, 84], [83, 85, 77], [77, 73, 78], [77, 65, 88],
  [43], [45], [42], [47], [61], [60, 62], [60], [60, 61], [62], [62, 61], [65, 78, 68], [79, 82]]
def sgL (t : Int) : List UInt8 := sgs.getD (t.toNat - 1) []
/-- a literal, as it is written -/
def litU (k n : Int) (s : List UInt8) : List UInt8 :=
  if k = 0 then [78, 85, 76, 76] else if k = 1 then (if n = 1 then [84, 82, 85, 69] else [70, 65, 76, 83, 69])
  else if k = 2 then Lib.decDigits n.toNat else 39 :: (quoU s ++ [39])
def namU (tb nm : List UInt8) : List UInt8 := if tb = [] then nm else tb ++ (46 :: nm)
def leafU (p : Py) : List UInt8 := if p.tag = 1 then litU p.k p.n p.s.data.toList else if p.tag = 2 then namU p.tb.data.toList p.nm.data.toList else sgL p.tag
def bareT : Tr → Bool
  | .leaf _ => true
  | .one p _ => decide (8 ≤ p.tag)
  | .two _ _ _ => false
def prT : Tr → List UInt8
  | .leaf p => leafU p
  | .one p a =>
    if p.tag ≤ 5 then sgL p.tag ++ (32 :: (if bareT a then prT a else 40 :: (prT a ++ [41])))
    else if p.tag ≤ 7 then (if bareT a then prT a else 40 :: (prT a ++ [41])) ++ (32 :: sgL p.tag)
    else sgL p.tag ++ (40 :: (prT a ++ [41]))
  | .two p a b => (if bareT a then prT a else 40 :: (prT a ++ [41])) ++ (32 :: (sgL p.tag ++ (32 :: (if bareT b then prT b else 40 :: (prT b ++ [41])))))
def parT (a : Tr) : List UInt8 := if bareT a then prT a else 40 :: (prT a ++ [41])
/-! ### leaves -/
theorem ba_of {s : ByteArray} {l : List UInt8} (h : s.data.toList = l) : s = bS l := by rw [← h]
theorem ba_e {s : ByteArray} (h : s.data.toList = []) : s = eB := ba_of h
theorem leaf_cases {p : Py} (h : cntB p = true) (h0 : partsI p.tag = 0) :
    p = ⟨1, 0, 0, 0, eB, eB, eB⟩ ∨ p = ⟨1, 1, 0, 0, eB, eB, eB⟩ ∨ p = ⟨1, 1, 1, 0, eB, eB, eB⟩ ∨ (∃ n : Nat, p = ⟨1, 2, (n : Int), 0, eB, eB, eB⟩) ∨ (∃ s, p = ⟨1, 3, 0, 0, s, eB, eB⟩) ∨
    (∃ tb nm, p = ⟨2, 0, 0, 0, eB, tb, nm⟩ ∧ nameB nm = true ∧ (tb = eB ∨ nameB tb = true)) ∨ p = ⟨3, 0, 0, 0, eB, eB, eB⟩ := by
  obtain ⟨t, k, n, u, s, tb, nm⟩ := p
  have ht : 1 ≤ t ∧ t ≤ 3 := by
    unfold partsI at h0
    simp only at h0
    split at h0
    · omega
    · split at h0
      · omega
      · split at h0
        · omega
        · split at h0 <;> omega
  unfold cntB at h
  simp only at h
  by_cases h1 : t = 1
  · subst h1
    rw [if_pos rfl] at h
    simp only [Bool.and_eq_true, decide_eq_true_eq] at h
    obtain ⟨e1, e2, e3, e4, _⟩ := h
    rw [ba_e e1, ba_e e2]
    unfold plainV at e3
    split at e3
    · rename_i hk
      obtain ⟨g1, g2, g3⟩ := of_decide_eq_true e3
      rw [hk, g1, g2, ba_e g3]; exact .inl rfl
    · split at e3
      · rename_i hk
        obtain ⟨g1, g2, g3⟩ := of_decide_eq_true e3
        rw [hk, g2, ba_e g3]
        rcases g1 with g1 | g1
        · rw [g1]; exact .inr (.inl rfl)
        · rw [g1]; exact .inr (.inr (.inl rfl))
      · split at e3
        · rename_i hk
          obtain ⟨g2, g3⟩ := of_decide_eq_true e3
          rw [hk, g2, ba_e g3]
          exact .inr (.inr (.inr (.inl ⟨n.toNat, by rw [Int.toNat_of_nonneg e4]⟩)))
        · obtain ⟨g0, g1, g2, g3⟩ := of_decide_eq_true e3
          rw [g0, g1, g2]
          exact .inr (.inr (.inr (.inr (.inl ⟨s, rfl⟩))))
  · rw [if_neg h1] at h
    by_cases h2 : t = 2
    · subst h2
      rw [if_pos rfl] at h
      simp only [Bool.and_eq_true, Bool.or_eq_true, decide_eq_true_eq] at h
      obtain ⟨⟨g1, g2, g3, g4⟩, g5, g6⟩ := h
      rw [g1, g2, g3, ba_e g4]
      exact .inr (.inr (.inr (.inr (.inr (.inl ⟨tb, nm, rfl, g5, g6.imp_left ba_e⟩)))))
    · rw [if_neg h2] at h
      simp only [Bool.and_eq_true, decide_eq_true_eq] at h
      obtain ⟨⟨g1, g2, g3, g4⟩, g5, g6⟩ := h
      have h3 : t = 3 := by omega
      rw [h3, g1, g2, g3, ba_e g4, ba_e g5, ba_e g6]
      exact .inr (.inr (.inr (.inr (.inr (.inr rfl)))))
theorem inner_zero {p : Py} (h : cntB p = true) (h0 : partsI p.tag = 1 ∨ partsI p.tag = 2) : p = ⟨p.tag, 0, 0, 0, eB, eB, eB⟩ := by
  obtain ⟨t, k, n, u, s, tb, nm⟩ := p
  have ht : t ≠ 1 ∧ t ≠ 2 := by
    constructor
    · rintro rfl
      exact absurd (show partsI 1 = 1 ∨ partsI 1 = 2 from h0) (by decide)
    · rintro rfl
      exact absurd (show partsI 2 = 1 ∨ partsI 2 = 2 from h0) (by decide)
  unfold cntB at h
  simp only at h
  rw [if_neg ht.1, if_neg ht.2] at h
  simp only [Bool.and_eq_true, decide_eq_true_eq] at h
  obtain ⟨⟨g1, g2, g3, g4⟩, g5, g6⟩ := h
  rw [g1, g2, g3, ba_e g4, ba_e g5, ba_e g6]
/-- what may stand behind a part -/
def sepP (x : List UInt8) : Prop := x = [] ∨ ∃ r, x = 32 :: r ∨ x = 41 :: r
def endP (x : List UInt8) : Prop := x = [] ∨ ∃ r, x = 41 :: r
theorem endP.sep {x : List UInt8} (h : endP x) : sepP x := h.imp_right fun ⟨r, e⟩ => ⟨r, .inr e⟩
theorem sep32 (r : List UInt8) : sepP (32 :: r) := .inr ⟨r, .inl rfl⟩
theorem sep41 (r : List UInt8) : sepP (41 :: r) := .inr ⟨r, .inr rfl⟩
/-- the word that stands first -/
def wB (b : UInt8) : Bool := paU b || decide (b = 46)
def notSep (b : UInt8) : Bool := decide (b ≠ 32) && decide (b ≠ 41)
theorem wB_sep {b : UInt8} (h : wB b = true) : notSep b = true := by
  unfold notSep
  rw [Bool.and_eq_true, decide_eq_true_eq, decide_eq_true_eq]
  constructor
  · rintro rfl; revert h; decide
  · rintro rfl; revert h; decide
theorem sep_no {x : List UInt8} (h : sepP x) : ∀ b r, x = b :: r → notSep b = false := by
  rintro b r rfl
  rcases h with h | ⟨r', h | h⟩
  · cases h
  · injection h with h; subst h; rfl
  · injection h with h; subst h; rfl
theorem ext_w {w x : List UInt8} (h : w.all wB = true) (hx : sepP x) : (w ++ x).takeWhile notSep = w :=
  takeWhile_all (List.all_eq_true.2 fun b hb => wB_sep (List.all_eq_true.1 h b hb)) (sep_no hx)
def leafD (l : List UInt8) : Py :=
  if l.head? = some 39 then (match qGo l.tail with | some (t, _) => ⟨1, 3, 0, 0, bS t, eB, eB⟩ | none => ⟨0, 0, 0, 0, eB, eB, eB⟩)
  else
    if l.takeWhile notSep = [78, 85, 76, 76] then ⟨1, 0, 0, 0, eB, eB, eB⟩
    else if l.takeWhile notSep = [84, 82, 85, 69] then ⟨1, 1, 1, 0, eB, eB, eB⟩
    else if l.takeWhile notSep = [70, 65, 76, 83, 69] then ⟨1, 1, 0, 0, eB, eB, eB⟩
    else if l.takeWhile notSep = [67, 79, 85, 78, 84, 40, 42] then ⟨3, 0, 0, 0, eB, eB, eB⟩
    else if (l.takeWhile notSep).all dgU then ⟨1, 2, (valU 0 (l.takeWhile notSep) : Int), 0, eB, eB, eB⟩
    else if (46 : UInt8) ∈ l.takeWhile notSep then ⟨2, 0, 0, 0, eB, bS ((l.takeWhile notSep).takeWhile fun b => decide (b ≠ 46)), bS (((l.takeWhile notSep).dropWhile fun b => decide (b ≠ 46)).drop 1)⟩
    else ⟨2, 0, 0, 0, eB, eB, bS (l.takeWhile notSep)⟩
theorem name_small {s : ByteArray} (h : nameB s = true) : s.data.toList.all paU = true ∧ (46 : UInt8) ∉ s.data.toList ∧ ∃ b r, s.data.toList = b :: r ∧ smI (b.toNat : Int) = true := by
  obtain ⟨h1, _, _, h4⟩ := name_parts (l := s.data.toList) h
  refine ⟨h1, fun h46 => ?_, h4⟩
  have := List.all_eq_true.1 h1 46 h46
  revert this; decide
theorem not_word {b : UInt8} {r : List UInt8} (h : smI (b.toNat : Int) = true) : (b :: r) ≠ [78, 85, 76, 76] ∧ (b :: r) ≠ [84, 82, 85, 69] ∧ (b :: r) ≠ [70, 65, 76, 83, 69] ∧ (b :: r) ≠ [67, 79, 85, 78, 84, 40, 42] ∧ (b :: r).all dgU = false ∧ b ≠ 39 := by
  refine ⟨?_, ?_, ?_, ?_, ?_, ?_⟩
  · intro e; injection e with e; subst e; revert h; decide
  · intro e; injection e with e; subst e; revert h; decide
  · intro e; injection e with e; subst e; revert h; decide
  · intro e; injection e with e; subst e; revert h; decide
  · rw [List.all_cons]
    have : dgU b = false := by
      unfold smI at h
      unfold dgU dgI
      rw [Bool.and_eq_true, decide_eq_true_eq, decide_eq_true_eq] at h
      rw [Bool.and_eq_false_iff, decide_eq_false_iff_not, decide_eq_false_iff_not]
      omega
    rw [this]; rfl
  · rintro rfl; revert h; decide
theorem pa_w {l : List UInt8} (h : l.all paU = true) : l.all wB = true := List.all_eq_true.2 fun b hb => by unfold wB; rw [List.all_eq_true.1 h b hb]; rfl
theorem split46 : ∀ {t m : List UInt8}, (46 : UInt8) ∉ t → (t ++ 46 :: m).takeWhile (fun b => decide (b ≠ 46)) = t ∧ (t ++ 46 :: m).dropWhile (fun b => decide (b ≠ 46)) = 46 :: m
  | [], m, _ => ⟨rfl, rfl⟩
  | b :: t, m, h => by
    have hb : b ≠ 46 := fun e => h (by rw [e]; simp)
    have ih := split46 (t := t) (m := m) (fun e => h (by simp [e]))
    rw [List.cons_append, List.takeWhile_cons, List.dropWhile_cons, if_pos (by simpa using hb), if_pos (by simpa using hb), ih.1, ih.2]
    exact ⟨rfl, rfl⟩
theorem leaf_dec {p : Py} (h : cntB p = true) (h0 : partsI p.tag = 0) {x : List UInt8} (hx : sepP x) : leafD (leafU p ++ x) = p := by
  rcases leaf_cases h h0 with rfl | rfl | rfl | ⟨n, rfl⟩ | ⟨s, rfl⟩ | ⟨tb, nm, rfl, hn, ht⟩ | rfl
  · have e := ext_w (w := [78, 85, 76, 76]) (x := x) (by decide) hx
    show leafD ([78, 85, 76, 76] ++ x) = _
    unfold leafD
    rw [e]
    rfl
  · have e := ext_w (w := [70, 65, 76, 83, 69]) (x := x) (by decide) hx
    show leafD ([70, 65, 76, 83, 69] ++ x) = _
    unfold leafD
    rw [e]
    rfl
  · have e := ext_w (w := [84, 82, 85, 69]) (x := x) (by decide) hx
    show leafD ([84, 82, 85, 69] ++ x) = _
    unfold leafD
    rw [e]
    rfl
  · have hd := dec_all n
    have e := ext_w (w := Lib.decDigits n) (x := x) (pa_w (List.all_eq_true.2 fun b hb => dg_pa (List.all_eq_true.1 hd b hb))) hx
    show leafD (Lib.decDigits n ++ x) = _
    obtain ⟨b, r, hbr⟩ := List.exists_cons_of_ne_nil (dec_ne n)
    have hb : dgU b = true := List.all_eq_true.1 hd b (by rw [hbr]; simp)
    have hv := dec_val n
    unfold leafD
    rw [e, if_neg (by rw [hbr]; simp only [List.cons_append, List.head?_cons, Option.some.injEq]; rintro rfl; revert hb; decide)]
    rw [if_neg (by rw [hbr]; intro e; injection e with e; subst e; revert hb; decide), if_neg (by rw [hbr]; intro e; injection e with e; subst e; revert hb; decide), if_neg (by rw [hbr]; intro e; injection e with e; subst e; revert hb; decide), if_neg (by rw [hbr]; intro e; injection e with e; subst e; revert hb; decide), if_pos hd, hv]
  · have e := qGo_quo s.data.toList x (by rintro b r rfl; rcases hx with h | ⟨r', h | h⟩ <;> cases h <;> decide)
    show leafD (39 :: (quoU s.data.toList ++ [39]) ++ x) = _
    unfold leafD
    rw [List.cons_append, List.head?_cons, if_pos rfl, List.tail_cons, List.append_assoc]
    rw [show [39] ++ x = 39 :: x from rfl, e]
  · obtain ⟨n1, n2, b, r, n3, n4⟩ := name_small hn
    rcases ht with rfl | ht
    · have e := ext_w (w := nm.data.toList) (x := x) (pa_w n1) hx
      show leafD (nm.data.toList ++ x) = _
      have hw := not_word (r := r) n4
      unfold leafD
      rw [e, if_neg (by rw [n3]; simp only [List.cons_append, List.head?_cons, Option.some.injEq]; exact hw.2.2.2.2.2), if_neg (by rw [n3]; exact hw.1), if_neg (by rw [n3]; exact hw.2.1), if_neg (by rw [n3]; exact hw.2.2.1), if_neg (by rw [n3]; exact hw.2.2.2.1), if_neg (by rw [n3, hw.2.2.2.2.1]; decide), if_neg n2]
    · obtain ⟨t1, t2, b2, r2, t3, t4⟩ := name_small ht
      have e := ext_w (w := tb.data.toList ++ (46 :: nm.data.toList)) (x := x) (by rw [List.all_append, pa_w t1, List.all_cons, pa_w n1]; decide) hx
      have hne : tb.data.toList ≠ [] := by rw [t3]; simp
      have hL : leafU ⟨2, 0, 0, 0, eB, tb, nm⟩ = tb.data.toList ++ (46 :: nm.data.toList) := by
        show namU tb.data.toList nm.data.toList = _
        unfold namU; rw [if_neg hne]
      rw [hL]
      have hs := split46 (t := tb.data.toList) (m := nm.data.toList) t2
      have hw := not_word (r := r2 ++ (46 :: nm.data.toList)) t4
      have ec : tb.data.toList ++ (46 :: nm.data.toList) = b2 :: (r2 ++ (46 :: nm.data.toList)) := by rw [t3]; rfl
      unfold leafD
      rw [e, hs.1, hs.2]
      rw [ec]
      rw [if_neg (by simp only [List.cons_append, List.head?_cons, Option.some.injEq]; exact hw.2.2.2.2.2), if_neg hw.1, if_neg hw.2.1, if_neg hw.2.2.1, if_neg hw.2.2.2.1, if_neg (by rw [hw.2.2.2.2.1]; decide), if_pos (by simp)]
      rfl
  · show leafD ([67, 79, 85, 78, 84, 40, 42] ++ (41 :: x)) = _
    have e : ([67, 79, 85, 78, 84, 40, 42] ++ (41 :: x) : List UInt8).takeWhile notSep = [67, 79, 85, 78, 84, 40, 42] := takeWhile_all (by decide) (sep_no (sep41 x))
    unfold leafD
    rw [e]
    rfl
end Go.Proofs.YtoaggmldekejoaaDoor
