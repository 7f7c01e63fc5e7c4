/- Parts of trees in plain Lean. Conditions: none. -/
import Derived.Test.YtoaggmldekejoaaDoorPkM2
namespace Go.Proofs.YtoaggmldekejoaaDoor
theorem drop_app {α : Type} (x y : List α) (n k : Nat) (hx : x.length = n) : (x ++ y).drop (n + k) = y.drop k := by subst hx; simp
namespace Tr
theorem size_one (p : Py) (a : Tr) : (one p a).size = a.size + 1 := rfl
theorem size_two (p : Py) (a b : Tr) : (two p a b).size = a.size + b.size + 1 := rfl
theorem depth_one (p : Py) (a : Tr) : (one p a).depth = a.depth + 1 := rfl
theorem depth_two (p : Py) (a b : Tr) : (two p a b).depth = max b.depth a.depth + 1 := rfl
/-- where each part begins, and how deep it is -/
def bel : Nat → Tr → List (Nat × Nat)
  | o, leaf _ => [(o, 1)]
  | o, one p a => a.bel o ++ [(o, (one p a).depth)]
  | o, two p a b => a.bel o ++ (b.bel (o + a.size) ++ [(o, (two p a b).depth)])
theorem bel_len : ∀ (t : Tr) (o : Nat), (t.bel o).length = t.size
  | leaf _, _ => rfl
  | one _ a, o => by unfold bel size; rw [List.length_append, bel_len a]; rfl
  | two _ a b, o => by unfold bel size; rw [List.length_append, List.length_append, bel_len a, bel_len b]; simp only [List.length_cons, List.length_nil]; omega
/-- the part whose root is at a place -/
def sub : Tr → Nat → Tr
  | leaf p, _ => leaf p
  | one p a, i => if i < a.size then a.sub i else one p a
  | two p a b, i => if i < a.size then a.sub i else if i < a.size + b.size then b.sub (i - a.size) else two p a b
def pay : Tr → Py
  | leaf p => p
  | one p _ => p
  | two p _ _ => p
/-- a tree's own node, where it begins at a place -/
def node (o : Nat) : Tr → Nd
  | leaf p => ⟨p, -1, -1⟩
  | one p a => ⟨p, ((o + a.size : Nat) : Int) - 1, -1⟩
  | two p a b => ⟨p, ((o + a.size : Nat) : Int) - 1, ((o + a.size + b.size : Nat) : Int) - 1⟩
theorem sub_size : ∀ (t : Tr) (i : Nat), i < t.size → (t.sub i).size ≤ i + 1
  | leaf _, i, _ => by unfold sub size; omega
  | one p a, i, h => by
    unfold sub
    split
    · rename_i h1; exact sub_size a i h1
    · unfold size at h ⊢; omega
  | two p a b, i, h => by
    unfold sub
    split
    · rename_i h1; exact sub_size a i h1
    · split
      · rename_i h1 h2
        have := sub_size b (i - a.size) (by omega)
        omega
      · unfold size at h ⊢; omega
theorem sub_ok {c : Py → Bool} : ∀ {t : Tr} {i : Nat}, t.ok c = true → (t.sub i).ok c = true
  | leaf _, _, h => h
  | one p a, i, h => by
    unfold sub
    split
    · unfold ok at h
      simp only [Bool.and_eq_true] at h
      exact sub_ok h.2.2
    · exact h
  | two p a b, i, h => by
    unfold sub
    have h' := h
    unfold ok at h'
    simp only [Bool.and_eq_true] at h'
    split
    · exact sub_ok h'.2.2.1
    · split
      · exact sub_ok h'.2.2.2
      · exact h
theorem sub_depth : ∀ (t : Tr) (i : Nat), (t.sub i).depth ≤ t.depth
  | leaf _, _ => Nat.le_refl _
  | one p a, i => by
    unfold sub
    split
    · have := sub_depth a i; rw [depth_one]; omega
    · exact Nat.le_refl _
  | two p a b, i => by
    unfold sub
    split
    · have := sub_depth a i; rw [depth_two]; omega
    · split
      · have := sub_depth b (i - a.size); rw [depth_two]; omega
      · exact Nat.le_refl _
theorem sub_last (t : Tr) : t.sub (t.size - 1) = t := by
  cases t with
  | leaf p => rfl
  | one p a => unfold sub; rw [if_neg (by simp [size])]
  | two p a b => unfold sub; rw [if_neg (by simp only [size]; omega), if_neg (by simp only [size]; omega)]
theorem get_l {α : Type} {x y : List α} {i n : Nat} (hx : x.length = n) (h : i < n) : (x ++ y)[i]? = x[i]? := List.getElem?_append_left (by omega)
theorem get_r {α : Type} {x y : List α} {i n : Nat} (hx : x.length = n) (h : n ≤ i) : (x ++ y)[i]? = y[i - n]? := by rw [List.getElem?_append_right (by omega), hx]
theorem bel_at : ∀ (t : Tr) (o i : Nat), i < t.size → (t.bel o)[i]? = some (o + (i + 1 - (t.sub i).size), (t.sub i).depth)
  | leaf p, o, i, h => by
    obtain rfl : i = 0 := by unfold size at h; omega
    rfl
  | one p a, o, i, h => by
    unfold bel
    unfold sub
    by_cases h1 : i < a.size
    · rw [if_pos h1, get_l (a.bel_len o) h1]; exact bel_at a o i h1
    · have hi : i = a.size := by unfold size at h; omega
      rw [if_neg h1, get_r (a.bel_len o) (by omega), hi]
      simp [size]
  | two p a b, o, i, h => by
    unfold bel
    unfold sub
    by_cases h1 : i < a.size
    · rw [if_pos h1, get_l (a.bel_len o) h1]; exact bel_at a o i h1
    · rw [if_neg h1, get_r (a.bel_len o) (by omega)]
      by_cases h2 : i < a.size + b.size
      · rw [if_pos h2, get_l (b.bel_len _) (by omega), bel_at b (o + a.size) (i - a.size) (by omega)]
        have := sub_size b (i - a.size) (by omega)
        congr 2
        omega
      · have hi : i = a.size + b.size := by unfold size at h; omega
        rw [if_neg h2, get_r (b.bel_len _) (by omega), hi]
        simp [size]
theorem node_at : ∀ (t : Tr) (o i : Nat), i < t.size → (t.flat o)[i]? = some ((t.sub i).node (o + (i + 1 - (t.sub i).size)))
  | leaf p, o, i, h => by
    obtain rfl : i = 0 := by unfold size at h; omega
    rfl
  | one p a, o, i, h => by
    unfold flat
    unfold sub
    by_cases h1 : i < a.size
    · rw [if_pos h1, get_l (a.flat_len o) h1]; exact node_at a o i h1
    · have hi : i = a.size := by unfold size at h; omega
      rw [if_neg h1, get_r (a.flat_len o) (by omega), hi]
      simp [size, node]
  | two p a b, o, i, h => by
    unfold flat
    unfold sub
    by_cases h1 : i < a.size
    · rw [if_pos h1, get_l (a.flat_len o) h1]; exact node_at a o i h1
    · rw [if_neg h1, get_r (a.flat_len o) (by omega)]
      by_cases h2 : i < a.size + b.size
      · rw [if_pos h2, get_l (b.flat_len _) (by omega), node_at b (o + a.size) (i - a.size) (by omega)]
        have := sub_size b (i - a.size) (by omega)
        congr 2
        omega
      · have hi : i = a.size + b.size := by unfold size at h; omega
        rw [if_neg h2, get_r (b.flat_len _) (by omega), hi]
        simp [size, node]
theorem flat_at : ∀ (t : Tr) (o i : Nat), i < t.size → ((t.flat o).drop (i + 1 - (t.sub i).size)).take (t.sub i).size = (t.sub i).flat (o + (i + 1 - (t.sub i).size))
  | leaf p, o, i, h => by
    obtain rfl : i = 0 := by unfold size at h; omega
    rfl
  | one p a, o, i, h => by
    have hf := (one p a).flat_len o
    unfold sub
    by_cases h1 : i < a.size
    · rw [if_pos h1, ← flat_at a o i h1]
      have h2 := sub_size a i h1
      rw [flat, List.drop_append_of_le_length (by rw [a.flat_len]; omega), List.take_append_of_le_length (by rw [List.length_drop, a.flat_len]; omega)]
    · have hi : i = a.size := by unfold size at h; omega
      rw [if_neg h1, hi, show a.size + 1 - (one p a).size = 0 from by rw [size_one]; omega, List.drop_zero, List.take_of_length_le (by rw [hf]; exact Nat.le_refl _), Nat.add_zero]
  | two p a b, o, i, h => by
    have hf := (two p a b).flat_len o
    unfold sub
    by_cases h1 : i < a.size
    · rw [if_pos h1, ← flat_at a o i h1]
      have h2 := sub_size a i h1
      rw [flat, List.drop_append_of_le_length (by rw [a.flat_len]; omega), List.take_append_of_le_length (by rw [List.length_drop, a.flat_len]; omega)]
    · rw [if_neg h1]
      by_cases h2 : i < a.size + b.size
      · have h3 := sub_size b (i - a.size) (by omega)
        rw [if_pos h2, show o + (i + 1 - (b.sub (i - a.size)).size) = (o + a.size) + (i - a.size + 1 - (b.sub (i - a.size)).size) from by omega, ← flat_at b (o + a.size) (i - a.size) (by omega)]
        rw [flat, show i + 1 - (b.sub (i - a.size)).size = a.size + (i - a.size + 1 - (b.sub (i - a.size)).size) from by omega, drop_app _ _ _ _ (a.flat_len o)]
        rw [List.drop_append_of_le_length (by rw [b.flat_len]; omega), List.take_append_of_le_length (by rw [List.length_drop, b.flat_len]; omega)]
      · have hi : i = a.size + b.size := by unfold size at h; omega
        rw [if_neg h2, hi, show a.size + b.size + 1 - (two p a b).size = 0 from by rw [size_two]; omega, List.drop_zero, List.take_of_length_le (by rw [hf]; exact Nat.le_refl _), Nat.add_zero]
end Tr
/-- a node whose places lie so much further on -/
def mv (k : Int) (x : Nd) : Nd := { x with l := if 0 ≤ x.l then x.l + k else x.l, r := if 0 ≤ x.r then x.r + k else x.r }
theorem mv_flat : ∀ (t : Tr) (o o' : Nat) (k : Int), (o' : Int) = (o : Int) + k → (t.flat o).map (mv k) = t.flat o'
  | .leaf p, o, o', k, _ => rfl
  | .one p a, o, o', k, h => by
    have hp := a.size_pos
    rw [Tr.flat, Tr.flat, List.map_append, mv_flat a o o' k h, List.map_cons, List.map_nil]
    unfold mv
    simp only
    rw [if_pos (by omega), if_neg (by decide)]
    congr 3
    omega
  | .two p a b, o, o', k, h => by
    have hp := a.size_pos
    have hq := b.size_pos
    rw [Tr.flat, Tr.flat, List.map_append, List.map_append, mv_flat a o o' k h, mv_flat b (o + a.size) (o' + a.size) k (by omega), List.map_cons, List.map_nil]
    unfold mv
    simp only
    rw [if_pos (by omega), if_pos (by omega)]
    congr 4
    · omega
    · omega
/-- the parts of a part -/
theorem sub_one {p : Py} {a : Tr} : ∀ {t : Tr} {i : Nat}, i < t.size → t.sub i = .one p a → 1 ≤ i ∧ t.sub (i - 1) = a
  | .leaf _, i, h, e => by cases e
  | .one q b, i, h, e => by
    unfold Tr.sub at e ⊢
    by_cases h1 : i < b.size
    · rw [if_pos h1] at e
      have := sub_one h1 e
      rw [if_pos (by omega)]
      exact this
    · rw [if_neg h1] at e
      injection e with e1 e2
      subst e2
      have hp := b.size_pos
      have hi : i = b.size := by unfold Tr.size at h; omega
      rw [if_pos (by omega), hi]
      exact ⟨by omega, b.sub_last⟩
  | .two q b d, i, h, e => by
    have hp := b.size_pos
    unfold Tr.sub at e ⊢
    by_cases h1 : i < b.size
    · rw [if_pos h1] at e
      have := sub_one h1 e
      rw [if_pos (by omega)]
      exact this
    · rw [if_neg h1] at e
      by_cases h2 : i < b.size + d.size
      · rw [if_pos h2] at e
        have := sub_one (i := i - b.size) (by omega) e
        rw [if_neg (by omega), if_pos (by omega), show i - 1 - b.size = i - b.size - 1 from by omega]
        exact ⟨by omega, this.2⟩
      · rw [if_neg h2] at e; cases e
theorem sub_two {p : Py} {a b : Tr} : ∀ {t : Tr} {i : Nat}, i < t.size → t.sub i = .two p a b → b.size + 1 ≤ i ∧ t.sub (i - 1) = b ∧ t.sub (i - 1 - b.size) = a
  | .leaf _, i, h, e => by cases e
  | .one q d, i, h, e => by
    unfold Tr.sub at e ⊢
    by_cases h1 : i < d.size
    · rw [if_pos h1] at e
      have := sub_two h1 e
      rw [if_pos (by omega), if_pos (by omega)]
      exact this
    · rw [if_neg h1] at e; cases e
  | .two q d g, i, h, e => by
    have hp := d.size_pos
    have hq := g.size_pos
    unfold Tr.sub at e ⊢
    by_cases h1 : i < d.size
    · rw [if_pos h1] at e
      have := sub_two h1 e
      rw [if_pos (by omega), if_pos (by omega)]
      exact this
    · rw [if_neg h1] at e
      by_cases h2 : i < d.size + g.size
      · rw [if_pos h2] at e
        have := sub_two (i := i - d.size) (by omega) e
        rw [if_neg (by omega), if_pos (by omega), if_neg (by omega), if_pos (by omega), show i - 1 - d.size = i - d.size - 1 from by omega, show i - 1 - b.size - d.size = i - d.size - 1 - b.size from by omega]
        exact ⟨by omega, this.2⟩
      · rw [if_neg h2] at e
        injection e with e1 e2 e3
        subst e2 e3
        have hi : i = d.size + g.size := by unfold Tr.size at h; omega
        rw [if_neg (by omega), if_pos (by omega), if_pos (by omega), hi]
        refine ⟨by omega, ?_, ?_⟩
        · rw [show d.size + g.size - 1 - d.size = g.size - 1 from by omega]; exact g.sub_last
        · rw [show d.size + g.size - 1 - g.size = d.size - 1 from by omega]; exact d.sub_last
end Go.Proofs.YtoaggmldekejoaaDoor
/- How trees are written, in plain Lean; unlike trees are written unlike. Conditions: none. -/
namespace Go.Proofs.YtoaggmldekejoaaDoor
abbrev eB : ByteArray := ⟨#[]⟩
/-- is a value plain? -/
def plainV (k n u : Int) (s : ByteArray) : Bool :=
  if k = 0 then decide (n = 0 ∧ u = 0 ∧ s.data.toList = [])
  else if k = 1 then decide ((n = 0 ∨ n = 1) ∧ u = 0 ∧ s.data.toList = [])
  else if k = 2 then decide (u = 0 ∧ s.data.toList = [])
  else decide (k = 3 ∧ n = 0 ∧ u = 0 ∧ s.size ≤ 40)
/-- is what counts of a node so, and all else zero? -/
def cntB (p : Py) : Bool :=
  if p.tag = 1 then decide (p.tb.data.toList = []) && (decide (p.nm.data.toList = []) && (plainV p.k p.n p.u p.s && (decide (0 ≤ p.n) && p.s.data.toList.all plU)))
  else if p.tag = 2 then decide (p.k = 0 ∧ p.n = 0 ∧ p.u = 0 ∧ p.s.data.toList = []) && (nameB p.nm && (decide (p.tb.data.toList = []) || nameB p.tb))
  else decide (p.k = 0 ∧ p.n = 0 ∧ p.u = 0 ∧ p.s.data.toList = []) && (decide (p.tb.data.toList = []) && decide (p.nm.data.toList = []))
def sgs : List (List UInt8) := [[], [], [67, 79, 85, 78, 84, 40, 42, 41], [45], [78, 79, 84], [73, 83, 32, 78, 85, 76, 76], [73, 83, 32, 78, 79, 84, 32, 78, 85, 76, 76], [67, 79, 85, 78, 84], [83, 85, 77], [77, 73, 78], [77, 65, 88],
  [43], [45], [42], [47], [61], [60, 62], [60], [60, 61], [62], [62, 61], [65, 78, 68], [79, 82]]
def sgL (t : Int) : List UInt8 := sgs.getD (t.toNat - 1) []
/-- a literal, as it is written -/
def litU (k n : Int) (s : List UInt8) : List UInt8 :=
  if k = 0 then [78, 85, 76, 76] else if k = 1 then (if n = 1 then [84, 82, 85, 69] else [70, 65, 76, 83, 69])
  else if k = 2 then Lib.decDigits n.toNat else 39 :: (quoU s ++ [39])
def namU (tb nm : List UInt8) : List UInt8 := if tb = [] then nm else tb ++ (46 :: nm)
def leafU (p : Py) : List UInt8 := if p.tag = 1 then litU p.k p.n p.s.data.toList else if p.tag = 2 then namU p.tb.data.toList p.nm.data.toList else sgL p.tag
def bareT : Tr → Bool
  | .leaf _ => true
  | .one p _ => decide (8 ≤ p.tag)
  | .two _ _ _ => false
def prT : Tr → List UInt8
  | .leaf p => leafU p
  | .one p a =>
    if p.tag ≤ 5 then sgL p.tag ++ (32 :: (if bareT a then prT a else 40 :: (prT a ++ [41])))
    else if p.tag ≤ 7 then (if bareT a then prT a else 40 :: (prT a ++ [41])) ++ (32 :: sgL p.tag)
    else sgL p.tag ++ (40 :: (prT a ++ [41]))
  | .two p a b => (if bareT a then prT a else 40 :: (prT a ++ [41])) ++ (32 :: (sgL p.tag ++ (32 :: (if bareT b then prT b else 40 :: (prT b ++ [41])))))
def parT (a : Tr) : List UInt8 := if bareT a then prT a else 40 :: (prT a ++ [41])
/-! ### leaves -/
theorem ba_of {s : ByteArray} {l : List UInt8} (h : s.data.toList = l) : s = bS l := by rw [← h]
theorem ba_e {s : ByteArray} (h : s.data.toList = []) : s = eB := ba_of h
theorem leaf_cases {p : Py} (h : cntB p = true) (h0 : partsI p.tag = 0) :
    p = ⟨1, 0, 0, 0, eB, eB, eB⟩ ∨ p = ⟨1, 1, 0, 0, eB, eB, eB⟩ ∨ p = ⟨1, 1, 1, 0, eB, eB, eB⟩ ∨ (∃ n : Nat, p = ⟨1, 2, (n : Int), 0, eB, eB, eB⟩) ∨ (∃ s, p = ⟨1, 3, 0, 0, s, eB, eB⟩) ∨
    (∃ tb nm, p = ⟨2, 0, 0, 0, eB, tb, nm⟩ ∧ nameB nm = true ∧ (tb = eB ∨ nameB tb = true)) ∨ p = ⟨3, 0, 0, 0, eB, eB, eB⟩ := by
  obtain ⟨t, k, n, u, s, tb, nm⟩ := p
  have ht : 1 ≤ t ∧ t ≤ 3 := by
    unfold partsI at h0
    simp only at h0
    split at h0
    · omega
    · split at h0
      · omega
      · split at h0
        · omega
        · split at h0 <;> omega
  unfold cntB at h
  simp only at h
  by_cases h1 : t = 1
  · subst h1
    rw [if_pos rfl] at h
    simp only [Bool.and_eq_true, decide_eq_true_eq] at h
    obtain ⟨e1, e2, e3, e4, _⟩ := h
    rw [ba_e e1, ba_e e2]
    unfold plainV at e3
    split at e3
    · rename_i hk
      obtain ⟨g1, g2, g3⟩ := of_decide_eq_true e3
      rw [hk, g1, g2, ba_e g3]; exact .inl rfl
    · split at e3
      · rename_i hk
        obtain ⟨g1, g2, g3⟩ := of_decide_eq_true e3
        rw [hk, g2, ba_e g3]
        rcases g1 with g1 | g1
        · rw [g1]; exact .inr (.inl rfl)
        · rw [g1]; exact .inr (.inr (.inl rfl))
      · split at e3
        · rename_i hk
          obtain ⟨g2, g3⟩ := of_decide_eq_true e3
          rw [hk, g2, ba_e g3]
          exact .inr (.inr (.inr (.inl ⟨n.toNat, by rw [Int.toNat_of_nonneg e4]⟩)))
        · obtain ⟨g0, g1, g2, g3⟩ := of_decide_eq_true e3
          rw [g0, g1, g2]
          exact .inr (.inr (.inr (.inr (.inl ⟨s, rfl⟩))))
  · rw [if_neg h1] at h
    by_cases h2 : t = 2
    · subst h2
      rw [if_pos rfl] at h
      simp only [Bool.and_eq_true, Bool.or_eq_true, decide_eq_true_eq] at h
      obtain ⟨⟨g1, g2, g3, g4⟩, g5, g6⟩ := h
      rw [g1, g2, g3, ba_e g4]
      exact .inr (.inr (.inr (.inr (.inr (.inl ⟨tb, nm, rfl, g5, g6.imp_left ba_e⟩)))))
    · rw [if_neg h2] at h
      simp only [Bool.and_eq_true, decide_eq_true_eq] at h
      obtain ⟨⟨g1, g2, g3, g4⟩, g5, g6⟩ := h
      have h3 : t = 3 := by omega
      rw [h3, g1, g2, g3, ba_e g4, ba_e g5, ba_e g6]
      exact .inr (.inr (.inr (.inr (.inr (.inr rfl)))))
theorem inner_zero {p : Py} (h : cntB p = true) (h0 : partsI p.tag = 1 ∨ partsI p.tag = 2) : p = ⟨p.tag, 0, 0, 0, eB, eB, eB⟩ := by
  obtain ⟨t, k, n, u, s, tb, nm⟩ := p
  have ht : t ≠ 1 ∧ t ≠ 2 := by
    constructor
    · rintro rfl
      exact absurd (show partsI 1 = 1 ∨ partsI 1 = 2 from h0) (by decide)
    · rintro rfl
      exact absurd (show partsI 2 = 1 ∨ partsI 2 = 2 from h0) (by decide)
  unfold cntB at h
  simp only at h
  rw [if_neg ht.1, if_neg ht.2] at h
  simp only [Bool.and_eq_true, decide_eq_true_eq] at h
  obtain ⟨⟨g1, g2, g3, g4⟩, g5, g6⟩ := h
  rw [g1, g2, g3, ba_e g4, ba_e g5, ba_e g6]
/-- what may stand behind a part -/
def sepP (x : List UInt8) : Prop := x = [] ∨ ∃ r, x = 32 :: r ∨ x = 41 :: r
def endP (x : List UInt8) : Prop := x = [] ∨ ∃ r, x = 41 :: r
theorem endP.sep {x : List UInt8} (h : endP x) : sepP x := h.imp_right fun ⟨r, e⟩ => ⟨r, .inr e⟩
theorem sep32 (r : List UInt8) : sepP (32 :: r) := .inr ⟨r, .inl rfl⟩
theorem sep41 (r : List UInt8) : sepP (41 :: r) := .inr ⟨r, .inr rfl⟩
/-- the word that stands first -/
def wB (b : UInt8) : Bool := paU b || decide (b = 46)
def notSep (b : UInt8) : Bool := decide (b ≠ 32) && decide (b ≠ 41)
theorem wB_sep {b : UInt8} (h : wB b = true) : notSep b = true := by
  unfold notSep
  rw [Bool.and_eq_true, decide_eq_true_eq, decide_eq_true_eq]
  constructor
  · rintro rfl; revert h; decide
  · rintro rfl; revert h; decide
theorem sep_no {x : List UInt8} (h : sepP x) : ∀ b r, x = b :: r → notSep b = false := by
  rintro b r rfl
  rcases h with h | ⟨r', h | h⟩
  · cases h
  · injection h with h; subst h; rfl
  · injection h with h; subst h; rfl
theorem ext_w {w x : List UInt8} (h : w.all wB = true) (hx : sepP x) : (w ++ x).takeWhile notSep = w :=
  takeWhile_all (List.all_eq_true.2 fun b hb => wB_sep (List.all_eq_true.1 h b hb)) (sep_no hx)
def leafD (l : List UInt8) : Py :=
  if l.head? = some 39 then (match qGo l.tail with | some (t, _) => ⟨1, 3, 0, 0, bS t, eB, eB⟩ | none => ⟨0, 0, 0, 0, eB, eB, eB⟩)
  else
    if l.takeWhile notSep = [78, 85, 76, 76] then ⟨1, 0, 0, 0, eB, eB, eB⟩
    else if l.takeWhile notSep = [84, 82, 85, 69] then ⟨1, 1, 1, 0, eB, eB, eB⟩
    else if l.takeWhile notSep = [70, 65, 76, 83, 69] then ⟨1, 1, 0, 0, eB, eB, eB⟩
    else if l.takeWhile notSep = [67, 79, 85, 78, 84, 40, 42] then ⟨3, 0, 0, 0, eB, eB, eB⟩
    else if (l.takeWhile notSep).all dgU then ⟨1, 2, (valU 0 (l.takeWhile notSep) : Int), 0, eB, eB, eB⟩
    else if (46 : UInt8) ∈ l.takeWhile notSep then ⟨2, 0, 0, 0, eB, bS ((l.takeWhile notSep).takeWhile fun b => decide (b ≠ 46)), bS (((l.takeWhile notSep).dropWhile fun b => decide (b ≠ 46)).drop 1)⟩
    else ⟨2, 0, 0, 0, eB, eB, bS (l.takeWhile notSep)⟩
theorem name_small {s : ByteArray} (h : nameB s = true) : s.data.toList.all paU = true ∧ (46 : UInt8) ∉ s.data.toList ∧ ∃ b r, s.data.toList = b :: r ∧ smI (b.toNat : Int) = true := by
  obtain ⟨h1, _, _, h4⟩ := name_parts (l := s.data.toList) h
  refine ⟨h1, fun h46 => ?_, h4⟩
  have := List.all_eq_true.1 h1 46 h46
  revert this; decide
theorem not_word {b : UInt8} {r : List UInt8} (h : smI (b.toNat : Int) = true) : (b :: r) ≠ [78, 85, 76, 76] ∧ (b :: r) ≠ [84, 82, 85, 69] ∧ (b :: r) ≠ [70, 65, 76, 83, 69] ∧ (b :: r) ≠ [67, 79, 85, 78, 84, 40, 42] ∧ (b :: r).all dgU = false ∧ b ≠ 39 := by
  refine ⟨?_, ?_, ?_, ?_, ?_, ?_⟩
  · intro e; injection e with e; subst e; revert h; decide
  · intro e; injection e with e; subst e; revert h; decide
  · intro e; injection e with e; subst e; revert h; decide
  · intro e; injection e with e; subst e; revert h; decide
  · rw [List.all_cons]
    have : dgU b = false := by
      unfold smI at h
      unfold dgU dgI
      rw [Bool.and_eq_true, decide_eq_true_eq, decide_eq_true_eq] at h
      rw [Bool.and_eq_false_iff, decide_eq_false_iff_not, decide_eq_false_iff_not]
      omega
    rw [this]; rfl
  · rintro rfl; revert h; decide
theorem pa_w {l : List UInt8} (h : l.all paU = true) : l.all wB = true := List.all_eq_true.2 fun b hb => by unfold wB; rw [List.all_eq_true.1 h b hb]; rfl
theorem split46 : ∀ {t m : List UInt8}, (46 : UInt8) ∉ t → (t ++ 46 :: m).takeWhile (fun b => decide (b ≠ 46)) = t ∧ (t ++ 46 :: m).dropWhile (fun b => decide (b ≠ 46)) = 46 :: m
  | [], m, _ => ⟨rfl, rfl⟩
  | b :: t, m, h => by
    have hb : b ≠ 46 := fun e => h (by rw [e]; simp)
    have ih := split46 (t := t) (m := m) (fun e => h (by simp [e]))
    rw [List.cons_append, List.takeWhile_cons, List.dropWhile_cons, if_pos (by simpa using hb), if_pos (by simpa using hb), ih.1, ih.2]
    exact ⟨rfl, rfl⟩
theorem leaf_dec {p : Py} (h : cntB p = true) (h0 : partsI p.tag = 0) {x : List UInt8} (hx : sepP x) : leafD (leafU p ++ x) = p := by
  rcases leaf_cases h h0 with rfl | rfl | rfl | ⟨n, rfl⟩ | ⟨s, rfl⟩ | ⟨tb, nm, rfl, hn, ht⟩ | rfl
  · have e := ext_w (w := [78, 85, 76, 76]) (x := x) (by decide) hx
    show leafD ([78, 85, 76, 76] ++ x) = _
    unfold leafD
    rw [e]
    rfl
  · have e := ext_w (w := [70, 65, 76, 83, 69]) (x := x) (by decide) hx
    show leafD ([70, 65, 76, 83, 69] ++ x) = _
    unfold leafD
    rw [e]
    rfl
  · have e := ext_w (w := [84, 82, 85, 69]) (x := x) (by decide) hx
    show leafD ([84, 82, 85, 69] ++ x) = _
    unfold leafD
    rw [e]
    rfl
  · have hd := dec_all n
    have e := ext_w (w := Lib.decDigits n) (x := x) (pa_w (List.all_eq_true.2 fun b hb => dg_pa (List.all_eq_true.1 hd b hb))) hx
    show leafD (Lib.decDigits n ++ x) = _
    obtain ⟨b, r, hbr⟩ := List.exists_cons_of_ne_nil (dec_ne n)
    have hb : dgU b = true := List.all_eq_true.1 hd b (by rw [hbr]; simp)
    have hv := dec_val n
    unfold leafD
    rw [e, if_neg (by rw [hbr]; simp only [List.cons_append, List.head?_cons, Option.some.injEq]; rintro rfl; revert hb; decide)]
    rw [if_neg (by rw [hbr]; intro e; injection e with e; subst e; revert hb; decide), if_neg (by rw [hbr]; intro e; injection e with e; subst e; revert hb; decide), if_neg (by rw [hbr]; intro e; injection e with e; subst e; revert hb; decide), if_neg (by rw [hbr]; intro e; injection e with e; subst e; revert hb; decide), if_pos hd, hv]
  · have e := qGo_quo s.data.toList x (by rintro b r rfl; rcases hx with h | ⟨r', h | h⟩ <;> cases h <;> decide)
    show leafD (39 :: (quoU s.data.toList ++ [39]) ++ x) = _
    unfold leafD
    rw [List.cons_append, List.head?_cons, if_pos rfl, List.tail_cons, List.append_assoc]
    rw [show [39] ++ x = 39 :: x from rfl, e]
  · obtain ⟨n1, n2, b, r, n3, n4⟩ := name_small hn
    rcases ht with rfl | ht
    · have e := ext_w (w := nm.data.toList) (x := x) (pa_w n1) hx
      show leafD (nm.data.toList ++ x) = _
      have hw := not_word (r := r) n4
      unfold leafD
      rw [e, if_neg (by rw [n3]; simp only [List.cons_append, List.head?_cons, Option.some.injEq]; exact hw.2.2.2.2.2), if_neg (by rw [n3]; exact hw.1), if_neg (by rw [n3]; exact hw.2.1), if_neg (by rw [n3]; exact hw.2.2.1), if_neg (by rw [n3]; exact hw.2.2.2.1), if_neg (by rw [n3, hw.2.2.2.2.1]; decide), if_neg n2]
    · obtain ⟨t1, t2, b2, r2, t3, t4⟩ := name_small ht
      have e := ext_w (w := tb.data.toList ++ (46 :: nm.data.toList)) (x := x) (by rw [List.all_append, pa_w t1, List.all_cons, pa_w n1]; decide) hx
      have hne : tb.data.toList ≠ [] := by rw [t3]; simp
      have hL : leafU ⟨2, 0, 0, 0, eB, tb, nm⟩ = tb.data.toList ++ (46 :: nm.data.toList) := by
        show namU tb.data.toList nm.data.toList = _
        unfold namU; rw [if_neg hne]
      rw [hL]
      have hs := split46 (t := tb.data.toList) (m := nm.data.toList) t2
      have hw := not_word (r := r2 ++ (46 :: nm.data.toList)) t4
      have ec : tb.data.toList ++ (46 :: nm.data.toList) = b2 :: (r2 ++ (46 :: nm.data.toList)) := by rw [t3]; rfl
      unfold leafD
      rw [e, hs.1, hs.2]
      rw [ec]
      rw [if_neg (by simp only [List.cons_append, List.head?_cons, Option.some.injEq]; exact hw.2.2.2.2.2), if_neg hw.1, if_neg hw.2.1, if_neg hw.2.2.1, if_neg hw.2.2.2.1, if_neg (by rw [hw.2.2.2.2.1]; decide), if_pos (by simp)]
      rfl
  · show leafD ([67, 79, 85, 78, 84, 40, 42] ++ (41 :: x)) = _
    have e : ([67, 79, 85, 78, 84, 40, 42] ++ (41 :: x) : List UInt8).takeWhile notSep = [67, 79, 85, 78, 84, 40, 42] := takeWhile_all (by decide) (sep_no (sep41 x))
    unfold leafD
    rw [e]
    rfl
end Go.Proofs.YtoaggmldekejoaaDoor
/- Unlike trees are written unlike. Plain Lean. Conditions: none. -/
namespace Go.Proofs.YtoaggmldekejoaaDoor
def cpU (b : UInt8) : Bool := cpI (b.toNat : Int)
def caps (l : List UInt8) : List UInt8 := l.takeWhile cpU
def hdP (b : UInt8) : Bool := paU b || (decide (b = 39) || decide (b = 40))
theorem small_facts {b : UInt8} (h : smI (b.toNat : Int) = true) : cpU b = false ∧ paU b = true := by
  unfold smI at h
  rw [Bool.and_eq_true, decide_eq_true_eq, decide_eq_true_eq] at h
  constructor
  · unfold cpU cpI
    rw [Bool.and_eq_false_iff, decide_eq_false_iff_not, decide_eq_false_iff_not]
    omega
  · unfold paU paI smI
    rw [decide_eq_true h.1, decide_eq_true h.2]
    simp
theorem dg_facts {b : UInt8} (h : dgU b = true) : cpU b = false := by
  unfold dgU dgI at h
  rw [Bool.and_eq_true, decide_eq_true_eq, decide_eq_true_eq] at h
  unfold cpU cpI
  rw [Bool.and_eq_false_iff, decide_eq_false_iff_not, decide_eq_false_iff_not]
  omega
/-- how a leaf begins -/
theorem leaf_head {p : Py} (h : cntB p = true) (h0 : partsI p.tag = 0) : ∃ b r, leafU p = b :: r ∧ hdP b = true ∧ b ≠ 40 := by
  rcases leaf_cases h h0 with rfl | rfl | rfl | ⟨n, rfl⟩ | ⟨s, rfl⟩ | ⟨tb, nm, rfl, hn, ht⟩ | rfl
  · exact ⟨_, _, rfl, by decide, by decide⟩
  · exact ⟨_, _, rfl, by decide, by decide⟩
  · exact ⟨_, _, rfl, by decide, by decide⟩
  · obtain ⟨b, r, hbr⟩ := List.exists_cons_of_ne_nil (dec_ne n)
    have hb : dgU b = true := List.all_eq_true.1 (dec_all n) b (by rw [hbr]; simp)
    exact ⟨b, r, hbr, by unfold hdP; rw [dg_pa hb]; rfl, by rintro rfl; revert hb; decide⟩
  · exact ⟨_, _, rfl, by decide, by decide⟩
  · obtain ⟨_, _, b, r, n3, n4⟩ := name_small hn
    rcases ht with rfl | ht
    · exact ⟨b, r, n3, by unfold hdP; rw [(small_facts n4).2]; rfl, by rintro rfl; revert n4; decide⟩
    · obtain ⟨_, _, b2, r2, t3, t4⟩ := name_small ht
      refine ⟨b2, r2 ++ (46 :: nm.data.toList), ?_, by unfold hdP; rw [(small_facts t4).2]; rfl, by rintro rfl; revert t4; decide⟩
      show namU tb.data.toList nm.data.toList = _
      unfold namU
      rw [if_neg (by rw [t3]; simp), t3]
      rfl
  · exact ⟨_, _, rfl, by decide, by decide⟩
theorem caps_stop {w x : List UInt8} (h : w.all cpU = true) (hx : ∀ b r, x = b :: r → cpU b = false) : caps (w ++ x) = w := takeWhile_all h hx
theorem sep_cap {x : List UInt8} (h : sepP x) : ∀ b r, x = b :: r → cpU b = false := by
  rintro b r rfl
  rcases h with h | ⟨r', h | h⟩
  · cases h
  · injection h with h; subst h; rfl
  · injection h with h; subst h; rfl
/-- the capitals that a leaf begins with -/
theorem leaf_caps {p : Py} (h : cntB p = true) (h0 : partsI p.tag = 0) {x : List UInt8} (hx : sepP x) : (p = ⟨3, 0, 0, 0, eB, eB, eB⟩) ∨ caps (leafU p ++ x) ∈ ([[], [78, 85, 76, 76], [84, 82, 85, 69], [70, 65, 76, 83, 69]] : List (List UInt8)) := by
  rcases leaf_cases h h0 with rfl | rfl | rfl | ⟨n, rfl⟩ | ⟨s, rfl⟩ | ⟨tb, nm, rfl, hn, ht⟩ | rfl
  · right; rw [show leafU ⟨1, 0, 0, 0, eB, eB, eB⟩ = [78, 85, 76, 76] from rfl, caps_stop (by decide) (sep_cap hx)]; decide
  · right; rw [show leafU ⟨1, 1, 0, 0, eB, eB, eB⟩ = [70, 65, 76, 83, 69] from rfl, caps_stop (by decide) (sep_cap hx)]; decide
  · right; rw [show leafU ⟨1, 1, 1, 0, eB, eB, eB⟩ = [84, 82, 85, 69] from rfl, caps_stop (by decide) (sep_cap hx)]; decide
  · right
    obtain ⟨b, r, hbr⟩ := List.exists_cons_of_ne_nil (dec_ne n)
    have hb : dgU b = true := List.all_eq_true.1 (dec_all n) b (by rw [hbr]; simp)
    rw [show leafU ⟨1, 2, (n : Int), 0, eB, eB, eB⟩ = Lib.decDigits n from rfl, hbr]
    unfold caps
    rw [List.cons_append, List.takeWhile_cons, dg_facts hb]
    exact List.mem_cons_self
  · right; exact List.mem_cons_self
  · right
    obtain ⟨_, _, b, r, n3, n4⟩ := name_small hn
    rcases ht with rfl | ht
    · rw [show leafU ⟨2, 0, 0, 0, eB, eB, nm⟩ = nm.data.toList from rfl, n3]
      unfold caps
      rw [List.cons_append, List.takeWhile_cons, (small_facts n4).1]
      exact List.mem_cons_self
    · obtain ⟨_, _, b2, r2, t3, t4⟩ := name_small ht
      have e : leafU ⟨2, 0, 0, 0, eB, tb, nm⟩ = b2 :: (r2 ++ (46 :: nm.data.toList)) := by
        show namU tb.data.toList nm.data.toList = _
        unfold namU
        rw [if_neg (by rw [t3]; simp), t3]
        rfl
      rw [e]
      unfold caps
      rw [List.cons_append, List.takeWhile_cons, (small_facts t4).1]
      exact List.mem_cons_self
  · left; rfl
theorem tag_one {t : Int} (h : partsI t = 1) : 4 ≤ t ∧ t ≤ 11 := by
  unfold partsI at h
  split at h
  · omega
  · split at h
    · omega
    · split at h
      · omega
      · split at h <;> omega
theorem tag_two {t : Int} (h : partsI t = 2) : 12 ≤ t ∧ t ≤ 23 := by
  unfold partsI at h
  split at h
  · omega
  · split at h
    · omega
    · split at h
      · omega
      · split at h <;> omega
theorem agg_cases {t : Int} (h1 : 8 ≤ t) (h2 : t ≤ 11) : t = 8 ∨ t = 9 ∨ t = 10 ∨ t = 11 := by omega
theorem agg_sg {t : Int} (h1 : 8 ≤ t) (h2 : t ≤ 11) : (sgL t).all cpU = true ∧ sgL t ∈ ([[67, 79, 85, 78, 84], [83, 85, 77], [77, 73, 78], [77, 65, 88]] : List (List UInt8)) := by
  rcases agg_cases h1 h2 with rfl | rfl | rfl | rfl <;> exact ⟨by decide, by decide⟩
theorem agg_inj {t u : Int} (h1 : 8 ≤ t) (h2 : t ≤ 11) (h3 : 8 ≤ u) (h4 : u ≤ 11) (h : sgL t = sgL u) : t = u := by
  rcases agg_cases h1 h2 with rfl | rfl | rfl | rfl <;> rcases agg_cases h3 h4 with rfl | rfl | rfl | rfl <;> first | rfl | exact absurd h (by decide)
theorem two_sgN : ∀ i ∈ List.range 24, 12 ≤ i → (∀ j ∈ List.range 24, 12 ≤ j → sgs.getD (i - 1) [] = sgs.getD (j - 1) [] → i = j) ∧ (sgs.getD (i - 1) []).all (fun b => decide (b ≠ 32)) = true ∧ sgs.getD (i - 1) [] ≠ [73, 83] := by decide
theorem two_sg {t : Int} (h1 : 12 ≤ t) (h2 : t ≤ 23) : (sgL t).all (fun b => decide (b ≠ 32)) = true ∧ sgL t ≠ [73, 83] := (two_sgN t.toNat (List.mem_range.2 (by omega)) (by omega)).2
theorem two_inj {t u : Int} (h1 : 12 ≤ t) (h2 : t ≤ 23) (h3 : 12 ≤ u) (h4 : u ≤ 23) (h : sgL t = sgL u) : t = u := by
  have := (two_sgN t.toNat (List.mem_range.2 (by omega)) (by omega)).1 u.toNat (List.mem_range.2 (by omega)) (by omega) h
  omega
theorem ok_leaf {p : Py} (h : (Tr.leaf p).ok cntB = true) : partsI p.tag = 0 ∧ cntB p = true := by
  unfold Tr.ok at h
  rwa [Bool.and_eq_true, decide_eq_true_eq] at h
theorem ok_one {p : Py} {a : Tr} (h : (Tr.one p a).ok cntB = true) : partsI p.tag = 1 ∧ cntB p = true ∧ a.ok cntB = true := by
  unfold Tr.ok at h
  rwa [Bool.and_eq_true, Bool.and_eq_true, decide_eq_true_eq] at h
theorem ok_two {p : Py} {a b : Tr} (h : (Tr.two p a b).ok cntB = true) : partsI p.tag = 2 ∧ cntB p = true ∧ a.ok cntB = true ∧ b.ok cntB = true := by
  unfold Tr.ok at h
  rwa [Bool.and_eq_true, Bool.and_eq_true, Bool.and_eq_true, decide_eq_true_eq] at h
theorem pr_leaf (p : Py) : prT (.leaf p) = leafU p := by rw [prT]
theorem pr_pre {p : Py} {a : Tr} (h : p.tag ≤ 5) : prT (.one p a) = sgL p.tag ++ (32 :: parT a) := by rw [prT, if_pos h]; rfl
theorem pr_post {p : Py} {a : Tr} (h : 6 ≤ p.tag) (h2 : p.tag ≤ 7) : prT (.one p a) = parT a ++ (32 :: sgL p.tag) := by rw [prT, if_neg (by omega), if_pos h2]; rfl
theorem pr_agg {p : Py} {a : Tr} (h : 8 ≤ p.tag) : prT (.one p a) = sgL p.tag ++ (40 :: (prT a ++ [41])) := by rw [prT, if_neg (by omega), if_neg (by omega)]
theorem pr_two (p : Py) (a b : Tr) : prT (.two p a b) = parT a ++ (32 :: (sgL p.tag ++ (32 :: parT b))) := by rw [prT]; rfl
theorem par_bare {a : Tr} (h : bareT a = true) : parT a = prT a := if_pos h
theorem par_not {a : Tr} (h : bareT a = false) : parT a = 40 :: (prT a ++ [41]) := if_neg (by rw [h]; decide)
/-- how a bare tree begins -/
theorem bare_head {t : Tr} (h : t.ok cntB = true) (hb : bareT t = true) : ∃ b r, prT t = b :: r ∧ hdP b = true ∧ b ≠ 40 := by
  cases t with
  | leaf p => rw [pr_leaf]; exact leaf_head (ok_leaf h).2 (ok_leaf h).1
  | one p a =>
    have h8 : 8 ≤ p.tag := of_decide_eq_true hb
    rw [pr_agg h8]
    have ht := tag_one (ok_one h).1
    rcases agg_cases h8 ht.2 with e | e | e | e <;> rw [e] <;> exact ⟨_, _, rfl, by decide, by decide⟩
  | two p a b => cases hb
theorem par_head {t : Tr} (h : t.ok cntB = true) : ∃ b r, parT t = b :: r ∧ hdP b = true := by
  cases hb : bareT t
  · rw [par_not hb]; exact ⟨_, _, rfl, by decide⟩
  · rw [par_bare hb]
    obtain ⟨b, r, e, h1, _⟩ := bare_head h hb
    exact ⟨b, r, e, h1⟩
/-- how a tree begins: with no star -/
theorem pr_head {t : Tr} (h : t.ok cntB = true) : ∃ b r, prT t = b :: r ∧ b ≠ 42 := by
  have hp : ∀ {a : Tr} {T : List UInt8}, a.ok cntB = true → ∃ b r, parT a ++ T = b :: r ∧ b ≠ 42 := fun {a T} ha => by
    obtain ⟨b, r, e, h1⟩ := par_head ha
    exact ⟨b, r ++ T, by rw [e]; rfl, by rintro rfl; revert h1; decide⟩
  cases t with
  | leaf p =>
    obtain ⟨b, r, e, h1, _⟩ := leaf_head (ok_leaf h).2 (ok_leaf h).1
    exact ⟨b, r, by rw [pr_leaf, e], by rintro rfl; revert h1; decide⟩
  | one p a =>
    have ho := ok_one h
    have ht := tag_one ho.1
    by_cases h5 : p.tag ≤ 5
    · rw [pr_pre h5]
      rcases (show p.tag = 4 ∨ p.tag = 5 by omega) with e | e <;> rw [e] <;> exact ⟨_, _, rfl, by decide⟩
    · by_cases h7 : p.tag ≤ 7
      · rw [pr_post (by omega) h7]; exact hp ho.2.2
      · rw [pr_agg (by omega)]
        rcases agg_cases (show 8 ≤ p.tag by omega) ht.2 with e | e | e | e <;> rw [e] <;> exact ⟨_, _, rfl, by decide⟩
  | two p a b => rw [pr_two]; exact hp (ok_two h).2.2.1
/-- no part begins with NOT -/
theorem par_caps {t : Tr} (h : t.ok cntB = true) {T : List UInt8} (hT : sepP T) : caps (parT t ++ T) ≠ [78, 79, 84] := by
  cases hb : bareT t
  · rw [par_not hb]; show ([] : List UInt8) ≠ _; decide
  · rw [par_bare hb]
    cases t with
    | leaf p =>
      rw [pr_leaf]
      rcases leaf_caps (ok_leaf h).2 (ok_leaf h).1 hT with e | e
      · rw [e]; show caps ([67, 79, 85, 78, 84] ++ (40 :: 42 :: 41 :: T)) ≠ _; rw [caps_stop (by decide) (by rintro b r e; injection e with e; subst e; rfl)]; decide
      · intro e2; rw [e2] at e; exact absurd e (by decide)
    | one p a =>
      have h8 : 8 ≤ p.tag := of_decide_eq_true hb
      have ht := tag_one (ok_one h).1
      have hs := agg_sg h8 ht.2
      rw [pr_agg h8, List.append_assoc, List.cons_append, caps_stop hs.1 (by rintro b r e; injection e with e; subst e; rfl)]
      intro e; rw [e] at hs; exact absurd hs.2 (by decide)
    | two p a b => cases hb
def NP (t : Tr) : Prop := ∀ u x y, u.ok cntB = true → endP x → endP y → prT t ++ x = prT u ++ y → t = u ∧ x = y
def PP (t : Tr) : Prop := ∀ u x y, u.ok cntB = true → sepP x → sepP y → parT t ++ x = parT u ++ y → t = u ∧ x = y
def BP (t : Tr) : Prop := ∀ u x y, bareT u = true → u.ok cntB = true → sepP x → sepP y → prT t ++ x = prT u ++ y → t = u ∧ x = y
theorem leaf_agg {p q : Py} {a : Tr} {x y : List UInt8} (h : (Tr.leaf p).ok cntB = true) (h2 : (Tr.one q a).ok cntB = true) (h8 : 8 ≤ q.tag) (hx : sepP x) (e : leafU p ++ x = sgL q.tag ++ (40 :: (prT a ++ [41])) ++ y) : False := by
  have ho := ok_one h2
  have ht := tag_one ho.1
  have hs := agg_sg h8 ht.2
  have hc : caps (leafU p ++ x) = sgL q.tag := by rw [e, List.append_assoc, List.cons_append, caps_stop hs.1 (by rintro b r e; injection e with e; subst e; rfl)]
  rcases leaf_caps (ok_leaf h).2 (ok_leaf h).1 hx with e3 | e3
  · subst e3
    have hc2 : caps (leafU ⟨3, 0, 0, 0, eB, eB, eB⟩ ++ x) = [67, 79, 85, 78, 84] := by
      show caps ([67, 79, 85, 78, 84] ++ (40 :: 42 :: 41 :: x)) = _
      exact caps_stop (by decide) (by rintro b r e; injection e with e; subst e; rfl)
    rw [← hc, hc2] at e
    have e4 : ([67, 79, 85, 78, 84] ++ (40 :: 42 :: 41 :: x) : List UInt8) = [67, 79, 85, 78, 84] ++ (40 :: (prT a ++ [41] ++ y)) := by
      rw [List.append_assoc] at e
      exact e
    have e5 := List.append_cancel_left e4
    injection e5 with _ e5
    obtain ⟨b, r, hb, hne⟩ := pr_head ho.2.2
    rw [hb] at e5
    injection e5 with e5
    exact hne e5.symm
  · rw [hc] at e3
    have h9 := hs.2
    revert e3 h9
    generalize sgL q.tag = g
    intro e3 h9
    simp only [List.mem_cons, List.not_mem_nil, or_false] at e3 h9
    rcases h9 with rfl | rfl | rfl | rfl <;> revert e3 <;> decide
theorem BP_leaf {p : Py} (h : (Tr.leaf p).ok cntB = true) : BP (.leaf p) := by
  intro u x y hb hu hx hy e
  rw [pr_leaf] at e
  cases u with
  | leaf q =>
    rw [pr_leaf] at e
    have h1 := leaf_dec (ok_leaf h).2 (ok_leaf h).1 hx
    rw [e, leaf_dec (ok_leaf hu).2 (ok_leaf hu).1 hy] at h1
    subst h1
    exact ⟨rfl, List.append_cancel_left e⟩
  | one q b =>
    have h8 : 8 ≤ q.tag := of_decide_eq_true hb
    rw [pr_agg h8] at e
    exact (leaf_agg h hu h8 hx e).elim
  | two q b d => cases hb
theorem BP_agg {p : Py} {a : Tr} (h : (Tr.one p a).ok cntB = true) (h8 : 8 ≤ p.tag) (ha : NP a) : BP (.one p a) := by
  intro u x y hb hu hx hy e
  rw [pr_agg h8] at e
  cases u with
  | leaf q =>
    rw [pr_leaf] at e
    exact (leaf_agg hu h h8 hy e.symm).elim
  | one q b =>
    have g8 : 8 ≤ q.tag := of_decide_eq_true hb
    rw [pr_agg g8] at e
    have ho := ok_one h
    have hp := ok_one hu
    have ht := tag_one ho.1
    have hq := tag_one hp.1
    have c1 : caps (sgL p.tag ++ (40 :: (prT a ++ [41])) ++ x) = sgL p.tag := by rw [List.append_assoc, List.cons_append, caps_stop (agg_sg h8 ht.2).1 (by rintro b r e; injection e with e; subst e; rfl)]
    have c2 : caps (sgL q.tag ++ (40 :: (prT b ++ [41])) ++ y) = sgL q.tag := by rw [List.append_assoc, List.cons_append, caps_stop (agg_sg g8 hq.2).1 (by rintro b r e; injection e with e; subst e; rfl)]
    have ht2 := agg_inj h8 ht.2 g8 hq.2 (by rw [← c1, e, c2])
    have hpq : p = q := by rw [inner_zero ho.2.1 (.inl ho.1), inner_zero hp.2.1 (.inl hp.1), ht2]
    subst hpq
    rw [List.append_assoc, List.append_assoc] at e
    have e2 := List.append_cancel_left e
    rw [List.cons_append, List.cons_append] at e2
    injection e2 with _ e2
    rw [List.append_assoc, List.append_assoc] at e2
    have e3 := ha b _ _ hp.2.2 (.inr ⟨x, rfl⟩) (.inr ⟨y, rfl⟩) e2
    obtain ⟨rfl, e3⟩ := e3
    injection e3 with _ e3
    exact ⟨rfl, e3⟩
  | two q b d => cases hb
theorem PP_bare {t : Tr} (ht : t.ok cntB = true) (hb : bareT t = true) (h : BP t) : PP t := by
  intro u x y hu hx hy e
  rw [par_bare hb] at e
  cases hub : bareT u
  · rw [par_not hub] at e
    obtain ⟨b, r, e1, _, hne⟩ := bare_head ht hb
    rw [e1] at e
    injection e with e
    exact absurd e hne
  · rw [par_bare hub] at e
    exact h u x y hub hu hx hy e
theorem PP_not {t : Tr} (hb : bareT t = false) (h : NP t) : PP t := by
  intro u x y hu hx hy e
  rw [par_not hb] at e
  cases hub : bareT u
  · rw [par_not hub] at e
    rw [List.cons_append, List.cons_append] at e
    injection e with _ e
    rw [List.append_assoc, List.append_assoc] at e
    obtain ⟨rfl, e3⟩ := h u _ _ hu (.inr ⟨x, rfl⟩) (.inr ⟨y, rfl⟩) e
    injection e3 with _ e3
    exact ⟨rfl, e3⟩
  · rw [par_bare hub] at e
    obtain ⟨b, r, e1, _, hne⟩ := bare_head hu hub
    rw [e1] at e
    injection e with e
    exact absurd e.symm hne
end Go.Proofs.YtoaggmldekejoaaDoor
/- Unlike trees are written unlike: whole trees. Plain Lean. Conditions: none. -/
namespace Go.Proofs.YtoaggmldekejoaaDoor
theorem end32 {x r : List UInt8} (h : endP x) (e : x = 32 :: r) : False := by
  rcases h with h | ⟨r', h⟩
  · rw [h] at e; cases e
  · rw [h] at e; injection e with e; exact absurd e (by decide)
theorem tw32 {w r : List UInt8} (h : w.all (fun b => decide (b ≠ 32)) = true) : (w ++ (32 :: r)).takeWhile (fun b => decide (b ≠ 32)) = w :=
  takeWhile_all h (by rintro b r' e; injection e with e; subst e; rfl)
/-- the part that a tree begins with, and what follows it -/
def frontT : Tr → Option (Tr × List UInt8)
  | .leaf p => some (.leaf p, [])
  | .one p a => if p.tag ≤ 5 then none else if p.tag ≤ 7 then some (a, 32 :: sgL p.tag) else some (.one p a, [])
  | .two p a b => some (a, 32 :: (sgL p.tag ++ (32 :: parT b)))
theorem front_one (p : Py) (a : Tr) : frontT (.one p a) = if p.tag ≤ 5 then none else if p.tag ≤ 7 then some (a, 32 :: sgL p.tag) else some (.one p a, []) := rfl
theorem front_some {t h : Tr} {T : List UInt8} (ht : t.ok cntB = true) (e : frontT t = some (h, T)) : prT t = parT h ++ T ∧ h.ok cntB = true ∧ (T = [] ∧ h = t ∧ bareT t = true ∨ (∃ r, T = 32 :: r) ∧ h.size < t.size) := by
  cases t with
  | leaf p =>
    injection e with e
    injection e with e1 e2
    subst e1 e2
    exact ⟨by rw [par_bare rfl, List.append_nil], ht, .inl ⟨rfl, rfl, rfl⟩⟩
  | one p a =>
    rw [front_one] at e
    by_cases h5 : p.tag ≤ 5
    · rw [if_pos h5] at e; cases e
    · rw [if_neg h5] at e
      by_cases h7 : p.tag ≤ 7
      · rw [if_pos h7] at e
        injection e with e
        injection e with e1 e2
        subst e1 e2
        exact ⟨pr_post (by omega) h7, (ok_one ht).2.2, .inr ⟨⟨_, rfl⟩, by rw [Tr.size_one]; omega⟩⟩
      · rw [if_neg h7] at e
        injection e with e
        injection e with e1 e2
        subst e1 e2
        have hb : bareT (.one p a) = true := decide_eq_true (by omega)
        exact ⟨by rw [par_bare hb, List.append_nil], ht, .inl ⟨rfl, rfl, hb⟩⟩
  | two p a b =>
    injection e with e
    injection e with e1 e2
    subst e1 e2
    exact ⟨pr_two p a b, (ok_two ht).2.2.1, .inr ⟨⟨_, rfl⟩, by rw [Tr.size_two]; omega⟩⟩
theorem front_none {t : Tr} (ht : t.ok cntB = true) (e : frontT t = none) : ∃ p a, t = .one p a ∧ (p.tag = 4 ∨ p.tag = 5) := by
  cases t with
  | leaf p => cases e
  | one p a =>
    have hg := tag_one (ok_one ht).1
    rw [front_one] at e
    by_cases h5 : p.tag ≤ 5
    · exact ⟨p, a, rfl, by omega⟩
    · rw [if_neg h5] at e
      by_cases h7 : p.tag ≤ 7
      · rw [if_pos h7] at e; cases e
      · rw [if_neg h7] at e; cases e
  | two p a b => cases e
/-- what begins with a minus or with NOT begins with no part -/
theorem pre_no_front {p : Py} {a h : Tr} {x T y : List UInt8} (hp : p.tag = 4 ∨ p.tag = 5) (hh : h.ok cntB = true) (hT : sepP (T ++ y)) (e : sgL p.tag ++ (32 :: parT a) ++ x = parT h ++ T ++ y) : False := by
  rw [List.append_assoc, List.append_assoc] at e
  rcases hp with hp | hp
  · rw [hp] at e
    obtain ⟨b, r, e1, h1⟩ := par_head hh
    rw [e1] at e
    have e2 : (45 : UInt8) :: (32 :: parT a ++ x) = b :: (r ++ (T ++ y)) := e
    injection e2 with e2
    subst e2
    revert h1; decide
  · rw [hp] at e
    have hc := par_caps hh hT
    rw [← e] at hc
    exact hc (caps_stop (w := [78, 79, 84]) (by decide) (by rintro b r e; injection e with e; subst e; rfl))
theorem tail_sep {T y : List UInt8} (h : T = [] ∨ ∃ r, T = 32 :: r) (hy : endP y) : sepP (T ++ y) := by
  rcases h with rfl | ⟨r, rfl⟩
  · exact hy.sep
  · exact sep32 _
theorem NP_all : ∀ (n : Nat) (t : Tr), t.size ≤ n → t.ok cntB = true → NP t
  | 0, t, h, _ => by have := t.size_pos; omega
  | n + 1, t, h, ht => by
    have ih := NP_all n
    have hPP : ∀ a : Tr, a.size ≤ n → a.ok cntB = true → PP a := fun a ha hoa => by
      cases hb : bareT a
      · exact PP_not hb (ih a ha hoa)
      · refine PP_bare hoa hb ?_
        cases a with
        | leaf p => exact BP_leaf hoa
        | one p c => exact BP_agg hoa (of_decide_eq_true hb) (ih c (by rw [Tr.size_one] at ha; omega) (ok_one hoa).2.2)
        | two p c d => cases hb
    have hPT : bareT t = true → PP t := fun hb => by
      refine PP_bare ht hb ?_
      cases t with
      | leaf p => exact BP_leaf ht
      | one p c => exact BP_agg ht (of_decide_eq_true hb) (ih c (by rw [Tr.size_one] at h; omega) (ok_one ht).2.2)
      | two p c d => cases hb
    intro u x y hu hx hy e
    cases hft : frontT t with
    | none =>
      obtain ⟨p, a, rfl, hp⟩ := front_none ht hft
      have ho := ok_one ht
      rw [pr_pre (by omega)] at e
      cases hfu : frontT u with
      | none =>
        obtain ⟨q, b, rfl, hq⟩ := front_none hu hfu
        have hoq := ok_one hu
        rw [pr_pre (by omega)] at e
        have htag : p.tag = q.tag := by
          rcases hp with hp | hp <;> rcases hq with hq | hq
          · rw [hp, hq]
          · rw [hp, hq] at e
            have e2 : (45 : UInt8) :: (32 :: parT a ++ x) = 78 :: (79 :: 84 :: 32 :: parT b ++ y) := e
            injection e2 with e2
            exact absurd e2 (by decide)
          · rw [hp, hq] at e
            have e2 : (78 : UInt8) :: (79 :: 84 :: 32 :: parT a ++ x) = 45 :: (32 :: parT b ++ y) := e
            injection e2 with e2
            exact absurd e2 (by decide)
          · rw [hp, hq]
        have hpq : p = q := by rw [inner_zero ho.2.1 (.inl ho.1), inner_zero hoq.2.1 (.inl hoq.1), htag]
        subst hpq
        rw [List.append_assoc, List.append_assoc] at e
        have e2 := List.append_cancel_left e
        injection e2 with _ e2
        obtain ⟨rfl, e3⟩ := hPP a (by rw [Tr.size_one] at h; omega) ho.2.2 b x y hoq.2.2 hx.sep hy.sep e2
        exact ⟨rfl, e3⟩
      | some hT =>
        obtain ⟨g, T⟩ := hT
        obtain ⟨f1, f2, f3⟩ := front_some hu hfu
        rw [f1] at e
        exact (pre_no_front hp f2 (tail_sep (f3.imp (·.1) (·.1)) hy) e).elim
    | some hT =>
      obtain ⟨g, T⟩ := hT
      obtain ⟨f1, f2, f3⟩ := front_some ht hft
      cases hfu : frontT u with
      | none =>
        obtain ⟨q, b, rfl, hq⟩ := front_none hu hfu
        rw [f1, pr_pre (by omega)] at e
        exact (pre_no_front hq f2 (tail_sep (f3.imp (·.1) (·.1)) hx) e.symm).elim
      | some hU =>
        obtain ⟨k, U⟩ := hU
        obtain ⟨g1, g2, g3⟩ := front_some hu hfu
        rw [f1, g1, List.append_assoc, List.append_assoc] at e
        have hP : PP g := by
          rcases f3 with ⟨_, e2, hb⟩ | ⟨_, hlt⟩
          · rw [e2]; exact hPT hb
          · exact hPP g (by omega) f2
        obtain ⟨hgk, e2⟩ := hP k _ _ g2 (tail_sep (f3.imp (·.1) (·.1)) hx) (tail_sep (g3.imp (·.1) (·.1)) hy) e
        rcases f3 with ⟨rfl, e3, hb⟩ | ⟨⟨r, hr⟩, hlt⟩
        · rcases g3 with ⟨rfl, e4, hb2⟩ | ⟨⟨r2, hr2⟩, _⟩
          · exact ⟨by rw [← e3, hgk, e4], e2⟩
          · rw [hr2] at e2; exact (end32 hx e2).elim
        · rcases g3 with ⟨rfl, e4, hb2⟩ | ⟨⟨r2, hr2⟩, _⟩
          · rw [hr] at e2; exact (end32 hy e2.symm).elim
          · -- a sign behind a part, on both sides
            clear hr hr2 r r2
            cases t with
            | leaf p =>
              have h8 : some (Tr.leaf p, ([] : List UInt8)) = some (g, T) := hft
              injection h8 with h8
              injection h8 with h8
              subst h8
              exact absurd hlt (Nat.lt_irrefl _)
            | one p a =>
              have ho := ok_one ht
              have htg := tag_one ho.1
              have hnt : ¬ p.tag ≤ 5 ∧ p.tag ≤ 7 := by
                rw [front_one] at hft
                by_cases h5 : p.tag ≤ 5
                · rw [if_pos h5] at hft; cases hft
                · rw [if_neg h5] at hft
                  by_cases h7 : p.tag ≤ 7
                  · exact ⟨h5, h7⟩
                  · rw [if_neg h7] at hft
                    injection hft with h8
                    injection h8 with h8
                    subst h8
                    omega
              rw [front_one] at hft
              rw [if_neg hnt.1, if_pos hnt.2] at hft
              injection hft with h8
              injection h8 with h8 h9
              subst h8 h9
              cases u with
              | leaf q => injection hfu with h8; injection h8 with h8 h9; subst h9; rw [List.nil_append, List.cons_append] at e2; exact (end32 hy e2.symm).elim
              | one q b =>
                have hoq := ok_one hu
                have htq := tag_one hoq.1
                rw [front_one] at hfu
                by_cases h5 : q.tag ≤ 5
                · rw [if_pos h5] at hfu; cases hfu
                · rw [if_neg h5] at hfu
                  by_cases h7 : q.tag ≤ 7
                  · rw [if_pos h7] at hfu
                    injection hfu with h8
                    injection h8 with h8 h9
                    subst h8 h9
                    subst hgk
                    rw [List.cons_append, List.cons_append] at e2
                    injection e2 with _ e2
                    have htag : p.tag = q.tag := by
                      rcases (show p.tag = 6 ∨ p.tag = 7 by omega) with hp | hp <;> rcases (show q.tag = 6 ∨ q.tag = 7 by omega) with hq | hq
                      · rw [hp, hq]
                      · rw [hp, hq] at e2
                        have e9 : (73 : UInt8) :: 83 :: 32 :: 78 :: 85 :: (76 :: 76 :: x) = 73 :: 83 :: 32 :: 78 :: 79 :: (84 :: 32 :: 78 :: 85 :: 76 :: 76 :: y) := e2
                        injection e9 with _ e9; injection e9 with _ e9; injection e9 with _ e9; injection e9 with _ e9; injection e9 with e9
                        exact absurd e9 (by decide)
                      · rw [hp, hq] at e2
                        have e9 : (73 : UInt8) :: 83 :: 32 :: 78 :: 79 :: (84 :: 32 :: 78 :: 85 :: 76 :: 76 :: x) = 73 :: 83 :: 32 :: 78 :: 85 :: (76 :: 76 :: y) := e2
                        injection e9 with _ e9; injection e9 with _ e9; injection e9 with _ e9; injection e9 with _ e9; injection e9 with e9
                        exact absurd e9 (by decide)
                      · rw [hp, hq]
                    have hpq : p = q := by rw [inner_zero ho.2.1 (.inl ho.1), inner_zero hoq.2.1 (.inl hoq.1), htag]
                    subst hpq
                    exact ⟨rfl, List.append_cancel_left e2⟩
                  · rw [if_neg h7] at hfu
                    injection hfu with h8
                    injection h8 with h8 h9
                    subst h9
                    rw [List.nil_append, List.cons_append] at e2; exact (end32 hy e2.symm).elim
              | two q b d =>
                have hoq := ok_two hu
                have htq := tag_two hoq.1
                injection hfu with h8
                injection h8 with h8 h9
                subst h8 h9
                rw [List.cons_append, List.cons_append] at e2
                injection e2 with _ e2
                have hs := two_sg htq.1 htq.2
                have hw : (sgL p.tag ++ x).takeWhile (fun b => decide (b ≠ 32)) = sgL q.tag := by rw [e2, List.append_assoc, List.cons_append]; exact tw32 hs.1
                have hw2 : (sgL p.tag ++ x).takeWhile (fun b => decide (b ≠ 32)) = [73, 83] := by
                  rcases (show p.tag = 6 ∨ p.tag = 7 by omega) with hp | hp <;> rw [hp] <;> rfl
                exact (hs.2 (hw.symm.trans hw2)).elim
            | two p a b =>
              have ho := ok_two ht
              have htg := tag_two ho.1
              injection hft with h8
              injection h8 with h8 h9
              subst h8 h9
              cases u with
              | leaf q => injection hfu with h8; injection h8 with h8 h9; subst h9; rw [List.nil_append, List.cons_append] at e2; exact (end32 hy e2.symm).elim
              | one q d =>
                have hoq := ok_one hu
                have htq := tag_one hoq.1
                rw [front_one] at hfu
                by_cases h5 : q.tag ≤ 5
                · rw [if_pos h5] at hfu; cases hfu
                · rw [if_neg h5] at hfu
                  by_cases h7 : q.tag ≤ 7
                  · rw [if_pos h7] at hfu
                    injection hfu with h8
                    injection h8 with h8 h9
                    subst h8 h9
                    rw [List.cons_append, List.cons_append] at e2
                    injection e2 with _ e2
                    have hs := two_sg htg.1 htg.2
                    have hw : (sgL q.tag ++ y).takeWhile (fun b => decide (b ≠ 32)) = sgL p.tag := by rw [← e2, List.append_assoc, List.cons_append]; exact tw32 hs.1
                    have hw2 : (sgL q.tag ++ y).takeWhile (fun b => decide (b ≠ 32)) = [73, 83] := by
                      rcases (show q.tag = 6 ∨ q.tag = 7 by omega) with hp | hp <;> rw [hp] <;> rfl
                    exact (hs.2 (hw.symm.trans hw2)).elim
                  · rw [if_neg h7] at hfu
                    injection hfu with h8
                    injection h8 with h8 h9
                    subst h9
                    rw [List.nil_append, List.cons_append] at e2; exact (end32 hy e2.symm).elim
              | two q d f =>
                have hoq := ok_two hu
                have htq := tag_two hoq.1
                injection hfu with h8
                injection h8 with h8 h9
                subst h8 h9
                subst hgk
                rw [List.cons_append, List.cons_append] at e2
                injection e2 with _ e2
                rw [List.append_assoc, List.append_assoc, List.cons_append, List.cons_append] at e2
                have hw := congrArg (List.takeWhile fun b => decide (b ≠ 32)) e2
                rw [tw32 (two_sg htg.1 htg.2).1, tw32 (two_sg htq.1 htq.2).1] at hw
                have htag := two_inj htg.1 htg.2 htq.1 htq.2 hw
                have hpq : p = q := by rw [inner_zero ho.2.1 (.inr ho.1), inner_zero hoq.2.1 (.inr hoq.1), htag]
                subst hpq
                have e3 := List.append_cancel_left e2
                injection e3 with _ e3
                obtain ⟨rfl, e4⟩ := hPP b (by rw [Tr.size_two] at h; omega) ho.2.2.2 f x y hoq.2.2.2 hx.sep hy.sep e3
                exact ⟨rfl, e4⟩
/-- THE LAW: unlike trees are written unlike. -/
theorem prT_inj {t u : Tr} (ht : t.ok cntB = true) (hu : u.ok cntB = true) (h : prT t = prT u) : t = u :=
  (NP_all t.size t (Nat.le_refl _) ht u [] [] hu (.inl rfl) (.inl rfl) (by rw [h])).1
end Go.Proofs.YtoaggmldekejoaaDoor
