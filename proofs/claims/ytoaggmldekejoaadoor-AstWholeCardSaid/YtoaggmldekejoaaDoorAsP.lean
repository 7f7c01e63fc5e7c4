/- Parts of trees in plain Lean. Conditions: none. -/
import Derived.Test.YtoaggmldekejoaaDoorAsR
namespace Go.Proofs.YtoaggmldekejoaaDoor
theorem drop_app {α : Type} (x y : List α) (n k : Nat) (hx : x.length = n) : (x ++ y).drop (n + k) = y.drop k := by subst hx; simp
namespace Tr
theorem size_one (p : Py) (a : Tr) : (one p a).size = a.size + 1 := rfl
theorem size_two (p : Py) (a b : Tr) : (two p a b).size = a.size + b.size + 1 := rfl
theorem depth_one (p : Py) (a : Tr) : (one p a).depth = a.depth + 1 := rfl
theorem depth_two (p : Py) (a b : Tr) : (two p a b).depth = max b.depth a.depth + 1 := rfl
/-- where each part begins, and how deep it is -/
def bel : Nat → Tr → List (Nat × Nat)
  | o, leaf _ => [(o, 1)]
  | o, one p a => a.bel o ++ [(o, (one p a).depth)]
  | o, two p a b => a.bel o ++ (b.bel (o + a.size) ++ [(o, (two p a b).depth)])
theorem bel_len : ∀ (t : Tr) (o : Nat), (t.bel o).length = t.size
  | leaf _, _ => rfl
  | one _ a, o => by unfold bel size; rw [List.length_append, bel_len a]; rfl
  | two _ a b, o => by unfold bel size; rw [List.length_append, List.length_append, bel_len a, bel_len b]; simp only [List.length_cons, List.length_nil]; omega
/-- the part whose root is at a place -/
def sub : Tr → Nat → Tr
  | leaf p, _ => leaf p
  | one p a, i => if i < a.size then a.sub i else one p a
  | two p a b, i => if i < a.size then a.sub i else if i < a.size + b.size then b.sub (i - a.size) else two p a b
def pay : Tr → Py
  | leaf p => p
  | one p _ => p
  | two p _ _ => p
/-- a tree's own node, where it begins at a place -/
def node (o : Nat) : Tr → Nd
  | leaf p => ⟨p, -1, -1⟩
  | one p a => ⟨p, ((o + a.size : Nat) : Int) - 1, -1⟩
  | two p a b => ⟨p, ((o + a.size : Nat) : Int) - 1, ((o + a.size + b.size : Nat) : Int) - 1⟩
theorem sub_size : ∀ (t : Tr) (i : Nat), i < t.size → (t.sub i).size ≤ i + 1
  | leaf _, i, _ => by unfold sub size; omega
  | one p a, i, h => by
    unfold sub
    split
    · rename_i h1; exact sub_size a i h1
    · unfold size at h ⊢; omega
  | two p a b, i, h => by
    unfold sub
    split
    · rename_i h1; exact sub_size a i h1
    · split
      · rename_i h1 h2
        have := sub_size b (i - a.size) (by omega)
        omega
      · unfold size at h ⊢; omega
theorem sub_ok {c : Py → Bool} : ∀ {t : Tr} {i : Nat}, t.ok c = true → (t.sub i).ok c = true
  | leaf _, _, h => h
  | one p a, i, h => by
    unfold sub
    split
    · unfold ok at h
      simp only [Bool.and_eq_true] at h
      exact sub_ok h.2.2
    · exact h
  | two p a b, i, h => by
    unfold sub
    have h' := h
    unfold ok at h'
    simp only [Bool.and_eq_true] at h'
    split
    · exact sub_ok h'.2.2.1
    · split
      · exact sub_ok h'.2.2.2
      · exact h
theorem sub_depth : ∀ (t : Tr) (i : Nat), (t.sub i).depth ≤ t.depth
  | leaf _, _ => Nat.le_refl _
  | one p a, i => by
    unfold sub
    split
    · have := sub_depth a i; rw [depth_one]; omega
    · exact Nat.le_refl _
  | two p a b, i => by
    unfold sub
    split
    · have := sub_depth a i; rw [depth_two]; omega
    · split
      · have := sub_depth b (i - a.size); rw [depth_two]; omega
      · exact Nat.le_refl _
theorem sub_last (t : Tr) : t.sub (t.size - 1) = t := by
  cases t with
  | leaf p => rfl
  | one p a => unfold sub; rw [if_neg (by simp [size])]
  | two p a b => unfold sub; rw [if_neg (by simp only [size]; omega), if_neg (by simp only [size]; omega)]
theorem get_l {α : Type} {x y : List α} {i n : Nat} (hx : x.length = n) (h : i < n) : (x ++ y)[i]? = x[i]? := List.getElem?_append_left (by omega)
theorem get_r {α : Type} {x y : List α} {i n : Nat} (hx : x.length = n) (h : n ≤ i) : (x ++ y)[i]? = y[i - n]? := by rw [List.getElem?_append_right (by omega), hx]
theorem bel_at : ∀ (t : Tr) (o i : Nat), i < t.size → (t.bel o)[i]? = some (o + (i + 1 - (t.sub i).size), (t.sub i).depth)
  | leaf p, o, i, h => by
    obtain rfl : i = 0 := by unfold size at h; omega
    rfl
  | one p a, o, i, h => by
    unfold bel
    unfold sub
    by_cases h1 : i < a.size
    · rw [if_pos h1, get_l (a.bel_len o) h1]; exact bel_at a o i h1
    · have hi : i = a.size := by unfold size at h; omega
      rw [if_neg h1, get_r (a.bel_len o) (by omega), hi]
      simp [size]
  | two p a b, o, i, h => by
    unfold bel
    unfold sub
    by_cases h1 : i < a.size
    · rw [if_pos h1, get_l (a.bel_len o) h1]; exact bel_at a o i h1
    · rw [if_neg h1, get_r (a.bel_len o) (by omega)]
      by_cases h2 : i < a.size + b.size
      · rw [if_pos h2, get_l (b.bel_len _) (by omega), bel_at b (o + a.size) (i - a.size) (by omega)]
        have := sub_size b (i - a.size) (by omega)
        congr 2
        omega
      · have hi : i = a.size + b.size := by unfold size at h; omega
        rw [if_neg h2, get_r (b.bel_len _) (by omega), hi]
        simp [size]
theorem node_at : ∀ (t : Tr) (o i : Nat), i < t.size → (t.flat o)[i]? = some ((t.sub i).node (o + (i + 1 - (t.sub i).size)))
  | leaf p, o, i, h => by
    obtain rfl : i = 0 := by unfold size at h; omega
    rfl
  | one p a, o, i, h => by
    unfold flat
    unfold sub
    by_cases h1 : i < a.size
    · rw [if_pos h1, get_l (a.flat_len o) h1]; exact node_at a o i h1
    · have hi : i = a.size := by unfold size at h; omega
      rw [if_neg h1, get_r (a.flat_len o) (by omega), hi]
      simp [size, node]
  | two p a b, o, i, h => by
    unfold flat
    unfold sub
    by_cases h1 : i < a.size
    · rw [if_pos h1, get_l (a.flat_len o) h1]; exact node_at a o i h1
    · rw [if_neg h1, get_r (a.flat_len o) (by omega)]
      by_cases h2 : i < a.size + b.size
      · rw [if_pos h2, get_l (b.flat_len _) (by omega), node_at b (o + a.size) (i - a.size) (by omega)]
        have := sub_size b (i - a.size) (by omega)
        congr 2
        omega
      · have hi : i = a.size + b.size := by unfold size at h; omega
        rw [if_neg h2, get_r (b.flat_len _) (by omega), hi]
        simp [size, node]
theorem flat_at : ∀ (t : Tr) (o i : Nat), i < t.size → ((t.flat o).drop (i + 1 - (t.sub i).size)).take (t.sub i).size = (t.sub i).flat (o + (i + 1 - (t.sub i).size))
  | leaf p, o, i, h => by
    obtain rfl : i = 0 := by unfold size at h; omega
    rfl
  | one p a, o, i, h => by
    have hf := (one p a).flat_len o
    unfold sub
    by_cases h1 : i < a.size
    · rw [if_pos h1, ← flat_at a o i h1]
      have h2 := sub_size a i h1
      rw [flat, List.drop_append_of_le_length (by rw [a.flat_len]; omega), List.take_append_of_le_length (by rw [List.length_drop, a.flat_len]; omega)]
    · have hi : i = a.size := by unfold size at h; omega
      rw [if_neg h1, hi, show a.size + 1 - (one p a).size = 0 from by rw [size_one]; omega, List.drop_zero, List.take_of_length_le (by rw [hf]; exact Nat.le_refl _), Nat.add_zero]
  | two p a b, o, i, h => by
    have hf := (two p a b).flat_len o
    unfold sub
    by_cases h1 : i < a.size
    · rw [if_pos h1, ← flat_at a o i h1]
      have h2 := sub_size a i h1
      rw [flat, List.drop_append_of_le_length (by rw [a.flat_len]; omega), List.take_append_of_le_length (by rw [List.length_drop, a.flat_len]; omega)]
    · rw [if_neg h1]
      by_cases h2 : i < a.size + b.size
      · have h3 := sub_size b (i - a.size) (by omega)
        rw [if_pos h2, show o + (i + 1 - (b.sub (i - a.size)).size) = (o + a.size) + (i - a.size + 1 - (b.sub (i - a.size)).size) from by omega, ← flat_at b (o + a.size) (i - a.size) (by omega)]
        rw [flat, show i + 1 - (b.sub (i - a.size)).size = a.size + (i - a.size + 1 - (b.sub (i - a.size)).size) from by omega, drop_app _ _ _ _ (a.flat_len o)]
        rw [List.drop_append_of_le_length (by rw [b.flat_len]; omega), List.take_append_of_le_length (by rw [List.length_drop, b.flat_len]; omega)]
      · have hi : i = a.size + b.size := by unfold size at h; omega
        rw [if_neg h2, hi, show a.size + b.size + 1 - (two p a b).size = 0 from by rw [size_two]; omega, List.drop_zero, List.take_of_length_le (by rw [hf]; exact Nat.le_refl _), Nat.add_zero]
end Tr
/-- a node whose places lie so much further on -/
def mv (k : Int) (x : Nd) : Nd := { x with l := if 0 ≤ x.l then x.l + k else x.l, r := if 0 ≤ x.r then x.r + k else x.r }
theorem mv_flat : ∀ (t : Tr) (o o' : Nat) (k : Int), (o' : Int) = (o : Int) + k → (t.flat o).map (mv k) = t.flat o'
  | .leaf p, o, o', k, _ => rfl
  | .one p a, o, o', k, h => by
    have hp := a.size_pos
    rw [Tr.flat, Tr.flat, List.map_append, mv_flat a o o' k h, List.map_cons, List.map_nil]
    unfold mv
    simp only
    rw [if_pos (by omega), if_neg (by decide)]
    congr 3
    omega
  | .two p a b, o, o', k, h => by
    have hp := a.size_pos
    have hq := b.size_pos
    rw [Tr.flat, Tr.flat, List.map_append, List.map_append, mv_flat a o o' k h, mv_flat b (o + a.size) (o' + a.size) k (by omega), List.map_cons, List.map_nil]
    unfold mv
    simp only
    rw [if_pos (by omega), if_pos (by omega)]
    congr 4
    · omega
    · omega
/-- the parts of a part -/
theorem sub_one {p : Py} {a : Tr} : ∀ {t : Tr} {i : Nat}, i < t.size → t.sub i = .one p a → 1 ≤ i ∧ t.sub (i - 1) = a
  | .leaf _, i, h, e => by cases e
  | .one q b, i, h, e => by
    unfold Tr.sub at e ⊢
    by_cases h1 : i < b.size
    · rw [if_pos h1] at e
      have := sub_one h1 e
      rw [if_pos (by omega)]
      exact this
    · rw [if_neg h1] at e
      injection e with e1 e2
      subst e2
      have hp := b.size_pos
      have hi : i = b.size := by unfold Tr.size at h; omega
      rw [if_pos (by omega), hi]
      exact ⟨by omega, b.sub_last⟩
  | .two q b d, i, h, e => by
    have hp := b.size_pos
    unfold Tr.sub at e ⊢
    by_cases h1 : i < b.size
    · rw [if_pos h1] at e
      have := sub_one h1 e
      rw [if_pos (by omega)]
      exact this
    · rw [if_neg h1] at e
      by_cases h2 : i < b.size + d.size
      · rw [if_pos h2] at e
        have := sub_one (i := i - b.size) (by omega) e
        rw [if_neg (by omega), if_pos (by omega), show i - 1 - b.size = i - b.size - 1 from by omega]
        exact ⟨by omega, this.2⟩
      · rw [if_neg h2] at e; cases e
theorem sub_two {p : Py} {a b : Tr} : ∀ {t : Tr} {i : Nat}, i < t.size → t.sub i = .two p a b → b.size + 1 ≤ i ∧ t.sub (i - 1) = b ∧ t.sub (i - 1 - b.size) = a
  | .leaf _, i, h, e => by cases e
  | .one q d, i, h, e => by
    unfold Tr.sub at e ⊢
    by_cases h1 : i < d.size
    · rw [if_pos h1] at e
      have := sub_two h1 e
      rw [if_pos (by omega), if_pos (by omega)]
      exact this
    · rw [if_neg h1] at e; cases e
  | .two q d g, i, h, e => by
    have hp := d.size_pos
    have hq := g.size_pos
    unfold Tr.sub at e ⊢
    by_cases h1 : i < d.size
    · rw [if_pos h1] at e
      have := sub_two h1 e
      rw [if_pos (by omega), if_pos (by omega)]
      exact this
    · rw [if_neg h1] at e
      by_cases h2 : i < d.size + g.size
      · rw [if_pos h2] at e
        have := sub_two (i := i - d.size) (by omega) e
        rw [if_neg (by omega), if_pos (by omega), if_neg (by omega), if_pos (by omega), show i - 1 - d.size = i - d.size - 1 from by omega, show i - 1 - b.size - d.size = i - d.size - 1 - b.size from by omega]
        exact ⟨by omega, this.2⟩
      · rw [if_neg h2] at e
        injection e with e1 e2 e3
        subst e2 e3
        have hi : i = d.size + g.size := by unfold Tr.size at h; omega
        rw [if_neg (by omega), if_pos (by omega), if_pos (by omega), hi]
        refine ⟨by omega, ?_, ?_⟩
        · rw [show d.size + g.size - 1 - d.size = g.size - 1 from by omega]; exact g.sub_last
        · rw [show d.size + g.size - 1 - g.size = d.size - 1 from by omega]; exact d.sub_last
end Go.Proofs.YtoaggmldekejoaaDoor
