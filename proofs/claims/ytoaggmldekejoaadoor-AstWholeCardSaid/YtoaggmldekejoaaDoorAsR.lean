/- The reference's Size in plain Lean: what stands last in a row of nodes. Conditions: none. -/
import Derived.Test.YtoaggmldekejoaaDoorAsM
namespace Go.Proofs.YtoaggmldekejoaaDoor
/-- how many nodes, how deep the tree is that stands last among the first m nodes; 0: none does -/
def sizeF (c : Py → Bool) (x : List Nd) : Nat → Nat → Nat × Nat
  | 0, _ => (0, 0)
  | _ + 1, 0 => (0, 0)
  | f + 1, m + 1 =>
    match x[m]? with
    | none => (0, 0)
    | some n =>
      if c n.p then
        if partsI n.p.tag = 0 then (if n.l = -1 ∧ n.r = -1 then (1, 1) else (0, 0))
        else if partsI n.p.tag = 1 then
          (if (sizeF c x f m).1 = 0 then (0, 0)
           else if n.l = (m : Int) - 1 ∧ n.r = -1 then ((sizeF c x f m).1 + 1, (sizeF c x f m).2 + 1) else (0, 0))
        else if partsI n.p.tag = 2 then
          (if (sizeF c x f m).1 = 0 then (0, 0)
           else if (sizeF c x f (m - (sizeF c x f m).1)).1 = 0 then (0, 0)
           else if n.r = (m : Int) - 1 ∧ n.l = (m : Int) - 1 - ((sizeF c x f m).1 : Int) then
             ((sizeF c x f m).1 + (sizeF c x f (m - (sizeF c x f m).1)).1 + 1, max (sizeF c x f m).2 (sizeF c x f (m - (sizeF c x f m).1)).2 + 1) else (0, 0))
        else (0, 0)
      else (0, 0)
theorem at_app {α : Type} {p r : List α} {a : α} {k : Nat} (h : k = p.length) : (p ++ a :: r)[k]? = some a := by subst h; simp
theorem size_flat (c : Py → Bool) : ∀ (t : Tr) (p r : List Nd) (f : Nat), t.ok c = true → p.length + t.size ≤ f → sizeF c (p ++ (t.flat p.length ++ r)) f (p.length + t.size) = (t.size, t.depth)
  | .leaf q, p, r, 0, h, hf => by simp [Tr.size] at hf
  | .leaf q, p, r, f + 1, h, _ => by
    unfold Tr.ok at h
    rw [Bool.and_eq_true, decide_eq_true_eq] at h
    rw [Tr.size, Tr.flat, sizeF, List.cons_append, List.nil_append, at_app rfl]
    simp only
    rw [if_pos h.2, if_pos h.1, if_pos ⟨trivial, trivial⟩]
    rfl
  | .one q a, p, r, 0, h, hf => by have := (Tr.one q a).size_pos; omega
  | .one q a, p, r, f + 1, h, hf => by
    unfold Tr.ok at h
    rw [Bool.and_eq_true, Bool.and_eq_true, decide_eq_true_eq] at h
    unfold Tr.size at hf
    have ih := size_flat c a p (⟨q, ((p.length + a.size : Nat) : Int) - 1, -1⟩ :: r) f h.2.2 (by omega)
    have hp := a.size_pos
    have e : p ++ ((Tr.one q a).flat p.length ++ r) = p ++ (a.flat p.length ++ (⟨q, ((p.length + a.size : Nat) : Int) - 1, -1⟩ :: r)) := by rw [Tr.flat, List.append_assoc]; rfl
    rw [e, Tr.size, ← Nat.add_assoc, sizeF, ih]
    rw [← List.append_assoc, at_app (by rw [List.length_append, a.flat_len])]
    simp only
    rw [if_pos h.2.1, if_neg (by rw [h.1]; decide), if_pos h.1, if_neg (by omega), if_pos ⟨trivial, trivial⟩]
    rfl
  | .two q a b, p, r, 0, h, hf => by have := (Tr.two q a b).size_pos; omega
  | .two q a b, p, r, f + 1, h, hf => by
    unfold Tr.ok at h
    rw [Bool.and_eq_true, Bool.and_eq_true, Bool.and_eq_true, decide_eq_true_eq] at h
    unfold Tr.size at hf
    have hp := a.size_pos
    have hq := b.size_pos
    have el : (p ++ a.flat p.length).length = p.length + a.size := by rw [List.length_append, a.flat_len]
    have ib := size_flat c b (p ++ a.flat p.length) (⟨q, ((p.length + a.size : Nat) : Int) - 1, ((p.length + a.size + b.size : Nat) : Int) - 1⟩ :: r) f h.2.2.2 (by rw [el]; omega)
    have ia := size_flat c a p (b.flat (p.length + a.size) ++ (⟨q, ((p.length + a.size : Nat) : Int) - 1, ((p.length + a.size + b.size : Nat) : Int) - 1⟩ :: r)) f h.2.2.1 (by omega)
    rw [el] at ib
    have e : p ++ ((Tr.two q a b).flat p.length ++ r) = (p ++ a.flat p.length) ++ (b.flat (p.length + a.size) ++ (⟨q, ((p.length + a.size : Nat) : Int) - 1, ((p.length + a.size + b.size : Nat) : Int) - 1⟩ :: r)) := by
      rw [Tr.flat]; simp only [List.append_assoc]; rfl
    have e2 : (p ++ a.flat p.length) ++ (b.flat (p.length + a.size) ++ (⟨q, ((p.length + a.size : Nat) : Int) - 1, ((p.length + a.size + b.size : Nat) : Int) - 1⟩ :: r)) = p ++ (a.flat p.length ++ (b.flat (p.length + a.size) ++ (⟨q, ((p.length + a.size : Nat) : Int) - 1, ((p.length + a.size + b.size : Nat) : Int) - 1⟩ :: r))) := by rw [List.append_assoc]
    rw [← e2] at ia
    have h1 : (((p ++ a.flat p.length) ++ (b.flat (p.length + a.size) ++ (⟨q, ((p.length + a.size : Nat) : Int) - 1, ((p.length + a.size + b.size : Nat) : Int) - 1⟩ :: r)))[p.length + a.size + b.size]?) = some ⟨q, ((p.length + a.size : Nat) : Int) - 1, ((p.length + a.size + b.size : Nat) : Int) - 1⟩ := by
      rw [← List.append_assoc]; exact at_app (by rw [List.length_append, b.flat_len, el])
    rw [e, Tr.size, show p.length + (a.size + b.size + 1) = (p.length + a.size + b.size) + 1 from by omega, sizeF, ib]
    rw [h1]
    simp only
    rw [show p.length + a.size + b.size - b.size = p.length + a.size from by omega, ia]
    simp only
    rw [if_pos h.2.1, if_neg (by rw [h.1]; decide), if_neg (by rw [h.1]; decide), if_pos h.1, if_neg (by omega), if_neg (by omega), if_pos ⟨trivial, by omega⟩, Tr.depth]
    rw [show b.size + a.size + 1 = a.size + b.size + 1 from by omega]
theorem size_some (c : Py → Bool) (x : List Nd) : ∀ (f m : Nat), m ≤ f → (sizeF c x f m).1 ≠ 0 → ∃ (t : Tr) (p : List Nd), x.take m = p ++ t.flat p.length ∧ m ≤ x.length ∧ t.size = (sizeF c x f m).1 ∧ t.depth = (sizeF c x f m).2 ∧ t.ok c = true
  | 0, m, _, h => by simp [sizeF] at h
  | f + 1, 0, _, h => by simp [sizeF] at h
  | f + 1, m + 1, hf, h => by
    have ih := size_some c x f
    rw [sizeF] at h ⊢
    cases hx : x[m]? with
    | none => rw [hx] at h; exact absurd rfl h
    | some n =>
      have hlt : m < x.length := (List.getElem?_eq_some_iff.1 hx).1
      have htk : x.take (m + 1) = x.take m ++ [n] := by rw [List.take_add_one, hx]; rfl
      rw [hx] at h
      obtain ⟨q, nl, nr⟩ := n
      simp only at h ⊢
      by_cases hc : c q = true
      case neg => rw [if_neg hc] at h; exact absurd rfl h
      rw [if_pos hc] at h ⊢
      by_cases h0 : partsI q.tag = 0
      · rw [if_pos h0] at h ⊢
        by_cases h1 : nl = -1 ∧ nr = -1
        · rw [if_pos h1]
          obtain ⟨rfl, rfl⟩ := h1
          exact ⟨.leaf q, x.take m, by rw [htk, Tr.flat], by omega, rfl, rfl, by unfold Tr.ok; rw [decide_eq_true h0, hc]; rfl⟩
        · rw [if_neg h1] at h; exact absurd rfl h
      rw [if_neg h0] at h ⊢
      by_cases h1 : partsI q.tag = 1
      · rw [if_pos h1] at h ⊢
        by_cases hs : (sizeF c x f m).1 = 0
        · rw [if_pos hs] at h; exact absurd rfl h
        rw [if_neg hs] at h ⊢
        by_cases h2 : nl = (m : Int) - 1 ∧ nr = -1
        · rw [if_pos h2]
          obtain ⟨a, p, e1, e2, e3, e4, e5⟩ := ih m (by omega) hs
          obtain ⟨rfl, rfl⟩ := h2
          have hl := congrArg List.length e1
          rw [List.length_take, List.length_append, a.flat_len, Nat.min_eq_left e2] at hl
          refine ⟨.one q a, p, ?_, by omega, by rw [Tr.size, e3], by rw [Tr.depth, e4], by unfold Tr.ok; rw [decide_eq_true h1, hc, e5]; rfl⟩
          rw [htk, e1, Tr.flat, List.append_assoc, ← hl]
        · rw [if_neg h2] at h; exact absurd rfl h
      rw [if_neg h1] at h ⊢
      by_cases h2 : partsI q.tag = 2
      case neg => rw [if_neg h2] at h; exact absurd rfl h
      rw [if_pos h2] at h ⊢
      by_cases hs : (sizeF c x f m).1 = 0
      · rw [if_pos hs] at h; exact absurd rfl h
      rw [if_neg hs] at h ⊢
      by_cases hs2 : (sizeF c x f (m - (sizeF c x f m).1)).1 = 0
      · rw [if_pos hs2] at h; exact absurd rfl h
      rw [if_neg hs2] at h ⊢
      by_cases h3 : nr = (m : Int) - 1 ∧ nl = (m : Int) - 1 - ((sizeF c x f m).1 : Int)
      case neg => rw [if_neg h3] at h; exact absurd rfl h
      rw [if_pos h3]
      obtain ⟨b, p, e1, e2, e3, e4, e5⟩ := ih m (by omega) hs
      obtain ⟨a, p2, g1, g2, g3, g4, g5⟩ := ih (m - (sizeF c x f m).1) (by omega) hs2
      have hl := congrArg List.length e1
      rw [List.length_take, List.length_append, b.flat_len, Nat.min_eq_left e2] at hl
      have hl2 := congrArg List.length g1
      rw [List.length_take, List.length_append, a.flat_len, Nat.min_eq_left g2] at hl2
      have hpp : p = p2 ++ a.flat p2.length := by
        rw [← g1]
        have := congrArg (List.take p.length) e1
        rw [List.take_take, List.take_left, Nat.min_eq_left (by omega)] at this
        rw [← this, ← e3]
        congr 1
        omega
      obtain ⟨rfl, rfl⟩ := h3
      have hpl : p.length = p2.length + a.size := by rw [hpp, List.length_append, a.flat_len]
      refine ⟨.two q a b, p2, ?_, by omega, by rw [Tr.size, e3, g3]; omega, by rw [Tr.depth, e4, g4], by unfold Tr.ok; rw [decide_eq_true h2, hc, e5, g5]; rfl⟩
      rw [htk, e1, Tr.flat]
      have e9 : (⟨q, (m : Int) - 1 - ((sizeF c x f m).1 : Int), (m : Int) - 1⟩ : Nd) = ⟨q, ((p2.length + a.size : Nat) : Int) - 1, ((p2.length + a.size + b.size : Nat) : Int) - 1⟩ := by
        rw [← hpl, ← e3]
        congr 1 <;> omega
      rw [e9, hpl]
      conv => lhs; rw [hpp]
      simp only [List.append_assoc]
/-- may a row of nodes be a tree? as the reference says it -/
def rightT (c : Py → Bool) (x : List Nd) : Bool := decide (1 ≤ x.length) && (decide (x.length ≤ 300) && (decide ((sizeF c x x.length x.length).1 = x.length) && decide ((sizeF c x x.length x.length).2 ≤ 20)))
theorem rightT_tree (c : Py → Bool) (x : List Nd) : rightT c x = (treeF c x).isSome := by
  rw [Bool.eq_iff_iff, Option.isSome_iff_exists]
  unfold rightT
  simp only [Bool.and_eq_true, decide_eq_true_eq]
  constructor
  · rintro ⟨h1, h2, h3, h4⟩
    obtain ⟨t, p, e1, _, e3, e4, e5⟩ := size_some c x x.length x.length (Nat.le_refl _) (by omega)
    rw [List.take_length] at e1
    have hl := congrArg List.length e1
    rw [List.length_append, t.flat_len, e3, h3] at hl
    have hp : p = [] := List.length_eq_zero_iff.1 (by omega)
    subst hp
    exact ⟨t, treeF_some.2 ⟨by simpa using e1, e5, by omega, by omega⟩⟩
  · rintro ⟨t, h⟩
    obtain ⟨rfl, h1, h2, h3⟩ := treeF_some.1 h
    have hs := size_flat c t [] [] (t.flat 0).length h1 (by rw [t.flat_len]; simp)
    simp only [List.nil_append, List.append_nil, List.length_nil, Nat.zero_add] at hs
    have hp := t.size_pos
    rw [t.flat_len] at hs ⊢
    rw [hs]
    exact ⟨hp, h2, rfl, h3⟩
theorem size_tree {c : Py → Bool} {x : List Nd} {t : Tr} (h : treeF c x = some t) : sizeF c x x.length x.length = (t.size, t.depth) := by
  obtain ⟨rfl, h1, _, _⟩ := treeF_some.1 h
  have hs := size_flat c t [] [] (t.flat 0).length h1 (by rw [t.flat_len]; simp)
  simpa [t.flat_len] using hs
end Go.Proofs.YtoaggmldekejoaaDoor
