/- The reference's Size in plain Lean: what stands last in a row of nodes. Conditions: none. -/
import Derived.Test.YtoaggmldekejoaaGreatDoorPkQ1
import Derived.Lib.MinMax
import Derived.Lib.AppendIntMem
import Derived.Lib.Itoa
import Derived.Shelf.Unicode.CaseTo
import Derived.Shelf.Unicode.DecodeSlow
import Derived.ProofKit
import Derived.OpenShut
import Derived.ShutString
import Derived.ChangeOld
import Derived.Deep.Slices
import Derived.ChangeSame
import Derived.Lib.SlicesS
namespace Go.Proofs.YtoaggmldekejoaaGreatDoor
/-- how many nodes, how deep the tree is that stands last among the first m nodes; 0: none does -/
def sizeF (c : Py → Bool) (x : List Nd) : Nat → Nat → Nat × Nat
 | 0, _ => (0, 0)
 | _ + 1, 0 => (0, 0)
 | f + 1, m + 1 =>
  match x[m]? with
  | none => (0, 0)
  | some n =>
   if c n.p then
    if partsI n.p.tag = 0 then (if n.l = -1 ∧ n.r = -1 then (1, 1) else (0, 0))
    else if partsI n.p.tag = 1 then
     (if (sizeF c x f m).1 = 0 then (0, 0)
      else if n.l = (m : Int) - 1 ∧ n.r = -1 then ((sizeF c x f m).1 + 1, (sizeF c x f m).2 + 1) else (0, 0))
    else if partsI n.p.tag = 2 then
     (if (sizeF c x f m).1 = 0 then (0, 0)
      else if (sizeF c x f (m - (sizeF c x f m).1)).1 = 0 then (0, 0)
      else if n.r = (m : Int) - 1 ∧ n.l = (m : Int) - 1 - ((sizeF c x f m).1 : Int) then
       ((sizeF c x f m).1 + (sizeF c x f (m - (sizeF c x f m).1)).1 + 1, max (sizeF c x f m).2 (sizeF c x f (m - (sizeF c x f m).1)).2 + 1) else (0, 0))
    else (0, 0)
   else (0, 0)
theorem at_app {α : Type} {p r : List α} {a : α} {k : Nat} (h : k = p.length) : (p ++ a :: r)[k]? = some a := by subst h; simp
theorem size_flat (c : Py → Bool) : ∀ (t : Tr) (p r : List Nd) (f : Nat), t.ok c = true → p.length + t.size ≤ f → sizeF c (p ++ (t.flat p.length ++ r)) f (p.length + t.size) = (t.size, t.depth)
 | .leaf q, p, r, 0, h, hf => by simp [Tr.size] at hf
 | .leaf q, p, r, f + 1, h, _ => by
  unfold Tr.ok at h
  rw [Bool.and_eq_true, decide_eq_true_eq] at h
  rw [Tr.size, Tr.flat, sizeF, List.cons_append, List.nil_append, at_app rfl]
  simp only
  rw [if_pos h.2, if_pos h.1, if_pos ⟨trivial, trivial⟩]
  rfl
 | .one q a, p, r, 0, h, hf => by have := (Tr.one q a).size_pos; omega
 | .one q a, p, r, f + 1, h, hf => by
  unfold Tr.ok at h
  rw [Bool.and_eq_true, Bool.and_eq_true, decide_eq_true_eq] at h
  unfold Tr.size at hf
  have ih := size_flat c a p (⟨q, ((p.length + a.size : Nat) : Int) - 1, -1⟩ :: r) f h.2.2 (by omega)
  have hp := a.size_pos
  have e : p ++ ((Tr.one q a).flat p.length ++ r) = p ++ (a.flat p.length ++ (⟨q, ((p.length + a.size : Nat) : Int) - 1, -1⟩ :: r)) := by rw [Tr.flat, List.append_assoc]; rfl
  rw [e, Tr.size, ← Nat.add_assoc, sizeF, ih]
  rw [← List.append_assoc, at_app (by rw [List.length_append, a.flat_len])]
  simp only
  rw [if_pos h.2.1, if_neg (by rw [h.1]; decide), if_pos h.1, if_neg (by omega), if_pos ⟨trivial, trivial⟩]
  rfl
 | .two q a b, p, r, 0, h, hf => by have := (Tr.two q a b).size_pos; omega
 | .two q a b, p, r, f + 1, h, hf => by
  unfold Tr.ok at h
  rw [Bool.and_eq_true, Bool.and_eq_true, Bool.and_eq_true, decide_eq_true_eq] at h
  unfold Tr.size at hf
  have hp := a.size_pos
  have hq := b.size_pos
  have el : (p ++ a.flat p.length).length = p.length + a.size := by rw [List.length_append, a.flat_len]
  have ib := size_flat c b (p ++ a.flat p.length) (⟨q, ((p.length + a.size : Nat) : Int) - 1, ((p.length + a.size + b.size : Nat) : Int) - 1⟩ :: r) f h.2.2.2 (by rw [el]; omega)
  have ia := size_flat c a p (b.flat (p.length + a.size) ++ (⟨q, ((p.length + a.size : Nat) : Int) - 1, ((p.length + a.size + b.size : Nat) : Int) - 1⟩ :: r)) f h.2.2.1 (by omega)
  rw [el] at ib
  have e : p ++ ((Tr.two q a b).flat p.length ++ r) = (p ++ a.flat p.length) ++ (b.flat (p.length + a.size) ++ (⟨q, ((p.length + a.size : Nat) : Int) - 1, ((p.length + a.size + b.size : Nat) : Int) - 1⟩ :: r)) := by
   rw [Tr.flat]; simp only [List.append_assoc]; rfl
  have e2 : (p ++ a.flat p.length) ++ (b.flat (p.length + a.size) ++ (⟨q, ((p.length + a.size : Nat) : Int) - 1, ((p.length + a.size + b.size : Nat) : Int) - 1⟩ :: r)) = p ++ (a.flat p.length ++ (b.flat (p.length + a.size) ++ (⟨q, ((p.length + a.size : Nat) : Int) - 1, ((p.length + a.size + b.size : Nat) : Int) - 1⟩ :: r))) := by rw [List.append_assoc]
  rw [← e2] at ia
  have h1 : (((p ++ a.flat p.length) ++ (b.flat (p.length + a.size) ++ (⟨q, ((p.length + a.size : Nat) : Int) - 1, ((p.length + a.size + b.size : Nat) : Int) - 1⟩ :: r)))[p.length + a.size + b.size]?) = some ⟨q, ((p.length + a.size : Nat) : Int) - 1, ((p.length + a.size + b.size : Nat) : Int) - 1⟩ := by
   rw [← List.append_assoc]; exact at_app (by rw [List.length_append, b.flat_len, el])
  rw [e, Tr.size, show p.length + (a.size + b.size + 1) = (p.length + a.size + b.size) + 1 from by omega, sizeF, ib]
  rw [h1]
  simp only
  rw [show p.length + a.size + b.size - b.size = p.length + a.size from by omega, ia]
  simp only
  rw [if_pos h.2.1, if_neg (by rw [h.1]; decide), if_neg (by rw [h.1]; decide), if_pos h.1, if_neg (by omega), if_neg (by omega), if_pos ⟨trivial, by omega⟩, Tr.depth]
  rw [show b.size + a.size + 1 = a.size + b.size + 1 from by omega]
theorem size_some (c : Py → Bool) (x : List Nd) : ∀ (f m : Nat), m ≤ f → (sizeF c x f m).1 ≠ 0 → ∃ (t : Tr) (p : List Nd), x.take m = p ++ t.flat p.length ∧ m ≤ x.length ∧ t.size = (sizeF c x f m).1 ∧ t.depth = (sizeF c x f m).2 ∧ t.ok c = true
 | 0, m, _, h => by simp [sizeF] at h
 | f + 1, 0, _, h => by simp [sizeF] at h
 | f + 1, m + 1, hf, h => by
  have ih := size_some c x f
  rw [sizeF] at h ⊢
  cases hx : x[m]? with
  | none => rw [hx] at h; exact absurd rfl h
  | some n =>
   have hlt : m < x.length := (List.getElem?_eq_some_iff.1 hx).1
   have htk : x.take (m + 1) = x.take m ++ [n] := by rw [List.take_add_one, hx]; rfl
   rw [hx] at h
   obtain ⟨q, nl, nr⟩ := n
   simp only at h ⊢
   by_cases hc : c q = true
   case neg => rw [if_neg hc] at h; exact absurd rfl h
   rw [if_pos hc] at h ⊢
   by_cases h0 : partsI q.tag = 0
   · rw [if_pos h0] at h ⊢
     by_cases h1 : nl = -1 ∧ nr = -1
     · rw [if_pos h1]
       obtain ⟨rfl, rfl⟩ := h1
       exact ⟨.leaf q, x.take m, by rw [htk, Tr.flat], by omega, rfl, rfl, by unfold Tr.ok; rw [decide_eq_true h0, hc]; rfl⟩
     · rw [if_neg h1] at h; exact absurd rfl h
   rw [if_neg h0] at h ⊢
   by_cases h1 : partsI q.tag = 1
   · rw [if_pos h1] at h ⊢
     by_cases hs : (sizeF c x f m).1 = 0
     · rw [if_pos hs] at h; exact absurd rfl h
     rw [if_neg hs] at h ⊢
     by_cases h2 : nl = (m : Int) - 1 ∧ nr = -1
     · rw [if_pos h2]
       obtain ⟨a, p, e1, e2, e3, e4, e5⟩ := ih m (by omega) hs
       obtain ⟨rfl, rfl⟩ := h2
       have hl := congrArg List.length e1
       rw [List.length_take, List.length_append, a.flat_len, Nat.min_eq_left e2] at hl
       refine ⟨.one q a, p, ?_, by omega, by rw [Tr.size, e3], by rw [Tr.depth, e4], by unfold Tr.ok; rw [decide_eq_true h1, hc, e5]; rfl⟩
       rw [htk, e1, Tr.flat, List.append_assoc, ← hl]
     · rw [if_neg h2] at h; exact absurd rfl h
   rw [if_neg h1] at h ⊢
   by_cases h2 : partsI q.tag = 2
   case neg => rw [if_neg h2] at h; exact absurd rfl h
   rw [if_pos h2] at h ⊢
   by_cases hs : (sizeF c x f m).1 = 0
   · rw [if_pos hs] at h; exact absurd rfl h
   rw [if_neg hs] at h ⊢
   by_cases hs2 : (sizeF c x f (m - (sizeF c x f m).1)).1 = 0
   · rw [if_pos hs2] at h; exact absurd rfl h
   rw [if_neg hs2] at h ⊢
   by_cases h3 : nr = (m : Int) - 1 ∧ nl = (m : Int) - 1 - ((sizeF c x f m).1 : Int)
   case neg => rw [if_neg h3] at h; exact absurd rfl h
   rw [if_pos h3]
   obtain ⟨b, p, e1, e2, e3, e4, e5⟩ := ih m (by omega) hs
   obtain ⟨a, p2, g1, g2, g3, g4, g5⟩ := ih (m - (sizeF c x f m).1) (by omega) hs2
   have hl := congrArg List.length e1
   rw [List.length_take, List.length_append, b.flat_len, Nat.min_eq_left e2] at hl
   have hl2 := congrArg List.length g1
   rw [List.length_take, List.length_append, a.flat_len, Nat.min_eq_left g2] at hl2
   have hpp : p = p2 ++ a.flat p2.length := by
    rw [← g1]
    have := congrArg (List.take p.length) e1
    rw [List.take_take, List.take_left, Nat.min_eq_left (by omega)] at this
    rw [← this, ← e3]
    congr 1
    omega
   obtain ⟨rfl, rfl⟩ := h3
   have hpl : p.length = p2.length + a.size := by rw [hpp, List.length_append, a.flat_len]
   refine ⟨.two q a b, p2, ?_, by omega, by rw [Tr.size, e3, g3]; omega, by rw [Tr.depth, e4, g4], by unfold Tr.ok; rw [decide_eq_true h2, hc, e5, g5]; rfl⟩
   rw [htk, e1, Tr.flat]
   have e9 : (⟨q, (m : Int) - 1 - ((sizeF c x f m).1 : Int), (m : Int) - 1⟩ : Nd) = ⟨q, ((p2.length + a.size : Nat) : Int) - 1, ((p2.length + a.size + b.size : Nat) : Int) - 1⟩ := by
    rw [← hpl, ← e3]
    congr 1 <;> omega
   rw [e9, hpl]
   conv => lhs; rw [hpp]
   simp only [List.append_assoc]
/-- may a row of nodes be a tree? as the reference says it -/
def rightT (c : Py → Bool) (x : List Nd) : Bool := decide (1 ≤ x.length) && (decide (x.length ≤ 300) && (decide ((sizeF c x x.length x.length).1 = x.length) && decide ((sizeF c x x.length x.length).2 ≤ 20)))
theorem rightT_tree (c : Py → Bool) (x : List Nd) : rightT c x = (treeF c x).isSome := by
 rw [Bool.eq_iff_iff, Option.isSome_iff_exists]
 unfold rightT
 simp only [Bool.and_eq_true, decide_eq_true_eq]
 constructor
 · rintro ⟨h1, h2, h3, h4⟩
   obtain ⟨t, p, e1, _, e3, e4, e5⟩ := size_some c x x.length x.length (Nat.le_refl _) (by omega)
   rw [List.take_length] at e1
   have hl := congrArg List.length e1
   rw [List.length_append, t.flat_len, e3, h3] at hl
   have hp : p = [] := List.length_eq_zero_iff.1 (by omega)
   subst hp
   exact ⟨t, treeF_some.2 ⟨by simpa using e1, e5, by omega, by omega⟩⟩
 · rintro ⟨t, h⟩
   obtain ⟨rfl, h1, h2, h3⟩ := treeF_some.1 h
   have hs := size_flat c t [] [] (t.flat 0).length h1 (by rw [t.flat_len]; simp)
   simp only [List.nil_append, List.append_nil, List.length_nil, Nat.zero_add] at hs
   have hp := t.size_pos
   rw [t.flat_len] at hs ⊢
   rw [hs]
   exact ⟨hp, h2, rfl, h3⟩
end Go.Proofs.YtoaggmldekejoaaGreatDoor
/- Parts of trees in plain Lean. Conditions: none. -/
namespace Go.Proofs.YtoaggmldekejoaaGreatDoor
namespace Tr
/-- where each part begins, and how deep it is -/
def bel : Nat → Tr → List (Nat × Nat)
 | o, leaf _ => [(o, 1)]
 | o, one p a => a.bel o ++ [(o, (one p a).depth)]
 | o, two p a b => a.bel o ++ (b.bel (o + a.size) ++ [(o, (two p a b).depth)])
theorem bel_len : ∀ (t : Tr) (o : Nat), (t.bel o).length = t.size
 | leaf _, _ => rfl
 | one _ a, o => by unfold bel size; rw [List.length_append, bel_len a]; rfl
 | two _ a b, o => by unfold bel size; rw [List.length_append, List.length_append, bel_len a, bel_len b]; simp only [List.length_cons, List.length_nil]; omega
/-- the part whose root is at a place -/
def sub : Tr → Nat → Tr
 | leaf p, _ => leaf p
 | one p a, i => if i < a.size then a.sub i else one p a
 | two p a b, i => if i < a.size then a.sub i else if i < a.size + b.size then b.sub (i - a.size) else two p a b
def pay : Tr → Py
 | leaf p => p
 | one p _ => p
 | two p _ _ => p
/-- a tree's own node, where it begins at a place -/
def node (o : Nat) : Tr → Nd
 | leaf p => ⟨p, -1, -1⟩
 | one p a => ⟨p, ((o + a.size : Nat) : Int) - 1, -1⟩
 | two p a b => ⟨p, ((o + a.size : Nat) : Int) - 1, ((o + a.size + b.size : Nat) : Int) - 1⟩
theorem sub_size : ∀ (t : Tr) (i : Nat), i < t.size → (t.sub i).size ≤ i + 1
 | leaf _, i, _ => by unfold sub size; omega
 | one p a, i, h => by
  unfold sub
  split
  · rename_i h1; exact sub_size a i h1
  · unfold size at h ⊢; omega
 | two p a b, i, h => by
  unfold sub
  split
  · rename_i h1; exact sub_size a i h1
  · split
    · rename_i h1 h2
      have := sub_size b (i - a.size) (by omega)
      omega
    · unfold size at h ⊢; omega
theorem sub_last (t : Tr) : t.sub (t.size - 1) = t := by
 cases t with
 | leaf p => rfl
 | one p a => unfold sub; rw [if_neg (by simp [size])]
 | two p a b => unfold sub; rw [if_neg (by simp only [size]; omega), if_neg (by simp only [size]; omega)]
theorem get_l {α : Type} {x y : List α} {i n : Nat} (hx : x.length = n) (h : i < n) : (x ++ y)[i]? = x[i]? := List.getElem?_append_left (by omega)
theorem get_r {α : Type} {x y : List α} {i n : Nat} (hx : x.length = n) (h : n ≤ i) : (x ++ y)[i]? = y[i - n]? := by rw [List.getElem?_append_right (by omega), hx]
theorem node_at : ∀ (t : Tr) (o i : Nat), i < t.size → (t.flat o)[i]? = some ((t.sub i).node (o + (i + 1 - (t.sub i).size)))
 | leaf p, o, i, h => by
  obtain rfl : i = 0 := by unfold size at h; omega
  rfl
 | one p a, o, i, h => by
  unfold flat
  unfold sub
  by_cases h1 : i < a.size
  · rw [if_pos h1, get_l (a.flat_len o) h1]; exact node_at a o i h1
  · have hi : i = a.size := by unfold size at h; omega
    rw [if_neg h1, get_r (a.flat_len o) (by omega), hi]
    simp [size, node]
 | two p a b, o, i, h => by
  unfold flat
  unfold sub
  by_cases h1 : i < a.size
  · rw [if_pos h1, get_l (a.flat_len o) h1]; exact node_at a o i h1
  · rw [if_neg h1, get_r (a.flat_len o) (by omega)]
    by_cases h2 : i < a.size + b.size
    · rw [if_pos h2, get_l (b.flat_len _) (by omega), node_at b (o + a.size) (i - a.size) (by omega)]
      have := sub_size b (i - a.size) (by omega)
      congr 2
      omega
    · have hi : i = a.size + b.size := by unfold size at h; omega
      rw [if_neg h2, get_r (b.flat_len _) (by omega), hi]
      simp [size, node]
end Tr
/-- a node whose places lie so much further on -/
def mv (k : Int) (x : Nd) : Nd := { x with l := if 0 ≤ x.l then x.l + k else x.l, r := if 0 ≤ x.r then x.r + k else x.r }
end Go.Proofs.YtoaggmldekejoaaGreatDoor
/- How trees are written, in plain Lean; unlike trees are written unlike. Conditions: none. -/
namespace Go.Proofs.YtoaggmldekejoaaGreatDoor
abbrev eB : ByteArray := ⟨#[]⟩
/-- is a value plain? -/
def plainV (k n u : Int) (s : ByteArray) : Bool :=
 if k = 0 then decide (n = 0 ∧ u = 0 ∧ s.data.toList = [])
 else if k = 1 then decide ((n = 0 ∨ n = 1) ∧ u = 0 ∧ s.data.toList = [])
 else if k = 2 then decide (u = 0 ∧ s.data.toList = [])
 else decide (k = 3 ∧ n = 0 ∧ u = 0 ∧ s.size ≤ 40)
/-- is what counts of a node so, and all else zero? -/
def cntB (p : Py) : Bool :=
 if p.tag = 1 then decide (p.tb.data.toList = []) && (decide (p.nm.data.toList = []) && (plainV p.k p.n p.u p.s && (decide (0 ≤ p.n) && p.s.data.toList.all plU)))
 else if p.tag = 2 then decide (p.k = 0 ∧ p.n = 0 ∧ p.u = 0 ∧ p.s.data.toList = []) && (nameB p.nm && (decide (p.tb.data.toList = []) || nameB p.tb))
 else decide (p.k = 0 ∧ p.n = 0 ∧ p.u = 0 ∧ p.s.data.toList = []) && (decide (p.tb.data.toList = []) && decide (p.nm.data.toList = []))
def sgs : List (List UInt8) := [[], [], [67, 79, 85, 78, 84, 40, 42, 41], [45], [78, 79, 84], [73, 83, 32, 78, 85, 76, 76], [73, 83, 32, 78, 79, 84, 32, 78, 85, 76, 76], [67, 79, 85, 78, 84], [83, 85, 77], [77, 73, 78], [77, 65, 88],
 [43], [45], [42], [47], [61], [60, 62], [60], [60, 61], [62], [62, 61], [65, 78, 68], [79, 82]]
def sgL (t : Int) : List UInt8 := sgs.getD (t.toNat - 1) []
/-- a literal, as it is written -/
def litU (k n : Int) (s : List UInt8) : List UInt8 :=
 if k = 0 then [78, 85, 76, 76] else if k = 1 then (if n = 1 then [84, 82, 85, 69] else [70, 65, 76, 83, 69])
 else if k = 2 then Lib.decDigits n.toNat else 39 :: (quoU s ++ [39])
def namU (tb nm : List UInt8) : List UInt8 := if tb = [] then nm else tb ++ (46 :: nm)
def leafU (p : Py) : List UInt8 := if p.tag = 1 then litU p.k p.n p.s.data.toList else if p.tag = 2 then namU p.tb.data.toList p.nm.data.toList else sgL p.tag
def bareT : Tr → Bool
 | .leaf _ => true
 | .one p _ => decide (8 ≤ p.tag)
 | .two _ _ _ => false
def prT : Tr → List UInt8
 | .leaf p => leafU p
 | .one p a =>
  if p.tag ≤ 5 then sgL p.tag ++ (32 :: (if bareT a then prT a else 40 :: (prT a ++ [41])))
  else if p.tag ≤ 7 then (if bareT a then prT a else 40 :: (prT a ++ [41])) ++ (32 :: sgL p.tag)
  else sgL p.tag ++ (40 :: (prT a ++ [41]))
 | .two p a b => (if bareT a then prT a else 40 :: (prT a ++ [41])) ++ (32 :: (sgL p.tag ++ (32 :: (if bareT b then prT b else 40 :: (prT b ++ [41])))))
def parT (a : Tr) : List UInt8 := if bareT a then prT a else 40 :: (prT a ++ [41])
/-! ### leaves -/
theorem ba_of {s : ByteArray} {l : List UInt8} (h : s.data.toList = l) : s = bS l := by rw [← h]
theorem ba_e {s : ByteArray} (h : s.data.toList = []) : s = eB := ba_of h
theorem leaf_cases {p : Py} (h : cntB p = true) (h0 : partsI p.tag = 0) :
 p = ⟨1, 0, 0, 0, eB, eB, eB⟩ ∨ p = ⟨1, 1, 0, 0, eB, eB, eB⟩ ∨ p = ⟨1, 1, 1, 0, eB, eB, eB⟩ ∨ (∃ n : Nat, p = ⟨1, 2, (n : Int), 0, eB, eB, eB⟩) ∨ (∃ s, p = ⟨1, 3, 0, 0, s, eB, eB⟩) ∨
 (∃ tb nm, p = ⟨2, 0, 0, 0, eB, tb, nm⟩ ∧ nameB nm = true ∧ (tb = eB ∨ nameB tb = true)) ∨ p = ⟨3, 0, 0, 0, eB, eB, eB⟩ := by
 obtain ⟨t, k, n, u, s, tb, nm⟩ := p
 have ht : 1 ≤ t ∧ t ≤ 3 := by
  unfold partsI at h0
  simp only at h0
  split at h0
  · omega
  · split at h0
    · omega
    · split at h0
      · omega
      · split at h0 <;> omega
 unfold cntB at h
 simp only at h
 by_cases h1 : t = 1
 · subst h1
   rw [if_pos rfl] at h
   simp only [Bool.and_eq_true, decide_eq_true_eq] at h
   obtain ⟨e1, e2, e3, e4, _⟩ := h
   rw [ba_e e1, ba_e e2]
   unfold plainV at e3
   split at e3
   · rename_i hk
     obtain ⟨g1, g2, g3⟩ := of_decide_eq_true e3
     rw [hk, g1, g2, ba_e g3]; exact .inl rfl
   · split at e3
     · rename_i hk
       obtain ⟨g1, g2, g3⟩ := of_decide_eq_true e3
       rw [hk, g2, ba_e g3]
       rcases g1 with g1 | g1
       · rw [g1]; exact .inr (.inl rfl)
       · rw [g1]; exact .inr (.inr (.inl rfl))
     · split at e3
       · rename_i hk
         obtain ⟨g2, g3⟩ := of_decide_eq_true e3
         rw [hk, g2, ba_e g3]
         exact .inr (.inr (.inr (.inl ⟨n.toNat, by rw [Int.toNat_of_nonneg e4]⟩)))
       · obtain ⟨g0, g1, g2, g3⟩ := of_decide_eq_true e3
         rw [g0, g1, g2]
         exact .inr (.inr (.inr (.inr (.inl ⟨s, rfl⟩))))
 · rw [if_neg h1] at h
   by_cases h2 : t = 2
   · subst h2
     rw [if_pos rfl] at h
     simp only [Bool.and_eq_true, Bool.or_eq_true, decide_eq_true_eq] at h
     obtain ⟨⟨g1, g2, g3, g4⟩, g5, g6⟩ := h
     rw [g1, g2, g3, ba_e g4]
     exact .inr (.inr (.inr (.inr (.inr (.inl ⟨tb, nm, rfl, g5, g6.imp_left ba_e⟩)))))
   · rw [if_neg h2] at h
     simp only [Bool.and_eq_true, decide_eq_true_eq] at h
     obtain ⟨⟨g1, g2, g3, g4⟩, g5, g6⟩ := h
     have h3 : t = 3 := by omega
     rw [h3, g1, g2, g3, ba_e g4, ba_e g5, ba_e g6]
     exact .inr (.inr (.inr (.inr (.inr (.inr rfl)))))
theorem inner_zero {p : Py} (h : cntB p = true) (h0 : partsI p.tag = 1 ∨ partsI p.tag = 2) : p = ⟨p.tag, 0, 0, 0, eB, eB, eB⟩ := by
 obtain ⟨t, k, n, u, s, tb, nm⟩ := p
 have ht : t ≠ 1 ∧ t ≠ 2 := by
  constructor
  · rintro rfl
    exact absurd (show partsI 1 = 1 ∨ partsI 1 = 2 from h0) (by decide)
  · rintro rfl
    exact absurd (show partsI 2 = 1 ∨ partsI 2 = 2 from h0) (by decide)
 unfold cntB at h
 simp only at h
 rw [if_neg ht.1, if_neg ht.2] at h
 simp only [Bool.and_eq_true, decide_eq_true_eq] at h
 obtain ⟨⟨g1, g2, g3, g4⟩, g5, g6⟩ := h
 rw [g1, g2, g3, ba_e g4, ba_e g5, ba_e g6]
/-- what may stand behind a part -/
def sepP (x : List UInt8) : Prop := x = [] ∨ ∃ r, x = 32 :: r ∨ x = 41 :: r ∨ x = 44 :: r
/-- the words that may stand behind a tree -/
def kws : List (List UInt8) := [[65, 83], [70, 82, 79, 77], [76, 69, 70, 84], [74, 79, 73, 78], [87, 72, 69, 82, 69], [71, 82, 79, 85, 80], [72, 65, 86, 73, 78, 71], [85, 78, 73, 79, 78], [79, 82, 68, 69, 82], [76, 73, 77, 73, 84]]
/-- what may stand behind a tree -/
def endP (x : List UInt8) : Prop := x = [] ∨ ∃ r, x = 41 :: r ∨ x = 44 :: r ∨ ∃ w ∈ kws, x = 32 :: (w ++ 32 :: r)
theorem endP.sep {x : List UInt8} (h : endP x) : sepP x := by
 rcases h with h | ⟨r, h | h | ⟨w, _, h⟩⟩
 · exact .inl h
 · exact .inr ⟨r, .inr (.inl h)⟩
 · exact .inr ⟨r, .inr (.inr h)⟩
 · exact .inr ⟨_, .inl h⟩
theorem name_small {s : ByteArray} (h : nameB s = true) : s.data.toList.all paU = true ∧ (46 : UInt8) ∉ s.data.toList ∧ ∃ b r, s.data.toList = b :: r ∧ smI (b.toNat : Int) = true := by
 obtain ⟨h1, _, _, h4⟩ := name_parts (l := s.data.toList) h
 refine ⟨h1, fun h46 => ?_, h4⟩
 have := List.all_eq_true.1 h1 46 h46
 revert this; decide
end Go.Proofs.YtoaggmldekejoaaGreatDoor
/- Unlike trees are written unlike. Plain Lean. Conditions: none. -/
namespace Go.Proofs.YtoaggmldekejoaaGreatDoor
def cpU (b : UInt8) : Bool := cpI (b.toNat : Int)
def hdP (b : UInt8) : Bool := paU b || (decide (b = 39) || decide (b = 40))
theorem small_facts {b : UInt8} (h : smI (b.toNat : Int) = true) : cpU b = false ∧ paU b = true := by
 unfold smI at h
 rw [Bool.and_eq_true, decide_eq_true_eq, decide_eq_true_eq] at h
 constructor
 · unfold cpU cpI
   rw [Bool.and_eq_false_iff, decide_eq_false_iff_not, decide_eq_false_iff_not]
   omega
 · unfold paU paI smI
   rw [decide_eq_true h.1, decide_eq_true h.2]
   simp
/-- how a leaf begins -/
theorem leaf_head {p : Py} (h : cntB p = true) (h0 : partsI p.tag = 0) : ∃ b r, leafU p = b :: r ∧ hdP b = true ∧ b ≠ 40 := by
 rcases leaf_cases h h0 with rfl | rfl | rfl | ⟨n, rfl⟩ | ⟨s, rfl⟩ | ⟨tb, nm, rfl, hn, ht⟩ | rfl
 · exact ⟨_, _, rfl, by decide, by decide⟩
 · exact ⟨_, _, rfl, by decide, by decide⟩
 · exact ⟨_, _, rfl, by decide, by decide⟩
 · obtain ⟨b, r, hbr⟩ := List.exists_cons_of_ne_nil (dec_ne n)
   have hb : dgU b = true := List.all_eq_true.1 (dec_all n) b (by rw [hbr]; simp)
   exact ⟨b, r, hbr, by unfold hdP; rw [dg_pa hb]; rfl, by rintro rfl; revert hb; decide⟩
 · exact ⟨_, _, rfl, by decide, by decide⟩
 · obtain ⟨_, _, b, r, n3, n4⟩ := name_small hn
   rcases ht with rfl | ht
   · exact ⟨b, r, n3, by unfold hdP; rw [(small_facts n4).2]; rfl, by rintro rfl; revert n4; decide⟩
   · obtain ⟨_, _, b2, r2, t3, t4⟩ := name_small ht
     refine ⟨b2, r2 ++ (46 :: nm.data.toList), ?_, by unfold hdP; rw [(small_facts t4).2]; rfl, by rintro rfl; revert t4; decide⟩
     show namU tb.data.toList nm.data.toList = _
     unfold namU
     rw [if_neg (by rw [t3]; simp), t3]
     rfl
 · exact ⟨_, _, rfl, by decide, by decide⟩
theorem tag_one {t : Int} (h : partsI t = 1) : 4 ≤ t ∧ t ≤ 11 := by
 unfold partsI at h
 split at h
 · omega
 · split at h
   · omega
   · split at h
     · omega
     · split at h <;> omega
theorem tag_two {t : Int} (h : partsI t = 2) : 12 ≤ t ∧ t ≤ 23 := by
 unfold partsI at h
 split at h
 · omega
 · split at h
   · omega
   · split at h
     · omega
     · split at h <;> omega
theorem agg_cases {t : Int} (h1 : 8 ≤ t) (h2 : t ≤ 11) : t = 8 ∨ t = 9 ∨ t = 10 ∨ t = 11 := by omega
theorem ok_leaf {p : Py} (h : (Tr.leaf p).ok cntB = true) : partsI p.tag = 0 ∧ cntB p = true := by
 unfold Tr.ok at h
 rwa [Bool.and_eq_true, decide_eq_true_eq] at h
theorem ok_one {p : Py} {a : Tr} (h : (Tr.one p a).ok cntB = true) : partsI p.tag = 1 ∧ cntB p = true ∧ a.ok cntB = true := by
 unfold Tr.ok at h
 rwa [Bool.and_eq_true, Bool.and_eq_true, decide_eq_true_eq] at h
theorem ok_two {p : Py} {a b : Tr} (h : (Tr.two p a b).ok cntB = true) : partsI p.tag = 2 ∧ cntB p = true ∧ a.ok cntB = true ∧ b.ok cntB = true := by
 unfold Tr.ok at h
 rwa [Bool.and_eq_true, Bool.and_eq_true, Bool.and_eq_true, decide_eq_true_eq] at h
theorem pr_leaf (p : Py) : prT (.leaf p) = leafU p := by rw [prT]
theorem pr_pre {p : Py} {a : Tr} (h : p.tag ≤ 5) : prT (.one p a) = sgL p.tag ++ (32 :: parT a) := by rw [prT, if_pos h]; rfl
theorem pr_post {p : Py} {a : Tr} (h : 6 ≤ p.tag) (h2 : p.tag ≤ 7) : prT (.one p a) = parT a ++ (32 :: sgL p.tag) := by rw [prT, if_neg (by omega), if_pos h2]; rfl
theorem pr_agg {p : Py} {a : Tr} (h : 8 ≤ p.tag) : prT (.one p a) = sgL p.tag ++ (40 :: (prT a ++ [41])) := by rw [prT, if_neg (by omega), if_neg (by omega)]
theorem pr_two (p : Py) (a b : Tr) : prT (.two p a b) = parT a ++ (32 :: (sgL p.tag ++ (32 :: parT b))) := by rw [prT]; rfl
theorem par_bare {a : Tr} (h : bareT a = true) : parT a = prT a := if_pos h
theorem par_not {a : Tr} (h : bareT a = false) : parT a = 40 :: (prT a ++ [41]) := if_neg (by rw [h]; decide)
/-- how a bare tree begins -/
theorem bare_head {t : Tr} (h : t.ok cntB = true) (hb : bareT t = true) : ∃ b r, prT t = b :: r ∧ hdP b = true ∧ b ≠ 40 := by
 cases t with
 | leaf p => rw [pr_leaf]; exact leaf_head (ok_leaf h).2 (ok_leaf h).1
 | one p a =>
  have h8 : 8 ≤ p.tag := of_decide_eq_true hb
  rw [pr_agg h8]
  have ht := tag_one (ok_one h).1
  rcases agg_cases h8 ht.2 with e | e | e | e <;> rw [e] <;> exact ⟨_, _, rfl, by decide, by decide⟩
 | two p a b => cases hb
theorem par_head {t : Tr} (h : t.ok cntB = true) : ∃ b r, parT t = b :: r ∧ hdP b = true := by
 cases hb : bareT t
 · rw [par_not hb]; exact ⟨_, _, rfl, by decide⟩
 · rw [par_bare hb]
   obtain ⟨b, r, e, h1, _⟩ := bare_head h hb
   exact ⟨b, r, e, h1⟩
/-- how a tree begins: with no star -/
theorem pr_head {t : Tr} (h : t.ok cntB = true) : ∃ b r, prT t = b :: r ∧ b ≠ 42 := by
 have hp : ∀ {a : Tr} {T : List UInt8}, a.ok cntB = true → ∃ b r, parT a ++ T = b :: r ∧ b ≠ 42 := fun {a T} ha => by
  obtain ⟨b, r, e, h1⟩ := par_head ha
  exact ⟨b, r ++ T, by rw [e]; rfl, by rintro rfl; revert h1; decide⟩
 cases t with
 | leaf p =>
  obtain ⟨b, r, e, h1, _⟩ := leaf_head (ok_leaf h).2 (ok_leaf h).1
  exact ⟨b, r, by rw [pr_leaf, e], by rintro rfl; revert h1; decide⟩
 | one p a =>
  have ho := ok_one h
  have ht := tag_one ho.1
  by_cases h5 : p.tag ≤ 5
  · rw [pr_pre h5]
    rcases (show p.tag = 4 ∨ p.tag = 5 by omega) with e | e <;> rw [e] <;> exact ⟨_, _, rfl, by decide⟩
  · by_cases h7 : p.tag ≤ 7
    · rw [pr_post (by omega) h7]; exact hp ho.2.2
    · rw [pr_agg (by omega)]
      rcases agg_cases (show 8 ≤ p.tag by omega) ht.2 with e | e | e | e <;> rw [e] <;> exact ⟨_, _, rfl, by decide⟩
 | two p a b => rw [pr_two]; exact hp (ok_two h).2.2.1
end Go.Proofs.YtoaggmldekejoaaGreatDoor
/- Unlike trees are written unlike: whole trees. Plain Lean. Conditions: none. -/
namespace Go.Proofs.YtoaggmldekejoaaGreatDoor
theorem kws32 : ∀ w ∈ kws, w.all (fun b => decide (b ≠ 32)) = true := by decide
theorem tw32 {w r : List UInt8} (h : w.all (fun b => decide (b ≠ 32)) = true) : (w ++ (32 :: r)).takeWhile (fun b => decide (b ≠ 32)) = w :=
 takeWhile_all h (by rintro b r' e; injection e with e; subst e; rfl)
end Go.Proofs.YtoaggmldekejoaaGreatDoor
/- Nodes and texts in memory; what the layer's tables hold. Conditions: none. -/
namespace Go.Proofs.YtoaggmldekejoaaGreatDoor
open Go.RowKit
theorem addr_more (a : Addr) (i j : Nat) (hj : 0 < j) : a.add (i + j) = ⟨(a.add i).block, (a.add i).off + j, none⟩ := by
 unfold Addr.add
 by_cases h : i = 0
 · subst h; simp; omega
 · simp [h]; omega
abbrev Nd.cells (x : Nd) : Array Value := #[.int .i64 x.p.tag, .int .i64 x.l, .int .i64 x.r, .int .i64 x.p.k, .int .i64 x.p.n, .int .u64 x.p.u, .string x.p.s, .string x.p.tb, .string x.p.nm]
def LN : Lay Nd where
 size := 9
 rep := fun _ _ x cs => cs = [.int .i64 x.p.tag, .int .i64 x.l, .int .i64 x.r, .int .i64 x.p.k, .int .i64 x.p.n, .int .u64 x.p.u, .string x.p.s, .string x.p.tb, .string x.p.nm]
 len := fun h => by subst h; rfl
 one := fun h u hu => by subst h; simp at hu; rcases hu with rfl | rfl | rfl | rfl | rfl | rfl | rfl | rfl | rfl <;> rfl
 keep := fun _ h => h
 weak := fun _ h => h
structure SN (w : World) (p : Addr) (x : Nd) : Prop where
 c0 : w.cell? p = some (.int .i64 x.p.tag)
 c1 : w.cell? ⟨p.block, p.off + 1, none⟩ = some (.int .i64 x.l)
 c2 : w.cell? ⟨p.block, p.off + 2, none⟩ = some (.int .i64 x.r)
 c3 : w.cell? ⟨p.block, p.off + 3, none⟩ = some (.int .i64 x.p.k)
 c4 : w.cell? ⟨p.block, p.off + 4, none⟩ = some (.int .i64 x.p.n)
 c5 : w.cell? ⟨p.block, p.off + 5, none⟩ = some (.int .u64 x.p.u)
 c6 : w.cell? ⟨p.block, p.off + 6, none⟩ = some (.string x.p.s)
 c7 : w.cell? ⟨p.block, p.off + 7, none⟩ = some (.string x.p.tb)
 c8 : w.cell? ⟨p.block, p.off + 8, none⟩ = some (.string x.p.nm)
theorem LN_at {w : World} {F : Nat → Prop} {A : Option Addr} {n i : Nat} {xs : List Nd} (h : LN.rd w F A n xs) (hi : i < n) : ∃ ad x, A = some ad ∧ xs[i]? = some x ∧ SN w (ad.add (i * 9)) x := by
 obtain ⟨ad, x, cs, e, hx, _, _, rfl, hc⟩ := Lay.rd_at h hi
 refine ⟨ad, x, e, hx, ⟨hc 0 _ rfl, ?_, ?_, ?_, ?_, ?_, ?_, ?_, ?_⟩⟩
 · rw [← addr_more _ _ 1 (by omega)]; exact hc 1 _ rfl
 · rw [← addr_more _ _ 2 (by omega)]; exact hc 2 _ rfl
 · rw [← addr_more _ _ 3 (by omega)]; exact hc 3 _ rfl
 · rw [← addr_more _ _ 4 (by omega)]; exact hc 4 _ rfl
 · rw [← addr_more _ _ 5 (by omega)]; exact hc 5 _ rfl
 · rw [← addr_more _ _ 6 (by omega)]; exact hc 6 _ rfl
 · rw [← addr_more _ _ 7 (by omega)]; exact hc 7 _ rfl
 · rw [← addr_more _ _ 8 (by omega)]; exact hc 8 _ rfl
def AllB : Nat → Prop := fun _ => True
theorem Lay.rd_blk {α : Type} {L : Lay α} {w : World} {F : Nat → Prop} {g n : Nat} {t : TypeId} {vs : Array Value} {xs : List α} (h : Blk w g t vs) (hl : xs.length = n) (hr : L.reps w F xs vs.toList) (hF : F g) : L.rd w F (some ⟨g, 0, none⟩) n xs :=
 ⟨hl, vs.toList, hr, fun _ => ⟨⟨g, 0, none⟩, rfl, h.lt, hF, fun j u hu => by
  rw [show (⟨g, 0, none⟩ : Addr).add j = ⟨g, j, none⟩ from by unfold Addr.add; split <;> simp_all]
  rw [h.cell j]; simpa using hu⟩⟩
theorem Utf8Tabs.below {g h : Nat} {w w' : World} (t : Lib.Utf8Tabs g h w) (b : Below w.heap.size w w') : Lib.Utf8Tabs g h w' := by
 have k : ∀ {a : Addr} {v : Value}, w.cell? a = some v → w'.cell? a = some v := fun {a v} hc => (b.cell (World.block_lt_of_cell? w a hc)).trans hc
 exact ⟨fun i hi => k (t.1 i hi), fun i hi => ⟨k (t.2 i hi).1, k (t.2 i hi).2⟩⟩
theorem CaseVar.below {g : Nat} {T : Array Lib.CaseRow} {w w' : World} (h : Lib.CaseVar g T w) (hb : Below w.heap.size w w') : Lib.CaseVar g T w' := by
 have k : ∀ {a : Addr} {v : Value}, w.cell? a = some v → w'.cell? a = some v := fun {a v} hc => (hb.cell (World.block_lt_of_cell? w a hc)).trans hc
 obtain ⟨R, oR, cap, h1, h2⟩ := h
 exact ⟨R, oR, cap, k h1, fun i hi => ⟨k (h2 i hi).1, k (h2 i hi).2.1, k (h2 i hi).2.2.1, k (h2 i hi).2.2.2.1, k (h2 i hi).2.2.2.2⟩⟩
/-- the literals that are words; the signs, by their tags -/
def vwords : List (List UInt8) := [[70, 65, 76, 83, 69], [78, 85, 76, 76], [84, 82, 85, 69]]
def asigns : List (List UInt8) := [] :: sgs
/-- what the layer's tables hold -/
structure Tab (w : World) : Prop where
 wd : ∀ i s, wordsL[i]? = some s → w.cell? ⟨2, i, none⟩ = some (.string s)
 vw : ∀ i s, vwords[i]? = some s → w.cell? ⟨1, i, none⟩ = some (.string (bS s))
 sg : ∀ i s, asigns[i]? = some s → w.cell? ⟨0, i, none⟩ = some (.string (bS s))
 ml : ∃ m, w.cell? ⟨5, 0, none⟩ = some (.int .i64 m)
 cv : Lib.CaseVar 3 Lib.caseA w
 u8 : Lib.Utf8Tabs 6 7 w
 pw : Lib.TabIs Tryz.prog w "internal/strconv.uint64pow10" .u64 Lib.pow10Tab
theorem Tab.below {w w' : World} (h : Tab w) (b : Below w.heap.size w w') : Tab w' := by
 have k : ∀ {a : Addr} {v : Value}, w.cell? a = some v → w'.cell? a = some v := fun {a v} hc => (b.cell (World.block_lt_of_cell? w a hc)).trans hc
 exact ⟨fun i s e => k (h.wd i s e), fun i s e => k (h.vw i s e), fun i s e => k (h.sg i s e), by obtain ⟨m, hm⟩ := h.ml; exact ⟨m, k hm⟩, CaseVar.below h.cv b, Utf8Tabs.below h.u8 b, Lib.tabBelow_of_tabIs h.pw w' b⟩
theorem ret_bool {a b : Bool} (h : a = b) : Ending.returned (.bool a) = Ending.returned (.bool b) := by rw [h]
end Go.Proofs.YtoaggmldekejoaaGreatDoor
/- Arguments, by what they are made of: what an argument's cells hold. Conditions: none. -/
namespace Go.Proofs.YtoaggmldekejoaaGreatDoor
open Go.ChangeShapes Go.WideShapes Go.ChangeAt Go.RowKit Go.Deep
/-- whatever is laid of type t reads as such data -/
def Opens (P : Program) {α : Type} (t : TypeId) (L : Lay α) (G : α → Prop) : Prop :=
 P.cellsOf t = L.size ∧ ∀ {H : Type} (enc : TypeId × Value → H) (w : World) (fuel : Nat) (cs : List Value) (x : DataW H × List MemPlace),
  DataW.trod enc P w 0 (fun _ => true) true fuel t cs = some x → ∃ a, L.rep w AllB a cs ∧ G a
section
variable {P : Program} {t : TypeId}
theorem opens_int {k : IntKind} (ht : P.underlying t = some (.int k)) (hc : P.cellsOf t = 1) : Opens P t (Lay.cell (Value.int k) (fun _ => rfl)) (fun n => (Lit.int k n).wf = true) :=
 ⟨hc, fun enc w fuel cs x h => by obtain ⟨n, e, _, wf⟩ := DataW.trod_int ht h; exact ⟨n, e, wf⟩⟩
theorem opens_bool (ht : P.underlying t = some .bool) (hc : P.cellsOf t = 1) : Opens P t (Lay.cell Value.bool (fun _ => rfl)) (fun _ => True) :=
 ⟨hc, fun enc w fuel cs x h => by obtain ⟨n, e, _⟩ := DataW.trod_bool ht h; exact ⟨n, e, trivial⟩⟩
theorem opens_str (ht : P.underlying t = some .string) (hc : P.cellsOf t = 1) : Opens P t (Lay.cell Value.string (fun _ => rfl)) (fun s => s.size ≤ maxLen) :=
 ⟨hc, fun enc w fuel cs x h => by obtain ⟨n, e, _, wf⟩ := DataW.trod_string ht h; exact ⟨n, e, wf⟩⟩
theorem lays_of {α : Type} {L : Lay α} {w : World} {F : Nat → Prop} {G : α → Prop} {a : Addr} : ∀ (n : Nat), (∀ i, i < n → ∃ x cs, L.rep w F x cs ∧ G x ∧ ∀ j u, cs[j]? = some u → w.cell? (a.add (i * L.size + j)) = some u) →
 ∃ xs cs, xs.length = n ∧ L.reps w F xs cs ∧ (∀ x ∈ xs, G x) ∧ ∀ j u, cs[j]? = some u → w.cell? (a.add j) = some u
 | 0, _ => ⟨[], [], rfl, rfl, by simp, by simp⟩
 | n + 1, h => by
  obtain ⟨xs, cs, hl, hr, hg, hc⟩ := lays_of n (fun i hi => h i (by omega))
  obtain ⟨x, ds, hx, gx, hd⟩ := h n (by omega)
  refine ⟨xs ++ [x], cs ++ ds, by simp [hl], Lay.reps_append hr (Lay.reps_single hx), ?_, fun j u hu => ?_⟩
  · intro y hy
    rcases List.mem_append.1 hy with hy | hy
    · exact hg y hy
    · rw [List.mem_singleton.1 hy]; exact gx
  · have hcl := Lay.reps_len hr
    rw [hl] at hcl
    rcases Nat.lt_or_ge j cs.length with hj | hj
    · rw [List.getElem?_append_left hj] at hu; exact hc j u hu
    · rw [List.getElem?_append_right hj] at hu
      have := hd _ u hu
      rwa [show n * L.size + (j - cs.length) = j from by rw [hcl] at hj ⊢; omega] at this
theorem cells_block {w : World} {p : Addr} {v : Value} (h : w.cell? p = some v) : p.block < w.heap.size := by
 unfold World.cell? at h
 rcases Nat.lt_or_ge p.block w.heap.size with h' | h'
 · exact h'
 · rw [Array.getElem?_eq_none h'] at h; cases h
theorem opens_slice {α : Type} {L : Lay α} {G : α → Prop} {e : TypeId} (ht : P.underlying t = some (.slice e)) (hc : P.cellsOf t = 1) (hp : 0 < L.size) (ho : Opens P e L G) :
 Opens P t L.slice (fun xs => ∀ x ∈ xs, G x) := by
 refine ⟨hc, fun enc w fuel cs x h => ?_⟩
 obtain ⟨hs, ho⟩ := ho
 rcases open_slice ht h with ⟨hcs, _⟩ | ⟨a, len, cap, m, n, D, Pl, hcs, _, hl, hm, hmm, _, hi⟩
 · exact ⟨[], ⟨none, 0, 0, hcs, Nat.le_refl _, by omega, Lay.rd_nil _⟩, by simp⟩
 · simp only [if_true] at hmm
   obtain ⟨xs, cs', hxl, hr, hg, hcc⟩ := lays_of (L := L) (w := w) (F := AllB) (G := G) (a := a) len (fun i hil => by
    obtain ⟨cs', h1, h2⟩ := hi i (by omega)
    obtain ⟨y, hy, gy⟩ := ho enc w n cs' _ h2
    obtain ⟨_, hlen, hat⟩ := World.cells?_some h1
    refine ⟨y, cs', hy, gy, fun j u hu => ?_⟩
    have hj : j < cs'.length := (List.getElem?_eq_some_iff.1 hu).1
    rw [← hs, ← Go.Deep.add_add, hat j (by omega), hu])
   refine ⟨xs, ⟨some a, len, cap, hcs, hl, hm, hxl, cs', hr, fun hn => ⟨a, rfl, ?_, trivial, hcc⟩⟩, hg⟩
   have hcl := Lay.reps_len hr
   have h0 : cs'[0]? = some (cs'[0]'(by rw [hcl, hxl]; exact Nat.mul_pos hn hp)) := List.getElem?_eq_getElem _
   have := cells_block (hcc 0 _ h0)
   rwa [show (a.add 0).block = a.block from by unfold Addr.add; split <;> rfl] at this
/-- the fields from one on -/
def OpensAt (P : Program) {α : Type} (fs : Array Field) (off : Nat) (L : Lay α) (G : α → Prop) : Prop :=
 ∀ {H : Type} (enc : TypeId × Value → H) (w : World) (fuel : Nat) (cs : List Value), cs.length = off + L.size →
  (∀ (j : Nat) (f : Field), fs[j]? = some f → ∃ x, DataW.trod enc P w 0 (fun _ => true) true fuel f.type ((cs.drop f.offset).take (P.cellsOf f.type)) = some x) → ∃ a, L.rep w AllB a (cs.drop off) ∧ G a
theorem opensAt_last {α : Type} {L : Lay α} {G : α → Prop} {fs : Array Field} {off : Nat} (i : Nat) (ft : TypeId) (hf : (fs[i]?).map (fun f => (f.type, f.offset)) = some (ft, off)) (ho : Opens P ft L G) : OpensAt P fs off L G := by
 intro H enc w fuel cs hl h
 obtain ⟨f, hfi, hfe⟩ := Option.map_eq_some_iff.1 hf
 injection hfe with e1 e2
 obtain ⟨x, hx⟩ := h i f hfi
 rw [e1, e2, ho.1, List.take_of_length_le (by rw [List.length_drop]; omega)] at hx
 exact ho.2 enc w fuel _ x hx
theorem opensAt_cons {α β : Type} {L : Lay α} {G : α → Prop} {M : Lay β} {G' : β → Prop} {fs : Array Field} {off : Nat} (i : Nat) (ft : TypeId) (hf : (fs[i]?).map (fun f => (f.type, f.offset)) = some (ft, off)) (ho : Opens P ft L G) (h2 : OpensAt P fs (off + L.size) M G') :
 OpensAt P fs off (L.pair M) (fun p => G p.1 ∧ G' p.2) := by
 intro H enc w fuel cs hl h
 obtain ⟨f, hfi, hfe⟩ := Option.map_eq_some_iff.1 hf
 injection hfe with e1 e2
 obtain ⟨x, hx⟩ := h i f hfi
 rw [e1, e2, ho.1] at hx
 obtain ⟨a, ra, ga⟩ := ho.2 enc w fuel _ x hx
 obtain ⟨b, rb, gb⟩ := h2 enc w fuel cs (by rw [hl]; exact (Nat.add_assoc _ _ _).symm) h
 refine ⟨(a, b), ⟨_, _, ?_, ra, rb⟩, ga, gb⟩
 rw [← List.drop_drop]
 exact (List.take_append_drop _ _).symm
theorem opens_struct {α : Type} {L : Lay α} {G : α → Prop} {fs : Array Field} (ht : P.underlying t = some (.struct fs)) (hc : P.cellsOf t = L.size) (h : OpensAt P fs 0 L G) : Opens P t L G := by
 refine ⟨hc, fun enc w fuel cs x hx => ?_⟩
 obtain ⟨xs, n, _, _, hl, hxl, hf⟩ := DataW.trod_struct ht hx
 have := h enc w n cs (by rw [hl, hc, Nat.zero_add]) (fun j f hj => by
  have hjl : j < fs.size := (Array.getElem?_eq_some_iff.1 hj).1
  exact ⟨xs[j]'(by omega), (hf j f hj).trans (List.getElem?_eq_getElem _)⟩)
 simpa using this
theorem opens_as {α β : Type} {L : Lay α} {G : α → Prop} {M : Lay β} {G' : β → Prop} (h : Opens P t L G) (hs : L.size = M.size) (hm : ∀ w a cs, L.rep w AllB a cs → G a → ∃ b, M.rep w AllB b cs ∧ G' b) : Opens P t M G' :=
 ⟨h.1.trans hs, fun enc w fuel cs x hx => by obtain ⟨a, ra, ga⟩ := h.2 enc w fuel cs x hx; exact hm w a cs ra ga⟩
/-- an argument that is a slice -/
theorem open_arg {α : Type} {L : Lay α} {G : List α → Prop} (ho : Opens P t L.slice G) {H : Type} {enc : TypeId × Value → H} {W : World} {A : Option Addr} {n c : Nat} {d : DataW H} {p : List MemPlace}
 (h : DataW.Trod enc P W 0 (fun _ => true) true t (.slice A n c) d p) : ∃ xs, L.rd W AllB A n xs ∧ G xs ∧ n ≤ c ∧ c ≤ 9223372036854775807 := by
 obtain ⟨fuel, hf⟩ := h
 obtain ⟨xs, ⟨A', n', c', e, h1, h2, h3⟩, g⟩ := ho.2 enc W fuel _ _ hf
 simp [Value.cells] at e
 obtain ⟨rfl, rfl, rfl⟩ := e
 exact ⟨xs, h3, g, h1, h2⟩
end
end Go.Proofs.YtoaggmldekejoaaGreatDoor
/- Names: the reference's IsName and what it calls. Conditions: none. -/
namespace Go.Proofs.YtoaggmldekejoaaGreatDoor
open Go.RowKit
set_option maxRecDepth 100000 in
theorem lsmall_any (c : Int) (w : World) : Calls Tryz.prog 76 #[.int .i32 c] w fun e w' => e = .returned (.bool (smI c)) ∧ w = w' := by
 have HR := Lib.hid (show smI c = (decide (97 ≤ c) && decide (c ≤ 122)) from rfl)
 generalize smI c = r at *
 go_enter Tryz.func76, Tryz.ntmps76
 go_wp2
 all_goals
  go_ret
  exact ⟨by rw [HR.out]; simp [*] <;> omega, rfl⟩
set_option maxRecDepth 100000 in
theorem ldigit_any (c : Int) (w : World) : Calls Tryz.prog 79 #[.int .i32 c] w fun e w' => e = .returned (.bool (dgI c)) ∧ w = w' := by
 have HR := Lib.hid (show dgI c = (decide (48 ≤ c) && decide (c ≤ 57)) from rfl)
 generalize dgI c = r at *
 go_enter Tryz.func79, Tryz.ntmps79
 go_wp2
 all_goals
  go_ret
  exact ⟨by rw [HR.out]; simp [*] <;> omega, rfl⟩
end Go.Proofs.YtoaggmldekejoaaGreatDoor
/- Names: the reference's Words, IsWord, Upper, IsName. Conditions: none. -/
namespace Go.Proofs.YtoaggmldekejoaaGreatDoor
open Go.RowKit
theorem run_bt {s : ByteArray} {i : Nat} {b : UInt8} (h : s.data.toList[i]? = some b) (W : World) : (Instr.index 9 (.string s) (.int .i64 (i : Int))).run Tryz.prog W = .ok (.int .u8 (b.toNat : Int)) W := by
 have hi : i < s.data.toList.length := by
  rcases Nat.lt_or_ge i s.data.toList.length with h1 | h1
  · exact h1
  · rw [List.getElem?_eq_none h1] at h; cases h
 have hs : i < s.size := by simpa using hi
 rw [run_index_string W 9 s .i64 (i : Int) Tryz.underlying9, dif_pos ⟨by omega, by omega⟩]
 rw [List.getElem?_eq_getElem hi] at h
 injection h with h
 have e : s[((i : Int)).toNat]'(by simpa using hs) = b := by
  rw [← h]
  simp only [Int.toNat_natCast]
  simp
  rfl
 rw [e]
theorem bt_of {s : ByteArray} {i : Nat} {b : UInt8} (h : s.data.toList[i]? = some b) : bt s i = (b.toNat : Int) := by unfold bt; rw [List.getD, h]; rfl
theorem byte_at {s : ByteArray} {i : Nat} (h : i < s.size) : ∃ b, s.data.toList[i]? = some b := ⟨s.data.toList[i]'(by simpa using h), List.getElem?_eq_getElem (by simpa using h)⟩
theorem allok_at {l : List Int} {i : Nat} {x : Int} (h : l[i]? = some x) : (l.drop i).all okI = (okI x && (l.drop (i + 1)).all okI) := by
 have hi : i < l.length := by
  rcases Nat.lt_or_ge i l.length with h1 | h1
  · exact h1
  · rw [List.getElem?_eq_none h1] at h; cases h
 rw [List.getElem?_eq_getElem hi] at h
 injection h with h
 rw [List.drop_eq_getElem_cons hi, h, List.all_cons]
theorem bts_at {s : ByteArray} {i : Nat} {b : UInt8} (h : s.data.toList[i]? = some b) : (bts s)[i]? = some (b.toNat : Int) := by unfold bts; rw [List.getElem?_map, h]; rfl
theorem bts_len (s : ByteArray) : (bts s).length = s.size := by unfold bts; simp
end Go.Proofs.YtoaggmldekejoaaGreatDoor
