/- The parts that stand open, as the program keeps them, in plain Lean. Conditions: none. -/
import Derived.Test.YtoaggmldekejoaaDoorAsP
namespace Go.Proofs.YtoaggmldekejoaaDoor
/-- where the parts of all places begin, and how deep they are -/
def bels : List Tr → List (Nat × Nat)
  | [] => []
  | t :: r => bels r ++ t.bel (sizes r)
/-- roots of what stands open -/
def roots : List Tr → List Nat
  | [] => []
  | t :: r => roots r ++ [sizes (t :: r) - 1]
theorem bels_len : ∀ l : List Tr, (bels l).length = sizes l
  | [] => rfl
  | t :: r => by unfold bels sizes; rw [List.length_append, bels_len r, t.bel_len]
theorem roots_len : ∀ l : List Tr, (roots l).length = l.length
  | [] => rfl
  | t :: r => by unfold roots; rw [List.length_append, roots_len r]; rfl
theorem bel_last : ∀ (t : Tr) (o : Nat), (t.bel o)[t.size - 1]? = some (o, t.depth)
  | .leaf _, _ => rfl
  | .one p a, o => by unfold Tr.bel Tr.size; rw [List.getElem?_append_right (by rw [a.bel_len]; omega), a.bel_len]; simp
  | .two p a b, o => by
    unfold Tr.bel Tr.size
    rw [← List.append_assoc, List.getElem?_append_right (by rw [List.length_append, a.bel_len, b.bel_len]; omega), List.length_append, a.bel_len, b.bel_len]
    simp
theorem bels_root (t : Tr) (r : List Tr) : (bels (t :: r))[sizes (t :: r) - 1]? = some (sizes r, t.depth) := by
  have := t.size_pos
  unfold bels
  rw [List.getElem?_append_right (by rw [bels_len]; show _ ≤ sizes r + t.size - 1; omega), bels_len, show sizes (t :: r) - 1 - sizes r = t.size - 1 from by show sizes r + t.size - 1 - sizes r = _; omega]
  exact bel_last t _
theorem bels_root2 (b a : Tr) (r : List Tr) : (bels (b :: a :: r))[sizes (a :: r) - 1]? = some (sizes r, a.depth) := by
  have := a.size_pos
  rw [bels]
  rw [List.getElem?_append_left (by rw [bels_len]; show sizes r + a.size - 1 < sizes r + a.size; omega)]
  exact bels_root a r
/-- a step over the roots of a node's parts -/
def bstep (bs : List (Nat × Nat)) (b : Nat × Nat) (p : Nat) : Nat × Nat := (min b.1 (bs.getD p (0, 0)).1, max b.2 ((bs.getD p (0, 0)).2 + 1))
/-- the roots of the last parts -/
def lastR (k : Nat) (l : List Tr) : List Nat := (roots l).drop (l.length - k)
theorem getD_of {α : Type} {l : List α} {i : Nat} {x d : α} (h : l[i]? = some x) : l.getD i d = x := by rw [List.getD_eq_getElem?_getD, h]; rfl
theorem lastR_0 (l : List Tr) : lastR 0 l = [] := by unfold lastR; rw [List.drop_of_length_le (by rw [roots_len]; omega)]
theorem lastR_1 (a : Tr) (r : List Tr) : lastR 1 (a :: r) = [sizes (a :: r) - 1] := by
  unfold lastR roots
  rw [List.length_cons, Nat.add_sub_cancel, List.drop_append, List.drop_of_length_le (by rw [roots_len]; omega), roots_len, Nat.sub_self]
  rfl
theorem lastR_2 (b a : Tr) (r : List Tr) : lastR 2 (b :: a :: r) = [sizes (a :: r) - 1, sizes (b :: a :: r) - 1] := by
  unfold lastR
  rw [roots, roots]
  rw [List.length_cons, List.length_cons, show r.length + 1 + 1 - 2 = r.length from by omega, List.append_assoc, List.drop_append, List.drop_of_length_le (by rw [roots_len]; omega), roots_len, Nat.sub_self]
  rfl
theorem take_0 (l : List Tr) : (roots l).take (l.length - 0) = roots l := List.take_of_length_le (by rw [roots_len]; omega)
theorem take_1 (a : Tr) (r : List Tr) : (roots (a :: r)).take ((a :: r).length - 1) = roots r := by
  rw [roots, List.length_cons, Nat.add_sub_cancel, List.take_append, List.take_of_length_le (by rw [roots_len]; omega), roots_len, Nat.sub_self, List.take_zero, List.append_nil]
theorem take_2 (b a : Tr) (r : List Tr) : (roots (b :: a :: r)).take ((b :: a :: r).length - 2) = roots r := by
  rw [roots, roots, List.length_cons, List.length_cons, show r.length + 1 + 1 - 2 = r.length from by omega, List.append_assoc, List.take_append, List.take_of_length_le (by rw [roots_len]; omega), roots_len, Nat.sub_self, List.take_zero, List.append_nil]
theorem grow_no {c : Py → Bool} {l : List Tr} {x : Nd} (h : partsI x.p.tag < 0 ∨ (l.length : Int) < partsI x.p.tag ∨ c x.p = false) : grow c l x = none := by
  unfold grow
  rcases h with h | h | h
  · split
    · rw [if_neg (by omega), if_neg (by omega), if_neg (by omega)]
    · rfl
  · split
    · rw [if_neg (by omega)]
      split
      · rename_i h1
        have : l.length = 0 := by omega
        rw [List.eq_nil_of_length_eq_zero this]
      · split
        · rename_i h2
          match l with
          | [] => rfl
          | [_] => rfl
          | _ :: _ :: _ => simp at h; omega
        · rfl
    · rfl
  · rw [if_neg (by rw [h]; decide)]
theorem parts_le (t : Int) : -1 ≤ partsI t ∧ partsI t ≤ 2 := by
  unfold partsI
  split
  · omega
  · split
    · omega
    · split
      · omega
      · split <;> omega
/-- where a node's parts have their roots; -1: there is none -/
def atR (k : Nat) (l : List Tr) (j : Nat) : Int := (((lastR k l)[j]?).map fun x : Nat => (x : Int)).getD (-1)
theorem grow_gen {c : Py → Bool} {l : List Tr} {x : Nd} {k : Nat} (hk : partsI x.p.tag = (k : Int)) (hkl : k ≤ l.length) (hc : c x.p = true) :
    (¬ (x.l = atR k l 0 ∧ x.r = atR k l 1) → grow c l x = none) ∧
    (x.l = atR k l 0 → x.r = atR k l 1 → ∃ m, grow c l x = some m ∧ bels m = bels l ++ [(lastR k l).foldl (bstep (bels l)) (sizes l, 1)] ∧ roots m = (roots l).take (l.length - k) ++ [sizes l] ∧ sizes m = sizes l + 1 ∧ m.length + k = l.length + 1) := by
  have h2 : k = 0 ∨ k = 1 ∨ k = 2 := by have := (parts_le x.p.tag).2; omega
  obtain ⟨p, xl, xr⟩ := x
  simp only at hk hc ⊢
  unfold grow
  simp only
  rw [if_pos hc]
  rcases h2 with rfl | rfl | rfl
  · rw [if_pos (by rw [hk]; rfl)]
    unfold atR
    rw [lastR_0, take_0]
    constructor
    · intro h; rw [if_neg (by simpa using h)]
    · intro h1 h2
      rw [if_pos (by simpa using ⟨h1, h2⟩)]
      exact ⟨_, rfl, rfl, rfl, rfl, by simp⟩
  · rw [if_neg (by rw [hk]; decide), if_pos (by rw [hk]; rfl)]
    match l, hkl with
    | a :: r, _ =>
      have hs := a.size_pos
      have e0 : ((sizes (a :: r) - 1 : Nat) : Int) = (sizes (a :: r) : Int) - 1 := by have : sizes (a :: r) = sizes r + a.size := rfl; omega
      unfold atR
      rw [lastR_1, take_1]
      simp only [List.getElem?_cons_zero, List.getElem?_cons_succ, List.getElem?_nil, Option.map_some, Option.map_none, Option.getD_some, Option.getD_none, e0]
      constructor
      · intro h; rw [if_neg h]
      · intro h1 h2
        rw [if_pos ⟨h1, h2⟩]
        refine ⟨_, rfl, ?_, ?_, ?_, by simp⟩
        · rw [List.foldl_cons, List.foldl_nil, bstep, getD_of (bels_root a r)]
          show bels r ++ (a.bel (sizes r) ++ [(sizes r, a.depth + 1)]) = (bels r ++ a.bel (sizes r)) ++ [_]
          rw [List.append_assoc]
          congr 3
          have := a.depth_pos
          have : sizes (a :: r) = sizes r + a.size := rfl
          ext <;> simp <;> omega
        · show roots r ++ [sizes r + (a.size + 1) - 1] = _
          rfl
        · show sizes r + (a.size + 1) = sizes r + a.size + 1
          omega
  · rw [if_neg (by rw [hk]; decide), if_neg (by rw [hk]; decide), if_pos (by rw [hk]; rfl)]
    match l, hkl with
    | [_], h => simp at h
    | b :: a :: r, _ =>
      have hs := a.size_pos
      have hs2 := b.size_pos
      have e0 : ((sizes (a :: r) - 1 : Nat) : Int) = (sizes (a :: r) : Int) - 1 := by have : sizes (a :: r) = sizes r + a.size := rfl; omega
      have e1 : ((sizes (b :: a :: r) - 1 : Nat) : Int) = (sizes (b :: a :: r) : Int) - 1 := by have : sizes (b :: a :: r) = sizes r + a.size + b.size := rfl; omega
      unfold atR
      rw [lastR_2, take_2]
      simp only [List.getElem?_cons_zero, List.getElem?_cons_succ, Option.map_some, Option.getD_some, e0, e1]
      constructor
      · intro h; rw [if_neg h]
      · intro h1 h2
        rw [if_pos ⟨h1, h2⟩]
        refine ⟨_, rfl, ?_, ?_, ?_, by simp⟩
        · rw [List.foldl_cons, List.foldl_cons, List.foldl_nil, bstep, bstep, getD_of (bels_root b (a :: r)), getD_of (bels_root2 b a r)]
          show bels r ++ (a.bel (sizes r) ++ (b.bel (sizes r + a.size) ++ [(sizes r, max b.depth a.depth + 1)])) = ((bels r ++ a.bel (sizes r)) ++ b.bel (sizes r + a.size)) ++ [_]
          rw [List.append_assoc, List.append_assoc]
          congr 4
          have := a.depth_pos
          have := b.depth_pos
          have h3 : sizes (a :: r) = sizes r + a.size := rfl
          have h4 : sizes (b :: a :: r) = sizes r + a.size + b.size := rfl
          ext <;> simp <;> omega
        · show roots r ++ [sizes r + (a.size + b.size + 1) - 1] = roots r ++ [sizes r + a.size + b.size]
          congr 2
          omega
        · show sizes r + (a.size + b.size + 1) = sizes r + a.size + b.size + 1
          omega
/-- every root is a place, ahead of the next node's -/
theorem roots_lt : ∀ (l : List Tr), ∀ p ∈ roots l, p < sizes l
  | [], p, h => by cases h
  | t :: r, p, h => by
    have := t.size_pos
    unfold roots at h
    rcases List.mem_append.1 h with h | h
    · have := roots_lt r p h; show p < sizes r + t.size; omega
    · rw [List.mem_singleton] at h; subst h; show sizes r + t.size - 1 < sizes r + t.size; omega
theorem lastR_len {k : Nat} {l : List Tr} (h : k ≤ l.length) : (lastR k l).length = k := by unfold lastR; rw [List.length_drop, roots_len]; omega
theorem lastR_lt {k : Nat} {l : List Tr} : ∀ p ∈ lastR k l, p < sizes l := fun p h => roots_lt l p (List.mem_of_mem_drop h)
theorem bels_in {l : List Tr} {p : Nat} (h : p < sizes l) : ∃ x, (bels l)[p]? = some x := ⟨_, List.getElem?_eq_getElem (by rw [bels_len]; exact h)⟩
theorem bels_fst : ∀ (t : Tr) (o : Nat), ∀ x ∈ t.bel o, x.1 < o + t.size ∧ x.2 ≤ t.size
  | .leaf _, o, x, h => by
    unfold Tr.bel at h; rw [List.mem_singleton] at h; subst h; exact ⟨by show o < o + 1; omega, Nat.le_refl _⟩
  | .one p a, o, x, h => by
    have hs : (Tr.one p a).size = a.size + 1 := rfl
    unfold Tr.bel at h
    rcases List.mem_append.1 h with h | h
    · have := bels_fst a o x h; omega
    · rw [List.mem_singleton] at h
      subst h
      have h1 : a.depth ≤ a.size := dep_size a
      exact ⟨by show o < _; omega, by show a.depth + 1 ≤ _; omega⟩
  | .two p a b, o, x, h => by
    have hs : (Tr.two p a b).size = a.size + b.size + 1 := rfl
    unfold Tr.bel at h
    rcases List.mem_append.1 h with h | h
    · have := bels_fst a o x h; omega
    · rcases List.mem_append.1 h with h | h
      · have := bels_fst b _ x h; omega
      · rw [List.mem_singleton] at h
        subst h
        have h1 : a.depth ≤ a.size := dep_size a
        have h2 : b.depth ≤ b.size := dep_size b
        exact ⟨by show o < _; omega, by show max b.depth a.depth + 1 ≤ _; omega⟩
where dep_size : ∀ t : Tr, t.depth ≤ t.size
  | .leaf _ => Nat.le_refl _
  | .one _ a => by have := dep_size a; show a.depth + 1 ≤ a.size + 1; omega
  | .two _ a b => by have := dep_size a; have := dep_size b; show max b.depth a.depth + 1 ≤ a.size + b.size + 1; omega
theorem bels_small : ∀ (l : List Tr), ∀ x ∈ bels l, x.1 < sizes l ∧ x.2 ≤ sizes l
  | [], x, h => by cases h
  | t :: r, x, h => by
    have hs : sizes (t :: r) = sizes r + t.size := rfl
    unfold bels at h
    rcases List.mem_append.1 h with h | h
    · have := bels_small r x h; omega
    · have := bels_fst t _ x h; omega
/-- may the nodes be a tree? as the program says it at the end -/
def grownOk (l : List Tr) : Bool := decide (l.length = 1) && (decide (sizes l ≤ 300) && decide (((bels l).getD (sizes l - 1) (0, 0)).2 ≤ 20))
theorem grownOk_tree {c : Py → Bool} {x : List Nd} {l : List Tr} (h : grows c [] x = some l) : grownOk l = (treeF c x).isSome ∧ ∀ t, treeF c x = some t → bels l = t.bel 0 ∧ sizes l = t.size ∧ l = [t] := by
  have hf := (grows_flats h (fun _ h => by cases h)).1
  have hl : x.length = sizes l := by
    have := congrArg List.length hf
    rw [flats_len] at this
    have h0 : flats [] = [] := rfl
    rw [h0] at this
    simpa using this.symm
  unfold treeF
  rw [h]
  match l with
  | [] => exact ⟨rfl, fun t h => by cases h⟩
  | [t] =>
    simp only
    have hb : bels [t] = t.bel 0 := by show [] ++ t.bel 0 = _; rfl
    have hs : sizes [t] = t.size := by show 0 + t.size = _; omega
    have hg : grownOk [t] = (decide (t.size ≤ 300) && decide (t.depth ≤ 20)) := by
      unfold grownOk
      rw [hb, hs, getD_of (bel_last t 0)]
      rfl
    rw [hg, hl, hs]
    by_cases h1 : t.size ≤ 300 ∧ t.depth ≤ 20
    · rw [if_pos h1, decide_eq_true h1.1, decide_eq_true h1.2]
      exact ⟨rfl, fun u hu => by injection hu with hu; subst hu; exact ⟨hb, rfl, rfl⟩⟩
    · rw [if_neg h1]
      refine ⟨?_, fun u hu => by cases hu⟩
      show _ = false
      rw [Bool.and_eq_false_iff, decide_eq_false_iff_not, decide_eq_false_iff_not]
      omega
  | a :: b :: r =>
    refine ⟨?_, fun t h => by cases h⟩
    unfold grownOk
    rw [decide_eq_false (by simp)]
    rfl
end Go.Proofs.YtoaggmldekejoaaDoor
