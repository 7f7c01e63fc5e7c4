/- The parts that stand open, as the program keeps them, in plain Lean. Conditions: none. -/
import Derived.Test.YtoaggmldekejoaaDoorPkM7
namespace Go.Proofs.YtoaggmldekejoaaDoor
/-- where the parts of all places begin, and how deep they are -/
def bels : List Tr → List (Nat × Nat)
  | [] => []
  | t :: r => bels r ++ t.bel (sizes r)
/-- roots of what stands open -/
def roots : List Tr → List Nat
  | [] => []
  | t :: r => roots r ++ [sizes (t :: r) - 1]
theorem bels_len : ∀ l : List Tr, (bels l).length = sizes l
  | [] => rfl
  | t :: r => by unfold bels sizes; rw [List.length_append, bels_len r, t.bel_len]
theorem roots_len : ∀ l : List Tr, (roots l).length = l.length
  | [] => rfl
  | t :: r => by unfold roots; rw [List.length_append, roots_len r]; rfl
theorem bel_last : ∀ (t : Tr) (o : Nat), (t.bel o)[t.size - 1]? = some (o, t.depth)
  | .leaf _, _ => rfl
  | .one p a, o => by unfold Tr.bel Tr.size; rw [List.getElem?_append_right (by rw [a.bel_len]; omega), a.bel_len]; simp
  | .two p a b, o => by
    unfold Tr.bel Tr.size
    rw [← List.append_assoc, List.getElem?_append_right (by rw [List.length_append, a.bel_len, b.bel_len]; omega), List.length_append, a.bel_len, b.bel_len]
    simp
theorem bels_root (t : Tr) (r : List Tr) : (bels (t :: r))[sizes (t :: r) - 1]? = some (sizes r, t.depth) := by
  have := t.size_pos
  unfold bels
  rw [List.getElem?_append_right (by rw [bels_len]; show _ ≤ sizes r + t.size - 1; omega), bels_len, show sizes (t :: r) - 1 - sizes r = t.size - 1 from by show sizes r + t.size - 1 - sizes r = _; omega]
  exact bel_last t _
theorem bels_root2 (b a : Tr) (r : List Tr) : (bels (b :: a :: r))[sizes (a :: r) - 1]? = some (sizes r, a.depth) := by
  have := a.size_pos
  rw [bels]
  rw [List.getElem?_append_left (by rw [bels_len]; show sizes r + a.size - 1 < sizes r + a.size; omega)]
  exact bels_root a r
/-- a step over the roots of a node's parts -/
def bstep (bs : List (Nat × Nat)) (b : Nat × Nat) (p : Nat) : Nat × Nat := (min b.1 (bs.getD p (0, 0)).1, max b.2 ((bs.getD p (0, 0)).2 + 1))
/-- the roots of the last parts -/
def lastR (k : Nat) (l : List Tr) : List Nat := (roots l).drop (l.length - k)
theorem getD_of {α : Type} {l : List α} {i : Nat} {x d : α} (h : l[i]? = some x) : l.getD i d = x := by rw [List.getD_eq_getElem?_getD, h]; rfl
theorem lastR_0 (l : List Tr) : lastR 0 l = [] := by unfold lastR; rw [List.drop_of_length_le (by rw [roots_len]; omega)]
theorem lastR_1 (a : Tr) (r : List Tr) : lastR 1 (a :: r) = [sizes (a :: r) - 1] := by
  unfold lastR roots
  rw [List.length_cons, Nat.add_sub_cancel, List.drop_append, List.drop_of_length_le (by rw [roots_len]; omega), roots_len, Nat.sub_self]
  rfl
theorem lastR_2 (b a : Tr) (r : List Tr) : lastR 2 (b :: a :: r) = [sizes (a :: r) - 1, sizes (b :: a :: r) - 1] := by
  unfold lastR
  rw [roots, roots]
  rw [List.length_cons, List.length_cons, show r.length + 1 + 1 - 2 = r.length from by omega, List.append_assoc, List.drop_append, List.drop_of_length_le (by rw [roots_len]; omega), roots_len, Nat.sub_self]
  rfl
theorem take_0 (l : List Tr) : (roots l).take (l.length - 0) = roots l := List.take_of_length_le (by rw [roots_len]; omega)
theorem take_1 (a : Tr) (r : List Tr) : (roots (a :: r)).take ((a :: r).length - 1) = roots r := by
  rw [roots, List.length_cons, Nat.add_sub_cancel, List.take_append, List.take_of_length_le (by rw [roots_len]; omega), roots_len, Nat.sub_self, List.take_zero, List.append_nil]
theorem take_2 (b a : Tr) (r : List Tr) : (roots (b :: a :: r)).take ((b :: a :: r).length - 2) = roots r := by
  rw [roots, roots, List.length_cons, List.length_cons, show r.length + 1 + 1 - 2 = r.length from by omega, List.append_assoc, List.take_append, List.take_of_length_le (by rw [roots_len]; omega), roots_len, Nat.sub_self, List.take_zero, List.append_nil]
theorem grow_no {c : Py → Bool} {l : List Tr} {x : Nd} (h : partsI x.p.tag < 0 ∨ (l.length : Int) < partsI x.p.tag ∨ c x.p = false) : grow c l x = none := by
  unfold grow
  rcases h with h | h | h
  · split
    · rw [if_neg (by omega), if_neg (by omega), if_neg (by omega)]
    · rfl
  · split
    · rw [if_neg (by omega)]
      split
      · rename_i h1
        have : l.length = 0 := by omega
        rw [List.eq_nil_of_length_eq_zero this]
      · split
        · rename_i h2
          match l with
          | [] => rfl
          | [_] => rfl
          | _ :: _ :: _ => simp at h; omega
        · rfl
    · rfl
  · rw [if_neg (by rw [h]; decide)]
theorem parts_le (t : Int) : -1 ≤ partsI t ∧ partsI t ≤ 2 := by
  unfold partsI
  split
  · omega
  · split
    · omega
    · split
      · omega
      · split <;> omega
/-- where a node's parts have their roots; -1: there is none -/
def atR (k : Nat) (l : List Tr) (j : Nat) : Int := (((lastR k l)[j]?).map fun x : Nat => (x : Int)).getD (-1)
theorem grow_gen {c : Py → Bool} {l : List Tr} {x : Nd} {k : Nat} (hk : partsI x.p.tag = (k : Int)) (hkl : k ≤ l.length) (hc : c x.p = true) :
    (¬ (x.l = atR k l 0 ∧ x.r = atR k l 1) → grow c l x = none) ∧
    (x.l = atR k l 0 → x.r = atR k l 1 → ∃ m, grow c l x = some m ∧ bels m = bels l ++ [(lastR k l).foldl (bstep (bels l)) (sizes l, 1)] ∧ roots m = (roots l).take (l.length - k) ++ [sizes l] ∧ sizes m = sizes l + 1 ∧ m.length + k = l.length + 1) := by
  have h2 : k = 0 ∨ k = 1 ∨ k = 2 := by have := (parts_le x.p.tag).2; omega
  obtain ⟨p, xl, xr⟩ := x
  simp only at hk hc ⊢
  unfold grow
  simp only
  rw [if_pos hc]
  rcases h2 with rfl | rfl | rfl
  · rw [if_pos (by rw [hk]; rfl)]
    unfold atR
    rw [lastR_0, take_0]
    constructor
    · intro h; rw [if_neg (by simpa using h)]
    · intro h1 h2
      rw [if_pos (by simpa using ⟨h1, h2⟩)]
      exact ⟨_, rfl, rfl, rfl, rfl, by simp⟩
  · rw [if_neg (by rw [hk]; decide), if_pos (by rw [hk]; rfl)]
    match l, hkl with
    | a :: r, _ =>
      have hs := a.size_pos
      have e0 : ((sizes (a :: r) - 1 : Nat) : Int) = (sizes (a :: r) : Int) - 1 := by have : sizes (a :: r) = sizes r + a.size := rfl; omega
      unfold atR
      rw [lastR_1, take_1]
      simp only [List.getElem?_cons_zero, List.getElem?_cons_succ, List.getElem?_nil, Option.map_some, Option.map_none, Option.getD_some, Option.getD_none, e0]
      constructor
      · intro h; rw [if_neg h]
      · intro h1 h2
        rw [if_pos ⟨h1, h2⟩]
        refine ⟨_, rfl, ?_, ?_, ?_, by simp⟩
        · rw [List.foldl_cons, List.foldl_nil, bstep, getD_of (bels_root a r)]
          show bels r ++ (a.bel (sizes r) ++ [(sizes r, a.depth + 1)]) = (bels r ++ a.bel (sizes r)) ++ [_]
          rw [List.append_assoc]
          congr 3
          have := a.depth_pos
          have : sizes (a :: r) = sizes r + a.size := rfl
          ext <;> simp <;> omega
        · show roots r ++ [sizes r + (a.size + 1) - 1] = _
          rfl
        · show sizes r + (a.size + 1) = sizes r + a.size + 1
          omega
  · rw [if_neg (by rw [hk]; decide), if_neg (by rw [hk]; decide), if_pos (by rw [hk]; rfl)]
    match l, hkl with
    | [_], h => simp at h
    | b :: a :: r, _ =>
      have hs := a.size_pos
      have hs2 := b.size_pos
      have e0 : ((sizes (a :: r) - 1 : Nat) : Int) = (sizes (a :: r) : Int) - 1 := by have : sizes (a :: r) = sizes r + a.size := rfl; omega
      have e1 : ((sizes (b :: a :: r) - 1 : Nat) : Int) = (sizes (b :: a :: r) : Int) - 1 := by have : sizes (b :: a :: r) = sizes r + a.size + b.size := rfl; omega
      unfold atR
      rw [lastR_2, take_2]
      simp only [List.getElem?_cons_zero, List.getElem?_cons_succ, Option.map_some, Option.getD_some, e0, e1]
      constructor
      · intro h; rw [if_neg h]
      · intro h1 h2
        rw [if_pos ⟨h1, h2⟩]
        refine ⟨_, rfl, ?_, ?_, ?_, by simp⟩
        · rw [List.foldl_cons, List.foldl_cons, List.foldl_nil, bstep, bstep, getD_of (bels_root b (a :: r)), getD_of (bels_root2 b a r)]
          show bels r ++ (a.bel (sizes r) ++ (b.bel (sizes r + a.size) ++ [(sizes r, max b.depth a.depth + 1)])) = ((bels r ++ a.bel (sizes r)) ++ b.bel (sizes r + a.size)) ++ [_]
          rw [List.append_assoc, List.append_assoc]
          congr 4
          have := a.depth_pos
          have := b.depth_pos
          have h3 : sizes (a :: r) = sizes r + a.size := rfl
          have h4 : sizes (b :: a :: r) = sizes r + a.size + b.size := rfl
          ext <;> simp <;> omega
        · show roots r ++ [sizes r + (a.size + b.size + 1) - 1] = roots r ++ [sizes r + a.size + b.size]
          congr 2
          omega
        · show sizes r + (a.size + b.size + 1) = sizes r + a.size + b.size + 1
          omega
/-- every root is a place, ahead of the next node's -/
theorem roots_lt : ∀ (l : List Tr), ∀ p ∈ roots l, p < sizes l
  | [], p, h => by cases h
  | t :: r, p, h => by
    have := t.size_pos
    unfold roots at h
    rcases List.mem_append.1 h with h | h
    · have := roots_lt r p h; show p < sizes r + t.size; omega
    · rw [List.mem_singleton] at h; subst h; show sizes r + t.size - 1 < sizes r + t.size; omega
theorem lastR_len {k : Nat} {l : List Tr} (h : k ≤ l.length) : (lastR k l).length = k := by unfold lastR; rw [List.length_drop, roots_len]; omega
theorem lastR_lt {k : Nat} {l : List Tr} : ∀ p ∈ lastR k l, p < sizes l := fun p h => roots_lt l p (List.mem_of_mem_drop h)
theorem bels_in {l : List Tr} {p : Nat} (h : p < sizes l) : ∃ x, (bels l)[p]? = some x := ⟨_, List.getElem?_eq_getElem (by rw [bels_len]; exact h)⟩
theorem bels_fst : ∀ (t : Tr) (o : Nat), ∀ x ∈ t.bel o, x.1 < o + t.size ∧ x.2 ≤ t.size
  | .leaf _, o, x, h => by
    unfold Tr.bel at h; rw [List.mem_singleton] at h; subst h; exact ⟨by show o < o + 1; omega, Nat.le_refl _⟩
  | .one p a, o, x, h => by
    have hs : (Tr.one p a).size = a.size + 1 := rfl
    unfold Tr.bel at h
    rcases List.mem_append.1 h with h | h
    · have := bels_fst a o x h; omega
    · rw [List.mem_singleton] at h
      subst h
      have h1 : a.depth ≤ a.size := dep_size a
      exact ⟨by show o < _; omega, by show a.depth + 1 ≤ _; omega⟩
  | .two p a b, o, x, h => by
    have hs : (Tr.two p a b).size = a.size + b.size + 1 := rfl
    unfold Tr.bel at h
    rcases List.mem_append.1 h with h | h
    · have := bels_fst a o x h; omega
    · rcases List.mem_append.1 h with h | h
      · have := bels_fst b _ x h; omega
      · rw [List.mem_singleton] at h
        subst h
        have h1 : a.depth ≤ a.size := dep_size a
        have h2 : b.depth ≤ b.size := dep_size b
        exact ⟨by show o < _; omega, by show max b.depth a.depth + 1 ≤ _; omega⟩
where dep_size : ∀ t : Tr, t.depth ≤ t.size
  | .leaf _ => Nat.le_refl _
  | .one _ a => by have := dep_size a; show a.depth + 1 ≤ a.size + 1; omega
  | .two _ a b => by have := dep_size a; have := dep_size b; show max b.depth a.depth + 1 ≤ a.size + b.size + 1; omega
theorem bels_small : ∀ (l : List Tr), ∀ x ∈ bels l, x.1 < sizes l ∧ x.2 ≤ sizes l
  | [], x, h => by cases h
  | t :: r, x, h => by
    have hs : sizes (t :: r) = sizes r + t.size := rfl
    unfold bels at h
    rcases List.mem_append.1 h with h | h
    · have := bels_small r x h; omega
    · have := bels_fst t _ x h; omega
/-- may the nodes be a tree? as the program says it at the end -/
def grownOk (l : List Tr) : Bool := decide (l.length = 1) && (decide (sizes l ≤ 300) && decide (((bels l).getD (sizes l - 1) (0, 0)).2 ≤ 20))
theorem grownOk_tree {c : Py → Bool} {x : List Nd} {l : List Tr} (h : grows c [] x = some l) : grownOk l = (treeF c x).isSome ∧ ∀ t, treeF c x = some t → bels l = t.bel 0 ∧ sizes l = t.size ∧ l = [t] := by
  have hf := (grows_flats h (fun _ h => by cases h)).1
  have hl : x.length = sizes l := by
    have := congrArg List.length hf
    rw [flats_len] at this
    have h0 : flats [] = [] := rfl
    rw [h0] at this
    simpa using this.symm
  unfold treeF
  rw [h]
  match l with
  | [] => exact ⟨rfl, fun t h => by cases h⟩
  | [t] =>
    simp only
    have hb : bels [t] = t.bel 0 := by show [] ++ t.bel 0 = _; rfl
    have hs : sizes [t] = t.size := by show 0 + t.size = _; omega
    have hg : grownOk [t] = (decide (t.size ≤ 300) && decide (t.depth ≤ 20)) := by
      unfold grownOk
      rw [hb, hs, getD_of (bel_last t 0)]
      rfl
    rw [hg, hl, hs]
    by_cases h1 : t.size ≤ 300 ∧ t.depth ≤ 20
    · rw [if_pos h1, decide_eq_true h1.1, decide_eq_true h1.2]
      exact ⟨rfl, fun u hu => by injection hu with hu; subst hu; exact ⟨hb, rfl, rfl⟩⟩
    · rw [if_neg h1]
      refine ⟨?_, fun u hu => by cases hu⟩
      show _ = false
      rw [Bool.and_eq_false_iff, decide_eq_false_iff_not, decide_eq_false_iff_not]
      omega
  | a :: b :: r =>
    refine ⟨?_, fun t h => by cases h⟩
    unfold grownOk
    rw [decide_eq_false (by simp)]
    rfl
end Go.Proofs.YtoaggmldekejoaaDoor
/- What the layer's functions come to, in plain Lean; made of its parts a tree is itself. Conditions: none. -/
namespace Go.Proofs.YtoaggmldekejoaaDoor
/-- may these nodes be a tree? how deep is it? -/
def okF (x : List Nd) : Bool := (treeF cntB x).isSome
def depF (x : List Nd) : Nat := match treeF cntB x with | some t => t.depth | none => 0
/-- the part at a place: why not; its nodes -/
def partE (x : List Nd) (i : Int) : Int := if okF x then (if 0 ≤ i ∧ i < (x.length : Int) then 0 else 2) else 180
def partN (x : List Nd) (i : Nat) : List Nd := match treeF cntB x with
  | some t => (t.sub i).flat 0
  | none => []
/-- the nodes of a root over parts -/
def madeN (p : Py) : List (List Nd) → List Nd
  | [] => [⟨p, -1, -1⟩]
  | [a] => a ++ [⟨p, (a.length : Int) - 1, -1⟩]
  | a :: b :: _ => a ++ (b.map (mv (a.length : Int)) ++ [⟨p, (a.length : Int) - 1, ((a.length + b.length : Nat) : Int) - 1⟩])
def madeOk (p : Py) (l : List (List Nd)) : Bool := l.all okF && okF (madeN p l)
def madeE (p : Py) (l : List (List Nd)) : Int := if madeOk p l then 0 else 180
def madeR (p : Py) (l : List (List Nd)) : List Nd := if madeOk p l then madeN p l else []
abbrev zP (t : Int) : Py := ⟨t, 0, 0, 0, eB, eB, eB⟩
theorem okF_of {x : List Nd} {t : Tr} (h : treeF cntB x = some t) : okF x = true := by unfold okF; rw [h]; rfl
theorem okF_no {x : List Nd} (h : treeF cntB x = none) : okF x = false := by unfold okF; rw [h]; rfl
theorem depF_of {x : List Nd} {t : Tr} (h : treeF cntB x = some t) : depF x = t.depth := by unfold depF; rw [h]
theorem partN_of {x : List Nd} {t : Tr} (h : treeF cntB x = some t) (i : Nat) : partN x i = (t.sub i).flat 0 := by unfold partN; rw [h]
theorem okF_ex {x : List Nd} (h : okF x = true) : ∃ t, treeF cntB x = some t := by
  unfold okF at h
  cases e : treeF cntB x with
  | some t => exact ⟨t, rfl⟩
  | none => rw [e] at h; cases h
theorem tree_len {x : List Nd} {t : Tr} (h : treeF cntB x = some t) : x.length = t.size := by
  obtain ⟨rfl, _⟩ := treeF_some.1 h
  exact t.flat_len 0
theorem tree_sub {x : List Nd} {t : Tr} (h : treeF cntB x = some t) {i : Nat} (hi : i < t.size) : treeF cntB ((t.sub i).flat 0) = some (t.sub i) := by
  obtain ⟨_, h1, h2, h3⟩ := treeF_some.1 h
  exact treeF_some.2 ⟨rfl, Tr.sub_ok h1, by have := t.sub_size i hi; omega, Nat.le_trans (t.sub_depth i) h3⟩
/-- a part's nodes lie in the tree's own, so far on as it begins -/
theorem part_at {x : List Nd} {t : Tr} (h : treeF cntB x = some t) {i : Nat} (hi : i < t.size) :
    ((x.drop (i + 1 - (t.sub i).size)).take (t.sub i).size).map (mv (-((i + 1 - (t.sub i).size : Nat) : Int))) = partN x i := by
  obtain ⟨rfl, _⟩ := treeF_some.1 h
  rw [partN_of h, t.flat_at 0 i hi, mv_flat _ _ 0 _ (by omega)]
theorem tree_node {x : List Nd} {t : Tr} (h : treeF cntB x = some t) {i : Nat} (hi : i < t.size) : x[i]? = some ((t.sub i).node (i + 1 - (t.sub i).size)) := by
  obtain ⟨rfl, _⟩ := treeF_some.1 h
  rw [t.node_at 0 i hi, Nat.zero_add]
theorem leaf_py {p : Py} (h : (Tr.leaf p).ok cntB = true) : cntB p = true := by
  unfold Tr.ok at h; rw [Bool.and_eq_true] at h; exact h.2
theorem one_py {p : Py} {a : Tr} (h : (Tr.one p a).ok cntB = true) : p = zP p.tag := by
  have := ok_one h
  exact inner_zero this.2.1 (.inl this.1)
theorem two_py {p : Py} {a b : Tr} (h : (Tr.two p a b).ok cntB = true) : p = zP p.tag := by
  have := ok_two h
  exact inner_zero this.2.1 (.inr this.1)
/-- what is said of a tree's node and its part -/
structure WholeAt (x : List Nd) (i : Nat) : Prop where
  ok : okF (partN x i) = true
  dep : depF (partN x i) ≤ 20
  leaf : ∀ n, x[i]? = some n → n.l < 0 → madeOk n.p [] = true ∧ madeN n.p [] = partN x i
  one : ∀ n, x[i]? = some n → 0 ≤ n.l → n.r < 0 → partE x n.l = 0 ∧ depF (partN x n.l.toNat) + 1 = depF (partN x i) ∧ madeOk (zP n.p.tag) [partN x n.l.toNat] = true ∧ madeN (zP n.p.tag) [partN x n.l.toNat] = partN x i
  two : ∀ n, x[i]? = some n → 0 ≤ n.l → 0 ≤ n.r → partE x n.l = 0 ∧ partE x n.r = 0 ∧ max (depF (partN x n.l.toNat)) (depF (partN x n.r.toNat)) + 1 = depF (partN x i) ∧ (partN x n.l.toNat).length + (partN x n.r.toNat).length + 1 = (partN x i).length ∧
    madeOk (zP n.p.tag) [partN x n.l.toNat, partN x n.r.toNat] = true ∧ madeN (zP n.p.tag) [partN x n.l.toNat, partN x n.r.toNat] = partN x i
theorem part_in {x : List Nd} {t : Tr} (h : treeF cntB x = some t) {k : Nat} (hk : k < t.size) {i : Int} (e : i = (k : Int)) : partE x i = 0 := by
  unfold partE
  rw [okF_of h, if_pos rfl, if_pos (by rw [tree_len h]; omega)]
theorem whole_at {x : List Nd} {t : Tr} (h : treeF cntB x = some t) {i : Nat} (hi : i < t.size) : WholeAt x i := by
  have hs := tree_sub h hi
  have hx := tree_node h hi
  have hp := partN_of h i
  obtain ⟨hok, hokt⟩ := treeF_some.1 hs
  have h20 : (t.sub i).depth ≤ 20 := hokt.2.2
  have hsz := t.sub_size i hi
  refine ⟨by rw [hp]; exact okF_of hs, by rw [hp, depF_of hs]; exact h20, ?_, ?_, ?_⟩
  · intro n hn hl
    rw [hx] at hn
    injection hn with hn
    subst hn
    rw [hp]
    cases hsub : t.sub i with
    | leaf p =>
      rw [hsub] at hs
      exact ⟨by unfold madeOk; rw [List.all_nil, Bool.true_and]; exact okF_of hs, rfl⟩
    | one p a =>
      rw [hsub] at hl hsz
      have := a.size_pos
      exact absurd hl (by show ¬ (((i + 1 - (Tr.one p a).size + a.size : Nat) : Int) - 1 < 0); omega)
    | two p a b =>
      rw [hsub] at hl hsz
      have := a.size_pos
      exact absurd hl (by show ¬ (((i + 1 - (Tr.two p a b).size + a.size : Nat) : Int) - 1 < 0); omega)
  · intro n hn hl hr
    rw [hx] at hn
    injection hn with hn
    subst hn
    rw [hp]
    cases hsub : t.sub i with
    | leaf p => rw [hsub] at hl; exact absurd hl (by show ¬ ((0 : Int) ≤ -1); decide)
    | one p a =>
      rw [hsub] at hs hsz
      obtain ⟨h1, h2⟩ := sub_one hi hsub
      have ha := a.size_pos
      have e1 : (Tr.one p a).size = a.size + 1 := rfl
      have el : ((Tr.one p a).node (i + 1 - (Tr.one p a).size)).l = ((i - 1 : Nat) : Int) := by
        show ((i + 1 - (Tr.one p a).size + a.size : Nat) : Int) - 1 = _
        omega
      have hpa : partN x (i - 1) = a.flat 0 := by rw [partN_of h, h2]
      have hta : treeF cntB (a.flat 0) = some a := by have := tree_sub h (show i - 1 < t.size by omega); rwa [h2] at this
      rw [el, Int.toNat_natCast, hpa, depF_of hta, depF_of hs]
      have hpy : zP p.tag = p := (one_py (treeF_some.1 hs).2.1).symm
      show partE x _ = 0 ∧ a.depth + 1 = a.depth + 1 ∧ madeOk (zP p.tag) _ = true ∧ madeN (zP p.tag) _ = _
      have hm : madeN (zP p.tag) [a.flat 0] = (Tr.one p a).flat 0 := by
        rw [hpy]
        show a.flat 0 ++ [_] = a.flat 0 ++ [_]
        rw [a.flat_len, Nat.zero_add]
      refine ⟨part_in h (by omega) rfl, rfl, ?_, hm⟩
      unfold madeOk
      rw [hm, okF_of hs, List.all_cons, okF_of hta]
      rfl
    | two p a b =>
      rw [hsub] at hr hsz
      have := a.size_pos
      have := b.size_pos
      exact absurd hr (by show ¬ (((i + 1 - (Tr.two p a b).size + a.size + b.size : Nat) : Int) - 1 < 0); omega)
  · intro n hn hl hr
    rw [hx] at hn
    injection hn with hn
    subst hn
    rw [hp]
    cases hsub : t.sub i with
    | leaf p => rw [hsub] at hl; exact absurd hl (by show ¬ ((0 : Int) ≤ -1); decide)
    | one p a => rw [hsub] at hr; exact absurd hr (by show ¬ ((0 : Int) ≤ -1); decide)
    | two p a b =>
      rw [hsub] at hs hsz
      obtain ⟨h1, h2, h3⟩ := sub_two hi hsub
      have ha := a.size_pos
      have hb := b.size_pos
      have e1 : (Tr.two p a b).size = a.size + b.size + 1 := rfl
      have el : ((Tr.two p a b).node (i + 1 - (Tr.two p a b).size)).l = ((i - 1 - b.size : Nat) : Int) := by
        show ((i + 1 - (Tr.two p a b).size + a.size : Nat) : Int) - 1 = _
        omega
      have er : ((Tr.two p a b).node (i + 1 - (Tr.two p a b).size)).r = ((i - 1 : Nat) : Int) := by
        show ((i + 1 - (Tr.two p a b).size + a.size + b.size : Nat) : Int) - 1 = _
        omega
      have hpb : partN x (i - 1) = b.flat 0 := by rw [partN_of h, h2]
      have hpa : partN x (i - 1 - b.size) = a.flat 0 := by rw [partN_of h, h3]
      have htb : treeF cntB (b.flat 0) = some b := by have := tree_sub h (show i - 1 < t.size by omega); rwa [h2] at this
      have hta : treeF cntB (a.flat 0) = some a := by have := tree_sub h (show i - 1 - b.size < t.size by omega); rwa [h3] at this
      rw [el, er, Int.toNat_natCast, Int.toNat_natCast, hpa, hpb, depF_of hta, depF_of htb, depF_of hs]
      have hpy : zP p.tag = p := (two_py (treeF_some.1 hs).2.1).symm
      have hm : madeN (zP p.tag) [a.flat 0, b.flat 0] = (Tr.two p a b).flat 0 := by
        rw [hpy]
        show a.flat 0 ++ ((b.flat 0).map (mv _) ++ [_]) = a.flat 0 ++ (b.flat (0 + a.size) ++ [_])
        rw [a.flat_len, b.flat_len, mv_flat b 0 (0 + a.size) _ (by omega), Nat.zero_add]
      refine ⟨part_in h (by omega) rfl, part_in h (by omega) rfl, ?_, ?_, ?_, hm⟩
      · show max a.depth b.depth + 1 = max b.depth a.depth + 1; omega
      · rw [a.flat_len, b.flat_len, Tr.flat_len]; rfl
      · show madeOk (zP p.tag) _ = true
        unfold madeOk
        rw [hm, okF_of hs, List.all_cons, List.all_cons, okF_of hta, okF_of htb]
        rfl
theorem whole_last {x : List Nd} {t : Tr} (h : treeF cntB x = some t) : partE x ((x.length : Int) - 1) = 0 ∧ partN x (x.length - 1) = x ∧ 1 ≤ x.length := by
  have hl := tree_len h
  have hp := t.size_pos
  refine ⟨part_in h (k := t.size - 1) (by omega) (by omega), ?_, by omega⟩
  rw [partN_of h, hl, t.sub_last]
  exact (treeF_some.1 h).1.symm
end Go.Proofs.YtoaggmldekejoaaDoor
/- slices.Equal of nodes; the layer's SameTree and the reference's. Conditions: the slices read so. -/
namespace Go.Proofs.YtoaggmldekejoaaDoor
open Go.RowKit
def eqND (a b : Nd) : Bool := decide (a.p.tag = b.p.tag) && (decide (a.l = b.l) && (decide (a.r = b.r) && (decide (a.p.k = b.p.k) && (decide (a.p.n = b.p.n) && (decide (a.p.u = b.p.u) && (decide (a.p.s.toList = b.p.s.toList) && (decide (a.p.tb.toList = b.p.tb.toList) && decide (a.p.nm.toList = b.p.nm.toList))))))))
theorem ba_list {s t : ByteArray} : s.toList = t.toList ↔ s = t := by
  rw [toList_data, toList_data]
  constructor
  · intro h; exact (ba_of h).trans rfl
  · intro h; rw [h]
theorem eqND_dec (a b : Nd) : eqND a b = decide (a = b) := by
  obtain ⟨⟨t, k, n, u, s, tb, nm⟩, l, r⟩ := a
  obtain ⟨⟨t', k', n', u', s', tb', nm'⟩, l', r'⟩ := b
  unfold eqND
  rw [Bool.eq_iff_iff]
  simp only [Bool.and_eq_true, decide_eq_true_eq, ba_list, Nd.mk.injEq, Py.mk.injEq]
  constructor
  · rintro ⟨h1, h2, h3, h4, h5, h6, h7, h8, h9⟩; exact ⟨⟨h1, h4, h5, h6, h7, h8, h9⟩, h2, h3⟩
  · rintro ⟨⟨h1, h4, h5, h6, h7, h8, h9⟩, h2, h3⟩; exact ⟨h1, h2, h3, h4, h5, h6, h7, h8, h9⟩
theorem run_eqND (a b : Nd) : ∀ W, (Op.equalIn 10000 27 (.agg #[.int .i64 a.p.tag, .int .i64 a.l, .int .i64 a.r, .int .i64 a.p.k, .int .i64 a.p.n, .int .u64 a.p.u, .string a.p.s, .string a.p.tb, .string a.p.nm]) (.agg #[.int .i64 b.p.tag, .int .i64 b.l, .int .i64 b.r, .int .i64 b.p.k, .int .i64 b.p.n, .int .u64 b.p.u, .string b.p.s, .string b.p.tb, .string b.p.nm])).run Tryd.prog W = .ok (decide (a = b)) W := by
  intro W
  rw [← eqND_dec]
  unfold eqND
  rw [run_equalIn_agg W 9999 _ _ _ (by kernel_rfl) (by kernel_rfl)]
  go_simp
  by_cases h1 : a.p.tag = b.p.tag <;> by_cases h2 : a.l = b.l <;> by_cases h3 : a.r = b.r <;> simp [h1, h2, h3]
  by_cases h4 : a.p.k = b.p.k <;> by_cases h5 : a.p.n = b.p.n <;> by_cases h6 : a.p.u = b.p.u <;> simp [h4, h5, h6]
  by_cases h7 : a.p.s.toList = b.p.s.toList <;> by_cases h8 : a.p.tb.toList = b.p.tb.toList <;> by_cases h9 : a.p.nm.toList = b.p.nm.toList <;> simp [h7, h8, h9]
theorem list_ext_lt {α : Type} {a b : List α} {n : Nat} (ha : a.length = n) (hb : b.length = n) (h : ∀ (k : Nat) (x y : α), k < n → a[k]? = some x → b[k]? = some y → x = y) : a = b := by
  refine List.ext_getElem (by omega) fun k h1 h2 => h k _ _ (by omega) (List.getElem?_eq_getElem h1) (List.getElem?_eq_getElem h2)
theorem at_eq {α : Type} {l : List α} {k : Nat} {x y : α} (h : l[k]? = some x) (h2 : l[k]? = some y) : x = y := by rw [h] at h2; injection h2
set_option maxRecDepth 100000 in
set_option maxHeartbeats 4000000 in
theorem equalN (F G : Nat → Prop) (xs ys : List Nd) (A : Option Addr) (m c : Nat) (B : Option Addr) (n d : Nat) (w : World) (h : LN.rd w F A m xs) (k : LN.rd w G B n ys) (hm : m ≤ 9223372036854775807) :
    Calls Tryd.prog 28 #[.slice A m c, .slice B n d] w fun e w' => e = .returned (.bool (decide (xs = ys))) ∧ Below w.heap.size w w' := by
  have HL := Lib.hid (And.intro (Lay.rd_len h) (Lay.rd_len k))
  have HR := Lib.hid (show decide (xs = ys) = true ↔ xs = ys from decide_eq_true_iff)
  generalize decide (xs = ys) = r at *
  have HNO := Lib.hid (show ¬ xs = ys → r = false from fun h => by cases r; rfl; exact absurd (HR.out.1 rfl) h)
  go_enter Tryd.func28, Tryd.ntmps28
  by_cases c4 : m = n
  case neg =>
    have e2 : ((m : Int) == (n : Int)) = false := by simp; omega
    have e3 : (m == n) = false := by simpa using c4
    have HQ := Lib.hid (HNO.out (fun h => c4 (by rw [← HL.out.1, ← HL.out.2, h])))
    clear c4
    go_wp2
    go_ret
    exact ⟨ret_bool HQ.out.symm, Below.refl _ _⟩
  subst c4
  go_wp2_with fail
  go_loopg [13] m (fun g a wr => ∃ i : Nat, i + g = m ∧ a = .int .i64 i ∧ (∀ (k : Nat) (x y : Nd), k < i → xs[k]? = some x → ys[k]? = some y → x = y) ∧ Below w.heap.size w wr)
  case atStart => exact ⟨0, by omega, rfl, fun k x y hk => by omega, Below.refl _ _⟩
  case round =>
    obtain ⟨i, hig, rfl, heq, b1⟩ := hrel
    have HEQ := Lib.hid heq
    have HB1 := Lib.hid b1
    have h5 := Lay.rd_below h b1
    have h6 := Lay.rd_below k b1
    clear heq b1
    by_cases hlt : i < m
    · have hi1 : (i : Int) < (m : Int) := by omega
      obtain ⟨p, x, hAe, hx, s1⟩ := LN_at h5 hlt
      obtain ⟨p2, y, hAe2, hy, s2⟩ := LN_at h6 hlt
      obtain rfl : A = some p := hAe
      obtain rfl : B = some p2 := hAe2
      have e0 := s1.c0
      have e1 := s1.c1
      have e2 := s1.c2
      have e3 := s1.c3
      have e4 := s1.c4
      have e5 := s1.c5
      have e6 := s1.c6
      have e7 := s1.c7
      have e8 := s1.c8
      have f0 := s2.c0
      have f1 := s2.c1
      have f2 := s2.c2
      have f3 := s2.c3
      have f4 := s2.c4
      have f5 := s2.c5
      have f6 := s2.c6
      have f7 := s2.c7
      have f8 := s2.c8
      have HX := Lib.hid hx
      have HY := Lib.hid hy
      clear hx hy s1 s2
      go_wp2_with fail
      by_cases hq : x = y
      · have HQE : ∀ W, (Op.equalIn 10000 27 (.agg #[.int .i64 x.p.tag, .int .i64 x.l, .int .i64 x.r, .int .i64 x.p.k, .int .i64 x.p.n, .int .u64 x.p.u, .string x.p.s, .string x.p.tb, .string x.p.nm]) (.agg #[.int .i64 y.p.tag, .int .i64 y.l, .int .i64 y.r, .int .i64 y.p.k, .int .i64 y.p.n, .int .u64 y.p.u, .string y.p.s, .string y.p.tb, .string y.p.nm])).run Tryd.prog W = .ok true W := fun W => by rw [run_eqND, decide_eq_true hq]
        have HN := Lib.hid (show ∀ (k : Nat) (x y : Nd), k < i + 1 → xs[k]? = some x → ys[k]? = some y → x = y from fun k x' y' hk h8 h9 => by
          rcases Nat.lt_or_ge k i with h7 | h7
          · exact HEQ.out k x' y' h7 h8 h9
          · obtain rfl : k = i := by omega
            rw [← at_eq HX.out h8, ← at_eq HY.out h9]
            exact hq)
        clear hq
        go_quiet (fail)
        go_wp2
        go_roundg (gk - 1)
        · exact ⟨i + 1, by omega, by go_num, HN.out, bl_dr HB1.out _⟩
        · omega
      · have HQE : ∀ W, (Op.equalIn 10000 27 (.agg #[.int .i64 x.p.tag, .int .i64 x.l, .int .i64 x.r, .int .i64 x.p.k, .int .i64 x.p.n, .int .u64 x.p.u, .string x.p.s, .string x.p.tb, .string x.p.nm]) (.agg #[.int .i64 y.p.tag, .int .i64 y.l, .int .i64 y.r, .int .i64 y.p.k, .int .i64 y.p.n, .int .u64 y.p.u, .string y.p.s, .string y.p.tb, .string y.p.nm])).run Tryd.prog W = .ok false W := fun W => by rw [run_eqND, decide_eq_false hq]
        have HQ := Lib.hid (HNO.out (fun h => hq (by have h8 := HX.out; rw [h] at h8; exact at_eq h8 HY.out)))
        clear hq
        go_quiet (fail)
        go_wp2
        go_ret
        exact ⟨ret_bool HQ.out.symm, bl_dr HB1.out _⟩
    · obtain rfl : i = m := by omega
      have hi1 : (i : Int) ≤ (i : Int) := by omega
      have HQ := Lib.hid (HR.out.2 (list_ext_lt HL.out.1 HL.out.2 HEQ.out))
      go_wp2
      go_ret
      exact ⟨ret_bool HQ.out.symm, HB1.out⟩
set_option maxRecDepth 100000 in
theorem sametree_any (F G : Nat → Prop) (xs ys : List Nd) (A : Option Addr) (m c : Nat) (B : Option Addr) (n d : Nat) (w : World) (h : LN.rd w F A m xs) (k : LN.rd w G B n ys) (hm : m ≤ 9223372036854775807) :
    Calls Tryd.prog 19 #[.agg #[.slice A m c], .agg #[.slice B n d]] w fun e w' => e = .returned (.bool (decide (xs = ys))) ∧ Below w.heap.size w w' := by
  have HC := Lib.hid (fun w' (q : Below w.heap.size w w') => equalN F G xs ys A m c B n d w' (Lay.rd_below h q) (Lay.rd_below k q) hm)
  generalize decide (xs = ys) = r at *
  clear h k
  go_enter Tryd.func19, Tryd.ntmps19
  go_wp2_with fail
  refine (HC.out _ (by first | exact Below.refl _ _ | exact bl_al (bl_al (Below.refl _ _) _) _ | exact bl_al (Below.refl _ _) _)).mono ?_
  rintro e w2 ⟨rfl, q2⟩
  go_wp2
  go_ret
  exact ⟨rfl, by first | exact q2 | exact bl_ca (bl_al (bl_al (Below.refl _ _) _) _) q2⟩
end Go.Proofs.YtoaggmldekejoaaDoor
