/- What the layer's functions come to, in plain Lean; made of its parts a tree is itself. Conditions: none. -/
import Derived.Test.YtoaggmldekejoaaDoorAsG
import Derived.Test.YtoaggmldekejoaaDoorAsJ
namespace Go.Proofs.YtoaggmldekejoaaDoor
/-- may these nodes be a tree? how deep is it? -/
def okF (x : List Nd) : Bool := (treeF cntB x).isSome
def depF (x : List Nd) : Nat := match treeF cntB x with | some t => t.depth | none => 0
/-- the part at a place: why not; its nodes -/
def partE (x : List Nd) (i : Int) : Int := if okF x then (if 0 ≤ i ∧ i < (x.length : Int) then 0 else 2) else 180
def partN (x : List Nd) (i : Nat) : List Nd := match treeF cntB x with
  | some t => (t.sub i).flat 0
  | none => []
/-- the nodes of a root over parts -/
def madeN (p : Py) : List (List Nd) → List Nd
  | [] => [⟨p, -1, -1⟩]
  | [a] => a ++ [⟨p, (a.length : Int) - 1, -1⟩]
  | a :: b :: _ => a ++ (b.map (mv (a.length : Int)) ++ [⟨p, (a.length : Int) - 1, ((a.length + b.length : Nat) : Int) - 1⟩])
def madeOk (p : Py) (l : List (List Nd)) : Bool := l.all okF && okF (madeN p l)
def madeE (p : Py) (l : List (List Nd)) : Int := if madeOk p l then 0 else 180
def madeR (p : Py) (l : List (List Nd)) : List Nd := if madeOk p l then madeN p l else []
abbrev zP (t : Int) : Py := ⟨t, 0, 0, 0, eB, eB, eB⟩
theorem okF_of {x : List Nd} {t : Tr} (h : treeF cntB x = some t) : okF x = true := by unfold okF; rw [h]; rfl
theorem okF_no {x : List Nd} (h : treeF cntB x = none) : okF x = false := by unfold okF; rw [h]; rfl
theorem depF_of {x : List Nd} {t : Tr} (h : treeF cntB x = some t) : depF x = t.depth := by unfold depF; rw [h]
theorem partN_of {x : List Nd} {t : Tr} (h : treeF cntB x = some t) (i : Nat) : partN x i = (t.sub i).flat 0 := by unfold partN; rw [h]
theorem okF_ex {x : List Nd} (h : okF x = true) : ∃ t, treeF cntB x = some t := by
  unfold okF at h
  cases e : treeF cntB x with
  | some t => exact ⟨t, rfl⟩
  | none => rw [e] at h; cases h
theorem tree_len {x : List Nd} {t : Tr} (h : treeF cntB x = some t) : x.length = t.size := by
  obtain ⟨rfl, _⟩ := treeF_some.1 h
  exact t.flat_len 0
theorem tree_sub {x : List Nd} {t : Tr} (h : treeF cntB x = some t) {i : Nat} (hi : i < t.size) : treeF cntB ((t.sub i).flat 0) = some (t.sub i) := by
  obtain ⟨_, h1, h2, h3⟩ := treeF_some.1 h
  exact treeF_some.2 ⟨rfl, Tr.sub_ok h1, by have := t.sub_size i hi; omega, Nat.le_trans (t.sub_depth i) h3⟩
/-- a part's nodes lie in the tree's own, so far on as it begins -/
theorem part_at {x : List Nd} {t : Tr} (h : treeF cntB x = some t) {i : Nat} (hi : i < t.size) :
    ((x.drop (i + 1 - (t.sub i).size)).take (t.sub i).size).map (mv (-((i + 1 - (t.sub i).size : Nat) : Int))) = partN x i := by
  obtain ⟨rfl, _⟩ := treeF_some.1 h
  rw [partN_of h, t.flat_at 0 i hi, mv_flat _ _ 0 _ (by omega)]
theorem tree_node {x : List Nd} {t : Tr} (h : treeF cntB x = some t) {i : Nat} (hi : i < t.size) : x[i]? = some ((t.sub i).node (i + 1 - (t.sub i).size)) := by
  obtain ⟨rfl, _⟩ := treeF_some.1 h
  rw [t.node_at 0 i hi, Nat.zero_add]
theorem leaf_py {p : Py} (h : (Tr.leaf p).ok cntB = true) : cntB p = true := by
  unfold Tr.ok at h; rw [Bool.and_eq_true] at h; exact h.2
theorem one_py {p : Py} {a : Tr} (h : (Tr.one p a).ok cntB = true) : p = zP p.tag := by
  have := ok_one h
  exact inner_zero this.2.1 (.inl this.1)
theorem two_py {p : Py} {a b : Tr} (h : (Tr.two p a b).ok cntB = true) : p = zP p.tag := by
  have := ok_two h
  exact inner_zero this.2.1 (.inr this.1)
/-- what is said of a tree's node and its part -/
structure WholeAt (x : List Nd) (i : Nat) : Prop where
  ok : okF (partN x i) = true
  dep : depF (partN x i) ≤ 20
  leaf : ∀ n, x[i]? = some n → n.l < 0 → madeOk n.p [] = true ∧ madeN n.p [] = partN x i
  one : ∀ n, x[i]? = some n → 0 ≤ n.l → n.r < 0 → partE x n.l = 0 ∧ depF (partN x n.l.toNat) + 1 = depF (partN x i) ∧ madeOk (zP n.p.tag) [partN x n.l.toNat] = true ∧ madeN (zP n.p.tag) [partN x n.l.toNat] = partN x i
  two : ∀ n, x[i]? = some n → 0 ≤ n.l → 0 ≤ n.r → partE x n.l = 0 ∧ partE x n.r = 0 ∧ max (depF (partN x n.l.toNat)) (depF (partN x n.r.toNat)) + 1 = depF (partN x i) ∧ (partN x n.l.toNat).length + (partN x n.r.toNat).length + 1 = (partN x i).length ∧
    madeOk (zP n.p.tag) [partN x n.l.toNat, partN x n.r.toNat] = true ∧ madeN (zP n.p.tag) [partN x n.l.toNat, partN x n.r.toNat] = partN x i
theorem part_in {x : List Nd} {t : Tr} (h : treeF cntB x = some t) {k : Nat} (hk : k < t.size) {i : Int} (e : i = (k : Int)) : partE x i = 0 := by
  unfold partE
  rw [okF_of h, if_pos rfl, if_pos (by rw [tree_len h]; omega)]
theorem whole_at {x : List Nd} {t : Tr} (h : treeF cntB x = some t) {i : Nat} (hi : i < t.size) : WholeAt x i := by
  have hs := tree_sub h hi
  have hx := tree_node h hi
  have hp := partN_of h i
  obtain ⟨hok, hokt⟩ := treeF_some.1 hs
  have h20 : (t.sub i).depth ≤ 20 := hokt.2.2
  have hsz := t.sub_size i hi
  refine ⟨by rw [hp]; exact okF_of hs, by rw [hp, depF_of hs]; exact h20, ?_, ?_, ?_⟩
  · intro n hn hl
    rw [hx] at hn
    injection hn with hn
    subst hn
    rw [hp]
    cases hsub : t.sub i with
    | leaf p =>
      rw [hsub] at hs
      exact ⟨by unfold madeOk; rw [List.all_nil, Bool.true_and]; exact okF_of hs, rfl⟩
    | one p a =>
      rw [hsub] at hl hsz
      have := a.size_pos
      exact absurd hl (by show ¬ (((i + 1 - (Tr.one p a).size + a.size : Nat) : Int) - 1 < 0); omega)
    | two p a b =>
      rw [hsub] at hl hsz
      have := a.size_pos
      exact absurd hl (by show ¬ (((i + 1 - (Tr.two p a b).size + a.size : Nat) : Int) - 1 < 0); omega)
  · intro n hn hl hr
    rw [hx] at hn
    injection hn with hn
    subst hn
    rw [hp]
    cases hsub : t.sub i with
    | leaf p => rw [hsub] at hl; exact absurd hl (by show ¬ ((0 : Int) ≤ -1); decide)
    | one p a =>
      rw [hsub] at hs hsz
      obtain ⟨h1, h2⟩ := sub_one hi hsub
      have ha := a.size_pos
      have e1 : (Tr.one p a).size = a.size + 1 := rfl
      have el : ((Tr.one p a).node (i + 1 - (Tr.one p a).size)).l = ((i - 1 : Nat) : Int) := by
        show ((i + 1 - (Tr.one p a).size + a.size : Nat) : Int) - 1 = _
        omega
      have hpa : partN x (i - 1) = a.flat 0 := by rw [partN_of h, h2]
      have hta : treeF cntB (a.flat 0) = some a := by have := tree_sub h (show i - 1 < t.size by omega); rwa [h2] at this
      rw [el, Int.toNat_natCast, hpa, depF_of hta, depF_of hs]
      have hpy : zP p.tag = p := (one_py (treeF_some.1 hs).2.1).symm
      show partE x _ = 0 ∧ a.depth + 1 = a.depth + 1 ∧ madeOk (zP p.tag) _ = true ∧ madeN (zP p.tag) _ = _
      have hm : madeN (zP p.tag) [a.flat 0] = (Tr.one p a).flat 0 := by
        rw [hpy]
        show a.flat 0 ++ [_] = a.flat 0 ++ [_]
        rw [a.flat_len, Nat.zero_add]
      refine ⟨part_in h (by omega) rfl, rfl, ?_, hm⟩
      unfold madeOk
      rw [hm, okF_of hs, List.all_cons, okF_of hta]
      rfl
    | two p a b =>
      rw [hsub] at hr hsz
      have := a.size_pos
      have := b.size_pos
      exact absurd hr (by show ¬ (((i + 1 - (Tr.two p a b).size + a.size + b.size : Nat) : Int) - 1 < 0); omega)
  · intro n hn hl hr
    rw [hx] at hn
    injection hn with hn
    subst hn
    rw [hp]
    cases hsub : t.sub i with
    | leaf p => rw [hsub] at hl; exact absurd hl (by show ¬ ((0 : Int) ≤ -1); decide)
    | one p a => rw [hsub] at hr; exact absurd hr (by show ¬ ((0 : Int) ≤ -1); decide)
    | two p a b =>
      rw [hsub] at hs hsz
      obtain ⟨h1, h2, h3⟩ := sub_two hi hsub
      have ha := a.size_pos
      have hb := b.size_pos
      have e1 : (Tr.two p a b).size = a.size + b.size + 1 := rfl
      have el : ((Tr.two p a b).node (i + 1 - (Tr.two p a b).size)).l = ((i - 1 - b.size : Nat) : Int) := by
        show ((i + 1 - (Tr.two p a b).size + a.size : Nat) : Int) - 1 = _
        omega
      have er : ((Tr.two p a b).node (i + 1 - (Tr.two p a b).size)).r = ((i - 1 : Nat) : Int) := by
        show ((i + 1 - (Tr.two p a b).size + a.size + b.size : Nat) : Int) - 1 = _
        omega
      have hpb : partN x (i - 1) = b.flat 0 := by rw [partN_of h, h2]
      have hpa : partN x (i - 1 - b.size) = a.flat 0 := by rw [partN_of h, h3]
      have htb : treeF cntB (b.flat 0) = some b := by have := tree_sub h (show i - 1 < t.size by omega); rwa [h2] at this
      have hta : treeF cntB (a.flat 0) = some a := by have := tree_sub h (show i - 1 - b.size < t.size by omega); rwa [h3] at this
      rw [el, er, Int.toNat_natCast, Int.toNat_natCast, hpa, hpb, depF_of hta, depF_of htb, depF_of hs]
      have hpy : zP p.tag = p := (two_py (treeF_some.1 hs).2.1).symm
      have hm : madeN (zP p.tag) [a.flat 0, b.flat 0] = (Tr.two p a b).flat 0 := by
        rw [hpy]
        show a.flat 0 ++ ((b.flat 0).map (mv _) ++ [_]) = a.flat 0 ++ (b.flat (0 + a.size) ++ [_])
        rw [a.flat_len, b.flat_len, mv_flat b 0 (0 + a.size) _ (by omega), Nat.zero_add]
      refine ⟨part_in h (by omega) rfl, part_in h (by omega) rfl, ?_, ?_, ?_, hm⟩
      · show max a.depth b.depth + 1 = max b.depth a.depth + 1; omega
      · rw [a.flat_len, b.flat_len, Tr.flat_len]; rfl
      · show madeOk (zP p.tag) _ = true
        unfold madeOk
        rw [hm, okF_of hs, List.all_cons, List.all_cons, okF_of hta, okF_of htb]
        rfl
theorem whole_last {x : List Nd} {t : Tr} (h : treeF cntB x = some t) : partE x ((x.length : Int) - 1) = 0 ∧ partN x (x.length - 1) = x ∧ 1 ≤ x.length := by
  have hl := tree_len h
  have hp := t.size_pos
  refine ⟨part_in h (k := t.size - 1) (by omega) (by omega), ?_, by omega⟩
  rw [partN_of h, hl, t.sub_last]
  exact (treeF_some.1 h).1.symm
end Go.Proofs.YtoaggmldekejoaaDoor
