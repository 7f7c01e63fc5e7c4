/- Trees in plain Lean: rows of nodes, each behind its parts. Conditions: none. -/
import Derived.Lib.MinMax
namespace Go.Proofs.YtoaggmldekejoaaDoor
/-- what a node holds, but for its places -/
structure Py where
  tag : Int
  k : Int
  n : Int
  u : Int
  s : ByteArray
  tb : ByteArray
  nm : ByteArray
deriving DecidableEq
structure Nd where
  p : Py
  l : Int
  r : Int
deriving DecidableEq
def partsI (t : Int) : Int := if t < 1 then -1 else if 23 < t then -1 else if t ≤ 3 then 0 else if t ≤ 11 then 1 else 2
inductive Tr where
  | leaf (p : Py)
  | one (p : Py) (a : Tr)
  | two (p : Py) (a b : Tr)
namespace Tr
def size : Tr → Nat
  | leaf _ => 1
  | one _ a => a.size + 1
  | two _ a b => a.size + b.size + 1
def depth : Tr → Nat
  | leaf _ => 1
  | one _ a => a.depth + 1
  | two _ a b => max b.depth a.depth + 1
/-- the nodes, from a place on -/
def flat : Nat → Tr → List Nd
  | _, leaf p => [⟨p, -1, -1⟩]
  | o, one p a => a.flat o ++ [⟨p, ((o + a.size : Nat) : Int) - 1, -1⟩]
  | o, two p a b => a.flat o ++ (b.flat (o + a.size) ++ [⟨p, ((o + a.size : Nat) : Int) - 1, ((o + a.size + b.size : Nat) : Int) - 1⟩])
def ok (c : Py → Bool) : Tr → Bool
  | leaf p => decide (partsI p.tag = 0) && c p
  | one p a => decide (partsI p.tag = 1) && (c p && a.ok c)
  | two p a b => decide (partsI p.tag = 2) && (c p && (a.ok c && b.ok c))
theorem size_pos : ∀ t : Tr, 1 ≤ t.size
  | leaf _ => Nat.le_refl _
  | one _ a => by unfold size; omega
  | two _ a b => by unfold size; omega
theorem depth_pos : ∀ t : Tr, 1 ≤ t.depth
  | leaf _ => Nat.le_refl _
  | one _ a => by unfold depth; omega
  | two _ a b => by unfold depth; omega
theorem flat_len : ∀ (t : Tr) (o : Nat), (t.flat o).length = t.size
  | leaf _, _ => rfl
  | one _ a, o => by unfold flat size; rw [List.length_append, flat_len a]; rfl
  | two _ a b, o => by unfold flat size; rw [List.length_append, List.length_append, flat_len a, flat_len b]; simp only [List.length_cons, List.length_nil]; omega
end Tr
/-- the trees that stand open, the last one first -/
def sizes : List Tr → Nat
  | [] => 0
  | t :: r => sizes r + t.size
def flats : List Tr → List Nd
  | [] => []
  | t :: r => flats r ++ t.flat (sizes r)
def allOk (c : Py → Bool) (l : List Tr) : Prop := ∀ t ∈ l, t.ok c = true
theorem flats_len : ∀ l : List Tr, (flats l).length = sizes l
  | [] => rfl
  | t :: r => by unfold flats sizes; rw [List.length_append, flats_len r, t.flat_len]
/-- a node more -/
def grow (c : Py → Bool) (l : List Tr) (x : Nd) : Option (List Tr) :=
  if c x.p then
    if partsI x.p.tag = 0 then (if x.l = -1 ∧ x.r = -1 then some (.leaf x.p :: l) else none)
    else if partsI x.p.tag = 1 then
      match l with
      | [] => none
      | a :: r => if x.l = (sizes (a :: r) : Int) - 1 ∧ x.r = -1 then some (.one x.p a :: r) else none
    else if partsI x.p.tag = 2 then
      match l with
      | [] => none
      | [_] => none
      | b :: a :: r => if x.l = (sizes (a :: r) : Int) - 1 ∧ x.r = (sizes (b :: a :: r) : Int) - 1 then some (.two x.p a b :: r) else none
    else none
  else none
def grows (c : Py → Bool) : List Tr → List Nd → Option (List Tr)
  | l, [] => some l
  | l, x :: r => (grow c l x).bind fun m => grows c m r
theorem grows_app (c : Py → Bool) : ∀ (x y : List Nd) (l : List Tr), grows c l (x ++ y) = (grows c l x).bind fun m => grows c m y
  | [], y, l => rfl
  | a :: x, y, l => by
    rw [List.cons_append, grows, grows]
    cases grow c l a with
    | none => rfl
    | some m => exact grows_app c x y m
theorem grow_flats {c : Py → Bool} {l m : List Tr} {x : Nd} (h : grow c l x = some m) (hl : allOk c l) : flats m = flats l ++ [x] ∧ allOk c m := by
  obtain ⟨p, xl, xr⟩ := x
  unfold grow at h
  split at h
  case isFalse => cases h
  case isTrue hc =>
    simp only at h hc
    split at h
    · rename_i h0
      split at h
      · rename_i h1
        injection h with h
        subst h
        obtain ⟨rfl, rfl⟩ := h1
        refine ⟨rfl, fun t ht => ?_⟩
        rcases List.mem_cons.1 ht with rfl | ht
        · unfold Tr.ok; rw [decide_eq_true h0, hc]; rfl
        · exact hl t ht
      · cases h
    · split at h
      · rename_i h0
        split at h
        · cases h
        · rename_i a r
          split at h
          · rename_i h1
            injection h with h
            subst h
            obtain ⟨rfl, rfl⟩ := h1
            refine ⟨?_, fun t ht => ?_⟩
            · simp only [flats, Tr.flat, sizes, List.append_assoc]
            · rcases List.mem_cons.1 ht with rfl | ht
              · unfold Tr.ok; rw [decide_eq_true h0, hc, hl a (by simp)]; rfl
              · exact hl t (by simp [ht])
          · cases h
      · split at h
        · rename_i h0
          split at h
          · cases h
          · cases h
          · rename_i b a r
            split at h
            · rename_i h1
              injection h with h
              subst h
              obtain ⟨rfl, rfl⟩ := h1
              refine ⟨?_, fun t ht => ?_⟩
              · simp only [flats, Tr.flat, sizes, List.append_assoc]
              · rcases List.mem_cons.1 ht with rfl | ht
                · unfold Tr.ok; rw [decide_eq_true h0, hc, hl a (by simp), hl b (by simp)]; rfl
                · exact hl t (by simp [ht])
            · cases h
        · cases h
theorem grows_flats {c : Py → Bool} : ∀ {x : List Nd} {l m : List Tr}, grows c l x = some m → allOk c l → flats m = flats l ++ x ∧ allOk c m
  | [], l, m, h, hl => by
    rw [grows] at h
    injection h with h
    subst h
    exact ⟨by simp, hl⟩
  | a :: x, l, m, h, hl => by
    rw [grows] at h
    cases hg : grow c l a with
    | none => rw [hg] at h; cases h
    | some k =>
      rw [hg] at h
      have h1 := grow_flats hg hl
      have h2 := grows_flats (show grows c k x = some m from h) h1.2
      exact ⟨by rw [h2.1, h1.1, List.append_assoc]; rfl, h2.2⟩
theorem flat_grows (c : Py → Bool) : ∀ (t : Tr) (l : List Tr), t.ok c = true → grows c l (t.flat (sizes l)) = some (t :: l)
  | .leaf p, l, h => by
    unfold Tr.ok at h
    rw [Bool.and_eq_true, decide_eq_true_eq] at h
    rw [Tr.flat, grows]
    unfold grow
    simp only
    rw [if_pos h.2, if_pos h.1]
    rfl
  | .one p a, l, h => by
    unfold Tr.ok at h
    rw [Bool.and_eq_true, Bool.and_eq_true, decide_eq_true_eq] at h
    have ih := flat_grows c a l h.2.2
    rw [Tr.flat, grows_app, ih]
    simp only [Option.bind_some]
    rw [grows, grow, if_pos h.2.1]
    simp only
    rw [if_neg (by rw [h.1]; decide), if_pos h.1, if_pos ⟨by simp [sizes], trivial⟩]
    rfl
  | .two p a b, l, h => by
    unfold Tr.ok at h
    rw [Bool.and_eq_true, Bool.and_eq_true, Bool.and_eq_true, decide_eq_true_eq] at h
    have ih := flat_grows c a l h.2.2.1
    have ih2 := flat_grows c b (a :: l) h.2.2.2
    rw [Tr.flat, grows_app, ih]
    simp only [Option.bind_some]
    rw [show sizes l + a.size = sizes (a :: l) from rfl, grows_app, ih2]
    simp only [Option.bind_some]
    rw [grows, grow, if_pos h.2.1]
    simp only
    rw [if_neg (by rw [h.1]; decide), if_neg (by rw [h.1]; decide), if_pos h.1, if_pos ⟨by simp, by simp [sizes]⟩]
    rfl
/-- the tree of a row of nodes -/
def treeF (c : Py → Bool) (x : List Nd) : Option Tr :=
  match grows c [] x with
  | some [t] => if x.length ≤ 300 ∧ t.depth ≤ 20 then some t else none
  | _ => none
theorem treeF_some {c : Py → Bool} {x : List Nd} {t : Tr} : treeF c x = some t ↔ (x = t.flat 0 ∧ t.ok c = true ∧ t.size ≤ 300 ∧ t.depth ≤ 20) := by
  constructor
  · intro h
    unfold treeF at h
    split at h
    · rename_i u hu
      split at h
      · rename_i hc
        injection h with h
        subst h
        have := grows_flats hu (fun _ h => by cases h)
        have e : x = u.flat 0 := by have h9 := this.1; simp [flats] at h9; exact h9.symm
        exact ⟨e, this.2 u (by simp), by have := hc.1; rw [e, u.flat_len] at this; exact this, hc.2⟩
      · cases h
    · cases h
  · rintro ⟨rfl, h1, h2, h3⟩
    unfold treeF
    rw [show t.flat 0 = t.flat (sizes []) from rfl, flat_grows c t [] h1]
    simp only
    rw [if_pos ⟨by rw [t.flat_len]; exact h2, h3⟩]
theorem flat_inj {c : Py → Bool} {t u : Tr} (h : t.flat 0 = u.flat 0) (ht : t.ok c = true) (hu : u.ok c = true) : t = u := by
  have h1 := flat_grows c t [] ht
  have h2 := flat_grows c u [] hu
  rw [show sizes [] = 0 from rfl] at h1 h2
  rw [h, h2] at h1
  injection h1 with h1
  injection h1 with h1
  exact h1.symm
end Go.Proofs.YtoaggmldekejoaaDoor
