/- Data in memory, by what it is made of: how many cells, what they hold, and to which blocks it leads. Conditions: none. -/
import Derived.Test.YthgcdilkkldgjaaGreatDoorPkC1
namespace Go.Proofs.YthgcdilkkldgjaaGreatDoor
open Go.RowKit
/-- How a kind of data lies in memory: so many cells; what they hold; the blocks that it leads to are among F. -/
structure Lay (α : Type) where
  size : Nat
  rep : World → (Nat → Prop) → α → List Value → Prop
  len : ∀ {w F a cs}, rep w F a cs → cs.length = size
  one : ∀ {w F a cs}, rep w F a cs → ∀ u ∈ cs, u.oneCell' = true
  keep : ∀ {w w' : World} {F : Nat → Prop} {a cs}, (∀ b, F b → b < w.heap.size → w'.heap[b]? = w.heap[b]?) → rep w F a cs → rep w' F a cs
  weak : ∀ {w F G a cs}, (∀ b, F b → b < w.heap.size → G b) → rep w F a cs → rep w G a cs
/-- data of one cell that leads nowhere -/
def Lay.cell {α : Type} (mk : α → Value) (h1 : ∀ a, (mk a).oneCell' = true) : Lay α where
  size := 1
  rep := fun _ _ a cs => cs = [mk a]
  len := fun h => by subst h; rfl
  one := fun {_ _ a _} h u hu => by subst h; simp at hu; subst hu; exact h1 a
  keep := fun _ h => h
  weak := fun _ h => h
/-- two kinds, one behind the other -/
def Lay.pair {α β : Type} (L : Lay α) (M : Lay β) : Lay (α × β) where
  size := L.size + M.size
  rep := fun w F p cs => ∃ x y, cs = x ++ y ∧ L.rep w F p.1 x ∧ M.rep w F p.2 y
  len := fun h => by obtain ⟨x, y, rfl, hx, hy⟩ := h; rw [List.length_append, L.len hx, M.len hy]
  one := fun h u hu => by
    obtain ⟨x, y, rfl, hx, hy⟩ := h
    rcases List.mem_append.1 hu with hu | hu
    · exact L.one hx u hu
    · exact M.one hy u hu
  keep := fun hk h => by obtain ⟨x, y, e, hx, hy⟩ := h; exact ⟨x, y, e, L.keep hk hx, M.keep hk hy⟩
  weak := fun hk h => by obtain ⟨x, y, e, hx, hy⟩ := h; exact ⟨x, y, e, L.weak hk hx, M.weak hk hy⟩
/-- a kind that is another one under other names -/
def Lay.as {α β : Type} (L : Lay α) (f : β → α) : Lay β where
  size := L.size
  rep := fun w F b cs => L.rep w F (f b) cs
  len := L.len
  one := L.one
  keep := L.keep
  weak := L.weak
/-- several, one behind the other -/
def Lay.reps {α : Type} (L : Lay α) (w : World) (F : Nat → Prop) : List α → List Value → Prop
  | [], cs => cs = []
  | a :: l, cs => ∃ x y, cs = x ++ y ∧ L.rep w F a x ∧ L.reps w F l y
section
variable {α : Type} {L : Lay α} {w w' : World} {F G : Nat → Prop}
theorem Lay.reps_len : ∀ {xs : List α} {cs : List Value}, L.reps w F xs cs → cs.length = xs.length * L.size
  | [], _, h => by cases h; simp
  | _ :: l, _, h => by
    obtain ⟨x, y, rfl, hx, hy⟩ := h
    rw [List.length_append, L.len hx, Lay.reps_len hy, List.length_cons, Nat.succ_mul, Nat.add_comm]
theorem Lay.reps_one : ∀ {xs : List α} {cs : List Value}, L.reps w F xs cs → ∀ u ∈ cs, u.oneCell' = true
  | [], _, h, u, hu => by cases h; cases hu
  | _ :: l, _, h, u, hu => by
    obtain ⟨x, y, rfl, hx, hy⟩ := h
    rcases List.mem_append.1 hu with hu | hu
    · exact L.one hx u hu
    · exact Lay.reps_one hy u hu
theorem Lay.reps_keep (hk : ∀ b, F b → b < w.heap.size → w'.heap[b]? = w.heap[b]?) : ∀ {xs : List α} {cs : List Value}, L.reps w F xs cs → L.reps w' F xs cs
  | [], _, h => h
  | _ :: l, _, h => by
    obtain ⟨x, y, e, hx, hy⟩ := h
    exact ⟨x, y, e, L.keep hk hx, Lay.reps_keep hk hy⟩
theorem Lay.reps_weak (hk : ∀ b, F b → b < w.heap.size → G b) : ∀ {xs : List α} {cs : List Value}, L.reps w F xs cs → L.reps w G xs cs
  | [], _, h => h
  | _ :: l, _, h => by
    obtain ⟨x, y, e, hx, hy⟩ := h
    exact ⟨x, y, e, L.weak hk hx, Lay.reps_weak hk hy⟩
theorem Lay.reps_append : ∀ {xs ys : List α} {cs ds : List Value}, L.reps w F xs cs → L.reps w F ys ds → L.reps w F (xs ++ ys) (cs ++ ds)
  | [], _, _, _, h, k => by cases h; exact k
  | _ :: l, _, _, _, h, k => by
    obtain ⟨x, y, rfl, hx, hy⟩ := h
    exact ⟨x, y ++ _, by rw [List.append_assoc], hx, Lay.reps_append hy k⟩
theorem Lay.reps_single {a : α} {cs : List Value} (h : L.rep w F a cs) : L.reps w F [a] cs := ⟨cs, [], by simp, h, rfl⟩
theorem Lay.reps_at : ∀ {xs : List α} {cs : List Value} {i : Nat} {a : α}, L.reps w F xs cs → xs[i]? = some a → ∃ ds, L.rep w F a ds ∧ ∀ j u, ds[j]? = some u → cs[i * L.size + j]? = some u
  | [], _, _, _, _, h => by simp at h
  | x :: l, _, i, a, h, k => by
    obtain ⟨c, d, rfl, hx, hy⟩ := h
    cases i with
    | zero =>
      simp at k
      subst k
      exact ⟨c, hx, fun j u hu => by rw [Nat.zero_mul, Nat.zero_add, List.getElem?_append_left (List.getElem?_eq_some_iff.1 hu).1]; exact hu⟩
    | succ i =>
      obtain ⟨ds, h1, h2⟩ := Lay.reps_at hy (show l[i]? = some a by simpa using k)
      refine ⟨ds, h1, fun j u hu => ?_⟩
      rw [List.getElem?_append_right (by rw [L.len hx, Nat.succ_mul]; omega), L.len hx, show (i + 1) * L.size + j - L.size = i * L.size + j from by rw [Nat.succ_mul]; omega]
      exact h2 j u hu
/-- the slice reads as these -/
def Lay.rd (L : Lay α) (w : World) (F : Nat → Prop) (A : Option Addr) (n : Nat) (xs : List α) : Prop :=
  xs.length = n ∧ ∃ cs, L.reps w F xs cs ∧ (0 < n → ∃ ad, A = some ad ∧ ad.block < w.heap.size ∧ F ad.block ∧ ∀ j u, cs[j]? = some u → w.cell? (ad.add j) = some u)
theorem cell_of_heap {p : Addr} (h : w'.heap[p.block]? = w.heap[p.block]?) : w'.cell? p = w.cell? p := by unfold World.cell?; rw [h]
theorem lt_of_same {b : Nat} (h : w'.heap[b]? = w.heap[b]?) (hb : b < w.heap.size) : b < w'.heap.size := by
  rcases Nat.lt_or_ge b w'.heap.size with h' | h'
  · exact h'
  · rw [Array.getElem?_eq_none h', Array.getElem?_eq_getElem hb] at h; cases h
theorem Lay.rd_keep {A : Option Addr} {n : Nat} {xs : List α} (hk : ∀ b, F b → b < w.heap.size → w'.heap[b]? = w.heap[b]?) (h : L.rd w F A n xs) : L.rd w' F A n xs := by
  obtain ⟨hl, cs, hr, hc⟩ := h
  refine ⟨hl, cs, Lay.reps_keep hk hr, fun hn => ?_⟩
  obtain ⟨ad, e, hb, hf, hh⟩ := hc hn
  exact ⟨ad, e, lt_of_same (hk _ hf hb) hb, hf, fun j u hu => (cell_of_heap (by rw [block_of_add]; exact hk _ hf hb)).trans (hh j u hu)⟩
theorem Lay.rd_below {A : Option Addr} {n : Nat} {xs : List α} (h : L.rd w F A n xs) (q : Below w.heap.size w w') : L.rd w' F A n xs := Lay.rd_keep (fun b _ hb => q.block b hb) h
theorem Lay.rd_weak {A : Option Addr} {n : Nat} {xs : List α} (hk : ∀ b, F b → b < w.heap.size → G b) (h : L.rd w F A n xs) : L.rd w G A n xs := by
  obtain ⟨hl, cs, hr, hc⟩ := h
  refine ⟨hl, cs, Lay.reps_weak hk hr, fun hn => ?_⟩
  obtain ⟨ad, e, hb, hf, hh⟩ := hc hn
  exact ⟨ad, e, hb, hk _ hf hb, hh⟩
theorem Lay.rd_at {A : Option Addr} {n i : Nat} {xs : List α} (h : L.rd w F A n xs) (hi : i < n) : ∃ ad x cs, A = some ad ∧ xs[i]? = some x ∧ ad.block < w.heap.size ∧ F ad.block ∧ L.rep w F x cs ∧ ∀ j u, cs[j]? = some u → w.cell? (ad.add (i * L.size + j)) = some u := by
  obtain ⟨hl, cs, hr, hc⟩ := h
  obtain ⟨ad, e, hb, hf, hh⟩ := hc (by omega)
  have hx : xs[i]? = some xs[i] := List.getElem?_eq_getElem (by omega)
  obtain ⟨ds, h1, h2⟩ := Lay.reps_at hr hx
  exact ⟨ad, xs[i], ds, e, hx, hb, hf, h1, fun j u hu => hh _ u (h2 j u hu)⟩
theorem Lay.rd_nil (A : Option Addr) : L.rd w F A 0 [] := ⟨rfl, [], rfl, fun h => absurd h (by omega)⟩
theorem Lay.rd_len {A : Option Addr} {n : Nat} {xs : List α} (h : L.rd w F A n xs) : xs.length = n := h.1
theorem Lay.reps_take : ∀ {xs : List α} {cs : List Value} (k : Nat), L.reps w F xs cs → L.reps w F (xs.take k) (cs.take (k * L.size))
  | [], _, k, h => by cases h; simp [Lay.reps]
  | x :: l, _, 0, h => by simp [Lay.reps]
  | x :: l, _, k + 1, h => by
    obtain ⟨c, d, rfl, hx, hy⟩ := h
    refine ⟨c, d.take (k * L.size), ?_, hx, Lay.reps_take k hy⟩
    rw [Nat.succ_mul, List.take_append, List.take_of_length_le (by rw [L.len hx]; omega), L.len hx, Nat.add_sub_cancel]
theorem Lay.reps_drop : ∀ {xs : List α} {cs : List Value} (k : Nat), L.reps w F xs cs → L.reps w F (xs.drop k) (cs.drop (k * L.size))
  | [], _, k, h => by cases h; simp [Lay.reps]
  | x :: l, _, 0, h => by simpa using h
  | x :: l, _, k + 1, h => by
    obtain ⟨c, d, rfl, hx, hy⟩ := h
    have := Lay.reps_drop k hy
    rw [Nat.succ_mul, List.drop_append, List.drop_of_length_le (l := c) (by rw [L.len hx]; omega), L.len hx, Nat.add_sub_cancel]
    simpa using this
theorem Lay.rd_take {A : Option Addr} {n : Nat} {xs : List α} (h : L.rd w F A n xs) {k : Nat} (hk : k ≤ n) : L.rd w F A k (xs.take k) := by
  obtain ⟨hl, cs, hr, hc⟩ := h
  refine ⟨by rw [List.length_take]; omega, _, Lay.reps_take k hr, fun hn => ?_⟩
  obtain ⟨ad, e, hb, hf, hh⟩ := hc (by omega)
  exact ⟨ad, e, hb, hf, fun j u hu => hh j u (by rw [List.getElem?_take] at hu; split at hu; exact hu; cases hu)⟩
theorem Lay.rd_cut {A : Option Addr} {n : Nat} {xs : List α} (h : L.rd w F A n xs) {k cap : Nat} (hk : k ≤ n) (hc : n ≤ cap) : L.rd w F (if cap = k then A else A.map (·.add (k * L.size))) (n - k) (xs.drop k) := by
  obtain ⟨hl, cs, hr, hcc⟩ := h
  refine ⟨by rw [List.length_drop]; omega, _, Lay.reps_drop k hr, fun hn => ?_⟩
  obtain ⟨ad, rfl, hb, hf, hh⟩ := hcc (by omega)
  rw [if_neg (by omega)]
  refine ⟨ad.add (k * L.size), rfl, by rw [block_of_add]; exact hb, by rw [block_of_add]; exact hf, fun j u hu => ?_⟩
  rw [add_of_add]
  exact hh _ u (by rw [← hu, List.getElem?_drop])
/-- a slice of such data, as data -/
def Lay.slice (L : Lay α) : Lay (List α) where
  size := 1
  rep := fun w F xs cs => ∃ A n c, cs = [.slice A n c] ∧ n ≤ c ∧ c ≤ 9223372036854775807 ∧ L.rd w F A n xs
  len := fun h => by obtain ⟨_, _, _, rfl, _⟩ := h; rfl
  one := fun h u hu => by obtain ⟨_, _, _, rfl, _⟩ := h; simp at hu; subst hu; rfl
  keep := fun hk h => by obtain ⟨A, n, c, e, h1, h2, hr⟩ := h; exact ⟨A, n, c, e, h1, h2, Lay.rd_keep hk hr⟩
  weak := fun hk h => by obtain ⟨A, n, c, e, h1, h2, hr⟩ := h; exact ⟨A, n, c, e, h1, h2, Lay.rd_weak hk hr⟩
/-- A slice that the call owns, from block B on; what its elements lead to lies elsewhere, and is among G. -/
def Lay.own (L : Lay α) (e : TypeId) (w : World) (B : Nat) (G : Nat → Prop) (A : Option Addr) (n c : Nat) (xs : List α) : Prop :=
  xs.length = n ∧ ∃ cs, L.reps w (fun b => G b ∧ (Value.slice A n c).ownBlock ≠ some b) xs cs ∧ w.ownsRow B e L.size (.slice A n c) n cs
variable {e : TypeId} {B n c : Nat} {A : Option Addr} {xs : List α}
theorem Lay.own_len (h : L.own e w B G A n c xs) : xs.length = n := h.1
theorem Lay.own_nil (w : World) (B : Nat) : L.own e w B G none 0 0 [] := ⟨rfl, [], rfl, World.ownsRow_nil _ _ _ _⟩
theorem ownsRow_below {v : Value} {s : Nat} {ys : List Value} (h : w.ownsRow B e s v n ys) (hb : Below w.heap.size w w') : w'.ownsRow B e s v n ys := by
  refine ⟨h.1, ?_⟩
  rcases h.2 with h2 | ⟨g, cap, cur, e, hg, hh, r⟩
  · exact .inl h2
  · have hlt : g < w.heap.size := by
      rcases Nat.lt_or_ge g w.heap.size with h | h
      · exact h
      · rw [Array.getElem?_eq_none h] at hh; cases hh
    exact .inr ⟨g, cap, cur, e, hg, (hb.block g hlt).trans hh, r⟩
theorem Lay.own_below (h : L.own e w B G A n c xs) (q : Below w.heap.size w w') : L.own e w' B G A n c xs := by
  obtain ⟨hl, cs, hr, ho⟩ := h
  exact ⟨hl, cs, Lay.reps_keep (fun b _ hb => q.block b hb) hr, ownsRow_below ho q⟩
theorem Lay.own_alloc (h : L.own e w B G A n c xs) (o : Obj) : L.own e (w.alloc o) B G A n c xs := Lay.own_below h ((Below.refl _ _).alloc (Nat.le_refl _) o)
theorem Lay.own_weak {G' : Nat → Prop} (hk : ∀ b, G b → b < w.heap.size → G' b) (h : L.own e w B G A n c xs) : L.own e w B G' A n c xs := by
  obtain ⟨hl, cs, hr, ho⟩ := h
  exact ⟨hl, cs, Lay.reps_weak (fun b hb hl => ⟨hk b hb.1 hl, hb.2⟩) hr, ho⟩
theorem own_base' {v : Value} {s : Nat} {ys : List Value} (h : w.ownsRow B e s v n ys) : ∀ k, v.ownBlock = some k → B ≤ k ∧ k < w.heap.size := by
  intro k hk
  rcases h.2 with ⟨rfl, _⟩ | ⟨g, cap, _, rfl, hg, hh, _⟩
  · simp [Value.ownBlock] at hk
  · have : g = k := by simpa [Value.ownBlock] using hk
    subst this
    refine ⟨hg, ?_⟩
    rcases Nat.lt_or_ge g w.heap.size with h | h
    · exact h
    · rw [Array.getElem?_eq_none h] at hh; cases hh
theorem Lay.own_rd (h : L.own e w B G A n c xs) (hB : ∀ b, B ≤ b → b < w.heap.size → F b) (hG : ∀ b, G b → b < w.heap.size → F b) : L.rd w F A n xs := by
  obtain ⟨hl, cs, hr, ho⟩ := h
  refine ⟨hl, cs, Lay.reps_weak (fun b hb hl => hG b hb.1 hl) hr, fun hn => ?_⟩
  obtain ⟨ad, e1, hb, hc⟩ := (Reads.of_own ho).2 hn
  obtain ⟨g, cap, hv, _, hlt⟩ := World.ownsRow.form ho hn
  have hA : A = some ⟨g, 0, none⟩ := by injection hv
  subst hA
  injection e1 with e1
  subst e1
  have hbs := own_base' ho g (by simp [Value.ownBlock])
  exact ⟨_, rfl, hb, hB _ hbs.1 hbs.2, hc⟩
theorem own_form' {v : Value} {s : Nat} {ys : List Value} (h : w.ownsRow B e s v n ys) : ∃ A c, v = .slice A n c := by
  rcases h.2 with ⟨rfl, rfl⟩ | ⟨g, cap, _, rfl, _⟩
  · exact ⟨_, _, rfl⟩
  · exact ⟨_, _, rfl⟩
theorem reads_blk {g : Nat} {t : TypeId} {vs : Array Value} {s m : Nat} {ys : List Value} (h : Blk w g t vs) (hl : vs.toList = ys) (hs : ys.length = m * s) : Reads w w.heap.size s (some ⟨g, 0, none⟩) m ys := by
  refine ⟨hs, fun _ => ⟨_, rfl, h.lt, fun j u hu => ?_⟩⟩
  have hadd : (⟨g, 0, none⟩ : Addr).add j = ⟨g, j, none⟩ := by unfold Addr.add; split <;> simp_all
  rw [hadd, h.cell j, ← hu, ← hl, Array.getElem?_toList]
/-- append(out, x): out the call's own, x in a block of its own -/
theorem wpList_appL {P : Program} {ops : Array Oper} {rest : List Oper} {o : Oper} {a : Act} {Q : Exit → Act → World → Prop} (hgd : o.guard = none) (s x : Operand) (t : TypeId)
    (ho : o.op = .call { callee := .builtin .append, args := #[s, x], argTypes := #[t, t] })
    (z : Value) (k bytes : Nat) (ht : P.underlying t = some (.slice e)) (hi : (P.info? e).map (fun i => (i.zero, i.size, i.bytes)) = some (some z, k, bytes)) (hk : L.size = k) (hzs : z.cells.size = k) (hk0 : 0 < k)
    (B : Nat) (G : Nat → Prop) (A : Option Addr) (n c : Nat) (xs : List α) (g c2 : Nat) (t' : TypeId) (vs : Array Value) (y : α)
    (hs : a.eval s = .slice A n c) (hx : a.eval x = .slice (some ⟨g, 0, none⟩) 1 c2) (hown : L.own e w B G A n c xs) (hr : Blk w g t' vs)
    (hy : L.rep w (fun b => G b ∧ (Value.slice A n c).ownBlock ≠ some b) y vs.toList) (hG : ∀ b, G b → b < w.heap.size) (hb : (n + 1) * bytes ≤ 140737488355328) (hn : n + 1 ≤ maxLen) (hB : B ≤ w.heap.size)
    (h : ∀ A' c' w', L.own e w' B G A' (n + 1) c' (xs ++ [y]) → Below B w w' → wpList P ops Q rest (a.put o.dst (.slice A' (n + 1) c')) w') : wpList P ops Q (o :: rest) a w := by
  obtain ⟨hl, cs, hreps, hrow⟩ := hown
  obtain ⟨i0, hi0, hz0, hz1, hz2⟩ := info_parts hi
  subst hk
  refine wpList_append_any w hgd s x t ho B e i0 _ L.size bytes ht hi0 hz0 hz1 hz2 hzs hk0 (.slice A n c) n cs hs hrow w.heap.size (some ⟨g, 0, none⟩) 1 c2 vs.toList hx (reads_blk hr rfl (by rw [L.len hy]; omega)) (L.one hy) hn hb hB ?_
  intro v' w' hown' hg hat
  obtain ⟨A', c', rfl⟩ := own_form' hown'
  have hne : ∀ b, G b → (Value.slice A n c).ownBlock ≠ some b → (Value.slice A' (n + 1) c').ownBlock ≠ some b := fun b hb hne => by
    rcases hat with hat | hat
    · rw [hat]; exact hne
    · rw [hat]; intro e; injection e with e; have := hG b hb; omega
  have hkeep : ∀ b, (G b ∧ (Value.slice A n c).ownBlock ≠ some b) → b < w.heap.size → w'.heap[b]? = w.heap[b]? := fun b hb hlt => hg.block b hlt (fun e => hb.2 e.symm)
  refine h A' c' w' ⟨by rw [List.length_append, hl]; rfl, cs ++ vs.toList, Lay.reps_append (Lay.reps_weak (fun b hb _ => ⟨hb.1, hne b hb.1 hb.2⟩) (Lay.reps_keep hkeep hreps)) (Lay.reps_single (L.weak (fun b hb _ => ⟨hb.1, hne b hb.1 hb.2⟩) (L.keep hkeep hy))), hown'⟩ ?_
  exact (Below.refl _ _).grown hg hB (fun k hk => (own_base' hrow k hk).1)
end
end Go.Proofs.YthgcdilkkldgjaaGreatDoor
/- Regions whose order Go leaves open, walked in one order: each operation that may come up yields the same value in every world that meets S, and leaves such a world. Conditions: none. -/
namespace Go.Proofs.YthgcdilkkldgjaaGreatDoor
open Go.RowKit
section
variable {P : Program} {ops : Array Oper} {Q : Exit → Act → World → Prop} {md : Region.Mode} {S : World → Prop}
/-- in every world that meets S the operation yields v, and leaves a world that meets S -/
def Runs (P : Program) (S : World → Prop) (o : Oper) (v : Value) (ρ : Operand → Value) : Prop :=
  ∀ w, S w → match (execOp ρ o).run P w with
    | .ok (.value u) w' => u = v ∧ S w'
    | .ok (.enter f args) w' => Calls P f args w' fun e w'' => e = .returned v ∧ S w''
    | _ => False
def StepsIf (P : Program) (ops : Array Oper) (S : World → Prop) (o : Oper) (v : Value) (a : Act) : Prop :=
  (Region.wanted o (yielded ops a.tmps) = true ∧ Runs P S o v a.eval) ∨ (Region.wanted o (yielded ops a.tmps) = false ∧ v = undef)
theorem StepsIf.of_same {o : Oper} {v : Value} {a a' : Act} (hy : StepsIf P ops S o v a) (he : execOp a'.eval o = execOp a.eval o)
    (hw : Region.wanted o (yielded ops a'.tmps) = Region.wanted o (yielded ops a.tmps)) : StepsIf P ops S o v a' := by
  unfold StepsIf Runs at *
  rw [he, hw]
  exact hy
theorem StepsIf.wpOp {i : Nat} {o : Oper} {v : Value} {a : Act} (hi : ops[i]? = some o) (hy : StepsIf P ops S o v a)
    {K : Act → World → Prop} {w : World} (hS : S w) (h : ∀ w', S w' → K (a.put o.dst v) w') : wpOp P ops Q i K a w := by
  unfold Go.wpOp
  simp only [hi]
  rcases hy with ⟨hw, hv⟩ | ⟨hw, rfl⟩
  · simp only [hw, if_true]
    refine .inl ?_
    have hr := hv w hS
    unfold Oper.wp
    generalize (execOp a.eval o).run P w = r at *
    cases r with
    | ok n w' =>
      cases n <;> simp only [Oper.upon] at hr ⊢
      case value u => obtain ⟨rfl, hs⟩ := hr; exact h _ hs
      case enter f args =>
        refine Calls.mono hr fun e w'' ⟨he, hs⟩ => ?_
        subst he
        exact h _ hs
    | halt x w' => exact hr.elim
  · simp only [hw, Bool.false_eq_true, if_false]; exact h _ hS
/-- Each operation that may come up steps so, whatever order is picked. -/
def Good (P : Program) (md : Region.Mode) (ops : Array Oper) (Q : Exit → Act → World → Prop) (S : World → Prop) : Nat → Array Bool → Act → Prop
  | 0, listed, a => Region.ready md ops listed = [] ∧ ∀ w, S w → Q .normal a w
  | f + 1, listed, a => (Region.ready md ops listed = [] → ∀ w, S w → Q .normal a w) ∧
    ∀ i ∈ Region.ready md ops listed, ∃ o v, ops[i]? = some o ∧ StepsIf P ops S o v a ∧ Good P md ops Q S f (listed.setIfInBounds i true) (a.put o.dst v)
theorem wpAny_of_good : ∀ (f : Nat) (listed : Array Bool) (a : Act), Good P md ops Q S f listed a → ∀ w, S w → wpAny P md ops Q f listed a w
  | 0, _, _, h, w, hS => ⟨h.1, h.2 w hS⟩
  | f + 1, listed, a, h, w, hS => ⟨fun e => h.1 e w hS, fun i hi => by
    obtain ⟨o, v, ho, hs, hg⟩ := h.2 i hi
    exact hs.wpOp ho hS fun w' hS' => wpAny_of_good f _ _ hg w' hS'⟩
theorem Good.first {i : Nat} {oi : Oper} {v : Value} (hi : ops[i]? = some oi) (hsel : ∀ (j : Nat) (o : Oper) cs b, ops[j]? = some o → o.op ≠ .select cs b) :
    ∀ (f : Nat) (listed : Array Bool) (a : Act),
      (∀ j oj, ops[j]? = some oj → j ≠ i → listed.getD j true = false → (∀ e ∈ oj.after, Region.binds md e = true → e.on ≠ i) → oi.apart ops oj = true) →
      i ∈ Region.ready md ops listed → StepsIf P ops S oi v a →
      Good P md ops Q S f (listed.setIfInBounds i true) (a.put oi.dst v) → Good P md ops Q S (f + 1) listed a := by
  intro f
  induction f with
  | zero =>
    intro listed a _ hr hy H
    refine ⟨fun h => (by rw [h] at hr; cases hr), fun j hj => ?_⟩
    by_cases hji : j = i
    · subst hji; exact ⟨oi, v, hi, hy, H⟩
    · have := ready_mono hj hji
      rw [H.1] at this
      cases this
  | succ f ih =>
    intro listed a hfree hr hy H
    refine ⟨fun h => (by rw [h] at hr; cases hr), fun j hj => ?_⟩
    by_cases hji : j = i
    · subst hji; exact ⟨oi, v, hi, hy, H⟩
    · obtain ⟨oj, u, hoj, hju, hg⟩ := H.2 j (ready_mono hj hji)
      obtain ⟨hjun, oj', hoj', hall⟩ := mem_ready.1 hj
      rw [hoj] at hoj'
      injection hoj' with hoj'
      subst hoj'
      have hnot : ∀ e ∈ oj.after, Region.binds md e = true → e.on ≠ i := fun e he hb heq => by
        have h1 := hall e he hb
        have h0 := (mem_ready.1 hr).1
        rw [heq] at h1
        rcases Nat.lt_or_ge i listed.size with h' | h'
        · simp [h'] at h0 h1; rw [h0] at h1; cases h1
        · simp [Array.getElem?_eq_none h'] at h1
      obtain ⟨h1, h2, h3⟩ := Oper.apart_spec (hfree j oj hoj hji hjun hnot)
      have hsi := fun cs b => hsel i oi cs b hi
      have hsj := fun cs b => hsel j oj cs b hoj
      have hju' : StepsIf P ops S oj u a := hju.of_same (execOp_put oj hsj a oi.dst v h1).symm (wanted_put oj a oi.dst v h1).symm
      have hy' : StepsIf P ops S oi v (a.put oj.dst u) := hy.of_same (execOp_put oi hsi a oj.dst u h3) (wanted_put oi a oj.dst u h3)
      have hfree' : ∀ k ok, ops[k]? = some ok → k ≠ i → (listed.setIfInBounds j true).getD k true = false →
          (∀ e ∈ ok.after, Region.binds md e = true → e.on ≠ i) → oi.apart ops ok = true := fun k ok hk hki hun hno => by
        refine hfree k ok hk hki ?_ hno
        by_cases hjk : j = k
        · subst hjk; exact hjun
        · rw [getD_set_ne true hjk] at hun; exact hun
      refine ⟨oj, u, hoj, hju', ih (listed.setIfInBounds j true) (a.put oj.dst u) hfree' (ready_mono hr (Ne.symm hji)) hy' ?_⟩
      rw [Array.setIfInBounds_comm _ _ hji, ← Act.put_comm a v u h2]
      exact hg
theorem Good.val {i : Nat} {oi : Oper} {v : Value} {f : Nat} {listed : Array Bool} {a : Act} {d : Option Tmp} (hi : ops[i]? = some oi) (hd : oi.dst = d)
    (hs : Region.noSelect ops = true) (hf : Region.free md ops listed i = true) (hr : (Region.ready md ops listed).contains i = true)
    (hw : Region.wanted oi (yielded ops a.tmps) = true) (hv : ∀ w, S w → (execOp a.eval oi).run P w = .ok (.value v) w)
    (h : Good P md ops Q S f (listed.setIfInBounds i true) (a.put d v)) : Good P md ops Q S (f + 1) listed a :=
  Good.first hi (Region.noSelect_spec hs) f listed a (Region.free_spec hi hf) (by simpa using hr) (.inl ⟨hw, fun w hS => by rw [hv w hS]; exact ⟨rfl, hS⟩⟩) (hd ▸ h)
theorem Good.call {i : Nat} {oi : Oper} {v : Value} {fn : FuncId} {args : Array Value} {f : Nat} {listed : Array Bool} {a : Act} {d : Option Tmp} (hi : ops[i]? = some oi) (hd : oi.dst = d)
    (hs : Region.noSelect ops = true) (hf : Region.free md ops listed i = true) (hr : (Region.ready md ops listed).contains i = true)
    (hw : Region.wanted oi (yielded ops a.tmps) = true) (hv : ∀ w, S w → (execOp a.eval oi).run P w = .ok (.enter fn args) w)
    (hc : ∀ w, S w → Calls P fn args w fun e w' => e = .returned v ∧ S w')
    (h : Good P md ops Q S f (listed.setIfInBounds i true) (a.put d v)) : Good P md ops Q S (f + 1) listed a :=
  Good.first hi (Region.noSelect_spec hs) f listed a (Region.free_spec hi hf) (by simpa using hr) (.inl ⟨hw, fun w hS => by rw [hv w hS]; exact hc w hS⟩) (hd ▸ h)
theorem Good.skip {i : Nat} {oi : Oper} {f : Nat} {listed : Array Bool} {a : Act} {d : Option Tmp} (hi : ops[i]? = some oi) (hd : oi.dst = d)
    (hs : Region.noSelect ops = true) (hf : Region.free md ops listed i = true) (hr : (Region.ready md ops listed).contains i = true)
    (hw : Region.wanted oi (yielded ops a.tmps) = false)
    (h : Good P md ops Q S f (listed.setIfInBounds i true) (a.put d undef)) : Good P md ops Q S (f + 1) listed a :=
  Good.first hi (Region.noSelect_spec hs) f listed a (Region.free_spec hi hf) (by simpa using hr) (.inr ⟨hw, rfl⟩) (hd ▸ h)
theorem Good.done {listed : Array Bool} {a : Act} (hr : Region.ready md ops listed = []) (h : ∀ w, S w → Q .normal a w) : ∀ f, Good P md ops Q S f listed a
  | 0 => ⟨hr, h⟩
  | _ + 1 => ⟨fun _ => h, by rw [hr]; simp⟩
theorem wp_region_lin {id : Nat} {a : Act} {w : World} (hm : P.follows .mixedOrders = true) (hS : S w.drew)
    (h : Good P .any ops Q S ops.size (Array.replicate ops.size false) a) : (Code.region id ops true).wp P Q a w :=
  wp_region_any hm (wpAny_of_good _ _ _ h _ hS)
end
section
variable {P : Program}
/-- the region's condition: the world grew -/
abbrev Grew (w0 : World) : World → Prop := fun w' => Below w0.heap.size w0 w'
theorem Grew.start (w : World) : Grew w w.drew := (Below.refl _ _).drew
theorem Grew.call {w0 : World} {fn : FuncId} {args : Array Value} {v : Value} (h : ∀ w, Below w0.heap.size w0 w → Calls P fn args w fun e w' => e = .returned v ∧ Below w.heap.size w w') :
    ∀ w, Grew w0 w → Calls P fn args w fun e w' => e = .returned v ∧ Grew w0 w' :=
  fun w q => (h w q).mono fun _ _ ⟨he, b⟩ => ⟨he, bl_ca q b⟩
end
end Go.Proofs.YthgcdilkkldgjaaGreatDoor
