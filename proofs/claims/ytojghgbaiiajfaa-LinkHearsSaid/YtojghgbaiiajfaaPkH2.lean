/- Data in memory, by what it is made of: how many cells, what they hold, and to which blocks it leads. Conditions: none. -/
import Derived.Test.YtojghgbaiiajfaaPkH1
import Derived.ProofKit
import Derived.OpenShut
import Derived.ShutString
import Derived.ChangeOld
import Derived.Deep.Slices
import Derived.ChangeSame
import Derived.Lib.MinMax
import Derived.Deep.LoopGhost
import Derived.Shelf.Abstract
namespace Go.Proofs.Ytojghgbaiiajfaa
open Go.RowKit
/-- How a kind of data lies in memory: so many cells; what they hold; the blocks that it leads to are among F. -/
structure Lay (α : Type) where
 size : Nat
 rep : World → (Nat → Prop) → α → List Value → Prop
 len : ∀ {w F a cs}, rep w F a cs → cs.length = size
 one : ∀ {w F a cs}, rep w F a cs → ∀ u ∈ cs, u.oneCell' = true
 keep : ∀ {w w' : World} {F : Nat → Prop} {a cs}, (∀ b, F b → b < w.heap.size → w'.heap[b]? = w.heap[b]?) → rep w F a cs → rep w' F a cs
 weak : ∀ {w F G a cs}, (∀ b, F b → b < w.heap.size → G b) → rep w F a cs → rep w G a cs
/-- data of one cell that leads nowhere -/
def Lay.cell {α : Type} (mk : α → Value) (h1 : ∀ a, (mk a).oneCell' = true) : Lay α where
 size := 1
 rep := fun _ _ a cs => cs = [mk a]
 len := fun h => by subst h; rfl
 one := fun {_ _ a _} h u hu => by subst h; simp at hu; subst hu; exact h1 a
 keep := fun _ h => h
 weak := fun _ h => h
/-- two kinds, one behind the other -/
def Lay.pair {α β : Type} (L : Lay α) (M : Lay β) : Lay (α × β) where
 size := L.size + M.size
 rep := fun w F p cs => ∃ x y, cs = x ++ y ∧ L.rep w F p.1 x ∧ M.rep w F p.2 y
 len := fun h => by obtain ⟨x, y, rfl, hx, hy⟩ := h; rw [List.length_append, L.len hx, M.len hy]
 one := fun h u hu => by
  obtain ⟨x, y, rfl, hx, hy⟩ := h
  rcases List.mem_append.1 hu with hu | hu
  · exact L.one hx u hu
  · exact M.one hy u hu
 keep := fun hk h => by obtain ⟨x, y, e, hx, hy⟩ := h; exact ⟨x, y, e, L.keep hk hx, M.keep hk hy⟩
 weak := fun hk h => by obtain ⟨x, y, e, hx, hy⟩ := h; exact ⟨x, y, e, L.weak hk hx, M.weak hk hy⟩
/-- a kind that is another one under other names -/
def Lay.as {α β : Type} (L : Lay α) (f : β → α) : Lay β where
 size := L.size
 rep := fun w F b cs => L.rep w F (f b) cs
 len := L.len
 one := L.one
 keep := L.keep
 weak := L.weak
/-- several, one behind the other -/
def Lay.reps {α : Type} (L : Lay α) (w : World) (F : Nat → Prop) : List α → List Value → Prop
 | [], cs => cs = []
 | a :: l, cs => ∃ x y, cs = x ++ y ∧ L.rep w F a x ∧ L.reps w F l y
section
variable {α : Type} {L : Lay α} {w w' : World} {F G : Nat → Prop}
theorem Lay.reps_len : ∀ {xs : List α} {cs : List Value}, L.reps w F xs cs → cs.length = xs.length * L.size
 | [], _, h => by cases h; simp
 | _ :: l, _, h => by
  obtain ⟨x, y, rfl, hx, hy⟩ := h
  rw [List.length_append, L.len hx, Lay.reps_len hy, List.length_cons, Nat.succ_mul, Nat.add_comm]
theorem Lay.reps_one : ∀ {xs : List α} {cs : List Value}, L.reps w F xs cs → ∀ u ∈ cs, u.oneCell' = true
 | [], _, h, u, hu => by cases h; cases hu
 | _ :: l, _, h, u, hu => by
  obtain ⟨x, y, rfl, hx, hy⟩ := h
  rcases List.mem_append.1 hu with hu | hu
  · exact L.one hx u hu
  · exact Lay.reps_one hy u hu
theorem Lay.reps_keep (hk : ∀ b, F b → b < w.heap.size → w'.heap[b]? = w.heap[b]?) : ∀ {xs : List α} {cs : List Value}, L.reps w F xs cs → L.reps w' F xs cs
 | [], _, h => h
 | _ :: l, _, h => by
  obtain ⟨x, y, e, hx, hy⟩ := h
  exact ⟨x, y, e, L.keep hk hx, Lay.reps_keep hk hy⟩
theorem Lay.reps_weak (hk : ∀ b, F b → b < w.heap.size → G b) : ∀ {xs : List α} {cs : List Value}, L.reps w F xs cs → L.reps w G xs cs
 | [], _, h => h
 | _ :: l, _, h => by
  obtain ⟨x, y, e, hx, hy⟩ := h
  exact ⟨x, y, e, L.weak hk hx, Lay.reps_weak hk hy⟩
theorem Lay.reps_append : ∀ {xs ys : List α} {cs ds : List Value}, L.reps w F xs cs → L.reps w F ys ds → L.reps w F (xs ++ ys) (cs ++ ds)
 | [], _, _, _, h, k => by cases h; exact k
 | _ :: l, _, _, _, h, k => by
  obtain ⟨x, y, rfl, hx, hy⟩ := h
  exact ⟨x, y ++ _, by rw [List.append_assoc], hx, Lay.reps_append hy k⟩
theorem Lay.reps_single {a : α} {cs : List Value} (h : L.rep w F a cs) : L.reps w F [a] cs := ⟨cs, [], by simp, h, rfl⟩
theorem Lay.reps_at : ∀ {xs : List α} {cs : List Value} {i : Nat} {a : α}, L.reps w F xs cs → xs[i]? = some a → ∃ ds, L.rep w F a ds ∧ ∀ j u, ds[j]? = some u → cs[i * L.size + j]? = some u
 | [], _, _, _, _, h => by simp at h
 | x :: l, _, i, a, h, k => by
  obtain ⟨c, d, rfl, hx, hy⟩ := h
  cases i with
  | zero =>
   simp at k
   subst k
   exact ⟨c, hx, fun j u hu => by rw [Nat.zero_mul, Nat.zero_add, List.getElem?_append_left (List.getElem?_eq_some_iff.1 hu).1]; exact hu⟩
  | succ i =>
   obtain ⟨ds, h1, h2⟩ := Lay.reps_at hy (show l[i]? = some a by simpa using k)
   refine ⟨ds, h1, fun j u hu => ?_⟩
   rw [List.getElem?_append_right (by rw [L.len hx, Nat.succ_mul]; omega), L.len hx, show (i + 1) * L.size + j - L.size = i * L.size + j from by rw [Nat.succ_mul]; omega]
   exact h2 j u hu
/-- the slice reads as these -/
def Lay.rd (L : Lay α) (w : World) (F : Nat → Prop) (A : Option Addr) (n : Nat) (xs : List α) : Prop :=
 xs.length = n ∧ ∃ cs, L.reps w F xs cs ∧ (0 < n → ∃ ad, A = some ad ∧ ad.block < w.heap.size ∧ F ad.block ∧ ∀ j u, cs[j]? = some u → w.cell? (ad.add j) = some u)
theorem cell_of_heap {p : Addr} (h : w'.heap[p.block]? = w.heap[p.block]?) : w'.cell? p = w.cell? p := by unfold World.cell?; rw [h]
theorem lt_of_same {b : Nat} (h : w'.heap[b]? = w.heap[b]?) (hb : b < w.heap.size) : b < w'.heap.size := by
 rcases Nat.lt_or_ge b w'.heap.size with h' | h'
 · exact h'
 · rw [Array.getElem?_eq_none h', Array.getElem?_eq_getElem hb] at h; cases h
theorem Lay.rd_keep {A : Option Addr} {n : Nat} {xs : List α} (hk : ∀ b, F b → b < w.heap.size → w'.heap[b]? = w.heap[b]?) (h : L.rd w F A n xs) : L.rd w' F A n xs := by
 obtain ⟨hl, cs, hr, hc⟩ := h
 refine ⟨hl, cs, Lay.reps_keep hk hr, fun hn => ?_⟩
 obtain ⟨ad, e, hb, hf, hh⟩ := hc hn
 exact ⟨ad, e, lt_of_same (hk _ hf hb) hb, hf, fun j u hu => (cell_of_heap (by rw [block_of_add]; exact hk _ hf hb)).trans (hh j u hu)⟩
theorem Lay.rd_below {A : Option Addr} {n : Nat} {xs : List α} (h : L.rd w F A n xs) (q : Below w.heap.size w w') : L.rd w' F A n xs := Lay.rd_keep (fun b _ hb => q.block b hb) h
theorem Lay.rd_weak {A : Option Addr} {n : Nat} {xs : List α} (hk : ∀ b, F b → b < w.heap.size → G b) (h : L.rd w F A n xs) : L.rd w G A n xs := by
 obtain ⟨hl, cs, hr, hc⟩ := h
 refine ⟨hl, cs, Lay.reps_weak hk hr, fun hn => ?_⟩
 obtain ⟨ad, e, hb, hf, hh⟩ := hc hn
 exact ⟨ad, e, hb, hk _ hf hb, hh⟩
theorem Lay.rd_at {A : Option Addr} {n i : Nat} {xs : List α} (h : L.rd w F A n xs) (hi : i < n) : ∃ ad x cs, A = some ad ∧ xs[i]? = some x ∧ ad.block < w.heap.size ∧ F ad.block ∧ L.rep w F x cs ∧ ∀ j u, cs[j]? = some u → w.cell? (ad.add (i * L.size + j)) = some u := by
 obtain ⟨hl, cs, hr, hc⟩ := h
 obtain ⟨ad, e, hb, hf, hh⟩ := hc (by omega)
 have hx : xs[i]? = some xs[i] := List.getElem?_eq_getElem (by omega)
 obtain ⟨ds, h1, h2⟩ := Lay.reps_at hr hx
 exact ⟨ad, xs[i], ds, e, hx, hb, hf, h1, fun j u hu => hh _ u (h2 j u hu)⟩
theorem Lay.rd_nil (A : Option Addr) : L.rd w F A 0 [] := ⟨rfl, [], rfl, fun h => absurd h (by omega)⟩
theorem Lay.rd_len {A : Option Addr} {n : Nat} {xs : List α} (h : L.rd w F A n xs) : xs.length = n := h.1
theorem Lay.reps_take : ∀ {xs : List α} {cs : List Value} (k : Nat), L.reps w F xs cs → L.reps w F (xs.take k) (cs.take (k * L.size))
 | [], _, k, h => by cases h; simp [Lay.reps]
 | x :: l, _, 0, h => by simp [Lay.reps]
 | x :: l, _, k + 1, h => by
  obtain ⟨c, d, rfl, hx, hy⟩ := h
  refine ⟨c, d.take (k * L.size), ?_, hx, Lay.reps_take k hy⟩
  rw [Nat.succ_mul, List.take_append, List.take_of_length_le (by rw [L.len hx]; omega), L.len hx, Nat.add_sub_cancel]
theorem Lay.reps_drop : ∀ {xs : List α} {cs : List Value} (k : Nat), L.reps w F xs cs → L.reps w F (xs.drop k) (cs.drop (k * L.size))
 | [], _, k, h => by cases h; simp [Lay.reps]
 | x :: l, _, 0, h => by simpa using h
 | x :: l, _, k + 1, h => by
  obtain ⟨c, d, rfl, hx, hy⟩ := h
  have := Lay.reps_drop k hy
  rw [Nat.succ_mul, List.drop_append, List.drop_of_length_le (l := c) (by rw [L.len hx]; omega), L.len hx, Nat.add_sub_cancel]
  simpa using this
theorem Lay.rd_take {A : Option Addr} {n : Nat} {xs : List α} (h : L.rd w F A n xs) {k : Nat} (hk : k ≤ n) : L.rd w F A k (xs.take k) := by
 obtain ⟨hl, cs, hr, hc⟩ := h
 refine ⟨by rw [List.length_take]; omega, _, Lay.reps_take k hr, fun hn => ?_⟩
 obtain ⟨ad, e, hb, hf, hh⟩ := hc (by omega)
 exact ⟨ad, e, hb, hf, fun j u hu => hh j u (by rw [List.getElem?_take] at hu; split at hu; exact hu; cases hu)⟩
theorem Lay.rd_cut {A : Option Addr} {n : Nat} {xs : List α} (h : L.rd w F A n xs) {k cap : Nat} (hk : k ≤ n) (hc : n ≤ cap) : L.rd w F (if cap = k then A else A.map (·.add (k * L.size))) (n - k) (xs.drop k) := by
 obtain ⟨hl, cs, hr, hcc⟩ := h
 refine ⟨by rw [List.length_drop]; omega, _, Lay.reps_drop k hr, fun hn => ?_⟩
 obtain ⟨ad, rfl, hb, hf, hh⟩ := hcc (by omega)
 rw [if_neg (by omega)]
 refine ⟨ad.add (k * L.size), rfl, by rw [block_of_add]; exact hb, by rw [block_of_add]; exact hf, fun j u hu => ?_⟩
 rw [add_of_add]
 exact hh _ u (by rw [← hu, List.getElem?_drop])
/-- a slice of such data, as data -/
def Lay.slice (L : Lay α) : Lay (List α) where
 size := 1
 rep := fun w F xs cs => ∃ A n c, cs = [.slice A n c] ∧ n ≤ c ∧ c ≤ 9223372036854775807 ∧ L.rd w F A n xs
 len := fun h => by obtain ⟨_, _, _, rfl, _⟩ := h; rfl
 one := fun h u hu => by obtain ⟨_, _, _, rfl, _⟩ := h; simp at hu; subst hu; rfl
 keep := fun hk h => by obtain ⟨A, n, c, e, h1, h2, hr⟩ := h; exact ⟨A, n, c, e, h1, h2, Lay.rd_keep hk hr⟩
 weak := fun hk h => by obtain ⟨A, n, c, e, h1, h2, hr⟩ := h; exact ⟨A, n, c, e, h1, h2, Lay.rd_weak hk hr⟩
/-- A slice that the call owns, from block B on; what its elements lead to lies elsewhere, and is among G. -/
def Lay.own (L : Lay α) (e : TypeId) (w : World) (B : Nat) (G : Nat → Prop) (A : Option Addr) (n c : Nat) (xs : List α) : Prop :=
 xs.length = n ∧ ∃ cs, L.reps w (fun b => G b ∧ (Value.slice A n c).ownBlock ≠ some b) xs cs ∧ w.ownsRow B e L.size (.slice A n c) n cs
variable {e : TypeId} {B n c : Nat} {A : Option Addr} {xs : List α}
theorem Lay.own_len (h : L.own e w B G A n c xs) : xs.length = n := h.1
theorem Lay.own_nil (w : World) (B : Nat) : L.own e w B G none 0 0 [] := ⟨rfl, [], rfl, World.ownsRow_nil _ _ _ _⟩
theorem ownsRow_below {v : Value} {s : Nat} {ys : List Value} (h : w.ownsRow B e s v n ys) (hb : Below w.heap.size w w') : w'.ownsRow B e s v n ys := by
 refine ⟨h.1, ?_⟩
 rcases h.2 with h2 | ⟨g, cap, cur, e, hg, hh, r⟩
 · exact .inl h2
 · have hlt : g < w.heap.size := by
   rcases Nat.lt_or_ge g w.heap.size with h | h
   · exact h
   · rw [Array.getElem?_eq_none h] at hh; cases hh
  exact .inr ⟨g, cap, cur, e, hg, (hb.block g hlt).trans hh, r⟩
theorem Lay.own_below (h : L.own e w B G A n c xs) (q : Below w.heap.size w w') : L.own e w' B G A n c xs := by
 obtain ⟨hl, cs, hr, ho⟩ := h
 exact ⟨hl, cs, Lay.reps_keep (fun b _ hb => q.block b hb) hr, ownsRow_below ho q⟩
theorem Lay.own_alloc (h : L.own e w B G A n c xs) (o : Obj) : L.own e (w.alloc o) B G A n c xs := Lay.own_below h ((Below.refl _ _).alloc (Nat.le_refl _) o)
theorem Lay.own_weak {G' : Nat → Prop} (hk : ∀ b, G b → b < w.heap.size → G' b) (h : L.own e w B G A n c xs) : L.own e w B G' A n c xs := by
 obtain ⟨hl, cs, hr, ho⟩ := h
 exact ⟨hl, cs, Lay.reps_weak (fun b hb hl => ⟨hk b hb.1 hl, hb.2⟩) hr, ho⟩
theorem own_base' {v : Value} {s : Nat} {ys : List Value} (h : w.ownsRow B e s v n ys) : ∀ k, v.ownBlock = some k → B ≤ k ∧ k < w.heap.size := by
 intro k hk
 rcases h.2 with ⟨rfl, _⟩ | ⟨g, cap, _, rfl, hg, hh, _⟩
 · simp [Value.ownBlock] at hk
 · have : g = k := by simpa [Value.ownBlock] using hk
  subst this
  refine ⟨hg, ?_⟩
  rcases Nat.lt_or_ge g w.heap.size with h | h
  · exact h
  · rw [Array.getElem?_eq_none h] at hh; cases hh
theorem Lay.own_rd (h : L.own e w B G A n c xs) (hB : ∀ b, B ≤ b → b < w.heap.size → F b) (hG : ∀ b, G b → b < w.heap.size → F b) : L.rd w F A n xs := by
 obtain ⟨hl, cs, hr, ho⟩ := h
 refine ⟨hl, cs, Lay.reps_weak (fun b hb hl => hG b hb.1 hl) hr, fun hn => ?_⟩
 obtain ⟨ad, e1, hb, hc⟩ := (Reads.of_own ho).2 hn
 obtain ⟨g, cap, hv, _, hlt⟩ := World.ownsRow.form ho hn
 have hA : A = some ⟨g, 0, none⟩ := by injection hv
 subst hA
 injection e1 with e1
 subst e1
 have hbs := own_base' ho g (by simp [Value.ownBlock])
 exact ⟨_, rfl, hb, hB _ hbs.1 hbs.2, hc⟩
theorem own_form' {v : Value} {s : Nat} {ys : List Value} (h : w.ownsRow B e s v n ys) : ∃ A c, v = .slice A n c := by
 rcases h.2 with ⟨rfl, rfl⟩ | ⟨g, cap, _, rfl, _⟩
 · exact ⟨_, _, rfl⟩
 · exact ⟨_, _, rfl⟩
theorem reads_blk {g : Nat} {t : TypeId} {vs : Array Value} {s m : Nat} {ys : List Value} (h : Blk w g t vs) (hl : vs.toList = ys) (hs : ys.length = m * s) : Reads w w.heap.size s (some ⟨g, 0, none⟩) m ys := by
 refine ⟨hs, fun _ => ⟨_, rfl, h.lt, fun j u hu => ?_⟩⟩
 have hadd : (⟨g, 0, none⟩ : Addr).add j = ⟨g, j, none⟩ := by unfold Addr.add; split <;> simp_all
 rw [hadd, h.cell j, ← hu, ← hl, Array.getElem?_toList]
/-- append(out, x): out the call's own, x in a block of its own -/
theorem wpList_appL {P : Program} {ops : Array Oper} {rest : List Oper} {o : Oper} {a : Act} {Q : Exit → Act → World → Prop} (hgd : o.guard = none) (s x : Operand) (t : TypeId)
  (ho : o.op = .call { callee := .builtin .append, args := #[s, x], argTypes := #[t, t] })
  (z : Value) (k bytes : Nat) (ht : P.underlying t = some (.slice e)) (hi : (P.info? e).map (fun i => (i.zero, i.size, i.bytes)) = some (some z, k, bytes)) (hk : L.size = k) (hzs : z.cells.size = k) (hk0 : 0 < k)
  (B : Nat) (G : Nat → Prop) (A : Option Addr) (n c : Nat) (xs : List α) (g c2 : Nat) (t' : TypeId) (vs : Array Value) (y : α)
  (hs : a.eval s = .slice A n c) (hx : a.eval x = .slice (some ⟨g, 0, none⟩) 1 c2) (hown : L.own e w B G A n c xs) (hr : Blk w g t' vs)
  (hy : L.rep w (fun b => G b ∧ (Value.slice A n c).ownBlock ≠ some b) y vs.toList) (hG : ∀ b, G b → b < w.heap.size) (hb : (n + 1) * bytes ≤ 140737488355328) (hn : n + 1 ≤ maxLen) (hB : B ≤ w.heap.size)
  (h : ∀ A' c' w', L.own e w' B G A' (n + 1) c' (xs ++ [y]) → Below B w w' → wpList P ops Q rest (a.put o.dst (.slice A' (n + 1) c')) w') : wpList P ops Q (o :: rest) a w := by
 obtain ⟨hl, cs, hreps, hrow⟩ := hown
 obtain ⟨i0, hi0, hz0, hz1, hz2⟩ := info_parts hi
 subst hk
 refine wpList_append_any w hgd s x t ho B e i0 _ L.size bytes ht hi0 hz0 hz1 hz2 hzs hk0 (.slice A n c) n cs hs hrow w.heap.size (some ⟨g, 0, none⟩) 1 c2 vs.toList hx (reads_blk hr rfl (by rw [L.len hy]; omega)) (L.one hy) hn hb hB ?_
 intro v' w' hown' hg hat
 obtain ⟨A', c', rfl⟩ := own_form' hown'
 have hne : ∀ b, G b → (Value.slice A n c).ownBlock ≠ some b → (Value.slice A' (n + 1) c').ownBlock ≠ some b := fun b hb hne => by
  rcases hat with hat | hat
  · rw [hat]; exact hne
  · rw [hat]; intro e; injection e with e; have := hG b hb; omega
 have hkeep : ∀ b, (G b ∧ (Value.slice A n c).ownBlock ≠ some b) → b < w.heap.size → w'.heap[b]? = w.heap[b]? := fun b hb hlt => hg.block b hlt (fun e => hb.2 e.symm)
 refine h A' c' w' ⟨by rw [List.length_append, hl]; rfl, cs ++ vs.toList, Lay.reps_append (Lay.reps_weak (fun b hb _ => ⟨hb.1, hne b hb.1 hb.2⟩) (Lay.reps_keep hkeep hreps)) (Lay.reps_single (L.weak (fun b hb _ => ⟨hb.1, hne b hb.1 hb.2⟩) (L.keep hkeep hy))), hown'⟩ ?_
 exact (Below.refl _ _).grown hg hB (fun k hk => (own_base' hrow k hk).1)
end
end Go.Proofs.Ytojghgbaiiajfaa
/- Arguments, by what they are made of: what an argument's cells hold. Conditions: none. -/
namespace Go.Proofs.Ytojghgbaiiajfaa
open Go.ChangeShapes Go.WideShapes Go.ChangeAt Go.RowKit Go.Deep
def AllB : Nat → Prop := fun _ => True
/-- whatever is laid of type t reads as such data -/
def Opens (P : Program) {α : Type} (t : TypeId) (L : Lay α) (G : α → Prop) : Prop :=
 P.cellsOf t = L.size ∧ ∀ {H : Type} (enc : TypeId × Value → H) (w : World) (fuel : Nat) (cs : List Value) (x : DataW H × List MemPlace),
  DataW.trod enc P w 0 (fun _ => true) true fuel t cs = some x → ∃ a, L.rep w AllB a cs ∧ G a
section
variable {P : Program} {t : TypeId}
theorem opens_int {k : IntKind} (ht : P.underlying t = some (.int k)) (hc : P.cellsOf t = 1) : Opens P t (Lay.cell (Value.int k) (fun _ => rfl)) (fun n => (Lit.int k n).wf = true) :=
 ⟨hc, fun enc w fuel cs x h => by obtain ⟨n, e, _, wf⟩ := DataW.trod_int ht h; exact ⟨n, e, wf⟩⟩
theorem opens_bool (ht : P.underlying t = some .bool) (hc : P.cellsOf t = 1) : Opens P t (Lay.cell Value.bool (fun _ => rfl)) (fun _ => True) :=
 ⟨hc, fun enc w fuel cs x h => by obtain ⟨n, e, _⟩ := DataW.trod_bool ht h; exact ⟨n, e, trivial⟩⟩
theorem opens_str (ht : P.underlying t = some .string) (hc : P.cellsOf t = 1) : Opens P t (Lay.cell Value.string (fun _ => rfl)) (fun s => s.size ≤ maxLen) :=
 ⟨hc, fun enc w fuel cs x h => by obtain ⟨n, e, _, wf⟩ := DataW.trod_string ht h; exact ⟨n, e, wf⟩⟩
theorem lays_of {α : Type} {L : Lay α} {w : World} {F : Nat → Prop} {G : α → Prop} {a : Addr} : ∀ (n : Nat), (∀ i, i < n → ∃ x cs, L.rep w F x cs ∧ G x ∧ ∀ j u, cs[j]? = some u → w.cell? (a.add (i * L.size + j)) = some u) →
  ∃ xs cs, xs.length = n ∧ L.reps w F xs cs ∧ (∀ x ∈ xs, G x) ∧ ∀ j u, cs[j]? = some u → w.cell? (a.add j) = some u
 | 0, _ => ⟨[], [], rfl, rfl, by simp, by simp⟩
 | n + 1, h => by
  obtain ⟨xs, cs, hl, hr, hg, hc⟩ := lays_of n (fun i hi => h i (by omega))
  obtain ⟨x, ds, hx, gx, hd⟩ := h n (by omega)
  refine ⟨xs ++ [x], cs ++ ds, by simp [hl], Lay.reps_append hr (Lay.reps_single hx), ?_, fun j u hu => ?_⟩
  · intro y hy
   rcases List.mem_append.1 hy with hy | hy
   · exact hg y hy
   · rw [List.mem_singleton.1 hy]; exact gx
  · have hcl := Lay.reps_len hr
   rw [hl] at hcl
   rcases Nat.lt_or_ge j cs.length with hj | hj
   · rw [List.getElem?_append_left hj] at hu; exact hc j u hu
   · rw [List.getElem?_append_right hj] at hu
    have := hd _ u hu
    rwa [show n * L.size + (j - cs.length) = j from by rw [hcl] at hj ⊢; omega] at this
theorem cells_block {w : World} {p : Addr} {v : Value} (h : w.cell? p = some v) : p.block < w.heap.size := by
 unfold World.cell? at h
 rcases Nat.lt_or_ge p.block w.heap.size with h' | h'
 · exact h'
 · rw [Array.getElem?_eq_none h'] at h; cases h
theorem opens_slice {α : Type} {L : Lay α} {G : α → Prop} {e : TypeId} (ht : P.underlying t = some (.slice e)) (hc : P.cellsOf t = 1) (hp : 0 < L.size) (ho : Opens P e L G) :
  Opens P t L.slice (fun xs => ∀ x ∈ xs, G x) := by
 refine ⟨hc, fun enc w fuel cs x h => ?_⟩
 obtain ⟨hs, ho⟩ := ho
 rcases open_slice ht h with ⟨hcs, _⟩ | ⟨a, len, cap, m, n, D, Pl, hcs, _, hl, hm, hmm, _, hi⟩
 · exact ⟨[], ⟨none, 0, 0, hcs, Nat.le_refl _, by omega, Lay.rd_nil _⟩, by simp⟩
 · simp only [if_true] at hmm
  obtain ⟨xs, cs', hxl, hr, hg, hcc⟩ := lays_of (L := L) (w := w) (F := AllB) (G := G) (a := a) len (fun i hil => by
   obtain ⟨cs', h1, h2⟩ := hi i (by omega)
   obtain ⟨y, hy, gy⟩ := ho enc w n cs' _ h2
   obtain ⟨_, hlen, hat⟩ := World.cells?_some h1
   refine ⟨y, cs', hy, gy, fun j u hu => ?_⟩
   have hj : j < cs'.length := (List.getElem?_eq_some_iff.1 hu).1
   rw [← hs, ← Go.Deep.add_add, hat j (by omega), hu])
  refine ⟨xs, ⟨some a, len, cap, hcs, hl, hm, hxl, cs', hr, fun hn => ⟨a, rfl, ?_, trivial, hcc⟩⟩, hg⟩
  have hcl := Lay.reps_len hr
  have h0 : cs'[0]? = some (cs'[0]'(by rw [hcl, hxl]; exact Nat.mul_pos hn hp)) := List.getElem?_eq_getElem _
  have := cells_block (hcc 0 _ h0)
  rwa [show (a.add 0).block = a.block from by unfold Addr.add; split <;> rfl] at this
/-- the fields from one on -/
def OpensAt (P : Program) {α : Type} (fs : Array Field) (off : Nat) (L : Lay α) (G : α → Prop) : Prop :=
 ∀ {H : Type} (enc : TypeId × Value → H) (w : World) (fuel : Nat) (cs : List Value), cs.length = off + L.size →
  (∀ (j : Nat) (f : Field), fs[j]? = some f → ∃ x, DataW.trod enc P w 0 (fun _ => true) true fuel f.type ((cs.drop f.offset).take (P.cellsOf f.type)) = some x) → ∃ a, L.rep w AllB a (cs.drop off) ∧ G a
theorem opensAt_last {α : Type} {L : Lay α} {G : α → Prop} {fs : Array Field} {off : Nat} (i : Nat) (ft : TypeId) (hf : (fs[i]?).map (fun f => (f.type, f.offset)) = some (ft, off)) (ho : Opens P ft L G) : OpensAt P fs off L G := by
 intro H enc w fuel cs hl h
 obtain ⟨f, hfi, hfe⟩ := Option.map_eq_some_iff.1 hf
 injection hfe with e1 e2
 obtain ⟨x, hx⟩ := h i f hfi
 rw [e1, e2, ho.1, List.take_of_length_le (by rw [List.length_drop]; omega)] at hx
 exact ho.2 enc w fuel _ x hx
theorem opensAt_cons {α β : Type} {L : Lay α} {G : α → Prop} {M : Lay β} {G' : β → Prop} {fs : Array Field} {off : Nat} (i : Nat) (ft : TypeId) (hf : (fs[i]?).map (fun f => (f.type, f.offset)) = some (ft, off)) (ho : Opens P ft L G) (h2 : OpensAt P fs (off + L.size) M G') :
  OpensAt P fs off (L.pair M) (fun p => G p.1 ∧ G' p.2) := by
 intro H enc w fuel cs hl h
 obtain ⟨f, hfi, hfe⟩ := Option.map_eq_some_iff.1 hf
 injection hfe with e1 e2
 obtain ⟨x, hx⟩ := h i f hfi
 rw [e1, e2, ho.1] at hx
 obtain ⟨a, ra, ga⟩ := ho.2 enc w fuel _ x hx
 obtain ⟨b, rb, gb⟩ := h2 enc w fuel cs (by rw [hl]; exact (Nat.add_assoc _ _ _).symm) h
 refine ⟨(a, b), ⟨_, _, ?_, ra, rb⟩, ga, gb⟩
 rw [← List.drop_drop]
 exact (List.take_append_drop _ _).symm
theorem opens_struct {α : Type} {L : Lay α} {G : α → Prop} {fs : Array Field} (ht : P.underlying t = some (.struct fs)) (hc : P.cellsOf t = L.size) (h : OpensAt P fs 0 L G) : Opens P t L G := by
 refine ⟨hc, fun enc w fuel cs x hx => ?_⟩
 obtain ⟨xs, n, _, _, hl, hxl, hf⟩ := DataW.trod_struct ht hx
 have := h enc w n cs (by rw [hl, hc, Nat.zero_add]) (fun j f hj => by
  have hjl : j < fs.size := (Array.getElem?_eq_some_iff.1 hj).1
  exact ⟨xs[j]'(by omega), (hf j f hj).trans (List.getElem?_eq_getElem _)⟩)
 simpa using this
theorem opens_as {α β : Type} {L : Lay α} {G : α → Prop} {M : Lay β} {G' : β → Prop} (h : Opens P t L G) (hs : L.size = M.size) (hm : ∀ w a cs, L.rep w AllB a cs → G a → ∃ b, M.rep w AllB b cs ∧ G' b) : Opens P t M G' :=
 ⟨h.1.trans hs, fun enc w fuel cs x hx => by obtain ⟨a, ra, ga⟩ := h.2 enc w fuel cs x hx; exact hm w a cs ra ga⟩
/-- an argument that is a slice -/
theorem open_arg {α : Type} {L : Lay α} {G : List α → Prop} (ho : Opens P t L.slice G) {H : Type} {enc : TypeId × Value → H} {W : World} {A : Option Addr} {n c : Nat} {d : DataW H} {p : List MemPlace}
  (h : DataW.Trod enc P W 0 (fun _ => true) true t (.slice A n c) d p) : ∃ xs, L.rd W AllB A n xs ∧ G xs ∧ n ≤ c ∧ c ≤ 9223372036854775807 := by
 obtain ⟨fuel, hf⟩ := h
 obtain ⟨xs, ⟨A', n', c', e, h1, h2, h3⟩, g⟩ := ho.2 enc W fuel _ _ hf
 simp [Value.cells] at e
 obtain ⟨rfl, rfl, rfl⟩ := e
 exact ⟨xs, h3, g, h1, h2⟩
end
end Go.Proofs.Ytojghgbaiiajfaa
/- Values, rows, batches, packets and the ends of a link in memory. Conditions: none. -/
namespace Go.Proofs.Ytojghgbaiiajfaa
open Go.RowKit
theorem addr_more (a : Addr) (i j : Nat) (hj : 0 < j) : a.add (i + j) = ⟨(a.add i).block, (a.add i).off + j, none⟩ := by
 unfold Addr.add
 by_cases h : i = 0
 · subst h; simp; omega
 · simp [h]; omega
def LV : Lay VV where
 size := 4
 rep := fun _ _ v cs => cs = [.int .i64 v.k, .int .i64 v.n, .int .u64 v.u, .string v.s]
 len := fun h => by subst h; rfl
 one := fun h u hu => by subst h; simp at hu; rcases hu with rfl | rfl | rfl | rfl <;> rfl
 keep := fun _ h => h
 weak := fun _ h => h
/-- a value lies at this place -/
structure SV (w : World) (p : Addr) (v : VV) : Prop where
 c0 : w.cell? p = some (.int .i64 v.k)
 c1 : w.cell? ⟨p.block, p.off + 1, none⟩ = some (.int .i64 v.n)
 c2 : w.cell? ⟨p.block, p.off + 2, none⟩ = some (.int .u64 v.u)
 c3 : w.cell? ⟨p.block, p.off + 3, none⟩ = some (.string v.s)
theorem LV_at {w : World} {F : Nat → Prop} {A : Option Addr} {n i : Nat} {xs : List VV} (h : LV.rd w F A n xs) (hi : i < n) : ∃ ad x, A = some ad ∧ xs[i]? = some x ∧ SV w (ad.add (i * 4)) x := by
 obtain ⟨ad, x, cs, e, hx, _, _, rfl, hc⟩ := Lay.rd_at h hi
 refine ⟨ad, x, e, hx, ⟨hc 0 _ rfl, ?_, ?_, ?_⟩⟩
 · rw [← addr_more _ _ 1 (by omega)]; exact hc 1 _ rfl
 · rw [← addr_more _ _ 2 (by omega)]; exact hc 2 _ rfl
 · rw [← addr_more _ _ 3 (by omega)]; exact hc 3 _ rfl
abbrev LR : Lay (List VV) := LV.slice
theorem LR_at {w : World} {F : Nat → Prop} {A : Option Addr} {n i : Nat} {xs : List (List VV)} (h : LR.rd w F A n xs) (hi : i < n) :
  ∃ ad r B k c, A = some ad ∧ xs[i]? = some r ∧ w.cell? (ad.add i) = some (.slice B k c) ∧ k ≤ c ∧ c ≤ 9223372036854775807 ∧ LV.rd w F B k r := by
 obtain ⟨ad, r, cs, e, hr, hb, _, ⟨B, k, c, rfl, h1, h2, h3⟩, hc⟩ := Lay.rd_at h hi
 refine ⟨ad, r, B, k, c, e, hr, ?_, h1, h2, h3⟩
 have := hc 0 _ rfl
 rwa [show i * LR.size + 0 = i from by show i * 1 + 0 = i; omega] at this
/-- a batch -/
structure BC where
 rows : List (List VV)
 fin : Bool
 cnt : Int
def LB3 : Lay BC where
 size := 3
 rep := fun w F b cs => ∃ A n c, cs = [.slice A n c, .bool b.fin, .int .u64 b.cnt] ∧ n ≤ c ∧ c ≤ 9223372036854775807 ∧ LR.rd w F A n b.rows
 len := fun h => by obtain ⟨A, n, c, rfl, _⟩ := h; rfl
 one := fun h u hu => by obtain ⟨A, n, c, rfl, _⟩ := h; simp at hu; rcases hu with rfl | rfl | rfl <;> rfl
 keep := fun hk h => by obtain ⟨A, n, c, e, h1, h2, hr⟩ := h; exact ⟨A, n, c, e, h1, h2, Lay.rd_keep hk hr⟩
 weak := fun hk h => by obtain ⟨A, n, c, e, h1, h2, hr⟩ := h; exact ⟨A, n, c, e, h1, h2, Lay.rd_weak hk hr⟩
/-- a batch lies at this place -/
structure SB (w : World) (F : Nat → Prop) (p : Addr) (b : BC) (B : Option Addr) (n c : Nat) : Prop where
 c0 : w.cell? p = some (.slice B n c)
 c1 : w.cell? ⟨p.block, p.off + 1, none⟩ = some (.bool b.fin)
 c2 : w.cell? ⟨p.block, p.off + 2, none⟩ = some (.int .u64 b.cnt)
 nc : n ≤ c
 cm : c ≤ 9223372036854775807
 rd : LR.rd w F B n b.rows
theorem LB3_at {w : World} {F : Nat → Prop} {A : Option Addr} {n i : Nat} {xs : List BC} (h : LB3.rd w F A n xs) (hi : i < n) : ∃ ad b B k c, A = some ad ∧ xs[i]? = some b ∧ SB w F (ad.add (i * 3)) b B k c := by
 obtain ⟨ad, b, cs, e, hx, _, _, ⟨B, k, c, rfl, h1, h2, hr⟩, hc⟩ := Lay.rd_at h hi
 refine ⟨ad, b, B, k, c, e, hx, ⟨hc 0 _ rfl, ?_, ?_, h1, h2, hr⟩⟩
 · rw [← addr_more _ _ 1 (by omega)]; exact hc 1 _ rfl
 · rw [← addr_more _ _ 2 (by omega)]; exact hc 2 _ rfl
/-- a batch that came ahead -/
structure HC where
 seq : Int
 b : BC
def LH4 : Lay HC where
 size := 4
 rep := fun w F h cs => ∃ A n c, cs = [.int .u64 h.seq, .slice A n c, .bool h.b.fin, .int .u64 h.b.cnt] ∧ n ≤ c ∧ c ≤ 9223372036854775807 ∧ LR.rd w F A n h.b.rows
 len := fun h => by obtain ⟨A, n, c, rfl, _⟩ := h; rfl
 one := fun h u hu => by obtain ⟨A, n, c, rfl, _⟩ := h; simp at hu; rcases hu with rfl | rfl | rfl | rfl <;> rfl
 keep := fun hk h => by obtain ⟨A, n, c, e, h1, h2, hr⟩ := h; exact ⟨A, n, c, e, h1, h2, Lay.rd_keep hk hr⟩
 weak := fun hk h => by obtain ⟨A, n, c, e, h1, h2, hr⟩ := h; exact ⟨A, n, c, e, h1, h2, Lay.rd_weak hk hr⟩
structure SH (w : World) (F : Nat → Prop) (p : Addr) (h : HC) (B : Option Addr) (n c : Nat) : Prop where
 c0 : w.cell? p = some (.int .u64 h.seq)
 c1 : w.cell? ⟨p.block, p.off + 1, none⟩ = some (.slice B n c)
 c2 : w.cell? ⟨p.block, p.off + 2, none⟩ = some (.bool h.b.fin)
 c3 : w.cell? ⟨p.block, p.off + 3, none⟩ = some (.int .u64 h.b.cnt)
 nc : n ≤ c
 cm : c ≤ 9223372036854775807
 rd : LR.rd w F B n h.b.rows
theorem LH4_at {w : World} {F : Nat → Prop} {A : Option Addr} {n i : Nat} {xs : List HC} (h : LH4.rd w F A n xs) (hi : i < n) : ∃ ad b B k c, A = some ad ∧ xs[i]? = some b ∧ SH w F (ad.add (i * 4)) b B k c := by
 obtain ⟨ad, b, cs, e, hx, _, _, ⟨B, k, c, rfl, h1, h2, hr⟩, hc⟩ := Lay.rd_at h hi
 refine ⟨ad, b, B, k, c, e, hx, ⟨hc 0 _ rfl, ?_, ?_, ?_, h1, h2, hr⟩⟩
 · rw [← addr_more _ _ 1 (by omega)]; exact hc 1 _ rfl
 · rw [← addr_more _ _ 2 (by omega)]; exact hc 2 _ rfl
 · rw [← addr_more _ _ 3 (by omega)]; exact hc 3 _ rfl
/-- a packet -/
structure PK where
 kind : Int
 ses : Int
 seq : Int
 lim : Int
 b : BC
def LP7 : Lay PK where
 size := 7
 rep := fun w F p cs => ∃ A n c, cs = [.int .i64 p.kind, .int .u32 p.ses, .int .u64 p.seq, .int .u64 p.lim, .slice A n c, .bool p.b.fin, .int .u64 p.b.cnt] ∧ n ≤ c ∧ c ≤ 9223372036854775807 ∧ LR.rd w F A n p.b.rows
 len := fun h => by obtain ⟨A, n, c, rfl, _⟩ := h; rfl
 one := fun h u hu => by obtain ⟨A, n, c, rfl, _⟩ := h; simp at hu; rcases hu with rfl | rfl | rfl | rfl | rfl | rfl | rfl <;> rfl
 keep := fun hk h => by obtain ⟨A, n, c, e, h1, h2, hr⟩ := h; exact ⟨A, n, c, e, h1, h2, Lay.rd_keep hk hr⟩
 weak := fun hk h => by obtain ⟨A, n, c, e, h1, h2, hr⟩ := h; exact ⟨A, n, c, e, h1, h2, Lay.rd_weak hk hr⟩
/-- a sender -/
structure SC where
 ses : Int
 base : Int
 q : List BC
 sent : Int
 lim : Int
 timer : Int
 ended : Bool
/-- a receiver -/
structure RC where
 ses : Int
 next : Int
 ahead : List HC
 buf : List BC
 room : Int
 over : Bool
abbrev BC.cells (b : BC) (A : Option Addr) (n c : Nat) : Array Value := #[.slice A n c, .bool b.fin, .int .u64 b.cnt]
abbrev PK.cells (p : PK) (A : Option Addr) (n c : Nat) : Array Value := #[.int .i64 p.kind, .int .u32 p.ses, .int .u64 p.seq, .int .u64 p.lim, .slice A n c, .bool p.b.fin, .int .u64 p.b.cnt]
abbrev SC.cells (s : SC) (A : Option Addr) (n c : Nat) : Array Value := #[.int .u32 s.ses, .int .u64 s.base, .slice A n c, .int .u64 s.sent, .int .u64 s.lim, .int .i64 s.timer, .bool s.ended]
abbrev RC.cells (r : RC) (A : Option Addr) (n c : Nat) (B : Option Addr) (m d : Nat) : Array Value := #[.int .u32 r.ses, .int .u64 r.next, .slice A n c, .slice B m d, .int .i64 r.room, .bool r.over]
theorem ret_bool {a b : Bool} (h : a = b) : Ending.returned (.bool a) = .returned (.bool b) := by rw [h]
theorem ret_int {k : IntKind} {a b : Int} (h : a = b) : Ending.returned (.int k a) = .returned (.int k b) := by rw [h]
def idxL {α : Type} (f : α → Bool) (xs : List α) : Int := if xs.any f then (xs.findIdx f : Int) else -1
theorem idxL_at {α : Type} {f : α → Bool} {xs : List α} {i : Nat} {x : α} (hp : xs[i]? = some x) (hx : f x = true) (hlo : ∀ (k : Nat) (q : α), k < i → xs[k]? = some q → f q = false) : idxL f xs = i := by
 obtain ⟨hl, he⟩ := List.getElem?_eq_some_iff.1 hp
 have h1 : xs.any f = true := List.any_eq_true.2 ⟨x, List.mem_of_getElem? hp, hx⟩
 have h2 : xs.findIdx f = i := (List.findIdx_eq hl).2 ⟨by rw [he]; exact hx, fun j hj => hlo j xs[j] hj (List.getElem?_eq_getElem (by omega))⟩
 unfold idxL
 rw [h1, h2]; rfl
theorem idxL_no {α : Type} {f : α → Bool} {xs : List α} (hlo : ∀ (k : Nat) (q : α), k < xs.length → xs[k]? = some q → f q = false) : idxL f xs = -1 := by
 have h1 : xs.any f = false := List.any_eq_false.2 fun p hp => by
  obtain ⟨k, hk⟩ := List.mem_iff_getElem?.1 hp
  rw [hlo k p (List.getElem?_eq_some_iff.1 hk).1 hk]
  simp
 unfold idxL
 rw [h1]; rfl
theorem idxL_has {α : Type} (f : α → Bool) (xs : List α) : decide (0 ≤ idxL f xs) = xs.any f := by
 unfold idxL
 cases xs.any f <;> simp
end Go.Proofs.Ytojghgbaiiajfaa
/- slices.IndexFunc and ContainsFunc over values and rows. Conditions: the slice reads as these; what is handed over answers for each and turns no memory that was there. -/
namespace Go.Proofs.Ytojghgbaiiajfaa
open Go.RowKit
/-- what is handed over: a test of a value -/
def TestV (D : FuncId) (cap : Array Value) (f : VV → Bool) (G : World → Prop) : Prop :=
 ∀ (q : VV)  (W : World), G W → Calls Try.prog D (#[.agg #[.int .i64 q.k, .int .i64 q.n, .int .u64 q.u, .string q.s]] ++ cap) W fun e w' => e = .returned (.bool (f q)) ∧ Below W.heap.size W w'
set_option maxRecDepth 100000 in
set_option maxHeartbeats 4000000 in
theorem indexV (F : Nat → Prop) (A : Option Addr) (m c : Nat) (xs : List VV) (D : FuncId) (cap : Array Value) (f : VV → Bool) (w : World) (h : LV.rd w F A m xs) (hm : m ≤ 9223372036854775807)
  (hent : ∀ (args : Array Value) (w : World), (callFunc D args).run Try.prog w = .ok (.enter D args) w) (hD : TestV D cap f (fun W => Below w.heap.size w W)) :
  Calls Try.prog 133 #[.slice A m c, .func (.func D) #[] cap] w fun e w' => e = .returned (.int .i64 (idxL f xs)) ∧ Below w.heap.size w w' := by
 have HL := Lib.hid h.1
 have HEN := hent
 have HD := Lib.hid hD
 clear hent hD
 go_enter Try.func133, Try.ntmps133
 go_wp2_with fail
 go_loopg [8] m (fun g a wr => ∃ i : Nat, i + g = m ∧ a = .int .i64 i ∧ (∀ (k : Nat) (q : VV), k < i → xs[k]? = some q → f q = false) ∧ Below w.heap.size w wr)
 case atStart => exact ⟨0, by omega, rfl, fun k q hk => by omega, Below.refl _ _⟩
 case round =>
  obtain ⟨i, hig, rfl, hlo, bb⟩ := hrel
  have HLO := Lib.hid hlo
  have HBB := Lib.hid bb
  clear hlo
  by_cases hlt : i < m
  · have hi1 : (i : Int) < (m : Int) := by omega
   obtain ⟨p, q, rfl, hx, s1⟩ := LV_at (Lay.rd_below h bb) hlt
   have e0 := s1.c0
   have e1 := s1.c1
   have e2 := s1.c2
   have e3 := s1.c3
   have HX := Lib.hid hx
   have HC := Lib.hid (HD.out q  wr bb )
   clear hx s1 bb
   cases hq : f q
   · rw [hq] at HC
    have HF := Lib.hid (show ∀ (k : Nat) (r : VV), k < i + 1 → xs[k]? = some r → f r = false from fun k r hk hr => by
     rcases Nat.lt_or_ge k i with h1 | h1
     · exact HLO.out k r h1 hr
     · obtain rfl : k = i := by omega
      have h2 := HX.out
      rw [hr] at h2
      injection h2 with h2
      subst h2
      exact hq)
    clear hq
    go_wp2_with fail
    refine HC.out.mono ?_
    rintro e w2 ⟨rfl, q2⟩
    have b2 := bl_ca HBB.out q2
    clear q2
    go_wp2
    go_roundg (gk - 1)
    · exact ⟨i + 1, by omega, by go_num, HF.out, b2⟩
    · omega
   · rw [hq] at HC
    have HF := Lib.hid (idxL_at HX.out hq HLO.out)
    clear hq
    go_wp2_with fail
    refine HC.out.mono ?_
    rintro e w2 ⟨rfl, q2⟩
    have b2 := bl_ca HBB.out q2
    clear q2
    go_wp2
    go_ret
    exact ⟨ret_int (by rw [HF.out]), b2⟩
  · obtain rfl : i = m := by omega
   have hi1 : (i : Int) ≤ (i : Int) := by omega
   have HF := Lib.hid (idxL_no (fun k q hk => HLO.out k q (by rw [← HL.out]; exact hk)))
   clear bb
   go_wp2
   go_ret
   exact ⟨ret_int (by rw [HF.out]), HBB.out⟩
set_option maxRecDepth 100000 in
theorem containsV (F : Nat → Prop) (A : Option Addr) (m c : Nat) (xs : List VV) (D : FuncId) (cap : Array Value) (f : VV → Bool) (w : World) (h : LV.rd w F A m xs) (hm : m ≤ 9223372036854775807)
  (hent : ∀ (args : Array Value) (w : World), (callFunc D args).run Try.prog w = .ok (.enter D args) w) (hD : TestV D cap f (fun W => Below w.heap.size w W)) :
  Calls Try.prog 131 #[.slice A m c, .func (.func D) #[] cap] w fun e w' => e = .returned (.bool (xs.any f)) ∧ Below w.heap.size w w' := by
 have HI := Lib.hid (indexV F A m c xs D cap f w h hm hent hD)
 have HE := Lib.hid (idxL_has f xs)
 clear h hent hD
 generalize idxL f xs = z at *
 go_enter Try.func131, Try.ntmps131
 go_wp2_with fail
 refine HI.out.mono ?_
 rintro e w2 ⟨rfl, q2⟩
 have HQ := Lib.hid q2
 clear q2
 go_wp2
 go_ret
 exact ⟨ret_bool (by rw [← HE.out]), HQ.out⟩
/-- what is handed over: a test of a row -/
def TestR (F0 : Nat → Prop) (D : FuncId) (cap : Array Value) (f : (List VV) → Bool) (G : World → Prop) : Prop :=
 ∀ (q : (List VV)) (B : Option Addr) (k d : Nat) (W : World), G W → LV.rd W F0 B k q → k ≤ 9223372036854775807 → Calls Try.prog D (#[.slice B k d] ++ cap) W fun e w' => e = .returned (.bool (f q)) ∧ Below W.heap.size W w'
set_option maxRecDepth 100000 in
set_option maxHeartbeats 4000000 in
theorem indexR (F : Nat → Prop) (A : Option Addr) (m c : Nat) (xs : List (List VV)) (D : FuncId) (cap : Array Value) (f : (List VV) → Bool) (w : World) (h : LR.rd w F A m xs) (hm : m ≤ 9223372036854775807)
  (hent : ∀ (args : Array Value) (w : World), (callFunc D args).run Try.prog w = .ok (.enter D args) w) (hD : TestR F D cap f (fun W => Below w.heap.size w W)) :
  Calls Try.prog 125 #[.slice A m c, .func (.func D) #[] cap] w fun e w' => e = .returned (.int .i64 (idxL f xs)) ∧ Below w.heap.size w w' := by
 have HL := Lib.hid h.1
 have HEN := hent
 have HD := Lib.hid hD
 clear hent hD
 go_enter Try.func125, Try.ntmps125
 go_wp2_with fail
 go_loopg [8] m (fun g a wr => ∃ i : Nat, i + g = m ∧ a = .int .i64 i ∧ (∀ (k : Nat) (q : (List VV)), k < i → xs[k]? = some q → f q = false) ∧ Below w.heap.size w wr)
 case atStart => exact ⟨0, by omega, rfl, fun k q hk => by omega, Below.refl _ _⟩
 case round =>
  obtain ⟨i, hig, rfl, hlo, bb⟩ := hrel
  have HLO := Lib.hid hlo
  have HBB := Lib.hid bb
  clear hlo
  by_cases hlt : i < m
  · have hi1 : (i : Int) < (m : Int) := by omega
   obtain ⟨p, q, B, k, d, rfl, hx, e0, hk1, hk2, hr⟩ := LR_at (Lay.rd_below h bb) hlt

   have HX := Lib.hid hx
   have HC := Lib.hid (HD.out q B k d wr bb hr (Nat.le_trans hk1 hk2))
   clear hx hr hk1 hk2 bb
   cases hq : f q
   · rw [hq] at HC
    have HF := Lib.hid (show ∀ (k : Nat) (r : (List VV)), k < i + 1 → xs[k]? = some r → f r = false from fun k r hk hr => by
     rcases Nat.lt_or_ge k i with h1 | h1
     · exact HLO.out k r h1 hr
     · obtain rfl : k = i := by omega
      have h2 := HX.out
      rw [hr] at h2
      injection h2 with h2
      subst h2
      exact hq)
    clear hq
    go_wp2_with fail
    refine HC.out.mono ?_
    rintro e w2 ⟨rfl, q2⟩
    have b2 := bl_ca HBB.out q2
    clear q2
    go_wp2
    go_roundg (gk - 1)
    · exact ⟨i + 1, by omega, by go_num, HF.out, b2⟩
    · omega
   · rw [hq] at HC
    have HF := Lib.hid (idxL_at HX.out hq HLO.out)
    clear hq
    go_wp2_with fail
    refine HC.out.mono ?_
    rintro e w2 ⟨rfl, q2⟩
    have b2 := bl_ca HBB.out q2
    clear q2
    go_wp2
    go_ret
    exact ⟨ret_int (by rw [HF.out]), b2⟩
  · obtain rfl : i = m := by omega
   have hi1 : (i : Int) ≤ (i : Int) := by omega
   have HF := Lib.hid (idxL_no (fun k q hk => HLO.out k q (by rw [← HL.out]; exact hk)))
   clear bb
   go_wp2
   go_ret
   exact ⟨ret_int (by rw [HF.out]), HBB.out⟩
set_option maxRecDepth 100000 in
theorem containsR (F : Nat → Prop) (A : Option Addr) (m c : Nat) (xs : List (List VV)) (D : FuncId) (cap : Array Value) (f : (List VV) → Bool) (w : World) (h : LR.rd w F A m xs) (hm : m ≤ 9223372036854775807)
  (hent : ∀ (args : Array Value) (w : World), (callFunc D args).run Try.prog w = .ok (.enter D args) w) (hD : TestR F D cap f (fun W => Below w.heap.size w W)) :
  Calls Try.prog 116 #[.slice A m c, .func (.func D) #[] cap] w fun e w' => e = .returned (.bool (xs.any f)) ∧ Below w.heap.size w w' := by
 have HI := Lib.hid (indexR F A m c xs D cap f w h hm hent hD)
 have HE := Lib.hid (idxL_has f xs)
 clear h hent hD
 generalize idxL f xs = z at *
 go_enter Try.func116, Try.ntmps116
 go_wp2_with fail
 refine HI.out.mono ?_
 rintro e w2 ⟨rfl, q2⟩
 have HQ := Lib.hid q2
 clear q2
 go_wp2
 go_ret
 exact ⟨ret_bool (by rw [← HE.out]), HQ.out⟩
end Go.Proofs.Ytojghgbaiiajfaa
/- Which rows and batches may be: row.Check, link.rows, link.batch, link.inRow, link.ends. Conditions: the slices read so. -/
namespace Go.Proofs.Ytojghgbaiiajfaa
open Go.RowKit
def rowOk (r : List VV) : Bool := decide ((r.length : Int) ≤ 16) && !(r.any fun v => !v.ok)
theorem not_any {α : Type} (f : α → Bool) (l : List α) : (!(l.any fun x => !f x)) = l.all f := by
 induction l with
 | nil => rfl
 | cons x l ih => rw [List.any_cons, List.all_cons, ← ih]; cases f x <;> rfl
set_option maxRecDepth 100000 in
theorem wrong_any (w0 : World) : TestV 129 #[] (fun v => !v.ok) (fun W => Below w0.heap.size w0 W) := by
 intro q W _
 show Calls Try.prog 129 #[.agg #[.int .i64 q.k, .int .i64 q.n, .int .u64 q.u, .string q.s]] W fun e w' => e = .returned (.bool (!q.ok)) ∧ Below W.heap.size W w'
 have b1 := bl_al (Below.refl W.heap.size W) (.cells #[.int .i64 q.k, .int .i64 q.n, .int .u64 q.u, .string q.s] 142)
 have HC := Lib.hid (fun W => check_any q.k q.n q.u q.s W)
 have hok : q.ok = rightB q.k q.n q.u q.s := rfl
 rw [hok]
 clear hok
 generalize rightB q.k q.n q.u q.s = b at *
 cases b
 all_goals
  go_enter Try.func129, Try.ntmps129
  go_wp2_with fail
  refine (HC.out _).mono ?_
  rintro e w1 ⟨rfl, q1⟩
  have HB := Lib.hid (bl_ca b1 q1)
  clear q1
  go_wp2
  go_ret
  exact ⟨rfl, HB.out⟩
set_option maxRecDepth 100000 in
theorem rright_any (F : Nat → Prop) (A : Option Addr) (m c : Nat) (r : List VV) (w : World) (h : LV.rd w F A m r) (hm : m ≤ 9223372036854775807) :
  Calls Try.prog 126 #[.slice A m c] w fun e w' => e = .returned (.bool (rowOk r)) ∧ Below w.heap.size w w' := by
 have HC := Lib.hid (containsV F A m c r 129 #[] (fun v => !v.ok) w h hm (Go.Proofs.enters_of Try.func129 (by kernel_rfl) rfl) (wrong_any w))
 have HR := Lib.hid (show rowOk r = (decide ((m : Int) ≤ 16) && !(r.any fun v => !v.ok)) from by unfold rowOk; rw [Lay.rd_len h])
 clear h
 generalize (r.any fun v => !v.ok) = b at *
 by_cases hl : m ≤ 16
 · have h1 : (m : Int) ≤ 16 := by omega
  rw [show decide ((m : Int) ≤ 16) = true from by simpa using h1] at HR
  go_enter Try.func126, Try.ntmps126
  go_wp2_with fail
  refine HC.out.mono ?_
  rintro e w1 ⟨rfl, q1⟩
  have HB := Lib.hid q1
  clear q1
  go_wp2
  go_ret
  exact ⟨ret_bool (by rw [HR.out]; rfl), HB.out⟩
 · have h1 : (16 : Int) < (m : Int) := by omega
  rw [show decide ((m : Int) ≤ 16) = false from by simp; omega] at HR
  go_enter Try.func126, Try.ntmps126
  go_wp2
  go_ret
  exact ⟨ret_bool (by rw [HR.out]; rfl), Below.refl _ _⟩
set_option maxRecDepth 100000 in
theorem rcheck_any (F : Nat → Prop) (A : Option Addr) (m c : Nat) (r : List VV) (w : World) (h : LV.rd w F A m r) (hm : m ≤ 9223372036854775807) :
  Calls Try.prog 118 #[.slice A m c] w fun e w' => e = .returned (.int .i64 (if rowOk r then 0 else 150)) ∧ Below w.heap.size w w' := by
 have HC := Lib.hid (rright_any F A m c r w h hm)
 clear h
 generalize rowOk r = b at *
 cases b
 all_goals
  go_enter Try.func118, Try.ntmps118
  go_wp2_with fail
  refine HC.out.mono ?_
  rintro e w1 ⟨rfl, q1⟩
  have HB := Lib.hid q1
  clear q1
  go_wp2
  go_ret
  exact ⟨rfl, HB.out⟩
set_option maxRecDepth 100000 in
theorem wrongR_any (F : Nat → Prop) (w0 : World) : TestR F 117 #[] (fun r => !rowOk r) (fun W => Below w0.heap.size w0 W) := by
 intro q B k d W _ hr hk
 show Calls Try.prog 117 #[.slice B k d] W fun e w' => e = .returned (.bool (!rowOk q)) ∧ Below W.heap.size W w'
 have HC := Lib.hid (rcheck_any F B k d q W hr hk)
 clear hr
 generalize rowOk q = b at *
 cases b
 all_goals
  go_enter Try.func117, Try.ntmps117
  go_wp2_with fail
  refine HC.out.mono ?_
  rintro e w1 ⟨rfl, q1⟩
  have HB := Lib.hid q1
  clear q1
  go_wp2
  go_ret
  exact ⟨rfl, HB.out⟩
def rowsOk (l : List (List VV)) : Bool := decide (0 < (l.length : Int)) && decide ((l.length : Int) ≤ 4) && !(l.any fun r => !rowOk r)
set_option maxRecDepth 100000 in
theorem rows_any (F : Nat → Prop) (A : Option Addr) (m c : Nat) (l : List (List VV)) (w : World) (h : LR.rd w F A m l) (hm : m ≤ 9223372036854775807) :
  Calls Try.prog 98 #[.slice A m c] w fun e w' => e = .returned (.bool (rowsOk l)) ∧ Below w.heap.size w w' := by
 have HC := Lib.hid (containsR F A m c l 117 #[] (fun r => !rowOk r) w h hm (Go.Proofs.enters_of Try.func117 (by kernel_rfl) rfl) (wrongR_any F w))
 have HR := Lib.hid (show rowsOk l = (decide (0 < (m : Int)) && decide ((m : Int) ≤ 4) && !(l.any fun r => !rowOk r)) from by unfold rowsOk; rw [Lay.rd_len h])
 clear h
 generalize (l.any fun r => !rowOk r) = b at *
 by_cases h0 : 0 < m
 · have h1 : (0 : Int) < (m : Int) := by omega
  rw [show decide (0 < (m : Int)) = true from by simpa using h0] at HR
  by_cases hl : m ≤ 4
  · have h2 : (m : Int) ≤ 4 := by omega
   rw [show decide ((m : Int) ≤ 4) = true from by simpa using h2] at HR
   go_enter Try.func98, Try.ntmps98
   go_wp2_with fail
   refine HC.out.mono ?_
   rintro e w1 ⟨rfl, q1⟩
   have HB := Lib.hid q1
   clear q1
   go_wp2
   go_ret
   exact ⟨ret_bool (by rw [HR.out]; rfl), HB.out⟩
  · have h2 : (4 : Int) < (m : Int) := by omega
   rw [show decide ((m : Int) ≤ 4) = false from by simp; omega] at HR
   go_enter Try.func98, Try.ntmps98
   go_wp2
   go_ret
   exact ⟨ret_bool (by rw [HR.out]; rfl), Below.refl _ _⟩
 · obtain rfl : m = 0 := by omega
  go_enter Try.func98, Try.ntmps98
  go_wp2
  go_ret
  exact ⟨ret_bool (by rw [HR.out]; rfl), Below.refl _ _⟩
def sesB (n : Int) : Bool := decide (1 ≤ n) && decide (n ≤ 2147483647)
set_option maxRecDepth 100000 in
theorem session_any (n : Int) (w : World) : Calls Try.prog 49 #[.int .u32 n] w fun e w' => e = .returned (.bool (sesB n)) ∧ w = w' := by
 have HR := Lib.hid (show sesB n = (decide (1 ≤ n) && decide (n ≤ 2147483647)) from rfl)
 generalize sesB n = r at *
 go_enter Try.func49, Try.ntmps49
 go_wp2
 all_goals
  go_ret
  exact ⟨ret_bool (by rw [HR.out]; simp [*] <;> omega), rfl⟩
def batchB (b : BC) (seq : Int) : Bool :=
 decide (1 ≤ seq) && decide (seq ≤ 1099511627776) && (if b.fin then decide ((b.rows.length : Int) = 0) && (b.cnt == seq - 1) else (b.cnt == 0) && rowsOk b.rows)
set_option maxRecDepth 100000 in
set_option maxHeartbeats 4000000 in
theorem batch_any (F : Nat → Prop) (b : BC) (A : Option Addr) (n c : Nat) (seq : Int) (w : World) (h : LR.rd w F A n b.rows) (hn : n ≤ 9223372036854775807) :
  Calls Try.prog 71 #[.agg (b.cells A n c), .int .u64 seq] w fun e w' => e = .returned (.bool (batchB b seq)) ∧ Below w.heap.size w w' := by
 have b1 := bl_al (Below.refl w.heap.size w) (.cells (b.cells A n c) 45)
 have HL := Lib.hid (Lay.rd_len h)
 have HRW := Lib.hid (rows_any F A n c b.rows _ (Lay.rd_below h b1) hn)
 have HB := Lib.hid b1
 have HR := Lib.hid (show batchB b seq = _ from rfl)
 clear h b1
 by_cases h1 : 1 ≤ seq
 · by_cases h2 : seq ≤ 1099511627776
  · have d1 : decide (seq < 1) = false := by simp; omega
   have d2 : decide ((1099511627776 : Int) < seq) = false := by simp; omega
   unfold batchB at HR ⊢
   obtain ⟨rows, fin, cnt⟩ := b
   dsimp only at *
   rw [show decide (1 ≤ seq) = true from by simpa using h1, show decide (seq ≤ 1099511627776) = true from by simpa using h2]
   rw [HL.out]
   clear HR
   cases fin
   · generalize rowsOk rows = ok at *
    clear h1 h2
    by_cases hc : cnt = 0
    · subst hc
     go_enter Try.func71, Try.ntmps71
     go_wp2_with fail
     refine HRW.out.mono ?_
     rintro e w2 ⟨rfl, q2⟩
     have HB2 := Lib.hid (bl_ca HB.out q2)
     clear q2
     go_wp2
     go_ret
     exact ⟨ret_bool (by simp), HB2.out⟩
    · have d3 : (cnt == 0) = false := by simpa using hc
     clear hc
     go_enter Try.func71, Try.ntmps71
     go_wp2
     go_ret
     exact ⟨ret_bool rfl, HB.out⟩
   · rcases Nat.eq_zero_or_pos n with h0 | h0
    · subst h0
     have hsq : IntKind.u64.wrap (seq - 1) = seq - 1 := by simp [IntKind.wrap, IntKind.signed, IntKind.bits]; omega
     generalize hz : seq - 1 = z at *
     go_enter Try.func71, Try.ntmps71
     go_wp2
     go_ret
     exact ⟨ret_bool (by simp), HB.out⟩
    · have d3 : ((n : Int) == 0) = false := by simp; omega
     clear h1 h2
     go_enter Try.func71, Try.ntmps71
     go_wp2
     go_ret
     exact ⟨ret_bool (by simp; omega), HB.out⟩
  · have d1 : decide (seq < 1) = false := by simp; omega
   have d2 : decide ((1099511627776 : Int) < seq) = true := by simp; omega
   have HF := Lib.hid (show batchB b seq = false from by unfold batchB; rw [show decide (seq ≤ 1099511627776) = false from by simpa using h2]; simp)
   clear HR h1 h2
   go_enter Try.func71, Try.ntmps71
   go_wp2
   go_ret
   exact ⟨ret_bool HF.out.symm, HB.out⟩
 · have d1 : decide (seq < 1) = true := by simp; omega
  have HF := Lib.hid (show batchB b seq = false from by unfold batchB; rw [show decide (1 ≤ seq) = false from by simpa using h1]; simp)
  clear HR h1
  go_enter Try.func71, Try.ntmps71
  go_wp2
  go_ret
  exact ⟨ret_bool HF.out.symm, HB.out⟩
end Go.Proofs.Ytojghgbaiiajfaa
