/- A pair behind an append to a row of its own. Conditions: none. -/
import Derived.Test.YtojghgbaiiajfaaPkE10
namespace Go.Proofs.Ytojghgbaiiajfaa
open Go.RowKit
theorem SeqN.le (pre post : List Nat) {T : World → Prop} {B : Nat → (Nat → Value) → World → Prop} {L : Array Bool} {m : Nat → Value} {w : World} (hd : ∀ x ∈ post, Dn L x = false) (t : ∀ j m w, j ≤ pre.length → B j m w → T w) (hS : SeqN (pre ++ post) B L m w) : T w := by
 refine t _ _ _ ?_ hS
 rw [cntD_append, cntD_none hd, Nat.add_zero]
 have : ∀ ks : List Nat, cntD L ks ≤ ks.length := fun ks => by
  induction ks with
  | nil => exact Nat.le_refl _
  | cons k ks ih => unfold cntD; rw [List.length_cons]; split <;> omega
 exact this pre
theorem Lay.ownO_weak2 {α : Type} {L : Lay α} {e : TypeId} {w : World} {B n c : Nat} {G G' : Nat → Prop} {A : Option Addr} {xs : List α} (hk : ∀ b, G b → ob A ≠ some b → b < w.heap.size → G' b) (h : L.ownO e w B G A n c xs) : L.ownO e w B G' A n c xs := by
 obtain ⟨hl, cs, hr, ho⟩ := h
 exact ⟨hl, cs, Lay.reps_weak (fun b hb hl => ⟨hk b hb.1 (by rw [← ob_slice A n c]; exact hb.2) hl, hb.2⟩) hr, ho⟩
section
variable {B0 g : Nat} {w w1 w2 : World} {s s' : SC} {r r' : RC} {way : List PK} {put taken : List BC} {A : Option Addr} {n c : Nat} {A2 : Option Addr} {n2 c2 : Nat} {A3 : Option Addr} {n3 c3 : Nat} {A4 : Option Addr} {n4 c4 : Nat} {A5 : Option Addr} {n5 c5 : Nat} {A6 : Option Addr} {n6 c6 : Nat}
/-- behind a new row of what is way, and a store into the pair -/
theorem PM.away (h : PM B0 g w s r way put taken A n c A2 n2 c2 A3 n3 c3 A4 n4 c4 A5 n5 c5 A6 n6 c6) {X : Option Addr} {m x : Nat} {xs : List PK} {A' : Option Addr} {n' c' : Nat} {A2' : Option Addr} {n2' c2' : Nat} {A3' : Option Addr} {n3' c3' : Nat}
 (hc : Chg (fun k => ob A4 = some k) w w1) (ho : LP7.ownO 47 w1 B0 (PF w1 g A4 A5 A6) X m x xs) (hat : ∀ k, ob X = some k → ob A4 = some k ∨ w.heap.size ≤ k) (hg : w1.grownBy w2 (some g))
 (hb : Blk w2 g 93 (pairC s' r' A' n' c' A2' n2' c2' A3' n3' c3' (.slice X m x) (.slice A5 n5 c5) (.slice A6 n6 c6)))
 (h1 : LB3.rd w (PF w g A4 A5 A6) A' n' s'.q) (k1 : n' ≤ c' ∧ c' ≤ 9223372036854775807) (h2 : LH4.rd w (PF w g A4 A5 A6) A2' n2' r'.ahead) (k2 : n2' ≤ c2' ∧ c2' ≤ 9223372036854775807) (h3 : LB3.rd w (PF w g A4 A5 A6) A3' n3' r'.buf) (k3 : n3' ≤ c3' ∧ c3' ≤ 9223372036854775807) :
 PM B0 g w2 s' r' xs put taken A' n' c' A2' n2' c2' A3' n3' c3' X m x A5 n5 c5 A6 n6 c6 := by
 have hs : w.heap.size ≤ w2.heap.size := Nat.le_trans hc.size hg.size
 have hgl := h.blk.lt
 obtain ⟨b4, b5, b6⟩ := h.base4
 have hk : ∀ b, PF w g A4 A5 A6 b → b < w.heap.size → w2.heap[b]? = w.heap[b]? := fun b hb hl => (hg.block b (Nat.lt_of_lt_of_le hl hc.size) (fun e => hb.2.1 (Option.some.inj e))).trans (hc.block b hl hb.2.2.1)
 have hne : ∀ b, ob A4 ≠ some b → b < w.heap.size → ob X ≠ some b := fun b h1 h2 e => (hat b e).elim h1 (fun h3 => by omega)
 have hF : ∀ b, PF w g A4 A5 A6 b → b < w2.heap.size → (PF w2 g X A5 A6) b := fun b hb hl => ⟨hl, hb.2.1, hne b hb.2.2.1 hb.1, hb.2.2.2.1, hb.2.2.2.2⟩
 have hF1 : ∀ b, PF w1 g A4 A5 A6 b → ob X ≠ some b → b < w1.heap.size → PF w2 g X A5 A6 b := fun b hb hx hl => ⟨Nat.lt_of_lt_of_le hb.1 hg.size, hb.2.1, hx, hb.2.2.2.1, hb.2.2.2.2⟩
 have hold : ∀ {Y : Option Addr} {a b : Nat}, ob Y ≠ some g → (∀ k, ob Y = some k → k < w.heap.size) → (∀ k, ob Y = some k → ob A4 ≠ some k) → ∀ k, (Value.slice Y a b).ownBlock = some k → w2.heap[k]? = w.heap[k]? := fun hx hlt hd k e => by
  rw [ob_slice] at e
  exact (hg.block k (Nat.lt_of_lt_of_le (hlt k e) hc.size) (fun e2 => hx (by rw [e, Option.some.inj e2]))).trans (hc.block k (hlt k e) (hd k e))
 have hXg : ob X ≠ some g := hne g h.dg.1 hgl
 have hnew : LP7.ownO 47 w2 B0 (PF w2 g X A5 A6) X m x xs := Lay.ownO_weak2 (fun b hb hx _ => hb hx) (Lay.ownO_keep (Lay.ownO_weak2 (G' := fun b => (ob X ≠ some b → (PF w2 g X A5 A6) b) ∧ b ≠ g) (fun b hb hx hl => ⟨fun _ => hF1 b hb hx hl, hb.2.1⟩) ho) (fun b hb hl => hg.block b hl (fun e => hb.2 (Option.some.inj e))) (fun k e => by
  rw [ob_slice] at e
  exact hg.block k (Lay.ownO_base ho k (by rw [ob_slice]; exact e)).2 (fun e2 => hXg (by rw [e, Option.some.inj e2]))) |> Lay.ownO_weak2 (G' := fun b => ob X ≠ some b → (PF w2 g X A5 A6) b) (fun b hb _ _ => hb.1))
 exact { blk := hb, g0 := h.g0, q := Lay.rd_weak hF (Lay.rd_keep hk h1), cq := k1, ah := Lay.rd_weak hF (Lay.rd_keep hk h2), ca := k2, bf := Lay.rd_weak hF (Lay.rd_keep hk h3), cb := k3, wy := hnew, pt := Lay.ownO_weak hF (Lay.ownO_keep h.pt hk (hold h.dg.2.1 (fun k e => (b5 k e).2) (fun k e => (fun e2 => h.d45 k e2 e)))), tk := Lay.ownO_weak hF (Lay.ownO_keep h.tk hk (hold h.dg.2.2 (fun k e => (b6 k e).2) (fun k e => (fun e2 => h.d46 k e2 e)))), d45 := fun j e e2 => hne j (fun e3 => h.d45 j e3 e2) (b5 j e2).2 e, d46 := fun j e e2 => hne j (fun e3 => h.d46 j e3 e2) (b6 j e2).2 e, d56 := h.d56, dg := ⟨hXg, h.dg.2.1, h.dg.2.2⟩ }
/-- behind a new row of what is put, and a store into the pair -/
theorem PM.aput (h : PM B0 g w s r way put taken A n c A2 n2 c2 A3 n3 c3 A4 n4 c4 A5 n5 c5 A6 n6 c6) {X : Option Addr} {m x : Nat} {xs : List BC} {A' : Option Addr} {n' c' : Nat} {A2' : Option Addr} {n2' c2' : Nat} {A3' : Option Addr} {n3' c3' : Nat}
 (hc : Chg (fun k => ob A5 = some k) w w1) (ho : LB3.ownO 45 w1 B0 (PF w1 g A4 A5 A6) X m x xs) (hat : ∀ k, ob X = some k → ob A5 = some k ∨ w.heap.size ≤ k) (hg : w1.grownBy w2 (some g))
 (hb : Blk w2 g 93 (pairC s' r' A' n' c' A2' n2' c2' A3' n3' c3' (.slice A4 n4 c4) (.slice X m x) (.slice A6 n6 c6)))
 (h1 : LB3.rd w (PF w g A4 A5 A6) A' n' s'.q) (k1 : n' ≤ c' ∧ c' ≤ 9223372036854775807) (h2 : LH4.rd w (PF w g A4 A5 A6) A2' n2' r'.ahead) (k2 : n2' ≤ c2' ∧ c2' ≤ 9223372036854775807) (h3 : LB3.rd w (PF w g A4 A5 A6) A3' n3' r'.buf) (k3 : n3' ≤ c3' ∧ c3' ≤ 9223372036854775807) :
 PM B0 g w2 s' r' way xs taken A' n' c' A2' n2' c2' A3' n3' c3' A4 n4 c4 X m x A6 n6 c6 := by
 have hs : w.heap.size ≤ w2.heap.size := Nat.le_trans hc.size hg.size
 have hgl := h.blk.lt
 obtain ⟨b4, b5, b6⟩ := h.base4
 have hk : ∀ b, PF w g A4 A5 A6 b → b < w.heap.size → w2.heap[b]? = w.heap[b]? := fun b hb hl => (hg.block b (Nat.lt_of_lt_of_le hl hc.size) (fun e => hb.2.1 (Option.some.inj e))).trans (hc.block b hl hb.2.2.2.1)
 have hne : ∀ b, ob A5 ≠ some b → b < w.heap.size → ob X ≠ some b := fun b h1 h2 e => (hat b e).elim h1 (fun h3 => by omega)
 have hF : ∀ b, PF w g A4 A5 A6 b → b < w2.heap.size → (PF w2 g A4 X A6) b := fun b hb hl => ⟨hl, hb.2.1, hb.2.2.1, hne b hb.2.2.2.1 hb.1, hb.2.2.2.2⟩
 have hF1 : ∀ b, PF w1 g A4 A5 A6 b → ob X ≠ some b → b < w1.heap.size → PF w2 g A4 X A6 b := fun b hb hx hl => ⟨Nat.lt_of_lt_of_le hb.1 hg.size, hb.2.1, hb.2.2.1, hx, hb.2.2.2.2⟩
 have hold : ∀ {Y : Option Addr} {a b : Nat}, ob Y ≠ some g → (∀ k, ob Y = some k → k < w.heap.size) → (∀ k, ob Y = some k → ob A5 ≠ some k) → ∀ k, (Value.slice Y a b).ownBlock = some k → w2.heap[k]? = w.heap[k]? := fun hx hlt hd k e => by
  rw [ob_slice] at e
  exact (hg.block k (Nat.lt_of_lt_of_le (hlt k e) hc.size) (fun e2 => hx (by rw [e, Option.some.inj e2]))).trans (hc.block k (hlt k e) (hd k e))
 have hXg : ob X ≠ some g := hne g h.dg.2.1 hgl
 have hnew : LB3.ownO 45 w2 B0 (PF w2 g A4 X A6) X m x xs := Lay.ownO_weak2 (fun b hb hx _ => hb hx) (Lay.ownO_keep (Lay.ownO_weak2 (G' := fun b => (ob X ≠ some b → (PF w2 g A4 X A6) b) ∧ b ≠ g) (fun b hb hx hl => ⟨fun _ => hF1 b hb hx hl, hb.2.1⟩) ho) (fun b hb hl => hg.block b hl (fun e => hb.2 (Option.some.inj e))) (fun k e => by
  rw [ob_slice] at e
  exact hg.block k (Lay.ownO_base ho k (by rw [ob_slice]; exact e)).2 (fun e2 => hXg (by rw [e, Option.some.inj e2]))) |> Lay.ownO_weak2 (G' := fun b => ob X ≠ some b → (PF w2 g A4 X A6) b) (fun b hb _ _ => hb.1))
 exact { blk := hb, g0 := h.g0, q := Lay.rd_weak hF (Lay.rd_keep hk h1), cq := k1, ah := Lay.rd_weak hF (Lay.rd_keep hk h2), ca := k2, bf := Lay.rd_weak hF (Lay.rd_keep hk h3), cb := k3, wy := Lay.ownO_weak hF (Lay.ownO_keep h.wy hk (hold h.dg.1 (fun k e => (b4 k e).2) (fun k e => h.d45 k e))), pt := hnew, tk := Lay.ownO_weak hF (Lay.ownO_keep h.tk hk (hold h.dg.2.2 (fun k e => (b6 k e).2) (fun k e => (fun e2 => h.d56 k e2 e)))), d45 := fun j e => hne j (h.d45 j e) (b4 j e).2, d46 := h.d46, d56 := fun j e e2 => hne j (fun e3 => h.d56 j e3 e2) (b6 j e2).2 e, dg := ⟨h.dg.1, hXg, h.dg.2.2⟩ }
/-- behind a new row of what is taken, and a store into the pair -/
theorem PM.ataken (h : PM B0 g w s r way put taken A n c A2 n2 c2 A3 n3 c3 A4 n4 c4 A5 n5 c5 A6 n6 c6) {X : Option Addr} {m x : Nat} {xs : List BC} {A' : Option Addr} {n' c' : Nat} {A2' : Option Addr} {n2' c2' : Nat} {A3' : Option Addr} {n3' c3' : Nat}
 (hc : Chg (fun k => ob A6 = some k) w w1) (ho : LB3.ownO 45 w1 B0 (PF w1 g A4 A5 A6) X m x xs) (hat : ∀ k, ob X = some k → ob A6 = some k ∨ w.heap.size ≤ k) (hg : w1.grownBy w2 (some g))
 (hb : Blk w2 g 93 (pairC s' r' A' n' c' A2' n2' c2' A3' n3' c3' (.slice A4 n4 c4) (.slice A5 n5 c5) (.slice X m x)))
 (h1 : LB3.rd w (PF w g A4 A5 A6) A' n' s'.q) (k1 : n' ≤ c' ∧ c' ≤ 9223372036854775807) (h2 : LH4.rd w (PF w g A4 A5 A6) A2' n2' r'.ahead) (k2 : n2' ≤ c2' ∧ c2' ≤ 9223372036854775807) (h3 : LB3.rd w (PF w g A4 A5 A6) A3' n3' r'.buf) (k3 : n3' ≤ c3' ∧ c3' ≤ 9223372036854775807) :
 PM B0 g w2 s' r' way put xs A' n' c' A2' n2' c2' A3' n3' c3' A4 n4 c4 A5 n5 c5 X m x := by
 have hs : w.heap.size ≤ w2.heap.size := Nat.le_trans hc.size hg.size
 have hgl := h.blk.lt
 obtain ⟨b4, b5, b6⟩ := h.base4
 have hk : ∀ b, PF w g A4 A5 A6 b → b < w.heap.size → w2.heap[b]? = w.heap[b]? := fun b hb hl => (hg.block b (Nat.lt_of_lt_of_le hl hc.size) (fun e => hb.2.1 (Option.some.inj e))).trans (hc.block b hl hb.2.2.2.2)
 have hne : ∀ b, ob A6 ≠ some b → b < w.heap.size → ob X ≠ some b := fun b h1 h2 e => (hat b e).elim h1 (fun h3 => by omega)
 have hF : ∀ b, PF w g A4 A5 A6 b → b < w2.heap.size → (PF w2 g A4 A5 X) b := fun b hb hl => ⟨hl, hb.2.1, hb.2.2.1, hb.2.2.2.1, hne b hb.2.2.2.2 hb.1⟩
 have hF1 : ∀ b, PF w1 g A4 A5 A6 b → ob X ≠ some b → b < w1.heap.size → PF w2 g A4 A5 X b := fun b hb hx hl => ⟨Nat.lt_of_lt_of_le hb.1 hg.size, hb.2.1, hb.2.2.1, hb.2.2.2.1, hx⟩
 have hold : ∀ {Y : Option Addr} {a b : Nat}, ob Y ≠ some g → (∀ k, ob Y = some k → k < w.heap.size) → (∀ k, ob Y = some k → ob A6 ≠ some k) → ∀ k, (Value.slice Y a b).ownBlock = some k → w2.heap[k]? = w.heap[k]? := fun hx hlt hd k e => by
  rw [ob_slice] at e
  exact (hg.block k (Nat.lt_of_lt_of_le (hlt k e) hc.size) (fun e2 => hx (by rw [e, Option.some.inj e2]))).trans (hc.block k (hlt k e) (hd k e))
 have hXg : ob X ≠ some g := hne g h.dg.2.2 hgl
 have hnew : LB3.ownO 45 w2 B0 (PF w2 g A4 A5 X) X m x xs := Lay.ownO_weak2 (fun b hb hx _ => hb hx) (Lay.ownO_keep (Lay.ownO_weak2 (G' := fun b => (ob X ≠ some b → (PF w2 g A4 A5 X) b) ∧ b ≠ g) (fun b hb hx hl => ⟨fun _ => hF1 b hb hx hl, hb.2.1⟩) ho) (fun b hb hl => hg.block b hl (fun e => hb.2 (Option.some.inj e))) (fun k e => by
  rw [ob_slice] at e
  exact hg.block k (Lay.ownO_base ho k (by rw [ob_slice]; exact e)).2 (fun e2 => hXg (by rw [e, Option.some.inj e2]))) |> Lay.ownO_weak2 (G' := fun b => ob X ≠ some b → (PF w2 g A4 A5 X) b) (fun b hb _ _ => hb.1))
 exact { blk := hb, g0 := h.g0, q := Lay.rd_weak hF (Lay.rd_keep hk h1), cq := k1, ah := Lay.rd_weak hF (Lay.rd_keep hk h2), ca := k2, bf := Lay.rd_weak hF (Lay.rd_keep hk h3), cb := k3, wy := Lay.ownO_weak hF (Lay.ownO_keep h.wy hk (hold h.dg.1 (fun k e => (b4 k e).2) (fun k e => h.d46 k e))), pt := Lay.ownO_weak hF (Lay.ownO_keep h.pt hk (hold h.dg.2.1 (fun k e => (b5 k e).2) (fun k e => h.d56 k e))), tk := hnew, d45 := h.d45, d46 := fun j e => hne j (h.d46 j e) (b4 j e).2, d56 := fun j e => hne j (h.d56 j e) (b5 j e).2, dg := ⟨h.dg.1, h.dg.2.1, hXg⟩ }
/-- behind a row of its own of what is way, made anew, and a store into the pair -/
theorem PM.away2 (h : PM B0 g w s r way put taken A n c A2 n2 c2 A3 n3 c3 A4 n4 c4 A5 n5 c5 A6 n6 c6) {X : Option Addr} {m x : Nat} {xs : List PK} {A' : Option Addr} {n' c' : Nat} {A2' : Option Addr} {n2' c2' : Nat} {A3' : Option Addr} {n3' c3' : Nat}
 (hc : Chg (fun k => ob A4 = some k) w w1) (ho : LP7.ownO 47 w1 B0 (fun b => b < w1.heap.size ∧ b ≠ g ∧ ob A5 ≠ some b ∧ ob A6 ≠ some b) X m x xs) (hat : ∀ k, ob X = some k → ob A4 = some k ∨ w.heap.size ≤ k) (hg : w1.grownBy w2 (some g))
 (hb : Blk w2 g 93 (pairC s' r' A' n' c' A2' n2' c2' A3' n3' c3' (.slice X m x) (.slice A5 n5 c5) (.slice A6 n6 c6)))
 (h1 : LB3.rd w (PF w g A4 A5 A6) A' n' s'.q) (k1 : n' ≤ c' ∧ c' ≤ 9223372036854775807) (h2 : LH4.rd w (PF w g A4 A5 A6) A2' n2' r'.ahead) (k2 : n2' ≤ c2' ∧ c2' ≤ 9223372036854775807) (h3 : LB3.rd w (PF w g A4 A5 A6) A3' n3' r'.buf) (k3 : n3' ≤ c3' ∧ c3' ≤ 9223372036854775807) :
 PM B0 g w2 s' r' xs put taken A' n' c' A2' n2' c2' A3' n3' c3' X m x A5 n5 c5 A6 n6 c6 := by
 have hs : w.heap.size ≤ w2.heap.size := Nat.le_trans hc.size hg.size
 have hgl := h.blk.lt
 obtain ⟨b4, b5, b6⟩ := h.base4
 have hk : ∀ b, PF w g A4 A5 A6 b → b < w.heap.size → w2.heap[b]? = w.heap[b]? := fun b hb hl => (hg.block b (Nat.lt_of_lt_of_le hl hc.size) (fun e => hb.2.1 (Option.some.inj e))).trans (hc.block b hl hb.2.2.1)
 have hne : ∀ b, ob A4 ≠ some b → b < w.heap.size → ob X ≠ some b := fun b h1 h2 e => (hat b e).elim h1 (fun h3 => by omega)
 have hF : ∀ b, PF w g A4 A5 A6 b → b < w2.heap.size → (PF w2 g X A5 A6) b := fun b hb hl => ⟨hl, hb.2.1, hne b hb.2.2.1 hb.1, hb.2.2.2.1, hb.2.2.2.2⟩
 have hF1 : ∀ b, (b < w1.heap.size ∧ b ≠ g ∧ ob A5 ≠ some b ∧ ob A6 ≠ some b) → ob X ≠ some b → b < w1.heap.size → PF w2 g X A5 A6 b := fun b hb hx hl => ⟨Nat.lt_of_lt_of_le hb.1 hg.size, hb.2.1, hx, hb.2.2.1, hb.2.2.2⟩
 have hold : ∀ {Y : Option Addr} {a b : Nat}, ob Y ≠ some g → (∀ k, ob Y = some k → k < w.heap.size) → (∀ k, ob Y = some k → ob A4 ≠ some k) → ∀ k, (Value.slice Y a b).ownBlock = some k → w2.heap[k]? = w.heap[k]? := fun hx hlt hd k e => by
  rw [ob_slice] at e
  exact (hg.block k (Nat.lt_of_lt_of_le (hlt k e) hc.size) (fun e2 => hx (by rw [e, Option.some.inj e2]))).trans (hc.block k (hlt k e) (hd k e))
 have hXg : ob X ≠ some g := hne g h.dg.1 hgl
 have hnew : LP7.ownO 47 w2 B0 (PF w2 g X A5 A6) X m x xs := Lay.ownO_weak2 (fun b hb hx _ => hb hx) (Lay.ownO_keep (Lay.ownO_weak2 (G' := fun b => (ob X ≠ some b → (PF w2 g X A5 A6) b) ∧ b ≠ g) (fun b hb hx hl => ⟨fun _ => hF1 b hb hx hl, hb.2.1⟩) ho) (fun b hb hl => hg.block b hl (fun e => hb.2 (Option.some.inj e))) (fun k e => by
  rw [ob_slice] at e
  exact hg.block k (Lay.ownO_base ho k (by rw [ob_slice]; exact e)).2 (fun e2 => hXg (by rw [e, Option.some.inj e2]))) |> Lay.ownO_weak2 (G' := fun b => ob X ≠ some b → (PF w2 g X A5 A6) b) (fun b hb _ _ => hb.1))
 exact { blk := hb, g0 := h.g0, q := Lay.rd_weak hF (Lay.rd_keep hk h1), cq := k1, ah := Lay.rd_weak hF (Lay.rd_keep hk h2), ca := k2, bf := Lay.rd_weak hF (Lay.rd_keep hk h3), cb := k3, wy := hnew, pt := Lay.ownO_weak hF (Lay.ownO_keep h.pt hk (hold h.dg.2.1 (fun k e => (b5 k e).2) (fun k e => (fun e2 => h.d45 k e2 e)))), tk := Lay.ownO_weak hF (Lay.ownO_keep h.tk hk (hold h.dg.2.2 (fun k e => (b6 k e).2) (fun k e => (fun e2 => h.d46 k e2 e)))), d45 := fun j e e2 => hne j (fun e3 => h.d45 j e3 e2) (b5 j e2).2 e, d46 := fun j e e2 => hne j (fun e3 => h.d46 j e3 e2) (b6 j e2).2 e, d56 := h.d56, dg := ⟨hXg, h.dg.2.1, h.dg.2.2⟩ }
end
end Go.Proofs.Ytojghgbaiiajfaa
/- link.hears. Conditions: the rows read as these batches; what is handed over keeps to its contract. -/
namespace Go.Proofs.Ytojghgbaiiajfaa
open Go.RowKit
/-- a row lies in memory of one's own, from B on: k cells that can be written -/
def Mine (w : World) (B : Nat) (A : Option Addr) (k : Nat) : Prop := ∀ ad, A = some ad → ∃ g o, ad = ⟨g, o, none⟩ ∧ B ≤ g ∧ g < w.heap.size ∧ w.there g o k
/-- what a receiver's rows say -/
structure RecO (w : World) (B : Nat) (G : Nat → Prop) (A : Option Addr) (n c : Nat) (A2 : Option Addr) (m d : Nat) (r : RC) : Prop where
 ra : LH4.rd w G A n r.ahead
 ca : n ≤ c ∧ c ≤ 9223372036854775807
 ma : Mine w B A (n * 4)
 rb : LB3.rd w G A2 m r.buf
 cb : m ≤ d ∧ d ≤ 9223372036854775807
 mb : Mine w B A2 (m * 3)
/-- what is handed over: it finds the copy of the receiver in block g, whose rows lie from B on -/
def DoR (D : FuncId) (cap : Array Value) (w0 : World) (Fr : Nat → Prop) (r : RC) (E : Int) (r2 : RC) (X : Nat → Prop) (Y : World → Prop) : Prop :=
 recB r = true → ∀ (w : World) (g B : Nat) (A : Option Addr) (n c : Nat) (A2 : Option Addr) (m d : Nat), Below w0.heap.size w0 w → w0.heap.size + 2 ≤ g → g < B → B ≤ w.heap.size → Blk w g 36 (r.cells A n c A2 m d) →
  LH4.own 81 w B Fr A n c r.ahead → LB3.own 45 w B Fr A2 m d r.buf → (∀ k, (Value.slice A n c).ownBlock = some k → (Value.slice A2 m d).ownBlock ≠ some k) →
  Calls Try.prog D (#[.pointer (some ⟨g, 0, none⟩)] ++ cap) w fun e w' => e = .returned (.int .i64 E) ∧ Chg (fun k => k = g ∨ (Value.slice A n c).ownBlock = some k ∨ (Value.slice A2 m d).ownBlock = some k ∨ X k) w w' ∧ Y w' ∧
   (E = 0 → ∃ A3 n3 c3 A4 m4 d4, Blk w' g 36 (r2.cells A3 n3 c3 A4 m4 d4) ∧ RecO w' B (fun k => k < w'.heap.size ∧ (Fr k ∨ B ≤ k)) A3 n3 c3 A4 m4 d4 r2)
/-- what link.hears answers -/
def HearsC (Fr : Nat → Prop) (r : RC) (E : Int) (r2 : RC) (X : Nat → Prop) (Y : World → Prop) (w : World) (e : Ending) (w' : World) : Prop :=
 if recB r then Chg X w w' ∧ Y w' ∧ (E ≠ 0 → e = .returned (.tuple #[.agg (zeroR.cells none 0 0 none 0 0), .int .i64 E])) ∧
  (E = 0 → ∃ A3 n3 c3 A4 m4 d4, e = .returned (.tuple #[.agg (r2.cells A3 n3 c3 A4 m4 d4), .int .i64 0]) ∧ RecO w' (w.heap.size + 2) (fun k => k < w'.heap.size ∧ (Fr k ∨ w.heap.size + 2 ≤ k)) A3 n3 c3 A4 m4 d4 r2)
 else e = .returned (.tuple #[.agg (zeroR.cells none 0 0 none 0 0), .int .i64 320]) ∧ Below w.heap.size w w'
theorem hears_no {Fr : Nat → Prop} {r : RC} {E : Int} {r2 : RC} {X : Nat → Prop} {Y : World → Prop} {w w' : World} {e : Ending} (h : recB r = false) (h1 : e = .returned (.tuple #[.agg (zeroR.cells none 0 0 none 0 0), .int .i64 320])) (h2 : Below w.heap.size w w') : HearsC Fr r E r2 X Y w e w' := by
 unfold HearsC
 rw [h]
 exact ⟨h1, h2⟩
theorem hears_yes {Fr : Nat → Prop} {r : RC} {E : Int} {r2 : RC} {X : Nat → Prop} {Y : World → Prop} {w w' : World} {e : Ending} (h : recB r = true) (hc : Chg X w w') (hy : Y w') (h1 : E ≠ 0 → e = .returned (.tuple #[.agg (zeroR.cells none 0 0 none 0 0), .int .i64 E]))
 (h2 : E = 0 → ∃ A3 n3 c3 A4 m4 d4, e = .returned (.tuple #[.agg (r2.cells A3 n3 c3 A4 m4 d4), .int .i64 0]) ∧ RecO w' (w.heap.size + 2) (fun k => k < w'.heap.size ∧ (Fr k ∨ w.heap.size + 2 ≤ k)) A3 n3 c3 A4 m4 d4 r2) : HearsC Fr r E r2 X Y w e w' := by
 unfold HearsC
 rw [h]
 exact ⟨hc, hy, h1, h2⟩
theorem there_heap {w w' : World} {g o k : Nat} (h : w.there g o k) (e : w'.heap[g]? = w.heap[g]?) : w'.there g o k := fun j hj =>
 ⟨by rw [World.cell?_of_block e]; exact (h j hj).1, by rw [World.frozen?_of_block e]; exact (h j hj).2⟩
theorem Mine.grown {w w' : World} {B k g : Nat} {A : Option Addr} (h : Mine w B A k) (q : w.grownBy w' (some g)) (hg : g < B) : Mine w' B A k := fun ad e => by
 obtain ⟨g', o, e1, h1, h2, h3⟩ := h ad e
 exact ⟨g', o, e1, h1, Nat.lt_of_lt_of_le h2 q.size, there_heap h3 (q.block g' h2 (fun e => by injection e with e; omega))⟩
theorem Mine.less {w : World} {B B' k : Nat} {A : Option Addr} (h : Mine w B A k) (hB : B' ≤ B) : Mine w B' A k := fun ad e => by
 obtain ⟨g', o, e1, h1, h2, h3⟩ := h ad e
 exact ⟨g', o, e1, Nat.le_trans hB h1, h2, h3⟩
theorem rd_grownH {α : Type} {L : Lay α} {w w' : World} {F : Nat → Prop} {A : Option Addr} {n g : Nat} {xs : List α} (h : L.rd w F A n xs) (q : w.grownBy w' (some g)) (hF : ∀ b, F b → b ≠ g) : L.rd w' F A n xs := Lay.rd_keep (fun b hb hl => q.block b hl (fun e => by injection e with e; exact hF b hb e)) h
theorem own_grownF {α : Type} {L : Lay α} {e : TypeId} {w w' : World} {B n c g : Nat} {Fr : Nat → Prop} {A : Option Addr} {xs : List α} (h : L.own e w B Fr A n c xs) (q : w.grownBy w' (some g)) (hg : g < B) (hF : ∀ b, Fr b → b ≠ g) : L.own e w' B Fr A n c xs :=
 Lay.own_same h (fun k e => q.block k (Lay.own_base h k e).2 (fun e2 => by injection e2 with e2; have := (Lay.own_base h k e).1; omega)) (fun b hb _ hl => q.block b hl (fun e2 => by injection e2 with e2; exact hF b hb e2))
theorem RecO.grown {w w' : World} {B B' g : Nat} {G G' : Nat → Prop} {A : Option Addr} {n c : Nat} {A2 : Option Addr} {m d : Nat} {r : RC} (h : RecO w B G A n c A2 m d r) (q : w.grownBy w' (some g)) (hB : B' ≤ B) (hg : g < B) (hG : ∀ k, G k → k ≠ g ∧ G' k) : RecO w' B' G' A n c A2 m d r :=
 ⟨Lay.rd_weak (fun k hk _ => (hG k hk).2) (rd_grownH h.ra q (fun k hk => (hG k hk).1)), h.ca, (h.ma.grown q hg).less hB, Lay.rd_weak (fun k hk _ => (hG k hk).2) (rd_grownH h.rb q (fun k hk => (hG k hk).1)), h.cb, (h.mb.grown q hg).less hB⟩
theorem aheadB_lenH {lim : Int} : ∀ {l : List HC} {a : Int}, aheadB lim a l = true → l = [] ∨ a + (l.length : Int) ≤ lim
 | [], _, _ => .inl rfl
 | h :: l, a, e => by
  unfold aheadB at e
  simp only [Bool.and_eq_true, decide_eq_true_eq] at e
  obtain ⟨e1, e2, _, _, e3⟩ := e
  refine .inr ?_
  rcases aheadB_lenH e3 with rfl | h9
  · simp; omega
  · simp only [List.length_cons]; omega
theorem recB_len {r : RC} (h : recB r = true) : r.buf.length ≤ 8 ∧ r.ahead.length ≤ 8 ∧ 1 ≤ r.next ∧ r.next ≤ 1099511627777 := by
 unfold recB recA at h
 simp only [Bool.and_eq_true, decide_eq_true_eq] at h
 obtain ⟨⟨_, h1, h2, h3, h4, h5, h6⟩, _, _, h7⟩ := h
 have h8 := aheadB_lenH h7
 have h9 : limR r ≤ r.next - 1 + (r.room - (r.buf.length : Int)) := by unfold limR; split <;> omega
 refine ⟨by omega, ?_, h3, h4⟩
 rcases h8 with h8 | h8
 · rw [h8]; simp
 · omega
set_option maxRecDepth 100000 in
set_option maxHeartbeats 64000000 in
theorem hears_any (Fr : Nat → Prop) (r : RC) (A : Option Addr) (n c : Nat) (A2 : Option Addr) (m d : Nat) (D : FuncId) (cap : Array Value) (E : Int) (r2 : RC) (X : Nat → Prop) (Y : World → Prop) (w : World) (h : LH4.rd w Fr A n r.ahead) (h2 : LB3.rd w Fr A2 m r.buf) (hFr : ∀ k, Fr k → k < w.heap.size) (hn : n ≤ 9223372036854775807) (hm : m ≤ 9223372036854775807)
 (hent : ∀ (args : Array Value) (w : World), (callFunc D args).run Try.prog w = .ok (.enter D args) w) (hD : DoR D cap w Fr r E r2 X Y) (hX : ∀ k, X k → k < w.heap.size) (hY : ∀ w1 w2, Y w1 → w1.grownBy w2 (some (w.heap.size + 1)) → Y w2) :
 Calls Try.prog 74 #[.agg (r.cells A n c A2 m d), .func (.func D) #[] cap] w (HearsC Fr r E r2 X Y w) := by
 have HD := Lib.hid hD
 have HX := Lib.hid hX
 have HFR := Lib.hid hFr
 have HY := Lib.hid hY
 have HEN := hent
 have HLA := Lib.hid (Lay.rd_len h)
 have HLB := Lib.hid (Lay.rd_len h2)
 have q1 := bl_al (Below.refl w.heap.size w) (.cells (r.cells A n c A2 m d) 36)
 have q2 := bl_al (Below.refl (w.alloc (.cells (r.cells A n c A2 m d) 36)).heap.size (w.alloc (.cells (r.cells A n c A2 m d) 36))) (.cells (zeroR.cells none 0 0 none 0 0) 36)
 have HS := Lib.hid ((Blk.new w 36 (r.cells A n c A2 m d)).ca q2)
 have HZ := Lib.hid (show Blk ((w.alloc (.cells (r.cells A n c A2 m d) 36)).alloc (.cells (zeroR.cells none 0 0 none 0 0) 36)) (w.heap.size + 1) 36 (zeroR.cells none 0 0 none 0 0) from Blk.mk' (by simp only [World.size_alloc]))
 have HB := Lib.hid (bl_ca q1 q2)
 have HRA := Lib.hid (Lay.rd_below (Lay.rd_below h q1) q2)
 have HRB := Lib.hid (Lay.rd_below (Lay.rd_below h2 q1) q2)
 have hsz : w.heap.size + 2 ≤ ((w.alloc (.cells (r.cells A n c A2 m d) 36)).alloc (.cells (zeroR.cells none 0 0 none 0 0) 36)).heap.size := by simp only [World.size_alloc]; omega
 have HCK := Lib.hid (crecv_any Fr Fr r A n c A2 m d _ HRA.out HRB.out hn hm)
 clear h h2 q1 q2 hent hD hX hY hFr
 obtain ⟨ses, next, ahead, buf, room, over⟩ := r
 dsimp only at HLA HLB
 obtain ⟨w1, hw1⟩ : ∃ w1, w1 = (w.alloc (.cells (RC.cells ⟨ses, next, ahead, buf, room, over⟩ A n c A2 m d) 36)).alloc (.cells (zeroR.cells none 0 0 none 0 0) 36) := ⟨_, rfl⟩
 have x0 : ((w.alloc (.cells (RC.cells ⟨ses, next, ahead, buf, room, over⟩ A n c A2 m d) 36)).alloc (.cells (zeroR.cells none 0 0 none 0 0) 36)).cell? ⟨w.heap.size, 0, none⟩ = some (.int .u32 (ses)) := HS.out.cell 0
 have x1 : ((w.alloc (.cells (RC.cells ⟨ses, next, ahead, buf, room, over⟩ A n c A2 m d) 36)).alloc (.cells (zeroR.cells none 0 0 none 0 0) 36)).cell? ⟨w.heap.size, 1, none⟩ = some (.int .u64 (next)) := HS.out.cell 1
 have x2 : ((w.alloc (.cells (RC.cells ⟨ses, next, ahead, buf, room, over⟩ A n c A2 m d) 36)).alloc (.cells (zeroR.cells none 0 0 none 0 0) 36)).cell? ⟨w.heap.size, 2, none⟩ = some (.slice A n c) := HS.out.cell 2
 have x3 : ((w.alloc (.cells (RC.cells ⟨ses, next, ahead, buf, room, over⟩ A n c A2 m d) 36)).alloc (.cells (zeroR.cells none 0 0 none 0 0) 36)).cell? ⟨w.heap.size, 3, none⟩ = some (.slice A2 m d) := HS.out.cell 3
 have x4 : ((w.alloc (.cells (RC.cells ⟨ses, next, ahead, buf, room, over⟩ A n c A2 m d) 36)).alloc (.cells (zeroR.cells none 0 0 none 0 0) 36)).cell? ⟨w.heap.size, 4, none⟩ = some (.int .i64 (room)) := HS.out.cell 4
 have x5 : ((w.alloc (.cells (RC.cells ⟨ses, next, ahead, buf, room, over⟩ A n c A2 m d) 36)).alloc (.cells (zeroR.cells none 0 0 none 0 0) 36)).cell? ⟨w.heap.size, 5, none⟩ = some (.bool (over)) := HS.out.cell 5
 by_cases hok : recB ⟨ses, next, ahead, buf, room, over⟩ = true
 · have HOK := Lib.hid hok
   rw [hok, if_pos rfl] at HCK
   have hlen := recB_len hok
   dsimp only at hlen
   rw [HLA.out, HLB.out] at hlen
   clear hok
   go_enter Try.func74, Try.ntmps74
   go_wp2_with fail
   refine HCK.out.mono ?_
   clear HCK
   rintro e w2 ⟨rfl, q2⟩
   have hs2 := Nat.le_trans hsz q2.size
   have HB2 := Lib.hid (bl_ca HB.out q2)
   have HS2 := Lib.hid (HS.out.ca q2)
   have HZ2 := Lib.hid (HZ.out.ca q2)
   have HRA2 := Lib.hid (Lay.rd_below HRA.out q2)
   have HRB2 := Lib.hid (Lay.rd_below HRB.out q2)
   clear x0 x1 x2 x3 x4 x5 HS HZ HRA HRB HB q2 hsz hw1
   have x0 : w2.cell? ⟨w.heap.size, 0, none⟩ = some (.int .u32 (ses)) := HS2.out.cell 0
   have x1 : w2.cell? ⟨w.heap.size, 1, none⟩ = some (.int .u64 (next)) := HS2.out.cell 1
   have x2 : w2.cell? ⟨w.heap.size, 2, none⟩ = some (.slice A n c) := HS2.out.cell 2
   have x3 : w2.cell? ⟨w.heap.size, 3, none⟩ = some (.slice A2 m d) := HS2.out.cell 3
   have x4 : w2.cell? ⟨w.heap.size, 4, none⟩ = some (.int .i64 (room)) := HS2.out.cell 4
   have x5 : w2.cell? ⟨w.heap.size, 5, none⟩ = some (.bool (over)) := HS2.out.cell 5
   have HN3 := Lib.hid (Blk.new w2 36 (zeroR.cells none 0 0 none 0 0))
   go_upto_region 5 with (refine wpList_store_blk rfl 36 (.tmp 7) (.tmp 15) rfl w2.heap.size 36 (zeroR.cells none 0 0 none 0 0) _ rfl rfl HN3.out rfl receiverI (by simp [Value.oneCell', RC.cells]) ?_; intro w3 h3 g3; have HG3 := Lib.hid h3; have GG3 := Lib.hid g3; clear h3 g3)
   have hs3 := GG3.out.size
   simp only [World.size_alloc] at hs3
   have HB3 := Lib.hid (bl_gr (bl_al (Below.refl w2.heap.size w2) (.cells (zeroR.cells none 0 0 none 0 0) 36)) GG3.out (Nat.le_refl _))
   have hfr := HFR.out
   clear HN3 GG3 x0 x1 x2 x3 x4 x5
   refine wp_region_ps (S := SeqN [2, 5, 7, 9] (fun z mm w' => Below w2.heap.size w2 w' ∧ (match z with | 0 => Blk w' w2.heap.size 36 #[.int .u32 ses, .int .u64 next, .slice A n c, .slice A2 m d, .int .i64 room, .bool over] | 1 => Blk w' w2.heap.size 36 #[.int .u32 ses, .int .u64 next, .slice A n c, .slice A2 m d, .int .i64 room, .bool over] ∧ ∃ B5 d5, mm 2 = .slice B5 m d5 ∧ LB3.own 45 w' (w2.heap.size + 1) Fr B5 m d5 buf | 2 => Blk w' w2.heap.size 36 #[.int .u32 ses, .int .u64 next, .slice A n c, .slice A2 m d, .int .i64 room, .bool over] ∧ ∃ B5 d5 A5 c5, mm 2 = .slice B5 m d5 ∧ mm 5 = .slice A5 n c5 ∧ LB3.own 45 w' (w2.heap.size + 1) Fr B5 m d5 buf ∧ LH4.own 81 w' (w2.heap.size + 1) Fr A5 n c5 ahead ∧ (∀ k, (Value.slice A5 n c5).ownBlock = some k → (Value.slice B5 m d5).ownBlock ≠ some k) | 3 => ∃ B5 d5 A5 c5, mm 2 = .slice B5 m d5 ∧ mm 5 = .slice A5 n c5 ∧ LB3.own 45 w' (w2.heap.size + 1) Fr B5 m d5 buf ∧ LH4.own 81 w' (w2.heap.size + 1) Fr A5 n c5 ahead ∧ (∀ k, (Value.slice A5 n c5).ownBlock = some k → (Value.slice B5 m d5).ownBlock ≠ some k) ∧ Blk w' w2.heap.size 36 #[.int .u32 ses, .int .u64 next, .slice A n c, .slice B5 m d5, .int .i64 room, .bool over] | _ => ∃ B5 d5 A5 c5, mm 2 = .slice B5 m d5 ∧ mm 5 = .slice A5 n c5 ∧ LB3.own 45 w' (w2.heap.size + 1) Fr B5 m d5 buf ∧ LH4.own 81 w' (w2.heap.size + 1) Fr A5 n c5 ahead ∧ (∀ k, (Value.slice A5 n c5).ownBlock = some k → (Value.slice B5 m d5).ownBlock ≠ some k) ∧ Blk w' w2.heap.size 36 #[.int .u32 ses, .int .u64 next, .slice A5 n c5, .slice B5 m d5, .int .i64 room, .bool over]))) (by kernel_rfl) ?spswg1 ?ppswg1
   case spswg1 =>
    exact SeqN.start (by decide) ⟨HB3.out.drew, HG3.out.drew⟩
   refine Pz 0 (some 16) (.pointer (some ⟨w.heap.size, 3, none⟩)) rfl rfl (by exact StepS.pure (SeqN.pass (by decide)) rfl fun _ => rfl) ?_
   try simp only [Act.put, sA, sZ, sS]
   refine Pz 1 (some 17) (.slice A2 m d) rfl rfl ?ywg1_3 ?rwg1_3
   case ywg1_3 =>
    refine StepS.read [] (by kernel_rfl) (SeqN.pass (by decide)) (by rfl) (fun L9 m9 w9 hSh hAt hDn hS => ?_)
    have hT : Below w2.heap.size w2 w9 := SeqN.any (T := fun w9 => Below w2.heap.size w2 w9) (fun _ _ _ h => h.1) hS
    have x0 : w9.cell? ⟨w.heap.size, 3, none⟩ = some (.slice A2 m d) := (HS2.out.ca hT).cell 3
    clear hT hS
    go_simp
    try rfl
   try simp only [Act.put, sA, sZ, sS]
   refine Pz 3 (some 19) (.pointer (some ⟨w.heap.size, 2, none⟩)) rfl rfl (by exact StepS.pure (SeqN.pass (by decide)) rfl fun _ => rfl) ?_
   try simp only [Act.put, sA, sZ, sS]
   refine Pz 4 (some 20) (.slice A n c) rfl rfl ?ywg1_5 ?rwg1_5
   case ywg1_5 =>
    refine StepS.read [] (by kernel_rfl) (SeqN.pass (by decide)) (by rfl) (fun L9 m9 w9 hSh hAt hDn hS => ?_)
    have hT : Below w2.heap.size w2 w9 := SeqN.any (T := fun w9 => Below w2.heap.size w2 w9) (fun _ _ _ h => h.1) hS
    have x0 : w9.cell? ⟨w.heap.size, 2, none⟩ = some (.slice A n c) := (HS2.out.ca hT).cell 2
    clear hT hS
    go_simp
    try rfl
   try simp only [Act.put, sA, sZ, sS]
   refine Ps.one (k := 2) (d := some 18) rfl rfl (by kernel_rfl) (TurnS.call (V := fun v => ∃ B4 d4, v = .slice B4 m d4) ?fwg1_6 ?awg1_6 [] (by kernel_rfl) (by rfl) (fun w9 => ?hwg1_6) (fun L9 m9 w9 hSh hAt hDn hS => ?cwg1_6)) (fun v2 hVv2 => ?rwg1_6)
   case hwg1_6 => go_simp; refine ⟨?_, ?_⟩ <;> rfl
   case cwg1_6 =>
    obtain ⟨hT, hbk⟩ := SeqN.at_ (m0 := m9) (m1 := m9) [] [5, 7, 9] hSh (fun d hd => by cases hd) hDn (by kernel_rfl) hS
    refine (cloneB Fr A2 m d buf w9 (Lay.rd_below HRB2.out hT) (by omega)).mono ?_
    rintro e w8 ⟨B4, d4, rfl, ho, q8⟩
    exact ⟨_, rfl, ⟨B4, d4, rfl⟩, SeqN.set_ (m0 := m9) (m1 := m9) [] [5, 7, 9] hSh (fun d hd => by cases hd) hDn (by kernel_rfl) (by decide) (by decide) ⟨bl_ca hT q8, hbk.ca q8, B4, d4, upd_same _ _ _, Lay.own_lessB (Lay.own_weak (fun b hb _ => hb.1) ho) hbk.lt⟩⟩
   try simp only [Act.put, sA, sZ, sS]
   obtain ⟨B4, d4, rfl⟩ := hVv2
   refine Ps.one (k := 5) (d := some 21) rfl rfl (by kernel_rfl) (TurnS.call (V := fun v => ∃ A4 c4, v = .slice A4 n c4) ?fwg1_7 ?awg1_7 [2] (by kernel_rfl) (by rfl) (fun w9 => ?hwg1_7) (fun L9 m9 w9 hSh hAt hDn hS => ?cwg1_7)) (fun v5 hVv5 => ?rwg1_7)
   case hwg1_7 => go_simp; refine ⟨?_, ?_⟩ <;> rfl
   case cwg1_7 =>
    obtain ⟨hT, hbk, B5, d5, hv, ho⟩ := SeqN.at_ [2] [7, 9] hSh hAt hDn (by kernel_rfl) hS
    refine (cloneH Fr A n c ahead w9 (Lay.rd_below HRA2.out hT) (by omega)).mono ?_
    rintro e w8 ⟨A5, c5, rfl, ho2, q8⟩
    exact ⟨_, rfl, ⟨A5, c5, rfl⟩, SeqN.set_ [2] [7, 9] hSh hAt hDn (by kernel_rfl) (by decide) (by decide) ⟨bl_ca hT q8, hbk.ca q8, B5, d5, A5, c5, (upd_ne (by decide)).trans hv, upd_same _ _ _, Lay.own_below ho q8, Lay.own_lessB (Lay.own_weak (fun b hb _ => hb.1) ho2) hbk.lt, fun k e1 e2 => by have h1 := (Lay.own_base ho2 k e1).1; have h2 := (Lay.own_base ho k e2).2; omega⟩⟩
   try simp only [Act.put, sA, sZ, sS]
   obtain ⟨A4, c4, rfl⟩ := hVv5
   refine Pz 6 (some 22) (.pointer (some ⟨w2.heap.size, 3, none⟩)) rfl rfl (by exact StepS.pure (SeqN.pass (by decide)) rfl fun _ => rfl) ?_
   try simp only [Act.put, sA, sZ, sS]
   refine Pz 7 none undef rfl rfl ?ywg1_9 ?rwg1_9
   case ywg1_9 =>
    refine StepS.store [2, 5] (by kernel_rfl) (by rfl) (fun L9 m9 w9 hSh hAt hDn hS => ?_)
    obtain ⟨hT, hbk, B5, d5, A5, c5, hv, hv2, ho, ho2, hne⟩ := SeqN.at_ [2, 5] [9] hSh hAt hDn (by kernel_rfl) hS
    obtain ⟨rfl, rfl⟩ : B4 = B5 ∧ d4 = d5 := by have h9 : Value.slice B4 m d4 = .slice B5 m d5 := (hAt 2 (by simp)).2.symm.trans hv; simpa using h9
    obtain ⟨rfl, rfl⟩ : A4 = A5 ∧ c4 = c5 := by have h9 : Value.slice A4 n c4 = .slice A5 n c5 := (hAt 5 (by simp)).2.symm.trans hv2; simpa using h9
    have hg : w9.grownBy (w9.setCell ⟨w2.heap.size, 3, none⟩ (.slice B4 m d4)) (some w2.heap.size) := only_setCell (World.grownBy.refl _ _) (.inl rfl) _
    have z0 := hbk.frozen 3
    have hcell := hbk.cell 3
    have hbn : Blk (w9.setCell ⟨w2.heap.size, 3, none⟩ (.slice B4 m d4)) w2.heap.size 36 #[.int .u32 ses, .int .u64 next, .slice A n c, .slice B4 m d4, .int .i64 room, .bool over] := by simpa using hbk.set_ 3 (.slice B4 m d4)
    refine ⟨w9.setCell ⟨w2.heap.size, 3, none⟩ (.slice B4 m d4), ?_, SeqN.set_ [2, 5] [9] hSh hAt hDn (by kernel_rfl) (by decide) (by decide) ⟨bl_gr hT hg (Nat.le_refl _), B4, d4, A4, c4, hv, hv2, own_grownF ho hg (by omega) (fun b hb => by have := hfr b hb; omega), own_grownF ho2 hg (by omega) (fun b hb => by have := hfr b hb; omega), hne, hbn⟩⟩
    clear hS hv hv2 ho ho2 hne hg hbn hbk
    go_simp
   try simp only [Act.put]
   refine Pz 8 (some 23) (.pointer (some ⟨w2.heap.size, 2, none⟩)) rfl rfl (by exact StepS.pure (SeqN.pass (by decide)) rfl fun _ => rfl) ?_
   try simp only [Act.put, sA, sZ, sS]
   refine Pz 9 none undef rfl rfl ?ywg1_11 ?rwg1_11
   case ywg1_11 =>
    refine StepS.store [2, 5, 7] (by kernel_rfl) (by rfl) (fun L9 m9 w9 hSh hAt hDn hS => ?_)
    obtain ⟨hT, B5, d5, A5, c5, hv, hv2, ho, ho2, hne, hbk⟩ := SeqN.at_ [2, 5, 7] [] hSh hAt hDn (by kernel_rfl) hS
    obtain ⟨rfl, rfl⟩ : B4 = B5 ∧ d4 = d5 := by have h9 : Value.slice B4 m d4 = .slice B5 m d5 := (hAt 2 (by simp)).2.symm.trans hv; simpa using h9
    obtain ⟨rfl, rfl⟩ : A4 = A5 ∧ c4 = c5 := by have h9 : Value.slice A4 n c4 = .slice A5 n c5 := (hAt 5 (by simp)).2.symm.trans hv2; simpa using h9
    have hg : w9.grownBy (w9.setCell ⟨w2.heap.size, 2, none⟩ (.slice A4 n c4)) (some w2.heap.size) := only_setCell (World.grownBy.refl _ _) (.inl rfl) _
    have z0 := hbk.frozen 2
    have hcell := hbk.cell 2
    have hbn : Blk (w9.setCell ⟨w2.heap.size, 2, none⟩ (.slice A4 n c4)) w2.heap.size 36 #[.int .u32 ses, .int .u64 next, .slice A4 n c4, .slice B4 m d4, .int .i64 room, .bool over] := by simpa using hbk.set_ 2 (.slice A4 n c4)
    refine ⟨w9.setCell ⟨w2.heap.size, 2, none⟩ (.slice A4 n c4), ?_, SeqN.set_ [2, 5, 7] [] hSh hAt hDn (by kernel_rfl) (by decide) (by decide) ⟨bl_gr hT hg (Nat.le_refl _), B4, d4, A4, c4, hv, hv2, own_grownF ho hg (by omega) (fun b hb => by have := hfr b hb; omega), own_grownF ho2 hg (by omega) (fun b hb => by have := hfr b hb; omega), hne, hbn⟩⟩
    clear hS hv hv2 ho ho2 hne hg hbn hbk
    go_simp
   try simp only [Act.put]
   refine Ps.done (by kernel_rfl) (fun wg1 hS => ?_) _
   obtain ⟨hT, B5, d5, A5, c5, hv, hv2, ho, ho2, hne, hbk⟩ := SeqN.fin (by rfl) hS
   clear hS
   obtain ⟨rfl, rfl⟩ : B4 = B5 ∧ d4 = d5 := by have h9 : Value.slice B4 m d4 = .slice B5 m d5 := hv; simpa using h9
   obtain ⟨rfl, rfl⟩ : A4 = A5 ∧ c4 = c5 := by have h9 : Value.slice A4 n c4 = .slice A5 n c5 := hv2; simpa using h9
   have HB4 := Lib.hid hT
   have HOB := Lib.hid ho
   have HOA := Lib.hid ho2
   have HNE := Lib.hid hne
   have HBK := Lib.hid hbk
   clear hT ho ho2 hne hbk hv hv2 HB3 HG3 HRA2 HRB2
   obtain ⟨w4, rfl⟩ : ∃ x, x = wg1 := ⟨_, rfl⟩
   go_wp2_with fail
   refine (HD.out HOK.out w4 w2.heap.size (w2.heap.size + 1) A4 n c4 B4 m d4 (bl_ca HB2.out HB4.out) (by omega) (by omega) HBK.out.lt HBK.out HOA.out HOB.out HNE.out).mono ?_
   rintro e w6 ⟨rfl, hch, hy, hz⟩
   have hba := Lay.own_base HOA.out
   have hbb := Lay.own_base HOB.out
   have hb5 := bl_ca HB2.out HB4.out
   have hsz5 := hb5.size
   have hxx := HX.out
   have HZ4 := Lib.hid (HZ2.out.ca HB4.out)
   have hl4 := HBK.out.lt
   have HCH := Lib.hid (show Chg X w w6 from ⟨hch.os.trans hb5.os, hch.tape.trans hb5.tape, hch.output.trans hb5.output, Nat.le_trans hsz5 hch.size, fun b hb hx => (hch.block b (by omega) (fun h => by
    rcases h with h | h | h | h
    · omega
    · have := hba b h; omega
    · have := hbb b h; omega
    · exact hx h)).trans (hb5.block b hb)⟩)
   have HZ6 := Lib.hid (HZ4.out.chg hch (fun h => by
    rcases h with h | h | h | h
    · omega
    · have := hba _ h; omega
    · have := hbb _ h; omega
    · have := hxx _ h; omega))
   have HY6 := Lib.hid hy
   have HH6 := Lib.hid hz
   clear hba hbb hb5 hsz5 hxx hch hy hz HX HZ4 HOA HOB HNE HBK HD HB4
   by_cases hE : E = 0
   · subst hE
     obtain ⟨A5, n5, c5, A6, n6, c6, hb2, hr2⟩ := HH6.out rfl
     have HG2 := Lib.hid hb2
     have HR2 := Lib.hid hr2
     clear HH6 hb2 hr2
     go_wp2_with (first
      | (refine wpList_load_blk rfl 36 (.tmp 7) rfl w2.heap.size rfl 36 _ _ HG2.out rfl rfl receiverI ?_)
      | (refine wpList_store_blk rfl 36 (.tmp 4) (.tmp 30) rfl (w.heap.size + 1) 36 _ (r2.cells A5 n5 c5 A6 n6 c6) rfl rfl HZ6.out rfl receiverI (by obtain ⟨s1, s2, s3, s4, s5, s6⟩ := r2; simp [Value.oneCell', RC.cells]) ?_; intro wz hZ gz))
     exact bodyPost_ret (res2 Try.results74 rfl rfl hZ Try.underlying36 rfl receiverI) rfl (hears_yes HOK.out (HCH.out.grown gz (fun k e => .inr (by injection e with e; omega))) (HY.out _ _ HY6.out gz) (fun h => absurd rfl h)
      (fun _ => ⟨A5, n5, c5, A6, n6, c6, rfl, HR2.out.grown gz (by omega) (by omega) (fun k hk => ⟨hk.2.elim (fun h => by have := HFR.out k h; omega) (fun h => by omega), Nat.lt_of_lt_of_le hk.1 gz.size, hk.2.elim .inl (fun h => .inr (by omega))⟩)⟩))
   · have HE := Lib.hid hE
     clear HH6
     go_wp2_with (refine wpList_store_blk rfl 36 (.tmp 4) (.tmp 28) rfl (w.heap.size + 1) 36 _ (zeroR.cells none 0 0 none 0 0) rfl rfl HZ6.out rfl receiverI (by simp [Value.oneCell', RC.cells]) ?_; intro wz hZ gz)
     exact bodyPost_ret (res2 Try.results74 rfl rfl hZ Try.underlying36 rfl receiverI) rfl (hears_yes HOK.out (HCH.out.grown gz (fun k e => .inr (by injection e with e; omega))) (HY.out _ _ HY6.out gz) (fun _ => rfl) (fun h => absurd h HE.out))
 · have hf : recB ⟨ses, next, ahead, buf, room, over⟩ = false := by simpa using hok
   rw [hf] at HCK
   have HF := Lib.hid hf
   clear hok hf
   go_enter Try.func74, Try.ntmps74
   go_wp2_with fail
   refine HCK.out.mono ?_
   rintro e w2 ⟨rfl, q2⟩
   have HB2 := Lib.hid (bl_ca HB.out q2)
   have HZ2 := Lib.hid (HZ.out.ca q2)
   clear x0 x1 x2 x3 x4 x5 q2 HCK
   go_wp2_with (refine wpList_store_blk rfl 36 (.tmp 4) (.tmp 13) rfl (w.heap.size + 1) 36 _ (zeroR.cells none 0 0 none 0 0) rfl rfl HZ2.out rfl receiverI (by simp [Value.oneCell', RC.cells]) ?_; intro wz hZ gz)
   exact bodyPost_ret (res2 Try.results74 rfl rfl hZ Try.underlying36 rfl receiverI) rfl (hears_no HF.out rfl (bl_gr HB2.out gz (by omega)))
end Go.Proofs.Ytojghgbaiiajfaa
/- bowspritlaw22.cut of values, rows, batches, held batches; a part of one element of an owned row stored. Conditions: the slice reads so. -/
namespace Go.Proofs.Ytojghgbaiiajfaa
open Go.RowKit
def cutS (s : ByteArray) : ByteArray := if s.size ≤ 41 then s else s.extract 0 41
def VV.short (v : VV) : VV := ⟨v.k, v.n, v.u, cutS v.s⟩
def shortR (vs : List VV) : List VV := (vs.take 17).map VV.short
def rowsC (l : List (List VV)) : List (List VV) := (l.take 5).map shortR
theorem row_setCells {B g s n c : Nat} {e : TypeId} : ∀ (vs : List Value) (o : Nat) {w : World} {L : List Value}, w.ownsRow B e s (.slice (some ⟨g, 0, none⟩) n c) n L → o + vs.length ≤ L.length →
 (w.setCells g o vs).ownsRow B e s (.slice (some ⟨g, 0, none⟩) n c) n (L.take o ++ vs ++ L.drop (o + vs.length)) ∧ w.grownBy (w.setCells g o vs) (some g)
 | [], o, w, L, h, _ => by simp only [World.setCells, List.append_nil, List.length_nil, Nat.add_zero, List.take_append_drop]; exact ⟨h, World.grownBy.refl _ _⟩
 | v :: vs, o, w, L, h, hl => by
  simp only [List.length_cons] at hl
  have h1 := World.ownsRow.stored h o v
  have h2 := row_setCells vs (o + 1) h1.1 (by rw [List.length_set]; omega)
  have hL : (L.set o v).take (o + 1) ++ vs ++ (L.set o v).drop (o + 1 + vs.length) = L.take o ++ (v :: vs) ++ L.drop (o + (v :: vs).length) := by
   rw [List.take_add_one, List.take_set, List.set_eq_of_length_le (l := L.take o) (by rw [List.length_take]; omega), List.getElem?_set_self (by omega), List.drop_set_of_lt (by omega), List.length_cons, show o + (vs.length + 1) = o + 1 + vs.length from by omega]
   simp
  rw [hL] at h2
  exact ⟨h2.1, grown_setCells _ _ _ (World.grownBy.refl _ _)⟩
/-- a part of one of several -/
theorem Lay.reps_part {α : Type} {L : Lay α} {w : World} {F : Nat → Prop} {x y : α} {j : Nat} {vs : List Value} (hj : j + vs.length ≤ L.size) (hr : ∀ ds, L.rep w F y ds → L.rep w F x (ds.take j ++ vs ++ ds.drop (j + vs.length))) :
 ∀ {xs : List α} {cs : List Value} {i : Nat}, L.reps w F xs cs → xs[i]? = some y → L.reps w F (xs.set i x) (cs.take (i * L.size + j) ++ vs ++ cs.drop (i * L.size + j + vs.length))
 | [], _, _, _, h => by simp at h
 | z :: l, _, 0, ⟨a, b, rfl, ha, hb⟩, h => by
  simp at h
  subst h
  have hl := L.len ha
  refine ⟨a.take j ++ vs ++ a.drop (j + vs.length), b, ?_, hr a ha, hb⟩
  rw [Nat.zero_mul, Nat.zero_add, List.take_append_of_le_length (by omega), List.drop_append_of_le_length (by omega), List.append_assoc (a.take j ++ vs)]
 | z :: l, _, i + 1, ⟨a, b, rfl, ha, hb⟩, h => by
  have hl := L.len ha
  have ih := Lay.reps_part hj hr (i := i) hb (by simpa using h)
  refine ⟨a, _, ?_, ha, ih⟩
  rw [show (i + 1) * L.size + j = a.length + (i * L.size + j) from by rw [Nat.succ_mul, hl]; omega, show a.length + (i * L.size + j) + vs.length = a.length + (i * L.size + j + vs.length) from by omega, List.take_length_add_append, List.drop_length_add_append]
  simp
theorem Lay.own_part {α : Type} {L : Lay α} {e : TypeId} {w : World} {B g n c i j : Nat} {G : Nat → Prop} {xs : List α} {x y : α} {vs : List Value} (h : L.own e w B G (some ⟨g, 0, none⟩) n c xs) (hy : xs[i]? = some y) (hj : j + vs.length ≤ L.size)
 (hr : ∀ ds, L.rep w (fun b => G b ∧ b ≠ g) y ds → L.rep w (fun b => G b ∧ b ≠ g) x (ds.take j ++ vs ++ ds.drop (j + vs.length))) :
 L.own e (w.setCells g (i * L.size + j) vs) B G (some ⟨g, 0, none⟩) n c (xs.set i x) ∧ w.grownBy (w.setCells g (i * L.size + j) vs) (some g) := by
 obtain ⟨hl, cs, hreps, hrow⟩ := h
 obtain ⟨hi, _⟩ := List.getElem?_eq_some_iff.1 hy
 have hcl := Lay.reps_len hreps
 have hle : i * L.size + j + vs.length ≤ cs.length := by
  rw [hcl]
  have : (i + 1) * L.size ≤ xs.length * L.size := Nat.mul_le_mul_right _ hi
  rw [Nat.succ_mul] at this
  omega
 obtain ⟨h1, h2⟩ := row_setCells vs (i * L.size + j) hrow hle
 have hF : ∀ b, (G b ∧ (Value.slice (some ⟨g, 0, none⟩) n c).ownBlock ≠ some b) ↔ (G b ∧ b ≠ g) := fun b => by simp [Value.ownBlock, eq_comm]
 have hr0 := Lay.reps_weak (fun b hb _ => (hF b).1 hb) hreps
 have hr1 := Lay.reps_part hj hr hr0 hy
 refine ⟨⟨by rw [List.length_set]; exact hl, _, Lay.reps_weak (fun b hb _ => (hF b).2 hb) (Lay.reps_keep (fun b hb hlt => h2.block b hlt (fun e => hb.2 (by injection e))) hr1), h1⟩, h2⟩
theorem infoVV : (Try.prog.info? 142).map (fun i => (i.zero, i.size, i.bytes)) = some (some (.agg #[.int .i64 0, .int .i64 0, .int .u64 0, .string ⟨#[]⟩]), 4, 40) := by kernel_rfl
set_option maxRecDepth 100000 in
set_option maxHeartbeats 4000000 in
theorem cutVV (F : Nat → Prop) (A : Option Addr) (m c most : Nat) (xs : List VV) (w : World) (h : LV.rd w F A m xs) (hmc : m ≤ c) (hc : c ≤ 9223372036854775807) (hmost : most ≤ 100) :
 Calls Try.prog 103 #[.slice A m c, .int .i64 most] w fun e w' => ∃ A' c', e = .returned (.slice A' (min m most) c') ∧ LV.own 142 w' w.heap.size (fun b => F b ∧ b < w.heap.size) A' (min m most) c' (xs.take most) ∧ Below w.heap.size w w' := by
 obtain ⟨kk, hkk⟩ : ∃ kk, kk = min m most := ⟨_, rfl⟩
 have hk1 : kk ≤ m := by omega
 have hk2 : kk ≤ 100 := by omega
 have hmn : min (m : Int) (most : Int) = (kk : Int) := by omega
 have hkc : (kk : Int) ≤ (c : Int) := by omega
 have htk : xs.take most = xs.take kk := by
  have := Lay.rd_len h
  rw [hkk, ← this, List.take_eq_take_iff]; omega
 rw [← hkk, htk]
 have oe := Lay.own_empty LV w 142 (fun b => F b ∧ b < w.heap.size) (by decide)
 have b1 := bl_al (Below.refl w.heap.size w) (.cells #[] 142)
 have h2 : LV.rd (w.alloc (.cells #[] 142)) (fun b => F b ∧ b < w.heap.size) A kk (xs.take kk) := Lay.rd_below (Lay.rd_weak (fun b hb hl => ⟨hb, hl⟩) (Lay.rd_take h hk1)) b1
 have hz := b1.size
 have HOE := Lib.hid oe
 have HH2 := Lib.hid h2
 have HB := Lib.hid b1
 clear h h2 oe b1 hkk htk
 go_enter Try.func103, Try.ntmps103
 go_wp2_with (at_builtin; refine wpList_appLs (L := LV) (e := 142) rfl (.tmp 5) (.tmp 11) 88 rfl (.agg #[.int .i64 0, .int .i64 0, .int .u64 0, .string ⟨#[]⟩]) 4 40 Try.underlying88 infoVV rfl rfl (by decide) w.heap.size (fun b => F b ∧ b < w.heap.size) (fun b => F b ∧ b < w.heap.size) (some ⟨w.heap.size, 0, none⟩) 0 0 [] A kk c (xs.take kk) kk (by omega) rfl rfl HOE.out HH2.out (fun b hb _ => ⟨hb, fun e => by simp [Value.ownBlock] at e; have := hb.2; omega⟩) (fun b hb => Nat.lt_of_lt_of_le hb.2 hz) (by omega) (by unfold maxLen; omega) hz ?_; intro A4 c4 w4 o4 g4 _; rw [List.nil_append] at o4; have HO4 := Lib.hid o4; have HG4 := Lib.hid g4; clear o4 g4)
 go_ret
 exact ⟨A4, c4, rfl, HO4.out, HB.out.grown HG4.out hz (fun k e => by simp [Value.ownBlock] at e; omega)⟩
set_option maxRecDepth 100000 in
set_option maxHeartbeats 4000000 in
theorem cutR (F : Nat → Prop) (A : Option Addr) (m c most : Nat) (xs : List (List VV)) (w : World) (h : LR.rd w F A m xs) (hmc : m ≤ c) (hc : c ≤ 9223372036854775807) (hmost : most ≤ 100) :
 Calls Try.prog 102 #[.slice A m c, .int .i64 most] w fun e w' => ∃ A' c', e = .returned (.slice A' (min m most) c') ∧ LR.own 89 w' w.heap.size (fun b => F b ∧ b < w.heap.size) A' (min m most) c' (xs.take most) ∧ Below w.heap.size w w' := by
 obtain ⟨kk, hkk⟩ : ∃ kk, kk = min m most := ⟨_, rfl⟩
 have hk1 : kk ≤ m := by omega
 have hk2 : kk ≤ 100 := by omega
 have hmn : min (m : Int) (most : Int) = (kk : Int) := by omega
 have hkc : (kk : Int) ≤ (c : Int) := by omega
 have htk : xs.take most = xs.take kk := by
  have := Lay.rd_len h
  rw [hkk, ← this, List.take_eq_take_iff]; omega
 rw [← hkk, htk]
 have oe := Lay.own_empty LR w 89 (fun b => F b ∧ b < w.heap.size) (by decide)
 have b1 := bl_al (Below.refl w.heap.size w) (.cells #[] 89)
 have h2 : LR.rd (w.alloc (.cells #[] 89)) (fun b => F b ∧ b < w.heap.size) A kk (xs.take kk) := Lay.rd_below (Lay.rd_weak (fun b hb hl => ⟨hb, hl⟩) (Lay.rd_take h hk1)) b1
 have hz := b1.size
 have HOE := Lib.hid oe
 have HH2 := Lib.hid h2
 have HB := Lib.hid b1
 clear h h2 oe b1 hkk htk
 go_enter Try.func102, Try.ntmps102
 go_wp2_with (at_builtin; refine wpList_appLs (L := LR) (e := 89) rfl (.tmp 5) (.tmp 11) 43 rfl (.slice none 0 0) 1 24 Try.underlying43 infoR rfl rfl (by decide) w.heap.size (fun b => F b ∧ b < w.heap.size) (fun b => F b ∧ b < w.heap.size) (some ⟨w.heap.size, 0, none⟩) 0 0 [] A kk c (xs.take kk) kk (by omega) rfl rfl HOE.out HH2.out (fun b hb _ => ⟨hb, fun e => by simp [Value.ownBlock] at e; have := hb.2; omega⟩) (fun b hb => Nat.lt_of_lt_of_le hb.2 hz) (by omega) (by unfold maxLen; omega) hz ?_; intro A4 c4 w4 o4 g4 _; rw [List.nil_append] at o4; have HO4 := Lib.hid o4; have HG4 := Lib.hid g4; clear o4 g4)
 go_ret
 exact ⟨A4, c4, rfl, HO4.out, HB.out.grown HG4.out hz (fun k e => by simp [Value.ownBlock] at e; omega)⟩
end Go.Proofs.Ytojghgbaiiajfaa
