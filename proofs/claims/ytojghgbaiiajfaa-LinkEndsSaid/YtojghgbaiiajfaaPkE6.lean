/- append(out, x) of whatever data in a region that draws its order; the memory that changes. Conditions: none. -/
import Derived.Test.YtojghgbaiiajfaaPkE5
import Derived.Deep.AppendLies
import Derived.ArgAppend
namespace Go.Proofs.Ytojghgbaiiajfaa
open Go.RowKit
section
variable {α : Type} {L : Lay α} {e : TypeId} {P : Program}
theorem run_appL {w : World} (t ty : TypeId)
 (z : Value) (k bytes : Nat) (ht : P.underlying t = some (.slice e)) (hi : (P.info? e).map (fun i => (i.zero, i.size, i.bytes)) = some (some z, k, bytes)) (hk : L.size = k) (hzs : z.cells.size = k) (hk0 : 0 < k)
 (B : Nat) (G : Nat → Prop) (A : Option Addr) (n c : Nat) (xs : List α) (g c2 : Nat) (t' : TypeId) (vs : Array Value) (y : α)
 (hown : L.own e w B G A n c xs) (hr : Blk w g t' vs)
 (hy : L.rep w (fun b => G b ∧ (Value.slice A n c).ownBlock ≠ some b) y vs.toList) (hG : ∀ b, G b → b < w.heap.size) (hb : (n + 1) * bytes ≤ 140737488355328) (hn : n + 1 ≤ maxLen) (hB : B ≤ w.heap.size) :
 ∃ A' c' w', (Builtin.append_ #[t, t] ty #[.slice A n c, .slice (some ⟨g, 0, none⟩) 1 c2]).run P w = .ok (.slice A' (n + 1) c') w' ∧ L.own e w' B G A' (n + 1) c' (xs ++ [y]) ∧ w.grownBy w' (Value.slice A n c).ownBlock ∧ ((Value.slice A' (n + 1) c').ownBlock = (Value.slice A n c).ownBlock ∨ (Value.slice A' (n + 1) c').ownBlock = some w.heap.size) := by
 obtain ⟨hl, cs, hreps, hrow⟩ := hown
 obtain ⟨i0, hi0, hz0, hz1, hz2⟩ := info_parts hi
 subst hk
 have hR := reads_blk (s := L.size) (m := 1) hr rfl (by rw [L.len hy]; omega)
 obtain ⟨ad, e1, _, hcl⟩ := hR.2 (by omega)
 injection e1 with e1
 subst e1
 obtain ⟨g8, c8, w8, hrun, hown', hgr, hat, _⟩ := run_append_lies (P := P) (w := w) t ty B e i0 _ L.size bytes ht hi0 hz0 hz1 hz2 hzs hk0 (.slice A n c) n cs hrow ⟨g, 0, none⟩ 1 c2 vs.toList (by rw [L.len hy]; omega) hcl (L.one hy) (by omega) hn hb hB w.heap.size rfl
 have hat' : (Value.slice (some ⟨g8, 0, none⟩) (n + 1) c8).ownBlock = (Value.slice A n c).ownBlock ∨ (Value.slice (some ⟨g8, 0, none⟩) (n + 1) c8).ownBlock = some w.heap.size := by
  rcases hat with h | h
  · exact .inl (by rw [h]; simp [Value.ownBlock])
  · exact .inr (by rw [h]; simp [Value.ownBlock])
 have hne : ∀ b, G b → (Value.slice A n c).ownBlock ≠ some b → (Value.slice (some ⟨g8, 0, none⟩) (n + 1) c8).ownBlock ≠ some b := fun b hb hne => by
  rcases hat' with hat | hat
  · rw [hat]; exact hne
  · rw [hat]; intro e; injection e with e; have := hG b hb; omega
 have hkeep : ∀ b, (G b ∧ (Value.slice A n c).ownBlock ≠ some b) → b < w.heap.size → w8.heap[b]? = w.heap[b]? := fun b hb hlt => hgr.block b hlt (fun e => hb.2 e.symm)
 exact ⟨some ⟨g8, 0, none⟩, c8, w8, hrun, ⟨by rw [List.length_append, hl]; rfl, cs ++ vs.toList, Lay.reps_append (Lay.reps_weak (fun b hb _ => ⟨hb.1, hne b hb.1 hb.2⟩) (Lay.reps_keep hkeep hreps)) (Lay.reps_single (L.weak (fun b hb _ => ⟨hb.1, hne b hb.1 hb.2⟩) (L.keep hkeep hy))), hown'⟩, hgr, hat'⟩
end
theorem ownsRow_same {w w' : World} {B s n : Nat} {e : TypeId} {v : Value} {xs : List Value} (h : w.ownsRow B e s v n xs) (hk : ∀ k, v.ownBlock = some k → w'.heap[k]? = w.heap[k]?) : w'.ownsRow B e s v n xs := by
 refine ⟨h.1, ?_⟩
 rcases h.2 with h2 | ⟨g, cap, cur, rfl, hg, hh, r⟩
 · exact .inl h2
 · exact .inr ⟨g, cap, cur, rfl, hg, (hk g (by simp [Value.ownBlock])).trans hh, r⟩
theorem Lay.own_same {α : Type} {L : Lay α} {e : TypeId} {w w' : World} {B n c : Nat} {G : Nat → Prop} {A : Option Addr} {xs : List α} (h : L.own e w B G A n c xs) (hk : ∀ k, (Value.slice A n c).ownBlock = some k → w'.heap[k]? = w.heap[k]?) (hG : ∀ b, G b → (Value.slice A n c).ownBlock ≠ some b → b < w.heap.size → w'.heap[b]? = w.heap[b]?) : L.own e w' B G A n c xs := by
 obtain ⟨hl, cs, hr, ho⟩ := h
 exact ⟨hl, cs, Lay.reps_keep (fun b hb hlt => hG b hb.1 hb.2 hlt) hr, ownsRow_same ho hk⟩
theorem Lay.own_base {α : Type} {L : Lay α} {e : TypeId} {w : World} {B n c : Nat} {G : Nat → Prop} {A : Option Addr} {xs : List α} (h : L.own e w B G A n c xs) : ∀ k, (Value.slice A n c).ownBlock = some k → B ≤ k ∧ k < w.heap.size := by
 obtain ⟨hl, cs, hr, ho⟩ := h
 exact own_base' ho
theorem Lay.own_caps {α : Type} {L : Lay α} {e : TypeId} {w : World} {B n c : Nat} {G : Nat → Prop} {A : Option Addr} {xs : List α} (h : L.own e w B G A n c xs) : n ≤ c ∧ c ≤ 9223372036854775807 := by
 obtain ⟨hl, cs, hr, ho⟩ := h
 rcases ho.2 with ⟨e, _⟩ | ⟨g, cap, _, e, _, _, h1, h2, _⟩
 · injection e with _ e1 e2; omega
 · injection e with _ _ e2; unfold maxLen at h2; omega
/-- from w to w' at most blocks of X change -/
structure Chg (X : Nat → Prop) (w w' : World) : Prop where
 os : w'.os = w.os
 tape : w'.tape = w.tape
 output : w'.output = w.output
 size : w.heap.size ≤ w'.heap.size
 block : ∀ b, b < w.heap.size → ¬ X b → w'.heap[b]? = w.heap[b]?
theorem Chg.refl (X : Nat → Prop) (w : World) : Chg X w w := ⟨rfl, rfl, rfl, Nat.le_refl _, fun _ _ _ => rfl⟩
theorem Chg.below {X : Nat → Prop} {w w1 w2 : World} {B : Nat} (h : Chg X w w1) (q : Below B w1 w2) (hB : w.heap.size ≤ B) : Chg X w w2 :=
 ⟨q.os.trans h.os, q.tape.trans h.tape, q.output.trans h.output, Nat.le_trans h.size q.size, fun b hb hx => (q.block b (by omega)).trans (h.block b hb hx)⟩
theorem Chg.of_below {X : Nat → Prop} {w w1 : World} (q : Below w.heap.size w w1) : Chg X w w1 := (Chg.refl X w).below q (Nat.le_refl _)
theorem Chg.grown {X : Nat → Prop} {w w1 w2 : World} {r : Option Nat} (h : Chg X w w1) (hg : w1.grownBy w2 r) (hr : ∀ k, r = some k → X k ∨ w.heap.size ≤ k) : Chg X w w2 :=
 ⟨hg.os.trans h.os, hg.tape.trans h.tape, hg.output.trans h.output, Nat.le_trans h.size hg.size, fun b hb hx => (hg.block b (Nat.lt_of_lt_of_le hb h.size) (fun e => by rcases hr b e.symm with h9 | h9; exact hx h9; omega)).trans (h.block b hb hx)⟩
theorem Chg.trans {X : Nat → Prop} {w w1 w2 : World} (h : Chg X w w1) (k : Chg X w1 w2) : Chg X w w2 :=
 ⟨k.os.trans h.os, k.tape.trans h.tape, k.output.trans h.output, Nat.le_trans h.size k.size, fun b hb hx => (k.block b (Nat.lt_of_lt_of_le hb h.size) hx).trans (h.block b hb hx)⟩
theorem Chg.weak {X Y : Nat → Prop} {w w1 : World} (h : Chg X w w1) (hxy : ∀ b, b < w.heap.size → X b → Y b) : Chg Y w w1 := ⟨h.os, h.tape, h.output, h.size, fun b hb hy => h.block b hb (fun hx => hy (hxy b hb hx))⟩
theorem Chg.bel {X : Nat → Prop} {w0 w w' : World} {B : Nat} (h : Below B w0 w) (k : Chg X w w') (hX : ∀ b, b < w.heap.size → X b → B ≤ b) (hB : B ≤ w.heap.size) : Below B w0 w' :=
 ⟨k.os.trans h.os, k.tape.trans h.tape, k.output.trans h.output, Nat.le_trans h.size k.size, fun b hb => (k.block b (by omega) (fun hx => by have := hX b (by omega) hx; omega)).trans (h.block b hb)⟩
theorem Blk.chg {X : Nat → Prop} {w w' : World} {g : Nat} {t : TypeId} {cs : Array Value} (h : Blk w g t cs) (k : Chg X w w') (hx : ¬ X g) : Blk w' g t cs := (k.block g h.lt hx).trans h
theorem rd_chg {α : Type} {L : Lay α} {X F : Nat → Prop} {w w' : World} {A : Option Addr} {m : Nat} {xs : List α} (h : L.rd w F A m xs) (k : Chg X w w') (hF : ∀ b, F b → b < w.heap.size → ¬ X b) : L.rd w' F A m xs :=
 Lay.rd_keep (fun b hb hl => k.block b hl (hF b hb hl)) h
end Go.Proofs.Ytojghgbaiiajfaa
/- A slice that owns its row from an offset on (what is left behind p.way[100:]), and append onto it. Conditions: each law's own. -/
namespace Go.Proofs.Ytojghgbaiiajfaa
open Go.RowKit
def RowO (w : World) (B : Nat) (e : TypeId) (size : Nat) (v : Value) (n : Nat) (xs : List Value) : Prop :=
 xs.length = n * size ∧ ((v = .slice none 0 0 ∧ n = 0) ∨
  ∃ g o cap cur, v = .slice (some ⟨g, o, none⟩) n cap ∧ B ≤ g ∧ w.heap[g]? = some (.cells cur e (0, 0)) ∧ n ≤ cap ∧ cap ≤ maxLen ∧ o + cap * size ≤ cur.size ∧ (cur.toList.drop o).take (n * size) = xs)
theorem RowO.of {w : World} {B : Nat} {e : TypeId} {size : Nat} {v : Value} {n : Nat} {xs : List Value} (h : w.ownsRow B e size v n xs) : RowO w B e size v n xs := by
 refine ⟨h.1, ?_⟩
 rcases h.2 with h2 | ⟨g, cap, cur, h1, h2, h3, h4, h5, h6, h7⟩
 · exact .inl h2
 · exact .inr ⟨g, 0, cap, cur, h1, h2, h3, h4, h5, by omega, by rw [List.drop_zero]; exact h7⟩
theorem RowO.less {w : World} {B B' : Nat} {e : TypeId} {size : Nat} {v : Value} {n : Nat} {xs : List Value} (h : RowO w B e size v n xs) (hB : B' ≤ B) : RowO w B' e size v n xs := by
 refine ⟨h.1, ?_⟩
 rcases h.2 with h2 | ⟨g, o, cap, cur, h1, h2, h3⟩
 · exact .inl h2
 · exact .inr ⟨g, o, cap, cur, h1, by omega, h3⟩
theorem RowO.same {w w' : World} {B : Nat} {e : TypeId} {size : Nat} {v : Value} {n : Nat} {xs : List Value} (h : RowO w B e size v n xs) (hk : ∀ k, v.ownBlock = some k → w'.heap[k]? = w.heap[k]?) : RowO w' B e size v n xs := by
 refine ⟨h.1, ?_⟩
 rcases h.2 with h2 | ⟨g, o, cap, cur, rfl, h2, h3, h4⟩
 · exact .inl h2
 · exact .inr ⟨g, o, cap, cur, rfl, h2, (hk g (by simp [Value.ownBlock])).trans h3, h4⟩
theorem RowO.base {w : World} {B : Nat} {e : TypeId} {size : Nat} {v : Value} {n : Nat} {xs : List Value} (h : RowO w B e size v n xs) : ∀ k, v.ownBlock = some k → B ≤ k ∧ k < w.heap.size := by
 intro k hk
 rcases h.2 with ⟨h2, _⟩ | ⟨g, o, cap, cur, rfl, h2, h3, _⟩
 · rw [h2] at hk; cases hk
 · simp only [Value.ownBlock, Option.some.injEq] at hk
   subst hk
   exact ⟨h2, (Array.getElem?_eq_some_iff.1 h3).1⟩
/-- the slice without its first elements -/
theorem RowO.drop {w : World} {B : Nat} {e : TypeId} {size g o n cap : Nat} {xs : List Value} (h : RowO w B e size (.slice (some ⟨g, o, none⟩) n cap) n xs) {k : Nat} (hk : k ≤ n) : RowO w B e size (.slice (some ⟨g, o + k * size, none⟩) (n - k) (cap - k)) (n - k) (xs.drop (k * size)) := by
 obtain ⟨h0, h⟩ := h
 refine ⟨by rw [List.length_drop, h0, Nat.sub_mul], ?_⟩
 rcases h with ⟨h, _⟩ | ⟨g', o', cap', cur, h1, h2, h3, h4, h5, h6, h7⟩
 · cases h
 · injection h1 with e1 _ e3
   injection e1 with e1
   injection e1 with e1 e2
   subst e1 e2 e3
   refine .inr ⟨g, o + k * size, cap - k, cur, rfl, h2, h3, by omega, by omega, ?_, ?_⟩
   · have : (cap - k) * size + k * size = cap * size := by rw [← Nat.add_mul]; congr 1; omega
     omega
   · rw [← h7, List.drop_take, List.drop_drop, Nat.sub_mul]
section
variable {P : Program}
theorem run_append_O {w : World} (B : Nat) (t ty e : TypeId) (i : TypeInfo) (z : Value) (size bytes : Nat) (ht : P.underlying t = some (.slice e)) (hi : P.info? e = some i) (hz : i.zero = some z) (hsize : i.size = size) (hby : i.bytes = bytes) (hzs : z.cells.size = size) (hsz : 0 < size)
 (v : Value) (n : Nat) (xs : List Value) (hown : RowO w B e size v n xs) (B' : Nat) (A : Option Addr) (m c : Nat) (news : List Value) (hr : Reads w B' size A m news) (h1 : ∀ u ∈ news, u.oneCell' = true)
 (h63 : n + m ≤ maxLen) (hbytes : (n + m) * bytes ≤ 140737488355328) (hbase : B ≤ w.heap.size) :
 ∃ v' w', (Builtin.append_ #[t, t] ty #[v, .slice A m c]).run P w = .ok v' w' ∧ RowO w' B e size v' (n + m) (xs ++ news) ∧ w.grownBy w' v.ownBlock ∧ (v'.ownBlock = v.ownBlock ∨ ∃ k, v'.ownBlock = some k ∧ w.heap.size ≤ k) := by
 rcases hown.2 with ⟨rfl, rfl⟩ | ⟨g, o, cap, cur, rfl, hg, hh, hnc, hcm, hoc, hxs⟩
 · obtain rfl : xs = [] := List.eq_nil_of_length_eq_zero (by simpa using hown.1)
   obtain ⟨v', w', a1, a2, a3, a4⟩ := run_append_any (P := P) w B t ty e i z size bytes ht hi hz hsize hby hzs hsz (.slice none 0 0) 0 [] (World.ownsRow_nil w _ e size) B' A m c news hr h1 h63 hbytes hbase
   exact ⟨v', w', a1, .of a2, a3, a4.imp id (fun h => ⟨_, h, Nat.le_refl _⟩)⟩
 have holds : ∀ j u, xs[j]? = some u → w.cell? ⟨g, o + j, none⟩ = some u := fun j u hu => by
  rw [← hxs, List.getElem?_take] at hu
  split at hu
  · rw [List.getElem?_drop, Array.getElem?_toList] at hu
    unfold World.cell?
    rw [hh]; exact hu
  · cases hu
 rcases A with _ | ad
 · have hm : m = 0 := by
    rcases Nat.eq_zero_or_pos m with h0 | h0
    · exact h0
    · obtain ⟨ad, h, _⟩ := hr.2 h0; cases h
   subst hm
   obtain rfl : news = [] := List.eq_nil_of_length_eq_zero (by simpa using hr.1)
   refine ⟨.slice (some ⟨g, o, none⟩) n cap, w, ?_, by simpa using hown, World.grownBy.refl w _, .inl rfl⟩
   simp [Builtin.append_, run_underlying ht, sizeOf, typeInfo, hi, Builtin.lenOf, hnc, run_firstCells_none, storeCells]
 · have hcells : ∀ j u, news[j]? = some u → w.cell? (ad.add j) = some u := fun j u hu => by
    rcases Nat.eq_zero_or_pos m with h0 | h0
    · subst h0
      obtain rfl : news = [] := List.eq_nil_of_length_eq_zero (by simpa using hr.1)
      simp at hu
    · obtain ⟨ad', h, _, hc⟩ := hr.2 h0
      injection h with h
      subst h
      exact hc j u hu
   by_cases hroom : n + m ≤ cap
   · subst hsize
     have hfit : o + n * i.size + news.length ≤ cur.toList.length := by
      have : (n + m) * i.size ≤ cap * i.size := Nat.mul_le_mul_right _ hroom
      rw [hr.1, Array.length_toList]
      rw [Nat.add_mul] at this; omega
     have hblk : Blk w g e cur.toList.toArray := by rw [Array.toArray_toList]; exact hh
     have hthere := there_mid (w := w) (g := g) (t := e) (cs := cur) hh (o := o + n * i.size) (n := news.length) (by rw [Array.length_toList] at hfit; exact hfit)
     refine ⟨_, _, run_append_room_cells (P := P) w t ty e i ht hi g o n cap ad m c news hr.1 hcells h1 hroom (fun j hj => (hthere j hj).1) (fun j hj => (hthere j hj).2), ⟨by rw [List.length_append, hown.1, hr.1, Nat.add_mul], .inr ⟨g, o, cap, _, rfl, hg, blk_setMid news (o + n * i.size) w cur.toList hblk hfit, hroom, hcm, ?_, ?_⟩⟩, ?_, .inl rfl⟩
     · rw [Array.length_toList] at hfit
       simp only [List.size_toArray, List.length_append, List.length_take, List.length_drop, Array.length_toList]
       omega
     · have e1 : cur.toList.take (o + n * i.size) = cur.toList.take o ++ xs := by rw [List.take_add, hxs]
       have e2 : (cur.toList.take o).length = o := by rw [List.length_take]; omega
       show ((cur.toList.take (o + n * i.size) ++ news ++ cur.toList.drop (o + n * i.size + news.length)).drop o).take ((n + m) * i.size) = xs ++ news
       rw [e1, List.append_assoc, List.append_assoc]
       conv => lhs; arg 2; rw [← e2]
       rw [e2, List.drop_left' e2, ← List.append_assoc, List.take_left' (by rw [List.length_append, hown.1, hr.1, Nat.add_mul])]
     · exact grown_setCells _ _ _ (World.grownBy.refl w _)
   · obtain ⟨v', w', a1, a2, a3⟩ := run_append_arg_grows (P := P) w t ty e i z size bytes ht hi hz hsize hby hzs hsz ⟨g, o, none⟩ n cap xs hown.1 (fun j u hj => by rw [Addr.add_lit]; exact holds j u hj) ad m c news hr.1 hcells (by omega) h63 hbytes
     refine ⟨v', w', a1, (RowO.of a2).less hbase, ⟨a3.os, a3.tape, a3.output, a3.size, fun k hk _ => a3.block k hk (by simp)⟩, .inr ?_⟩
     rcases a2.2 with ⟨_, h2⟩ | ⟨g2, cap2, cur2, rfl, h3, _⟩
     · omega
     · exact ⟨g2, rfl, h3⟩
end
/-! ### rows of elements -/
def Lay.ownO {α : Type} (L : Lay α) (e : TypeId) (w : World) (B : Nat) (G : Nat → Prop) (A : Option Addr) (n c : Nat) (xs : List α) : Prop :=
 xs.length = n ∧ ∃ cs, L.reps w (fun b => G b ∧ (Value.slice A n c).ownBlock ≠ some b) xs cs ∧ RowO w B e L.size (.slice A n c) n cs
section
variable {α : Type} {L : Lay α} {e : TypeId} {w w' : World} {B n c : Nat} {G F : Nat → Prop} {A : Option Addr} {xs : List α}
theorem Lay.ownO_of (h : L.own e w B G A n c xs) : L.ownO e w B G A n c xs := by
 obtain ⟨hl, cs, hr, ho⟩ := h
 exact ⟨hl, cs, hr, .of ho⟩
theorem Lay.ownO_nil : L.ownO e w B G none 0 0 [] := Lay.ownO_of (Lay.own_nil _ _)
theorem Lay.ownO_len (h : L.ownO e w B G A n c xs) : xs.length = n := h.1
theorem Lay.ownO_base (h : L.ownO e w B G A n c xs) : ∀ k, (Value.slice A n c).ownBlock = some k → B ≤ k ∧ k < w.heap.size := by
 obtain ⟨_, cs, _, ho⟩ := h
 exact ho.base
theorem Lay.ownO_caps (h : L.ownO e w B G A n c xs) : n ≤ c ∧ c ≤ 9223372036854775807 := by
 obtain ⟨_, cs, _, ho⟩ := h
 rcases ho.2 with ⟨e1, e2⟩ | ⟨g, o, cap, cur, e1, _, _, h4, h5, _⟩
 · injection e1 with _ a b; subst b; subst e2; exact ⟨Nat.le_refl _, by omega⟩
 · injection e1 with _ a b; subst b; exact ⟨h4, by unfold maxLen at h5; omega⟩
theorem Lay.ownO_weak {G' : Nat → Prop} (hk : ∀ b, G b → b < w.heap.size → G' b) (h : L.ownO e w B G A n c xs) : L.ownO e w B G' A n c xs := by
 obtain ⟨hl, cs, hr, ho⟩ := h
 exact ⟨hl, cs, Lay.reps_weak (fun b hb hl => ⟨hk b hb.1 hl, hb.2⟩) hr, ho⟩
theorem Lay.ownO_keep (h : L.ownO e w B G A n c xs) (hk : ∀ b, G b → b < w.heap.size → w'.heap[b]? = w.heap[b]?) (ho : ∀ k, (Value.slice A n c).ownBlock = some k → w'.heap[k]? = w.heap[k]?) : L.ownO e w' B G A n c xs := by
 obtain ⟨hl, cs, hr, h1⟩ := h
 exact ⟨hl, cs, Lay.reps_keep (fun b hb hlt => hk b hb.1 hlt) hr, h1.same ho⟩
theorem Lay.ownO_below (h : L.ownO e w B G A n c xs) (q : Below w.heap.size w w') : L.ownO e w' B G A n c xs :=
 Lay.ownO_keep h (fun b _ hl => q.block b hl) (fun k hk => q.block k (Lay.ownO_base h k hk).2)
theorem Lay.ownO_rd (h : L.ownO e w B G A n c xs) (hB : ∀ k, (Value.slice A n c).ownBlock = some k → F k) (hG : ∀ b, G b → b < w.heap.size → F b) : L.rd w F A n xs := by
 obtain ⟨hl, cs, hr, ho⟩ := h
 refine ⟨hl, cs, Lay.reps_weak (fun b hb hl => hG b hb.1 hl) hr, fun hn => ?_⟩
 rcases ho.2 with ⟨_, e2⟩ | ⟨g, o, cap, cur, e1, h2, h3, h4, h5, h6, h7⟩
 · omega
 · injection e1 with e1 _ _
   subst e1
   refine ⟨⟨g, o, none⟩, rfl, (Array.getElem?_eq_some_iff.1 h3).1, hB g (by simp [Value.ownBlock]), fun j u hj => ?_⟩
   rw [Addr.add_lit]
   rw [← h7, List.getElem?_take] at hj
   split at hj
   · rw [List.getElem?_drop, Array.getElem?_toList] at hj
     unfold World.cell?
     rw [h3]; exact hj
   · cases hj
/-- append, run -/
theorem run_appO {P : Program} (t ty : TypeId) (z : Value) (k bytes : Nat) (ht : P.underlying t = some (.slice e)) (hi : (P.info? e).map (fun i => (i.zero, i.size, i.bytes)) = some (some z, k, bytes)) (hk : L.size = k) (hzs : z.cells.size = k) (hk0 : 0 < k)
 (A2 : Option Addr) (m c2 : Nat) (ys : List α) (hown : L.ownO e w B G A n c xs) (hr : L.rd w F A2 m ys)
 (hFG : ∀ b, F b → b < w.heap.size → G b ∧ (Value.slice A n c).ownBlock ≠ some b) (hG : ∀ b, G b → b < w.heap.size) (hb : (n + m) * bytes ≤ 140737488355328) (hn : n + m ≤ maxLen) (hB : B ≤ w.heap.size) :
 ∃ A' c' w', (Builtin.append_ #[t, t] ty #[.slice A n c, .slice A2 m c2]).run P w = .ok (.slice A' (n + m) c') w' ∧ L.ownO e w' B G A' (n + m) c' (xs ++ ys) ∧ w.grownBy w' (Value.slice A n c).ownBlock ∧ ((Value.slice A' (n + m) c').ownBlock = (Value.slice A n c).ownBlock ∨ ∃ k, (Value.slice A' (n + m) c').ownBlock = some k ∧ w.heap.size ≤ k) := by
 obtain ⟨hl, cs, hreps, hrow⟩ := hown
 obtain ⟨ds, hys, hrd⟩ := Lay.reads hr
 obtain ⟨i0, hi0, hz0, hz1, hz2⟩ := info_parts hi
 subst hk
 have hyl := Lay.rd_len hr
 obtain ⟨v', w', hrun, hown', hg, hat⟩ := run_append_O (P := P) (w := w) B t ty e i0 z L.size bytes ht hi0 hz0 hz1 hz2 hzs hk0 (.slice A n c) n cs hrow w.heap.size A2 m c2 ds hrd (Lay.reps_one hys) hn hb hB
 obtain ⟨A', c', rfl⟩ : ∃ A' c', v' = .slice A' (n + m) c' := by
  rcases hown'.2 with ⟨e1, e2⟩ | ⟨g, o, cap, cur, e1, _⟩
  · exact ⟨none, 0, by rw [e1, e2]⟩
  · exact ⟨_, _, e1⟩
 have hne : ∀ b, G b → (Value.slice A n c).ownBlock ≠ some b → (Value.slice A' (n + m) c').ownBlock ≠ some b := fun b hb hne => by
  rcases hat with hat | ⟨k, hat, hk9⟩
  · rw [hat]; exact hne
  · rw [hat]; intro e; injection e with e; have := hG b hb; omega
 have hkeep : ∀ b, (G b ∧ (Value.slice A n c).ownBlock ≠ some b) → b < w.heap.size → w'.heap[b]? = w.heap[b]? := fun b hb hlt => hg.block b hlt (fun e => hb.2 e.symm)
 have hys2 := Lay.reps_keep hkeep (Lay.reps_weak hFG hys)
 exact ⟨A', c', w', hrun, ⟨by rw [List.length_append, hl, hyl], cs ++ ds, Lay.reps_append (Lay.reps_weak (fun b hb _ => ⟨hb.1, hne b hb.1 hb.2⟩) (Lay.reps_keep hkeep hreps)) (Lay.reps_weak (fun b hb _ => ⟨hb.1, hne b hb.1 hb.2⟩) hys2), hown'⟩, hg, hat⟩
end
end Go.Proofs.Ytojghgbaiiajfaa
/- A pair (a sender, a receiver, what is under way, what was put and taken) in memory. Conditions: none. -/
namespace Go.Proofs.Ytojghgbaiiajfaa
open Go.RowKit
def ob (A : Option Addr) : Option Nat := A.map (·.block)
theorem ob_slice (A : Option Addr) (n c : Nat) : (Value.slice A n c).ownBlock = ob A := by cases A <;> rfl
abbrev pairC (s : SC) (r : RC) (A : Option Addr) (n c : Nat) (A2 : Option Addr) (n2 c2 : Nat) (A3 : Option Addr) (n3 c3 : Nat) (x y z : Value) : Array Value :=
 #[.int .u32 s.ses, .int .u64 s.base, .slice A n c, .int .u64 s.sent, .int .u64 s.lim, .int .i64 s.timer, .bool s.ended, .int .u32 r.ses, .int .u64 r.next, .slice A2 n2 c2, .slice A3 n3 c3, .int .i64 r.room, .bool r.over, x, y, z]
/-- what is not written by the pair's own appends and stores -/
def PF (w : World) (g : Nat) (A4 A5 A6 : Option Addr) : Nat → Prop := fun b => b < w.heap.size ∧ b ≠ g ∧ ob A4 ≠ some b ∧ ob A5 ≠ some b ∧ ob A6 ≠ some b
structure PM (B0 g : Nat) (w : World) (s : SC) (r : RC) (way : List PK) (put taken : List BC) (A : Option Addr) (n c : Nat) (A2 : Option Addr) (n2 c2 : Nat) (A3 : Option Addr) (n3 c3 : Nat) (A4 : Option Addr) (n4 c4 : Nat) (A5 : Option Addr) (n5 c5 : Nat) (A6 : Option Addr) (n6 c6 : Nat) : Prop where
 blk : Blk w g 93 (pairC s r A n c A2 n2 c2 A3 n3 c3 (.slice A4 n4 c4) (.slice A5 n5 c5) (.slice A6 n6 c6))
 g0 : B0 ≤ g
 q : LB3.rd w (PF w g A4 A5 A6) A n s.q
 cq : n ≤ c ∧ c ≤ 9223372036854775807
 ah : LH4.rd w (PF w g A4 A5 A6) A2 n2 r.ahead
 ca : n2 ≤ c2 ∧ c2 ≤ 9223372036854775807
 bf : LB3.rd w (PF w g A4 A5 A6) A3 n3 r.buf
 cb : n3 ≤ c3 ∧ c3 ≤ 9223372036854775807
 wy : LP7.ownO 47 w B0 (PF w g A4 A5 A6) A4 n4 c4 way
 pt : LB3.ownO 45 w B0 (PF w g A4 A5 A6) A5 n5 c5 put
 tk : LB3.ownO 45 w B0 (PF w g A4 A5 A6) A6 n6 c6 taken
 d45 : ∀ k, ob A4 = some k → ob A5 ≠ some k
 d46 : ∀ k, ob A4 = some k → ob A6 ≠ some k
 d56 : ∀ k, ob A5 = some k → ob A6 ≠ some k
 dg : ob A4 ≠ some g ∧ ob A5 ≠ some g ∧ ob A6 ≠ some g
section
variable {B0 g : Nat} {w w' : World} {s s' : SC} {r r' : RC} {way : List PK} {put taken : List BC} {A : Option Addr} {n c : Nat} {A2 : Option Addr} {n2 c2 : Nat} {A3 : Option Addr} {n3 c3 : Nat} {A4 : Option Addr} {n4 c4 : Nat} {A5 : Option Addr} {n5 c5 : Nat} {A6 : Option Addr} {n6 c6 : Nat}
theorem PF.up (h : w.heap.size ≤ w'.heap.size) {b : Nat} (hb : PF w g A4 A5 A6 b) : PF w' g A4 A5 A6 b := ⟨Nat.lt_of_lt_of_le hb.1 h, hb.2⟩
theorem PM.base4 (h : PM B0 g w s r way put taken A n c A2 n2 c2 A3 n3 c3 A4 n4 c4 A5 n5 c5 A6 n6 c6) : (∀ k, ob A4 = some k → B0 ≤ k ∧ k < w.heap.size) ∧ (∀ k, ob A5 = some k → B0 ≤ k ∧ k < w.heap.size) ∧ (∀ k, ob A6 = some k → B0 ≤ k ∧ k < w.heap.size) :=
 ⟨fun k hk => Lay.ownO_base h.wy k (by rw [ob_slice]; exact hk), fun k hk => Lay.ownO_base h.pt k (by rw [ob_slice]; exact hk), fun k hk => Lay.ownO_base h.tk k (by rw [ob_slice]; exact hk)⟩
theorem PM.below (h : PM B0 g w s r way put taken A n c A2 n2 c2 A3 n3 c3 A4 n4 c4 A5 n5 c5 A6 n6 c6) (q : Below w.heap.size w w') : PM B0 g w' s r way put taken A n c A2 n2 c2 A3 n3 c3 A4 n4 c4 A5 n5 c5 A6 n6 c6 :=
 { blk := h.blk.ca q, g0 := h.g0, q := Lay.rd_weak (fun _ hb _ => hb.up q.size) (Lay.rd_below h.q q), cq := h.cq, ah := Lay.rd_weak (fun _ hb _ => hb.up q.size) (Lay.rd_below h.ah q), ca := h.ca, bf := Lay.rd_weak (fun _ hb _ => hb.up q.size) (Lay.rd_below h.bf q), cb := h.cb, wy := Lay.ownO_weak (fun _ hb _ => hb.up q.size) (Lay.ownO_below h.wy q), pt := Lay.ownO_weak (fun _ hb _ => hb.up q.size) (Lay.ownO_below h.pt q), tk := Lay.ownO_weak (fun _ hb _ => hb.up q.size) (Lay.ownO_below h.tk q), d45 := h.d45, d46 := h.d46, d56 := h.d56, dg := h.dg }
/-- another sender, another receiver are stored -/
theorem PM.stores (h : PM B0 g w s r way put taken A n c A2 n2 c2 A3 n3 c3 A4 n4 c4 A5 n5 c5 A6 n6 c6) {A' : Option Addr} {n' c' : Nat} {A2' : Option Addr} {n2' c2' : Nat} {A3' : Option Addr} {n3' c3' : Nat} (hg : w.grownBy w' (some g))
 (hb : Blk w' g 93 (pairC s' r' A' n' c' A2' n2' c2' A3' n3' c3' (.slice A4 n4 c4) (.slice A5 n5 c5) (.slice A6 n6 c6)))
 (h1 : LB3.rd w (PF w g A4 A5 A6) A' n' s'.q) (k1 : n' ≤ c' ∧ c' ≤ 9223372036854775807) (h2 : LH4.rd w (PF w g A4 A5 A6) A2' n2' r'.ahead) (k2 : n2' ≤ c2' ∧ c2' ≤ 9223372036854775807) (h3 : LB3.rd w (PF w g A4 A5 A6) A3' n3' r'.buf) (k3 : n3' ≤ c3' ∧ c3' ≤ 9223372036854775807) :
 PM B0 g w' s' r' way put taken A' n' c' A2' n2' c2' A3' n3' c3' A4 n4 c4 A5 n5 c5 A6 n6 c6 := by
 have hk : ∀ b, PF w g A4 A5 A6 b → b < w.heap.size → w'.heap[b]? = w.heap[b]? := fun b hb hl => hg.block b hl (fun e => hb.2.1 (Option.some.inj e))
 have ho : ∀ {X : Option Addr} {a b : Nat}, ob X ≠ some g → (∀ k, ob X = some k → k < w.heap.size) → ∀ k, (Value.slice X a b).ownBlock = some k → w'.heap[k]? = w.heap[k]? := fun hx hlt k e => by
  rw [ob_slice] at e
  exact hg.block k (hlt k e) (fun e2 => hx (by rw [e, Option.some.inj e2]))
 obtain ⟨b4, b5, b6⟩ := h.base4
 exact { blk := hb, g0 := h.g0, q := Lay.rd_weak (fun _ hb _ => hb.up hg.size) (Lay.rd_keep hk h1), cq := k1, ah := Lay.rd_weak (fun _ hb _ => hb.up hg.size) (Lay.rd_keep hk h2), ca := k2, bf := Lay.rd_weak (fun _ hb _ => hb.up hg.size) (Lay.rd_keep hk h3), cb := k3, wy := Lay.ownO_weak (fun _ hb _ => hb.up hg.size) (Lay.ownO_keep h.wy hk (ho h.dg.1 (fun k e => (b4 k e).2))), pt := Lay.ownO_weak (fun _ hb _ => hb.up hg.size) (Lay.ownO_keep h.pt hk (ho h.dg.2.1 (fun k e => (b5 k e).2))), tk := Lay.ownO_weak (fun _ hb _ => hb.up hg.size) (Lay.ownO_keep h.tk hk (ho h.dg.2.2 (fun k e => (b6 k e).2))), d45 := h.d45, d46 := h.d46, d56 := h.d56, dg := h.dg }
end
end Go.Proofs.Ytojghgbaiiajfaa
/- link.puts. Conditions: the pointer leads to a sender whose queue the caller owns; the batch reads so. -/
namespace Go.Proofs.Ytojghgbaiiajfaa
open Go.RowKit
theorem SeqN.early78 {k7 k8 k13 k16 : Nat} {B : Nat → (Nat → Value) → World → Prop} {L : Array Bool} {m : Nat → Value} {w : World} {md : Region.Mode} {ops : Array Oper} {T : World → Prop} (hsh : Shut md ops L) (h8 : Dn L k8 = false) (hr : ([k13, k16].all fun x => reach md ops ops.size x k8) = true)
 (t0 : ∀ m w, B 0 m w → T w) (t1 : ∀ m w, B 1 m w → T w) (hS : SeqN [k7, k8, k13, k16] B L m w) : T w := by
 have hn := post_no hsh h8 hr
 unfold SeqN cntD cntD at hS
 rw [h8, cntD_none hn] at hS
 cases h7 : Dn L k7
 · rw [h7] at hS; exact t0 _ _ hS
 · rw [h7] at hS; exact t1 _ _ hS
theorem Chg.trans2 {X : Nat → Prop} {w w1 w2 : World} (h : Chg X w w1) (k : Chg X w1 w2) (_ : True) : Chg X w w2 := h.trans k
def putE (s : SC) : Int := if s.ended then 322 else if (s.q.length : Int) = 8 ∨ 1099511627776 ≤ s.base - 1 + (s.q.length : Int) then 6 else 0
def putR (s : SC) (b : BC) : SC := ⟨s.ses, s.base, s.q ++ [b], s.sent, s.lim, s.timer, b.fin⟩
def PutC (E : Int) (s : SC) (b : BC) (g B : Nat) (G : Nat → Prop) (A : Option Addr) (n c : Nat) (w : World) (e : Ending) (w' : World) : Prop :=
 (E ≠ 0 ∧ e = .returned (.int .i64 E) ∧ Below w.heap.size w w') ∨
 (E = 0 ∧ e = .returned (.int .i64 0) ∧ ∃ A2 c2, Blk w' g 29 ((putR s b).cells A2 (n + 1) c2) ∧ LB3.own 45 w' B G A2 (n + 1) c2 (s.q ++ [b]) ∧ Chg (fun k => k = g ∨ (Value.slice A n c).ownBlock = some k) w w')
set_option maxRecDepth 100000 in
set_option maxHeartbeats 16000000 in
theorem puts_any (s : SC) (g : Nat) (A : Option Addr) (n c B : Nat) (b : BC) (bA : Option Addr) (bn bc : Nat) (G : Nat → Prop) (w : World) (hN : Blk w g 29 (s.cells A n c)) (ho : LB3.own 45 w B G A n c s.q) (hgB : g < B) (hB : B ≤ w.heap.size)
 (hG : ∀ k, G k → k < w.heap.size) (hGg : ∀ k, G k → k ≠ g) (hrb : LR.rd w (fun k => G k ∧ (Value.slice A n c).ownBlock ≠ some k) bA bn b.rows) (hbn : bn ≤ bc) (hbc : bc ≤ 9223372036854775807) (h1 : 1 ≤ s.base) (h2 : s.base ≤ 2000000000000) (hn : n ≤ 100) :
 Calls Try.prog 92 #[.pointer (some ⟨g, 0, none⟩), .agg (b.cells bA bn bc)] w (PutC (putE s) s b g B G A n c w) := by
 have HPE := Lib.hid (show putE s = _ from rfl)
 have HL := Lib.hid (Lay.own_len ho)
 obtain ⟨ses, base, q, sent, lim, timer, ended⟩ := s
 obtain ⟨brows, fin, cnt⟩ := b
 dsimp only at ho hN hrb h1 h2 HL
 obtain ⟨E, hE⟩ : ∃ E, E = putE ⟨ses, base, q, sent, lim, timer, ended⟩ := ⟨_, rfl⟩
 rw [← hE]
 have HE := Lib.hid (show E = if ended then 322 else if (n : Int) = 8 ∨ 1099511627776 ≤ base - 1 + (n : Int) then 6 else 0 from by rw [hE]; unfold putE; rw [HL.out])
 clear hE HPE
 have b1 := bl_al (Below.refl w.heap.size w) (.cells #[.slice bA bn bc, .bool fin, .int .u64 cnt] 45)
 have HX := Lib.hid (Blk.new w 45 #[.slice bA bn bc, .bool fin, .int .u64 cnt])
 have HN := Lib.hid (hN.ca b1)
 have HO := Lib.hid (Lay.own_below ho b1)
 have HRB := Lib.hid (Lay.rd_below hrb b1)
 have HG := Lib.hid (fun k h => Nat.lt_of_lt_of_le (hG k h) b1.size)
 have HGg := Lib.hid hGg
 have HBX := Lib.hid b1
 have hB2 := Nat.le_trans hB b1.size
 have hgX : ¬ (fun k => k = g ∨ (Value.slice A n c).ownBlock = some k) w.heap.size := fun h => by
  rcases h with h | h
  · have := hN.lt; omega
  · have := (Lay.own_base ho _ h).2; omega
 have HNX : Hid (¬ ((Value.slice A n c).ownBlock = some g)) := Lib.hid (fun h => by have := (Lay.own_base ho _ h).1; omega)
 have hgB2 : g < w.heap.size := hN.lt
 have hgBne : w.heap.size ≠ g := by omega
 clear hG hGg hN ho hrb b1
 have x6 : (w.alloc (.cells #[.slice bA bn bc, .bool fin, .int .u64 cnt] 45)).cell? ⟨g, 6, none⟩ = some (.bool ended) := HN.out.cell 6
 cases ended
 · have x2 : (w.alloc (.cells #[.slice bA bn bc, .bool fin, .int .u64 cnt] 45)).cell? ⟨g, 2, none⟩ = some (.slice A n c) := HN.out.cell 2
   have y0 : (w.alloc (.cells #[.slice bA bn bc, .bool fin, .int .u64 cnt] 45)).cell? ⟨g, 0, none⟩ = some (.int .u32 ses) := HN.out.cell 0
   have y1 : (w.alloc (.cells #[.slice bA bn bc, .bool fin, .int .u64 cnt] 45)).cell? ⟨g, 1, none⟩ = some (.int .u64 base) := HN.out.cell 1
   have y3 : (w.alloc (.cells #[.slice bA bn bc, .bool fin, .int .u64 cnt] 45)).cell? ⟨g, 3, none⟩ = some (.int .u64 sent) := HN.out.cell 3
   have y4 : (w.alloc (.cells #[.slice bA bn bc, .bool fin, .int .u64 cnt] 45)).cell? ⟨g, 4, none⟩ = some (.int .u64 lim) := HN.out.cell 4
   have y5 : (w.alloc (.cells #[.slice bA bn bc, .bool fin, .int .u64 cnt] 45)).cell? ⟨g, 5, none⟩ = some (.int .i64 timer) := HN.out.cell 5
   by_cases h8 : n = 8
   · have d8 : ((n : Int) == 8) = true := by simp; omega
     obtain rfl : E = 6 := by rw [HE.out, if_neg (by decide), if_pos (.inl (by omega))]
     clear h8
     go_enter Try.func92, Try.ntmps92
     go_wp2
     go_ret
     exact Or.inl ⟨by decide, rfl, HBX.out⟩
   · have d8 : ((n : Int) == 8) = false := by simp; omega
     have HLA := Lib.hid (last_any ⟨ses, base, q, sent, lim, timer, false⟩ A n c (w.alloc (.cells #[.slice bA bn bc, .bool fin, .int .u64 cnt] 45)) h1 h2 hn)
     by_cases hf : 1099511627776 ≤ base - 1 + (n : Int)
     · obtain rfl : E = 6 := by rw [HE.out, if_neg (by decide), if_pos (.inr hf)]
       have d9 : decide ((1099511627776 : Int) ≤ base - 1 + (n : Int)) = true := by simpa using hf
       clear h8 hf
       go_enter Try.func92, Try.ntmps92
       go_wp2_with fail
       refine HLA.out.mono ?_
       rintro e w2 ⟨rfl, q2⟩
       have HQ := Lib.hid (bl_ca HBX.out q2)
       clear q2
       go_wp2
       go_ret
       exact Or.inl ⟨by decide, rfl, HQ.out⟩
     · obtain rfl : E = 0 := by rw [HE.out, if_neg (by decide), if_neg (by omega)]
       have d9 : decide ((1099511627776 : Int) ≤ base - 1 + (n : Int)) = false := by simpa using hf
       clear h8 hf
       go_enter Try.func92, Try.ntmps92
       go_wp2_with fail
       refine HLA.out.mono ?_
       rintro e w1 ⟨rfl, q2⟩
       replace HX := Lib.hid (HX.out.ca q2)
       replace HN := Lib.hid (HN.out.ca q2)
       replace HO := Lib.hid (Lay.own_below HO.out q2)
       replace HRB := Lib.hid (Lay.rd_below HRB.out q2)
       replace HBX := Lib.hid (bl_ca HBX.out q2)
       replace HG := Lib.hid (fun k h => Nat.lt_of_lt_of_le (HG.out k h) q2.size)
       replace hB2 := Nat.le_trans hB2 q2.size
       have HNXX : True := trivial
       obtain ⟨gB, hgBe⟩ : ∃ gB, gB = w.heap.size := ⟨_, rfl⟩
       rw [← hgBe] at HX hgX hgBne hgB2 ⊢
       have hwX : True := trivial
       clear hgBe q2 x6 x2 y0 y1 y3 y4 y5 HLA
       go_wp2_with fail
       refine wp_region_ps (S := SeqN [7, 8, 13, 16] (fun z m w' => match z with | 0 => Below w1.heap.size w1 w' | 1 => Below w1.heap.size w1 w' ∧ ∃ gb, m 7 = .slice (some ⟨gb, 0, none⟩) 1 1 ∧ w1.heap.size ≤ gb ∧ Blk w' gb 45 #[.slice bA bn bc, .bool fin, .int .u64 cnt] | 2 => Chg (fun k => k = g ∨ (Value.slice A n c).ownBlock = some k) w1 w' ∧ Blk w' gB 45 #[.slice bA bn bc, .bool fin, .int .u64 cnt] ∧ Blk w' g 29 #[.int .u32 ses, .int .u64 base, .slice A n c, .int .u64 sent, .int .u64 lim, .int .i64 timer, .bool false] ∧ ∃ A2 c2, m 8 = .slice A2 (n + 1) c2 ∧ LB3.own 45 w' B G A2 (n + 1) c2 (q ++ [⟨brows, fin, cnt⟩]) | 3 => Chg (fun k => k = g ∨ (Value.slice A n c).ownBlock = some k) w1 w' ∧ Blk w' gB 45 #[.slice bA bn bc, .bool fin, .int .u64 cnt] ∧ ∃ A2 c2, m 8 = .slice A2 (n + 1) c2 ∧ LB3.own 45 w' B G A2 (n + 1) c2 (q ++ [⟨brows, fin, cnt⟩]) ∧ Blk w' g 29 #[.int .u32 ses, .int .u64 base, .slice A2 (n + 1) c2, .int .u64 sent, .int .u64 lim, .int .i64 timer, .bool false] | _ => Chg (fun k => k = g ∨ (Value.slice A n c).ownBlock = some k) w1 w' ∧ ∃ A2 c2, m 8 = .slice A2 (n + 1) c2 ∧ LB3.own 45 w' B G A2 (n + 1) c2 (q ++ [⟨brows, fin, cnt⟩]) ∧ Blk w' g 29 #[.int .u32 ses, .int .u64 base, .slice A2 (n + 1) c2, .int .u64 sent, .int .u64 lim, .int .i64 timer, .bool fin])) (by kernel_rfl) ?spswpp ?ppswpp
       case spswpp =>
        exact SeqN.start (by decide) (Below.refl _ _).drew
       refine Pz 0 (some 24) _ rfl rfl (StepS.pure (SeqN.pass (by decide)) rfl fun w9 => by go_simp; try rfl) ?_
       try simp only [Act.put, sA, sZ, sS]
       refine Pz 1 (some 25) _ rfl rfl (StepS.pure (SeqN.pass (by decide)) rfl fun w9 => by go_simp; try rfl) ?_
       try simp only [Act.put, sA, sZ, sS]
       refine Pz 2 (some 26) _ rfl rfl (StepS.pure (SeqN.pass (by decide)) rfl fun w9 => by go_simp; try rfl) ?_
       try simp only [Act.put, sA, sZ, sS]
       refine Pz 3 (some 27) _ rfl rfl (StepS.pure (SeqN.pass (by decide)) rfl fun w9 => by go_simp; try rfl) ?_
       try simp only [Act.put, sA, sZ, sS]
       refine Pz 4 (some 28) _ rfl rfl (StepS.pure (SeqN.pass (by decide)) rfl fun w9 => by go_simp; try rfl) ?_
       try simp only [Act.put, sA, sZ, sS]
       refine Pz 5 (some 29) ?uwpp_6 rfl rfl ?ywpp_6 ?rwpp_6
       case ywpp_6 =>
        refine StepS.read [] (by kernel_rfl) (SeqN.pass (by decide)) (by rfl) (fun L9 m9 w9 hSh hAt hDn hS => ?_)
        have d8 : Dn L9 8 = false := reach_no hSh (f := 17) (j := 8) (d := 5) (by kernel_rfl) hDn
        have hT : Below w1.heap.size w1 w9 := SeqN.early78 hSh d8 (by kernel_rfl) (fun _ _ h => h) (fun _ _ h => h.1) hS
        have x2 : w9.cell? ⟨g, 2, none⟩ = some (.slice A n c) := (HN.out.ca hT).cell 2
        clear hT hS
        go_simp
        try rfl
       try simp only [Act.put, sA, sZ, sS]
       refine Pz 6 (some 30) ?uwpp_7 rfl rfl ?ywpp_7 ?rwpp_7
       case ywpp_7 =>
        refine StepS.read [] (by kernel_rfl) (SeqN.pass (by decide)) (by rfl) (fun L9 m9 w9 hSh hAt hDn hS => ?_)
        have d8 : Dn L9 8 = false := reach_no hSh (f := 17) (j := 8) (d := 6) (by kernel_rfl) hDn
        have hT : Below w1.heap.size w1 w9 := SeqN.early78 hSh d8 (by kernel_rfl) (fun _ _ h => h) (fun _ _ h => h.1) hS
        have x0 : w9.cell? ⟨gB, 0, none⟩ = some (.slice bA bn bc) := (HX.out.ca hT).cell 0
        have x1 : w9.cell? ⟨gB, 1, none⟩ = some (.bool fin) := (HX.out.ca hT).cell 1
        have x2 : w9.cell? ⟨gB, 2, none⟩ = some (.int .u64 cnt) := (HX.out.ca hT).cell 2
        clear hT hS
        go_simp
        try rfl
       try simp only [Act.put, sA, sZ, sS]
       refine Pz 9 (some 33) _ rfl rfl (StepS.pure (SeqN.pass (by decide)) rfl fun w9 => by go_simp; try rfl) ?_
       try simp only [Act.put, sA, sZ, sS]
       refine Pz 10 (some 34) ?uwpp_9 rfl rfl ?ywpp_9 ?rwpp_9
       case ywpp_9 =>
        refine StepS.read [] (by kernel_rfl) (SeqN.pass (by decide)) (by rfl) (fun L9 m9 w9 hSh hAt hDn hS => ?_)
        have hT : Blk w9 gB 45 #[.slice bA bn bc, .bool fin, .int .u64 cnt] := SeqN.any (T := fun w9 => Blk w9 gB 45 #[.slice bA bn bc, .bool fin, .int .u64 cnt]) (fun z _ _ h => by match z, h with | 0, h => exact HX.out.ca h | 1, h => exact HX.out.ca h.1 | 2, h => exact h.2.1 | 3, h => exact h.2.1 | _ + 4, h => exact HX.out.chg h.1 hgX) hS
        have x1 : w9.cell? ⟨gB, 1, none⟩ = some (.bool fin) := hT.cell 1
        clear hT hS
        go_simp
        try rfl
       try simp only [Act.put, sA, sZ, sS]
       refine Ps.one (k := 7) (d := some 31) rfl rfl (by kernel_rfl) (TurnS.value (V := fun v => ∃ gb, v = .slice (some ⟨gb, 0, none⟩) 1 1) [] (by kernel_rfl) (by rfl) (fun L9 m9 w9 hSh hAt hDn hS => ?cwpp_10)) (fun v7 hVv7 => ?rwpp_10)
       case cwpp_10 =>
        have hT := SeqN.at_ (m0 := m9) (m1 := m9) [] [8, 13, 16] hSh (fun d hd => by cases hd) hDn (by kernel_rfl) hS
        refine ⟨.slice (some ⟨w9.heap.size, 0, none⟩) 1 1, w9.alloc (.cells #[.slice bA bn bc, .bool fin, .int .u64 cnt] 45), ?_, ⟨_, rfl⟩, SeqN.set_ (m0 := m9) (m1 := m9) [] [8, 13, 16] hSh (fun d hd => by cases hd) hDn (by kernel_rfl) (by decide) (by decide) ⟨bl_al hT _, _, upd_same _ _ _, hT.size, Blk.new _ _ _⟩⟩
        clear hT hS
        go_simp
       try simp only [Act.put, sA, sZ, sS]
       obtain ⟨gb, rfl⟩ := hVv7
       refine Ps.one (k := 8) (d := some 32) rfl rfl (by kernel_rfl) (TurnS.value (V := fun v => ∃ A2 c2, v = .slice A2 (n + 1) c2) [7] (by kernel_rfl) (by rfl) (fun L9 m9 w9 hSh hAt hDn hS => ?cwpp_11)) (fun v8 hVv8 => ?rwpp_11)
       case cwpp_11 =>
        obtain ⟨hT, gb2, hv, hg1, hg2⟩ := SeqN.at_ [7] [13, 16] hSh hAt hDn (by kernel_rfl) hS
        obtain rfl : gb = gb2 := by have h9 : Value.slice (some ⟨gb, 0, none⟩) 1 1 = .slice (some ⟨gb2, 0, none⟩) 1 1 := (hAt 7 (by simp)).2.symm.trans hv; simpa using h9
        obtain ⟨A2, c2, w8, hrun, hown, hgr, hat⟩ := run_appL (L := LB3) (e := 45) (P := Try.prog) (w := w9) 27 27 _ 3 40 Try.underlying27 infoB rfl rfl (by decide) B G A n c q gb 1 45 #[.slice bA bn bc, .bool fin, .int .u64 cnt] ⟨brows, fin, cnt⟩ (Lay.own_below HO.out hT) hg2 ⟨bA, bn, bc, rfl, hbn, hbc, Lay.rd_below HRB.out hT⟩ (fun b hb => Nat.lt_of_lt_of_le (HG.out b hb) hT.size) (by omega) (by unfold maxLen; omega) (Nat.le_trans hB2 hT.size)
        have hch : Chg (fun k => k = g ∨ (Value.slice A n c).ownBlock = some k) w1 w8 := (Chg.of_below hT).grown hgr (fun k e => .inl (.inr e))
        exact ⟨_, w8, exec_append (.tmp 29) (.tmp 31) 27 rfl rfl rfl hrun, ⟨A2, c2, rfl⟩, SeqN.set_ [7] [13, 16] hSh hAt hDn (by kernel_rfl) (by decide) (by decide) ⟨hch, HX.out.chg hch hgX, (hgr.block g (HN.out.ca hT).lt (fun e => HNX.out e.symm)).trans (HN.out.ca hT), A2, c2, upd_same _ _ _, hown⟩⟩
       try simp only [Act.put, sA, sZ, sS]
       obtain ⟨A2, c2, rfl⟩ := hVv8
       refine Pz 11 (some 35) _ rfl rfl (StepS.pure (SeqN.pass (by decide)) rfl fun w9 => by go_simp; try rfl) ?_
       try simp only [Act.put, sA, sZ, sS]
       refine Pz 12 (some 36) _ rfl rfl (StepS.pure (SeqN.pass (by decide)) rfl fun w9 => by go_simp; try rfl) ?_
       try simp only [Act.put, sA, sZ, sS]
       refine Pz 13 none undef rfl rfl ?ywpp_14 ?rwpp_14
       case ywpp_14 =>
        refine StepS.store [7, 8] (by kernel_rfl) (by rfl) (fun L9 m9 w9 hSh hAt hDn hS => ?_)
        obtain ⟨hch, hbb, hN, A3, c3, hv, ho⟩ := SeqN.at_ [7, 8] [16] hSh hAt hDn (by kernel_rfl) hS
        obtain ⟨rfl, rfl⟩ : A2 = A3 ∧ c2 = c3 := by have h9 : Value.slice A2 (n + 1) c2 = .slice A3 (n + 1) c3 := (hAt 8 (by simp)).2.symm.trans hv; simpa using h9
        have hN2 : Blk (w9.setCell ⟨g, 2, none⟩ (.slice A2 (n + 1) c2)) g 29 #[.int .u32 ses, .int .u64 base, .slice A2 (n + 1) c2, .int .u64 sent, .int .u64 lim, .int .i64 timer, .bool false] := by simpa using hN.set_ 2 (.slice A2 (n + 1) c2)
        have hg2 : w9.grownBy (w9.setCell ⟨g, 2, none⟩ (.slice A2 (n + 1) c2)) (some g) := only_setCell (World.grownBy.refl _ _) (.inl rfl) _
        have x2 : w9.cell? ⟨g, 2, none⟩ = some (.slice A n c) := hN.cell 2
        have fx : w9.frozen? ⟨g, 2, none⟩ = false := hN.frozen 2
        refine ⟨w9.setCell ⟨g, 2, none⟩ (.slice A2 (n + 1) c2), ?_, SeqN.set_ [7, 8] [16] hSh hAt hDn (by kernel_rfl) (by decide) (by decide) ⟨hch.grown hg2 (fun k e => .inl (.inl (by injection e with e; exact e.symm))), hbb.apart hg2 (by omega), A2, c2, hv, ?_, hN2⟩⟩
        · clear hv ho hN hN2 hg2 hch hbb hS
          go_simp
        · exact Lay.own_same ho (fun k e => hg2.block k (Lay.own_base ho k e).2 (fun e2 => by injection e2 with e2; have := (Lay.own_base ho k e).1; omega)) (fun b hb _ hl => hg2.block b hl (fun e2 => by injection e2 with e2; exact HGg.out b hb e2))
       try simp only [Act.put]
       refine Pz 14 (some 37) _ rfl rfl (StepS.pure (SeqN.pass (by decide)) rfl fun w9 => by go_simp; try rfl) ?_
       try simp only [Act.put, sA, sZ, sS]
       refine Pz 15 (some 38) _ rfl rfl (StepS.pure (SeqN.pass (by decide)) rfl fun w9 => by go_simp; try rfl) ?_
       try simp only [Act.put, sA, sZ, sS]
       refine Pz 16 none undef rfl rfl ?ywpp_17 ?rwpp_17
       case ywpp_17 =>
        refine StepS.store [7, 8, 13] (by kernel_rfl) (by rfl) (fun L9 m9 w9 hSh hAt hDn hS => ?_)
        obtain ⟨hch, hbb, A3, c3, hv, ho, hN⟩ := SeqN.at_ [7, 8, 13] [] hSh hAt hDn (by kernel_rfl) hS
        obtain ⟨rfl, rfl⟩ : A2 = A3 ∧ c2 = c3 := by have h9 : Value.slice A2 (n + 1) c2 = .slice A3 (n + 1) c3 := (hAt 8 (by simp)).2.symm.trans hv; simpa using h9
        have hN2 : Blk (w9.setCell ⟨g, 6, none⟩ (.bool fin)) g 29 #[.int .u32 ses, .int .u64 base, .slice A2 (n + 1) c2, .int .u64 sent, .int .u64 lim, .int .i64 timer, .bool fin] := by simpa using hN.set_ 6 (.bool fin)
        have hg2 : w9.grownBy (w9.setCell ⟨g, 6, none⟩ (.bool fin)) (some g) := only_setCell (World.grownBy.refl _ _) (.inl rfl) _
        have x2 : w9.cell? ⟨g, 6, none⟩ = some (.bool false) := hN.cell 6
        have fx : w9.frozen? ⟨g, 6, none⟩ = false := hN.frozen 6
        refine ⟨w9.setCell ⟨g, 6, none⟩ (.bool fin), ?_, SeqN.set_ [7, 8, 13] [] hSh hAt hDn (by kernel_rfl) (by decide) (by decide) ⟨hch.grown hg2 (fun k e => .inl (.inl (by injection e with e; exact e.symm))), A2, c2, hv, ?_, hN2⟩⟩
        · clear hv ho hN hN2 hg2 hch hbb hS
          go_simp
        · exact Lay.own_same ho (fun k e => hg2.block k (Lay.own_base ho k e).2 (fun e2 => by injection e2 with e2; have := (Lay.own_base ho k e).1; omega)) (fun b hb _ hl => hg2.block b hl (fun e2 => by injection e2 with e2; exact HGg.out b hb e2))
       try simp only [Act.put]
       refine Ps.done (by kernel_rfl) (fun wpp hS => ?_) _
       obtain ⟨hch, A3, c3, hv, ho, hN⟩ := SeqN.fin (by rfl) hS
       clear hS
       obtain ⟨rfl, rfl⟩ : A2 = A3 ∧ c2 = c3 := by have h9 : Value.slice A2 (n + 1) c2 = .slice A3 (n + 1) c3 := hv; simpa using h9
       clear hv
       have HCH := Lib.hid hch
       have HOO := Lib.hid ho
       have HNN := Lib.hid hN
       clear hch ho hN
       obtain ⟨w7, rfl⟩ : ∃ x, x = wpp := ⟨_, rfl⟩
       go_wp2
       go_ret
       exact Or.inr ⟨rfl, rfl, A2, c2, HNN.out, HOO.out, (Chg.of_below HBX.out).trans2 HCH.out hwX⟩
 · obtain rfl : E = 322 := by rw [HE.out]; rfl
   go_enter Try.func92, Try.ntmps92
   go_wp2
   go_ret
   exact Or.inl ⟨by decide, rfl, HBX.out⟩
end Go.Proofs.Ytojghgbaiiajfaa
