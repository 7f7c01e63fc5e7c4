/- Plain lemmas on memory for the walks of this seat (taken from the guide's pages of words to copy): slices that read as lists, blocks known whole, appends, frames. Conditions: none. -/
import Derived.Test.YtoaggmldekejoaaGreatDoorRows
import Derived.WalkKit
import Derived.WalkSpells
import Derived.WalkLawsBesides
import Derived.Below
import Derived.Laws.OwnMore
import Derived.Deep.AppendLies
import Derived.Deep.Draws
import Derived.Laws.Rows
import Derived.Maps.AppendAt
import Derived.RegionTactic
import Derived.OwnWalk
import Derived.Deep.QuietTactic
import Derived.BigQuiet
import Derived.BigRegion
import Derived.Deep.OwnRows
import Derived.Laws.AppendOwn
import Derived.Laws.MakeOwn
import Derived.Laws.Entries
import Derived.Laws.BitsAllLaws
import Derived.Laws.BitsLemmas
import Derived.ChangeSame
import Derived.Lib.Hide
import Derived.IntWalk
import Derived.LaidEqlPtr
import Derived.Deep.LoopGhost
import Derived.Deep.MidRow
import Derived.Deep.RegionHeld3
import Derived.Deep.WholeRow
import Derived.Lib.SliceRun
import Derived.Laws.IdiomStrings
import Derived.Lib.SlicesS
import Derived.Lib.ItoaNum
import Derived.Lib.MinMax
namespace Go.Proofs.YtoaggmldekejoaaGreatDoor
open Go.RowKit

theorem block_of_add (a : Addr) (n : Nat) : (a.add n).block = a.block := by unfold Addr.add; split <;> rfl
theorem add_of_add (a : Addr) (i j : Nat) : (a.add i).add j = a.add (i + j) := by
 unfold Addr.add
 by_cases hi : i = 0 <;> by_cases hj : j = 0 <;> simp [hi, hj, Nat.add_assoc]

def Reads (w : World) (B size : Nat) (A : Option Addr) (n : Nat) (xs : List Value) : Prop :=
 xs.length = n * size ∧ (0 < n → ∃ ad, A = some ad ∧ ad.block < B ∧ ∀ j u, xs[j]? = some u → w.cell? (ad.add j) = some u)

section
variable {w w' : World} {B B' size n : Nat} {A : Option Addr} {xs : List Value}
theorem Reads.none_ : Reads w B size A 0 [] := ⟨by simp, fun h => absurd h (by omega)⟩
theorem Reads.at_ {k : Nat} (h : Reads w B 1 A n xs) (hk : k < n) : ∃ ad u, A = some ad ∧ ad.block < B ∧ xs[k]? = some u ∧ w.cell? (ad.add k) = some u := by
 obtain ⟨ad, e, hb, hc⟩ := h.2 (by omega)
 have hl : k < xs.length := by have := h.1; omega
 exact ⟨ad, xs[k], e, hb, List.getElem?_eq_getElem hl, hc k _ (List.getElem?_eq_getElem hl)⟩
theorem Reads.keep (h : Reads w B size A n xs) (hk : ∀ p : Addr, p.block < B → w'.cell? p = w.cell? p) : Reads w' B size A n xs :=
 ⟨h.1, fun hn => by
  obtain ⟨ad, e, hb, hc⟩ := h.2 hn
  exact ⟨ad, e, hb, fun j u hu => (hk _ (by rw [block_of_add]; exact hb)).trans (hc j u hu)⟩⟩
theorem Reads.more (h : Reads w B size A n xs) (hB : B ≤ B') : Reads w B' size A n xs :=
 ⟨h.1, fun hn => by
  obtain ⟨ad, e, hb, hc⟩ := h.2 hn
  exact ⟨ad, e, by omega, hc⟩⟩
theorem Reads.below (h : Reads w B size A n xs) (hb : Below B w w') : Reads w' B size A n xs := h.keep fun _ hp => hb.cell hp
theorem Reads.drew (h : Reads w B size A n xs) : Reads w.drew B size A n xs := h
theorem Reads.drewN (h : Reads w B size A n xs) (k : Nat) : Reads (w.drewN k) B size A n xs := h
theorem Reads.alloc (h : Reads w B size A n xs) (hB : B ≤ w.heap.size) (o : Obj) : Reads (w.alloc o) B size A n xs := h.keep fun p hp => World.cell?_alloc_lt w o p (by omega)
theorem Reads.setCell (h : Reads w B size A n xs) {p : Addr} (hB : B ≤ p.block) (u : Value) : Reads (w.setCell p u) B size A n xs :=
 h.keep fun q hq => World.cell?_setCell_other w p q u (fun e => by subst e; omega)
theorem Reads.grown (h : Reads w B size A n xs) {row : Option Nat} (hg : w.grownBy w' row) (hB : B ≤ w.heap.size) (hr : ∀ g, row = some g → B ≤ g) : Reads w' B size A n xs :=
 h.keep fun p hp => World.cell?_of_block (hg.block p.block (by omega) (fun e => by have := hr _ e.symm; omega))
theorem Reads.cut (h : Reads w B size A n xs) {k cap : Nat} (hk : k ≤ n) (hc : n ≤ cap) :
 Reads w B size (if cap = k then A else A.map (·.add (k * size))) (n - k) (xs.drop (k * size)) := by
 refine ⟨by rw [List.length_drop, h.1, Nat.sub_mul], fun hn => ?_⟩
 obtain ⟨ad, rfl, hb, hcell⟩ := h.2 (by omega)
 rw [if_neg (by omega)]
 refine ⟨ad.add (k * size), rfl, by rw [block_of_add]; exact hb, fun j u hu => ?_⟩
 rw [add_of_add]
 exact hcell _ u (by rw [← hu, List.getElem?_drop])
theorem Reads.of_own {base : Nat} {e : TypeId} {c : Nat} (h : w.ownsRow base e size (.slice A n c) n xs) : Reads w w.heap.size size A n xs := by
 refine ⟨h.1, fun hn => ?_⟩
 obtain ⟨g, cap, hv, _, hlt⟩ := h.form hn
 have hA : A = some ⟨g, 0, none⟩ := by injection hv
 subst hA
 exact ⟨_, rfl, hlt, h.cells (g := g) rfl⟩
end

def Blk (w : World) (g : Nat) (t : TypeId) (cs : Array Value) : Prop := w.heap[g]? = some (.cells cs t (0, 0))

section
variable {w w' : World} {g : Nat} {t : TypeId} {cs : Array Value}
theorem Blk.lt (h : Blk w g t cs) : g < w.heap.size := by
 rcases Nat.lt_or_ge g w.heap.size with hlt | hge
 · exact hlt
 · unfold Blk at h; rw [Array.getElem?_eq_none hge] at h; cases h
theorem Blk.cell (h : Blk w g t cs) (i : Nat) : w.cell? ⟨g, i, none⟩ = cs[i]? := cell_of_row w g i cs t (0, 0) h
theorem Blk.frozen (h : Blk w g t cs) (i : Nat) : w.frozen? ⟨g, i, none⟩ = false := by
 unfold Blk at h
 simp [World.frozen?, h]
theorem Blk.new (w : World) (t : TypeId) (cs : Array Value) : Blk (w.alloc (.cells cs t)) w.heap.size t cs := heap_alloc_new w _
theorem Blk.drew (h : Blk w g t cs) : Blk w.drew g t cs := h
theorem Blk.drewN (h : Blk w g t cs) (n : Nat) : Blk (w.drewN n) g t cs := h
theorem Blk.alloc (h : Blk w g t cs) (o : Obj) : Blk (w.alloc o) g t cs := (Below.heap_alloc w o g h.lt).trans h
theorem Blk.set_ (h : Blk w g t cs) (i : Nat) (u : Value) : Blk (w.setCell ⟨g, i, none⟩ u) g t (cs.setIfInBounds i u) := by
 unfold Blk at h ⊢
 simp [World.setCell, Array.getElem?_modify, h]
theorem Blk.below {B : Nat} (h : Blk w g t cs) (hb : Below B w w') (hg : g < B) : Blk w' g t cs := (hb.block g hg).trans h
theorem Blk.grown {row : Option Nat} (h : Blk w g t cs) (hb : w.grownBy w' row) (hg : some g ≠ row) : Blk w' g t cs := (hb.block g h.lt hg).trans h
end

section
variable {P : Program} (w : World)

theorem run_append_of_nil (base : Nat) (t ty e : TypeId) (i : TypeInfo) (size : Nat) (ht : P.underlying t = some (.slice e)) (hi : P.info? e = some i)
 (v : Value) (n : Nat) (xs : List Value) (hown : w.ownsRow base e size v n xs) (c : Nat) : (Builtin.append_ #[t, t] ty #[v, .slice none 0 c]).run P w = .ok v w := by
 rcases hown.2 with ⟨rfl, rfl⟩ | ⟨g, cap, cur, rfl, _, _, hnc, _⟩
 · simp [Builtin.append_, run_underlying ht, sizeOf, typeInfo, hi, Builtin.lenOf, Builtin.firstCells]
 · simp [Builtin.append_, run_underlying ht, sizeOf, typeInfo, hi, Builtin.lenOf, Builtin.firstCells, hnc, storeCells]

theorem run_append_any (base : Nat) (t ty e : TypeId) (i : TypeInfo) (z : Value) (size bytes : Nat) (ht : P.underlying t = some (.slice e)) (hi : P.info? e = some i) (hz : i.zero = some z)
 (hsize : i.size = size) (hby : i.bytes = bytes) (hzs : z.cells.size = size) (hsz : 0 < size)
 (v : Value) (n : Nat) (xs : List Value) (hown : w.ownsRow base e size v n xs)
 (B : Nat) (A : Option Addr) (m c : Nat) (news : List Value) (hr : Reads w B size A m news) (h1 : ∀ u ∈ news, u.oneCell' = true)
 (h63 : n + m ≤ maxLen) (hbytes : (n + m) * bytes ≤ 140737488355328) (hbase : base ≤ w.heap.size) :
 ∃ v' w', (Builtin.append_ #[t, t] ty #[v, .slice A m c]).run P w = .ok v' w' ∧ w'.ownsRow base e size v' (n + m) (xs ++ news) ∧ w.grownBy w' v.ownBlock ∧
  (v'.ownBlock = v.ownBlock ∨ v'.ownBlock = some w.heap.size) := by
 rcases A with _ | ad
 · have hm : m = 0 := by
    rcases Nat.eq_zero_or_pos m with h0 | h0
    · exact h0
    · obtain ⟨ad, h, _⟩ := hr.2 h0
      cases h
   subst hm
   have hn : news = [] := List.eq_nil_of_length_eq_zero (by simpa using hr.1)
   subst hn
   exact ⟨v, w, run_append_of_nil w base t ty e i size ht hi v n xs hown c, by simpa using hown, World.grownBy.refl w _, .inl rfl⟩
 · have hcells : ∀ j u, news[j]? = some u → w.cell? (ad.add j) = some u := by
    intro j u hu
    rcases Nat.eq_zero_or_pos m with h0 | h0
    · subst h0
      have hn : news = [] := List.eq_nil_of_length_eq_zero (by simpa using hr.1)
      subst hn
      simp at hu
    · obtain ⟨ad', h, _, hc⟩ := hr.2 h0
      injection h with h
      subst h
      exact hc j u hu
   obtain ⟨v', w', hrun, h2, h3, _, h5⟩ := run_append_own_at (P := P) w base t ty e i z size bytes ht hi hz hsize hby hzs hsz v n xs hown ad m c news hr.1 hcells h1 h63 hbytes hbase
   exact ⟨v', w', hrun, h2, h3, h5⟩

theorem wp_append_any {o : Oper} {a : Act} {K : Act → World → Prop} {Q : Exit → Act → World → Prop} (s x : Operand) (t : TypeId)
 (ho : o.op = .call { callee := .builtin .append, args := #[s, x], argTypes := #[t, t] })
 (base : Nat) (e : TypeId) (i : TypeInfo) (z : Value) (size bytes : Nat) (ht : P.underlying t = some (.slice e)) (hi : P.info? e = some i) (hz : i.zero = some z)
 (hsize : i.size = size) (hby : i.bytes = bytes) (hzs : z.cells.size = size) (hsz : 0 < size)
 (v : Value) (n : Nat) (xs : List Value) (hs : a.eval s = v) (hown : w.ownsRow base e size v n xs)
 (B : Nat) (A : Option Addr) (m c : Nat) (news : List Value) (hx : a.eval x = .slice A m c) (hr : Reads w B size A m news) (h1 : ∀ u ∈ news, u.oneCell' = true)
 (h63 : n + m ≤ maxLen) (hbytes : (n + m) * bytes ≤ 140737488355328) (hbase : base ≤ w.heap.size)
 (h : ∀ v' w', w'.ownsRow base e size v' (n + m) (xs ++ news) → w.grownBy w' v.ownBlock → (v'.ownBlock = v.ownBlock ∨ v'.ownBlock = some w.heap.size) → K (a.put o.dst v') w') : o.wp P a w K Q := by
 obtain ⟨v', w', hrun, h2, h3, h4⟩ := run_append_any (P := P) w base t o.type e i z size bytes ht hi hz hsize hby hzs hsz v n xs hown B A m c news hr h1 h63 hbytes hbase
 unfold Oper.wp execOp
 simp only [ho, resolve, invoke, builtin, Sem.run_bind, Sem.run_pure, Result.andThen_ok, List.map_toArray, List.map_cons, List.map_nil, hs, hx, hrun]
 exact h v' w' h2 h3 h4

theorem wpList_append_any {ops : Array Oper} {rest : List Oper} {o : Oper} {a : Act} {Q : Exit → Act → World → Prop} (hgd : o.guard = none) (s x : Operand) (t : TypeId)
 (ho : o.op = .call { callee := .builtin .append, args := #[s, x], argTypes := #[t, t] })
 (base : Nat) (e : TypeId) (i : TypeInfo) (z : Value) (size bytes : Nat) (ht : P.underlying t = some (.slice e)) (hi : P.info? e = some i) (hz : i.zero = some z)
 (hsize : i.size = size) (hby : i.bytes = bytes) (hzs : z.cells.size = size) (hsz : 0 < size)
 (v : Value) (n : Nat) (xs : List Value) (hs : a.eval s = v) (hown : w.ownsRow base e size v n xs)
 (B : Nat) (A : Option Addr) (m c : Nat) (news : List Value) (hx : a.eval x = .slice A m c) (hr : Reads w B size A m news) (h1 : ∀ u ∈ news, u.oneCell' = true)
 (h63 : n + m ≤ maxLen) (hbytes : (n + m) * bytes ≤ 140737488355328) (hbase : base ≤ w.heap.size)
 (h : ∀ v' w', w'.ownsRow base e size v' (n + m) (xs ++ news) → w.grownBy w' v.ownBlock → (v'.ownBlock = v.ownBlock ∨ v'.ownBlock = some w.heap.size) → wpList P ops Q rest (a.put o.dst v') w') : wpList P ops Q (o :: rest) a w :=
 wpList_plain hgd fun _ hK => wp_append_any w s x t ho base e i z size bytes ht hi hz hsize hby hzs hsz v n xs hs hown B A m c news hx hr h1 h63 hbytes hbase fun v' w' h2 h3 h4 => hK _ _ (h v' w' h2 h3 h4)

end

theorem below_drewN {B : Nat} {a w : World} (h : Below B a w) (n : Nat) : Below B a (w.drewN n) := ⟨h.os, h.tape, h.output, h.size, h.block⟩
theorem only_setCell {a w : World} {g : Nat} (h : a.grownBy w (some g)) {p : Addr} (hp : p.block = g ∨ a.heap.size ≤ p.block) (u : Value) : a.grownBy (w.setCell p u) (some g) :=
 ⟨h.os, h.tape, h.output, by simpa [World.setCell] using h.size, fun i hi hne => (Below.heap_setCell w p u i (by
  rintro rfl
  rcases hp with hp | hp
  · exact hne (by rw [hp])
  · omega)).trans (h.block i hi hne)⟩
section
open Go.WideShapes Go.ChangeShapes
section
variable {H : Type} {enc : TypeId × Value → H} {P : Program}
end
end
end Go.Proofs.YtoaggmldekejoaaGreatDoor
/- Whole variables of several cells: stored and loaded as one. Conditions: none. -/
namespace Go.Proofs.YtoaggmldekejoaaGreatDoor
open Go.RowKit
theorem blk_setCells {g : Nat} {t : TypeId} : ∀ (vs : List Value) (o : Nat) (w : World) (pre suf : List Value), Blk w g t (pre ++ suf).toArray → o = pre.length → vs.length = suf.length → Blk (w.setCells g o vs) g t (pre ++ vs).toArray
 | [], _, w, pre, suf, h, _, hl => by
  obtain rfl : suf = [] := List.eq_nil_of_length_eq_zero (by simpa using hl.symm)
  exact h
 | v :: vs, o, w, pre, suf, h, ho, hl => by
  match suf, hl with
  | s :: suf, hl =>
   rw [World.setCells]
   have h1 : Blk (w.setCell ⟨g, o, none⟩ v) g t ((pre ++ [v]) ++ suf).toArray := by
    have := h.set_ o v
    subst ho
    simpa using this
   have := blk_setCells vs (o + 1) _ (pre ++ [v]) suf h1 (by simp [ho]) (by simpa using hl)
   simpa using this
theorem blk_setAll {w : World} {g : Nat} {t : TypeId} {cs new : Array Value} (h : Blk w g t cs) (hs : new.size = cs.size) : Blk (w.setCells g 0 new.toList) g t new := by
 have := blk_setCells new.toList 0 w [] cs.toList (by simpa using h) rfl (by simpa using hs)
 simpa using this
theorem grown_setCells {w0 : World} {g : Nat} : ∀ (vs : List Value) (o : Nat) (w : World), w0.grownBy w (some g) → w0.grownBy (w.setCells g o vs) (some g)
 | [], _, _, h => h
 | v :: vs, o, w, h => by
  rw [World.setCells]
  exact grown_setCells vs (o + 1) _ (only_setCell (p := ⟨g, o, none⟩) h (.inl rfl) v)
theorem there_blk {w : World} {g : Nat} {t : TypeId} {cs : Array Value} (h : Blk w g t cs) : w.there g 0 cs.size := fun j hj => by
 rw [Nat.zero_add]
 exact ⟨by rw [h.cell j, Array.getElem?_eq_getElem hj]; rfl, h.frozen j⟩
section
variable {P : Program}
theorem wpList_store_blk {ops : Array Oper} {rest : List Oper} {op : Oper} {a : Act} {w : World} {Q : Exit → Act → World → Prop} (hgd : op.guard = none) (ty : TypeId) (x y : Operand) (ho : op.op = .store ty x y)
 (g : Nat) (t : TypeId) (cs new : Array Value) (hx : a.eval x = .pointer (some ⟨g, 0, none⟩)) (hy : a.eval y = .agg new) (hb : Blk w g t cs) (hs : new.size = cs.size) (hi : (P.info? ty).map (·.size) = some new.size) (h1 : new.all (·.oneCell') = true)
 (h : ∀ w', Blk w' g t new → w.grownBy w' (some g) → wpList P ops Q rest (a.put op.dst undef) w') : wpList P ops Q (op :: rest) a w :=
 wpList_store_mid hgd ty x y ho g 0 new hx hy (by rw [hs]; exact there_blk hb) hi h1 (h _ (blk_setAll hb hs) (grown_setCells _ _ _ (World.grownBy.refl w _)))
end
theorem below_row {a w w' : World} {R : Nat} {B : Nat} (h : Below B a w) (hg : w.grownBy w' (some R)) (hB : B ≤ w.heap.size) (hR : B ≤ R) : Below B a w' := h.grown hg hB (fun k e => by injection e with e; omega)
theorem Blk.apart {w w' : World} {g g' : Nat} {t : TypeId} {cs : Array Value} (h : Blk w g t cs) (hb : w.grownBy w' (some g')) (hne : g ≠ g') : Blk w' g t cs := h.grown hb (fun e => hne (by injection e))
section
variable {P : Program}
theorem res1 {fn : Func} {p : Tmp} {ty : TypeId} (h : fn.results = #[.cell p ty]) {tmps : Array Value} {w : World} {g : Nat} {t : TypeId} {cs : Array Value} {d : TypeDesc}
 (hp : tmps.getD p undef = .pointer (some ⟨g, 0, none⟩)) (hg : Blk w g t cs) (hu : P.underlying ty = some d) (hd : (match d with | .struct _ | .array _ _ => true | _ => false) = true) (hi : (P.info? ty).map (·.size) = some cs.size) :
 (results fn tmps).run P w = .ok (.agg cs) w := results_cell_row h tmps w g t cs (0, 0) d hp hg hu hd hi
theorem res2 {fn : Func} {p q : Tmp} {ty : TypeId} (h : fn.results = #[.cell p ty, .tmp q]) {tmps : Array Value} {w : World} {g : Nat} {t : TypeId} {cs : Array Value} {d : TypeDesc} {v : Value}
 (hp : tmps.getD p undef = .pointer (some ⟨g, 0, none⟩)) (hq : tmps.getD q undef = v) (hg : Blk w g t cs) (hu : P.underlying ty = some d) (hd : (match d with | .struct _ | .array _ _ => true | _ => false) = true) (hi : (P.info? ty).map (·.size) = some cs.size) :
 (results fn tmps).run P w = .ok (.tuple #[.agg cs, v]) w := by
 have hp' : tmps[p]?.getD undef = .pointer (some ⟨g, 0, none⟩) := by simpa using hp
 have hq' : tmps[q]?.getD undef = v := by simpa using hq
 simp [results, h, hp', hq', asAddr, run_loadVar_row w g t ty cs (0, 0) d hg hu hd hi]
end
section
variable {w0 w w' : World}
theorem bl_al (h : Below w0.heap.size w0 w) (o : Obj) : Below w0.heap.size w0 (w.alloc o) := h.alloc h.size o
theorem bl_ca (h : Below w0.heap.size w0 w) (q : Below w.heap.size w w') : Below w0.heap.size w0 w' := h.trans (q.mono h.size)
theorem bl_dr (h : Below w0.heap.size w0 w) (n : Nat) : Below w0.heap.size w0 (w.drewN n) := below_drewN h n
theorem bl_d1 (h : Below w0.heap.size w0 w) : Below w0.heap.size w0 w.drew := h.drew
theorem bl_set (h : Below w0.heap.size w0 w) {p : Addr} (hp : w0.heap.size ≤ p.block) (v : Value) : Below w0.heap.size w0 (w.setCell p v) := h.setCell hp v
theorem bl_gr (h : Below w0.heap.size w0 w) {g : Nat} (k : w.grownBy w' (some g)) (hg : w0.heap.size ≤ g) : Below w0.heap.size w0 w' := below_row h k h.size hg
end
end Go.Proofs.YtoaggmldekejoaaGreatDoor
/- More words on variables of several cells. Conditions: none. -/
namespace Go.Proofs.YtoaggmldekejoaaGreatDoor
open Go.RowKit
theorem Blk.ca {w w' : World} {g : Nat} {t : TypeId} {cs : Array Value} (h : Blk w g t cs) (q : Below w.heap.size w w') : Blk w' g t cs := h.below q h.lt
end Go.Proofs.YtoaggmldekejoaaGreatDoor
/- Data in memory, by what it is made of: how many cells, what they hold, and to which blocks it leads. Conditions: none. -/
namespace Go.Proofs.YtoaggmldekejoaaGreatDoor
open Go.RowKit
/-- How a kind of data lies in memory: so many cells; what they hold; the blocks that it leads to are among F. -/
structure Lay (α : Type) where
 size : Nat
 rep : World → (Nat → Prop) → α → List Value → Prop
 len : ∀ {w F a cs}, rep w F a cs → cs.length = size
 one : ∀ {w F a cs}, rep w F a cs → ∀ u ∈ cs, u.oneCell' = true
 keep : ∀ {w w' : World} {F : Nat → Prop} {a cs}, (∀ b, F b → b < w.heap.size → w'.heap[b]? = w.heap[b]?) → rep w F a cs → rep w' F a cs
 weak : ∀ {w F G a cs}, (∀ b, F b → b < w.heap.size → G b) → rep w F a cs → rep w G a cs
/-- data of one cell that leads nowhere -/
def Lay.cell {α : Type} (mk : α → Value) (h1 : ∀ a, (mk a).oneCell' = true) : Lay α where
 size := 1
 rep := fun _ _ a cs => cs = [mk a]
 len := fun h => by subst h; rfl
 one := fun {_ _ a _} h u hu => by subst h; simp at hu; subst hu; exact h1 a
 keep := fun _ h => h
 weak := fun _ h => h
/-- two kinds, one behind the other -/
def Lay.pair {α β : Type} (L : Lay α) (M : Lay β) : Lay (α × β) where
 size := L.size + M.size
 rep := fun w F p cs => ∃ x y, cs = x ++ y ∧ L.rep w F p.1 x ∧ M.rep w F p.2 y
 len := fun h => by obtain ⟨x, y, rfl, hx, hy⟩ := h; rw [List.length_append, L.len hx, M.len hy]
 one := fun h u hu => by
  obtain ⟨x, y, rfl, hx, hy⟩ := h
  rcases List.mem_append.1 hu with hu | hu
  · exact L.one hx u hu
  · exact M.one hy u hu
 keep := fun hk h => by obtain ⟨x, y, e, hx, hy⟩ := h; exact ⟨x, y, e, L.keep hk hx, M.keep hk hy⟩
 weak := fun hk h => by obtain ⟨x, y, e, hx, hy⟩ := h; exact ⟨x, y, e, L.weak hk hx, M.weak hk hy⟩
/-- a kind that is another one under other names -/
def Lay.as {α β : Type} (L : Lay α) (f : β → α) : Lay β where
 size := L.size
 rep := fun w F b cs => L.rep w F (f b) cs
 len := L.len
 one := L.one
 keep := L.keep
 weak := L.weak
/-- several, one behind the other -/
def Lay.reps {α : Type} (L : Lay α) (w : World) (F : Nat → Prop) : List α → List Value → Prop
 | [], cs => cs = []
 | a :: l, cs => ∃ x y, cs = x ++ y ∧ L.rep w F a x ∧ L.reps w F l y
section
variable {α : Type} {L : Lay α} {w w' : World} {F G : Nat → Prop}
theorem Lay.reps_len : ∀ {xs : List α} {cs : List Value}, L.reps w F xs cs → cs.length = xs.length * L.size
 | [], _, h => by cases h; simp
 | _ :: l, _, h => by
  obtain ⟨x, y, rfl, hx, hy⟩ := h
  rw [List.length_append, L.len hx, Lay.reps_len hy, List.length_cons, Nat.succ_mul, Nat.add_comm]
theorem Lay.reps_one : ∀ {xs : List α} {cs : List Value}, L.reps w F xs cs → ∀ u ∈ cs, u.oneCell' = true
 | [], _, h, u, hu => by cases h; cases hu
 | _ :: l, _, h, u, hu => by
  obtain ⟨x, y, rfl, hx, hy⟩ := h
  rcases List.mem_append.1 hu with hu | hu
  · exact L.one hx u hu
  · exact Lay.reps_one hy u hu
theorem Lay.reps_keep (hk : ∀ b, F b → b < w.heap.size → w'.heap[b]? = w.heap[b]?) : ∀ {xs : List α} {cs : List Value}, L.reps w F xs cs → L.reps w' F xs cs
 | [], _, h => h
 | _ :: l, _, h => by
  obtain ⟨x, y, e, hx, hy⟩ := h
  exact ⟨x, y, e, L.keep hk hx, Lay.reps_keep hk hy⟩
theorem Lay.reps_weak (hk : ∀ b, F b → b < w.heap.size → G b) : ∀ {xs : List α} {cs : List Value}, L.reps w F xs cs → L.reps w G xs cs
 | [], _, h => h
 | _ :: l, _, h => by
  obtain ⟨x, y, e, hx, hy⟩ := h
  exact ⟨x, y, e, L.weak hk hx, Lay.reps_weak hk hy⟩
theorem Lay.reps_append : ∀ {xs ys : List α} {cs ds : List Value}, L.reps w F xs cs → L.reps w F ys ds → L.reps w F (xs ++ ys) (cs ++ ds)
 | [], _, _, _, h, k => by cases h; exact k
 | _ :: l, _, _, _, h, k => by
  obtain ⟨x, y, rfl, hx, hy⟩ := h
  exact ⟨x, y ++ _, by rw [List.append_assoc], hx, Lay.reps_append hy k⟩
theorem Lay.reps_single {a : α} {cs : List Value} (h : L.rep w F a cs) : L.reps w F [a] cs := ⟨cs, [], by simp, h, rfl⟩
theorem Lay.reps_at : ∀ {xs : List α} {cs : List Value} {i : Nat} {a : α}, L.reps w F xs cs → xs[i]? = some a → ∃ ds, L.rep w F a ds ∧ ∀ j u, ds[j]? = some u → cs[i * L.size + j]? = some u
 | [], _, _, _, _, h => by simp at h
 | x :: l, _, i, a, h, k => by
  obtain ⟨c, d, rfl, hx, hy⟩ := h
  cases i with
  | zero =>
   simp at k
   subst k
   exact ⟨c, hx, fun j u hu => by rw [Nat.zero_mul, Nat.zero_add, List.getElem?_append_left (List.getElem?_eq_some_iff.1 hu).1]; exact hu⟩
  | succ i =>
   obtain ⟨ds, h1, h2⟩ := Lay.reps_at hy (show l[i]? = some a by simpa using k)
   refine ⟨ds, h1, fun j u hu => ?_⟩
   rw [List.getElem?_append_right (by rw [L.len hx, Nat.succ_mul]; omega), L.len hx, show (i + 1) * L.size + j - L.size = i * L.size + j from by rw [Nat.succ_mul]; omega]
   exact h2 j u hu
/-- the slice reads as these -/
def Lay.rd (L : Lay α) (w : World) (F : Nat → Prop) (A : Option Addr) (n : Nat) (xs : List α) : Prop :=
 xs.length = n ∧ ∃ cs, L.reps w F xs cs ∧ (0 < n → ∃ ad, A = some ad ∧ ad.block < w.heap.size ∧ F ad.block ∧ ∀ j u, cs[j]? = some u → w.cell? (ad.add j) = some u)
theorem cell_of_heap {p : Addr} (h : w'.heap[p.block]? = w.heap[p.block]?) : w'.cell? p = w.cell? p := by unfold World.cell?; rw [h]
theorem lt_of_same {b : Nat} (h : w'.heap[b]? = w.heap[b]?) (hb : b < w.heap.size) : b < w'.heap.size := by
 rcases Nat.lt_or_ge b w'.heap.size with h' | h'
 · exact h'
 · rw [Array.getElem?_eq_none h', Array.getElem?_eq_getElem hb] at h; cases h
theorem Lay.rd_keep {A : Option Addr} {n : Nat} {xs : List α} (hk : ∀ b, F b → b < w.heap.size → w'.heap[b]? = w.heap[b]?) (h : L.rd w F A n xs) : L.rd w' F A n xs := by
 obtain ⟨hl, cs, hr, hc⟩ := h
 refine ⟨hl, cs, Lay.reps_keep hk hr, fun hn => ?_⟩
 obtain ⟨ad, e, hb, hf, hh⟩ := hc hn
 exact ⟨ad, e, lt_of_same (hk _ hf hb) hb, hf, fun j u hu => (cell_of_heap (by rw [block_of_add]; exact hk _ hf hb)).trans (hh j u hu)⟩
theorem Lay.rd_below {A : Option Addr} {n : Nat} {xs : List α} (h : L.rd w F A n xs) (q : Below w.heap.size w w') : L.rd w' F A n xs := Lay.rd_keep (fun b _ hb => q.block b hb) h
theorem Lay.rd_weak {A : Option Addr} {n : Nat} {xs : List α} (hk : ∀ b, F b → b < w.heap.size → G b) (h : L.rd w F A n xs) : L.rd w G A n xs := by
 obtain ⟨hl, cs, hr, hc⟩ := h
 refine ⟨hl, cs, Lay.reps_weak hk hr, fun hn => ?_⟩
 obtain ⟨ad, e, hb, hf, hh⟩ := hc hn
 exact ⟨ad, e, hb, hk _ hf hb, hh⟩
theorem Lay.rd_at {A : Option Addr} {n i : Nat} {xs : List α} (h : L.rd w F A n xs) (hi : i < n) : ∃ ad x cs, A = some ad ∧ xs[i]? = some x ∧ ad.block < w.heap.size ∧ F ad.block ∧ L.rep w F x cs ∧ ∀ j u, cs[j]? = some u → w.cell? (ad.add (i * L.size + j)) = some u := by
 obtain ⟨hl, cs, hr, hc⟩ := h
 obtain ⟨ad, e, hb, hf, hh⟩ := hc (by omega)
 have hx : xs[i]? = some xs[i] := List.getElem?_eq_getElem (by omega)
 obtain ⟨ds, h1, h2⟩ := Lay.reps_at hr hx
 exact ⟨ad, xs[i], ds, e, hx, hb, hf, h1, fun j u hu => hh _ u (h2 j u hu)⟩
theorem Lay.rd_nil (A : Option Addr) : L.rd w F A 0 [] := ⟨rfl, [], rfl, fun h => absurd h (by omega)⟩
theorem Lay.rd_len {A : Option Addr} {n : Nat} {xs : List α} (h : L.rd w F A n xs) : xs.length = n := h.1
theorem Lay.reps_take : ∀ {xs : List α} {cs : List Value} (k : Nat), L.reps w F xs cs → L.reps w F (xs.take k) (cs.take (k * L.size))
 | [], _, k, h => by cases h; simp [Lay.reps]
 | x :: l, _, 0, h => by simp [Lay.reps]
 | x :: l, _, k + 1, h => by
  obtain ⟨c, d, rfl, hx, hy⟩ := h
  refine ⟨c, d.take (k * L.size), ?_, hx, Lay.reps_take k hy⟩
  rw [Nat.succ_mul, List.take_append, List.take_of_length_le (by rw [L.len hx]; omega), L.len hx, Nat.add_sub_cancel]
theorem Lay.reps_drop : ∀ {xs : List α} {cs : List Value} (k : Nat), L.reps w F xs cs → L.reps w F (xs.drop k) (cs.drop (k * L.size))
 | [], _, k, h => by cases h; simp [Lay.reps]
 | x :: l, _, 0, h => by simpa using h
 | x :: l, _, k + 1, h => by
  obtain ⟨c, d, rfl, hx, hy⟩ := h
  have := Lay.reps_drop k hy
  rw [Nat.succ_mul, List.drop_append, List.drop_of_length_le (l := c) (by rw [L.len hx]; omega), L.len hx, Nat.add_sub_cancel]
  simpa using this
theorem Lay.rd_take {A : Option Addr} {n : Nat} {xs : List α} (h : L.rd w F A n xs) {k : Nat} (hk : k ≤ n) : L.rd w F A k (xs.take k) := by
 obtain ⟨hl, cs, hr, hc⟩ := h
 refine ⟨by rw [List.length_take]; omega, _, Lay.reps_take k hr, fun hn => ?_⟩
 obtain ⟨ad, e, hb, hf, hh⟩ := hc (by omega)
 exact ⟨ad, e, hb, hf, fun j u hu => hh j u (by rw [List.getElem?_take] at hu; split at hu; exact hu; cases hu)⟩
theorem Lay.rd_cut {A : Option Addr} {n : Nat} {xs : List α} (h : L.rd w F A n xs) {k cap : Nat} (hk : k ≤ n) (hc : n ≤ cap) : L.rd w F (if cap = k then A else A.map (·.add (k * L.size))) (n - k) (xs.drop k) := by
 obtain ⟨hl, cs, hr, hcc⟩ := h
 refine ⟨by rw [List.length_drop]; omega, _, Lay.reps_drop k hr, fun hn => ?_⟩
 obtain ⟨ad, rfl, hb, hf, hh⟩ := hcc (by omega)
 rw [if_neg (by omega)]
 refine ⟨ad.add (k * L.size), rfl, by rw [block_of_add]; exact hb, by rw [block_of_add]; exact hf, fun j u hu => ?_⟩
 rw [add_of_add]
 exact hh _ u (by rw [← hu, List.getElem?_drop])
/-- a slice of such data, as data -/
def Lay.slice (L : Lay α) : Lay (List α) where
 size := 1
 rep := fun w F xs cs => ∃ A n c, cs = [.slice A n c] ∧ n ≤ c ∧ c ≤ 9223372036854775807 ∧ L.rd w F A n xs
 len := fun h => by obtain ⟨_, _, _, rfl, _⟩ := h; rfl
 one := fun h u hu => by obtain ⟨_, _, _, rfl, _⟩ := h; simp at hu; subst hu; rfl
 keep := fun hk h => by obtain ⟨A, n, c, e, h1, h2, hr⟩ := h; exact ⟨A, n, c, e, h1, h2, Lay.rd_keep hk hr⟩
 weak := fun hk h => by obtain ⟨A, n, c, e, h1, h2, hr⟩ := h; exact ⟨A, n, c, e, h1, h2, Lay.rd_weak hk hr⟩
/-- A slice that the call owns, from block B on; what its elements lead to lies elsewhere, and is among G. -/
def Lay.own (L : Lay α) (e : TypeId) (w : World) (B : Nat) (G : Nat → Prop) (A : Option Addr) (n c : Nat) (xs : List α) : Prop :=
 xs.length = n ∧ ∃ cs, L.reps w (fun b => G b ∧ (Value.slice A n c).ownBlock ≠ some b) xs cs ∧ w.ownsRow B e L.size (.slice A n c) n cs
variable {e : TypeId} {B n c : Nat} {A : Option Addr} {xs : List α}
theorem Lay.own_len (h : L.own e w B G A n c xs) : xs.length = n := h.1
theorem Lay.own_nil (w : World) (B : Nat) : L.own e w B G none 0 0 [] := ⟨rfl, [], rfl, World.ownsRow_nil _ _ _ _⟩
theorem ownsRow_below {v : Value} {s : Nat} {ys : List Value} (h : w.ownsRow B e s v n ys) (hb : Below w.heap.size w w') : w'.ownsRow B e s v n ys := by
 refine ⟨h.1, ?_⟩
 rcases h.2 with h2 | ⟨g, cap, cur, e, hg, hh, r⟩
 · exact .inl h2
 · have hlt : g < w.heap.size := by
    rcases Nat.lt_or_ge g w.heap.size with h | h
    · exact h
    · rw [Array.getElem?_eq_none h] at hh; cases hh
   exact .inr ⟨g, cap, cur, e, hg, (hb.block g hlt).trans hh, r⟩
theorem Lay.own_below (h : L.own e w B G A n c xs) (q : Below w.heap.size w w') : L.own e w' B G A n c xs := by
 obtain ⟨hl, cs, hr, ho⟩ := h
 exact ⟨hl, cs, Lay.reps_keep (fun b _ hb => q.block b hb) hr, ownsRow_below ho q⟩
theorem Lay.own_alloc (h : L.own e w B G A n c xs) (o : Obj) : L.own e (w.alloc o) B G A n c xs := Lay.own_below h ((Below.refl _ _).alloc (Nat.le_refl _) o)
theorem Lay.own_weak {G' : Nat → Prop} (hk : ∀ b, G b → b < w.heap.size → G' b) (h : L.own e w B G A n c xs) : L.own e w B G' A n c xs := by
 obtain ⟨hl, cs, hr, ho⟩ := h
 exact ⟨hl, cs, Lay.reps_weak (fun b hb hl => ⟨hk b hb.1 hl, hb.2⟩) hr, ho⟩
theorem own_base' {v : Value} {s : Nat} {ys : List Value} (h : w.ownsRow B e s v n ys) : ∀ k, v.ownBlock = some k → B ≤ k ∧ k < w.heap.size := by
 intro k hk
 rcases h.2 with ⟨rfl, _⟩ | ⟨g, cap, _, rfl, hg, hh, _⟩
 · simp [Value.ownBlock] at hk
 · have : g = k := by simpa [Value.ownBlock] using hk
   subst this
   refine ⟨hg, ?_⟩
   rcases Nat.lt_or_ge g w.heap.size with h | h
   · exact h
   · rw [Array.getElem?_eq_none h] at hh; cases hh
theorem Lay.own_rd (h : L.own e w B G A n c xs) (hB : ∀ b, B ≤ b → b < w.heap.size → F b) (hG : ∀ b, G b → b < w.heap.size → F b) : L.rd w F A n xs := by
 obtain ⟨hl, cs, hr, ho⟩ := h
 refine ⟨hl, cs, Lay.reps_weak (fun b hb hl => hG b hb.1 hl) hr, fun hn => ?_⟩
 obtain ⟨ad, e1, hb, hc⟩ := (Reads.of_own ho).2 hn
 obtain ⟨g, cap, hv, _, hlt⟩ := World.ownsRow.form ho hn
 have hA : A = some ⟨g, 0, none⟩ := by injection hv
 subst hA
 injection e1 with e1
 subst e1
 have hbs := own_base' ho g (by simp [Value.ownBlock])
 exact ⟨_, rfl, hb, hB _ hbs.1 hbs.2, hc⟩
theorem own_form' {v : Value} {s : Nat} {ys : List Value} (h : w.ownsRow B e s v n ys) : ∃ A c, v = .slice A n c := by
 rcases h.2 with ⟨rfl, rfl⟩ | ⟨g, cap, _, rfl, _⟩
 · exact ⟨_, _, rfl⟩
 · exact ⟨_, _, rfl⟩
theorem reads_blk {g : Nat} {t : TypeId} {vs : Array Value} {s m : Nat} {ys : List Value} (h : Blk w g t vs) (hl : vs.toList = ys) (hs : ys.length = m * s) : Reads w w.heap.size s (some ⟨g, 0, none⟩) m ys := by
 refine ⟨hs, fun _ => ⟨_, rfl, h.lt, fun j u hu => ?_⟩⟩
 have hadd : (⟨g, 0, none⟩ : Addr).add j = ⟨g, j, none⟩ := by unfold Addr.add; split <;> simp_all
 rw [hadd, h.cell j, ← hu, ← hl, Array.getElem?_toList]
end
end Go.Proofs.YtoaggmldekejoaaGreatDoor
/- Slices of bytes: what is read, what is owned; bytes.Equal. (The part of Bytes that needs no reference and no sum.) Conditions: the slices read as these bytes, lengths within what a row lets in. -/
namespace Go.Proofs.YtoaggmldekejoaaGreatDoor
open Go.RowKit
def vb (c : UInt8) : Value := .int .u8 (c.toNat : Int)
theorem Tryz.byteInfo : (Tryz.prog.info? 5).map (fun i => (i.zero, i.size, i.bytes)) = some (some (.int .u8 0), 1, 1) := by kernel_rfl
theorem vb_one (bs : List UInt8) : ∀ u ∈ bs.map vb, u.oneCell' = true := by
 intro u hu; obtain ⟨c, _, rfl⟩ := List.mem_map.1 hu; rfl
/-- A slice of bytes that the call owns: from block B on. -/
def OwnB (w : World) (B : Nat) (A : Option Addr) (n c : Nat) (bs : List UInt8) : Prop := w.ownsRow B 5 1 (.slice A n c) n (bs.map vb)
/-- A slice of bytes that can be read. -/
def RdB (w : World) (A : Option Addr) (n : Nat) (bs : List UInt8) : Prop := Reads w w.heap.size 1 A n (bs.map vb)
theorem OwnB.rd {w : World} {B : Nat} {A : Option Addr} {n c : Nat} {bs : List UInt8} (h : OwnB w B A n c bs) : RdB w A n bs := Reads.of_own h
theorem own_empty (w : World) (t : TypeId) : (w.alloc (.cells #[] t)).ownsRow w.heap.size t 1 (.slice (some ⟨w.heap.size, 0, none⟩) 0 0) 0 [] :=
 ⟨rfl, .inr ⟨w.heap.size, 0, #[], rfl, Nat.le_refl _, heap_alloc_new w _, Nat.le_refl _, by decide, rfl, rfl⟩⟩
theorem own_form {w : World} {B : Nat} {e : TypeId} {s n : Nat} {v : Value} {xs : List Value} (h : w.ownsRow B e s v n xs) : ∃ A c, v = .slice A n c := by
 rcases h.2 with ⟨rfl, rfl⟩ | ⟨g, cap, _, rfl, _⟩
 · exact ⟨_, _, rfl⟩
 · exact ⟨_, _, rfl⟩
theorem own_base {w : World} {B : Nat} {e : TypeId} {s n c : Nat} {A : Option Addr} {xs : List Value} (h : w.ownsRow B e s (.slice A n c) n xs) : ∀ k, (Value.slice A n c).ownBlock = some k → B ≤ k := by
 intro k hk
 rcases h.2 with ⟨e, _⟩ | ⟨g, cap, _, e, hg, _⟩
 · injection e with e; subst e; simp [Value.ownBlock] at hk
 · injection e with e; subst e
   have : g = k := by simpa [Value.ownBlock] using hk
   omega
section
variable {w w' : World} {A : Option Addr} {B n c : Nat} {bs : List UInt8}
theorem RdB.len (h : RdB w A n bs) : bs.length = n := by have := h.1; simpa using this
theorem RdB.cellAt (h : RdB w A n bs) (k : Nat) (hk : k < n) : ∃ ad, A = some ad ∧ ad.block < w.heap.size ∧ w.cell? (ad.add k) = some (vb (bs.getD k 0)) := by
 obtain ⟨ad, u, hA, hB, hu, hc⟩ := Reads.at_ h hk
 have hkl : k < bs.length := by rw [h.len]; exact hk
 refine ⟨ad, hA, hB, ?_⟩
 have : u = vb (bs.getD k 0) := by simpa [hkl, List.getD, List.getElem?_eq_getElem hkl] using hu.symm
 rw [← this]; exact hc
theorem RdB.below (h : RdB w A n bs) (hb : Below w.heap.size w w') : RdB w' A n bs := (Reads.below h hb).more hb.size
theorem RdB.alloc (h : RdB w A n bs) (o : Obj) : RdB (w.alloc o) A n bs := h.below ((Below.refl _ _).alloc (Nat.le_refl _) o)
theorem RdB.nil : RdB w none 0 [] := Reads.none_
theorem RdB.cut (h : RdB w A n bs) {k cap : Nat} (hk : k ≤ n) (hc : n ≤ cap) : RdB w (if cap = k then A else A.map (·.add k)) (n - k) (bs.drop k) := by
 have := Reads.cut h hk hc
 simp only [Nat.mul_one] at this
 unfold RdB
 rw [List.map_drop]
 exact this
theorem RdB.take (h : RdB w A n bs) {k : Nat} (hk : k ≤ n) : RdB w A k (bs.take k) := by
 refine ⟨by rw [List.length_map, List.length_take, h.len]; omega, fun h0 => ?_⟩
 obtain ⟨ad, e, hb, hc⟩ := h.2 (by omega)
 refine ⟨ad, e, hb, fun j u hu => hc j u ?_⟩
 rw [List.map_take, List.getElem?_take] at hu
 split at hu
 · exact hu
 · cases hu
theorem RdB.one (w : World) (b : UInt8) (v : Value) (hv : v = vb b) (t : TypeId) : RdB (w.alloc (.cells #[v] t)) (some ⟨w.heap.size, 0, none⟩) 1 [b] := by
 subst hv
 refine ⟨rfl, fun _ => ⟨_, rfl, by simp, fun j u hu => ?_⟩⟩
 match j, hu with
 | 0, hu => simp at hu; subst hu; simp [Addr.add, vb]
theorem OwnB.cap (h : OwnB w B A n c bs) : n ≤ c ∧ c ≤ maxLen := by
 rcases h.2 with ⟨e, _⟩ | ⟨g, cap, _, e, _, _, h1, h2, _⟩
 · injection e with _ e1 e2; subst e1 e2; exact ⟨Nat.le_refl _, Nat.zero_le _⟩
 · injection e with _ _ e2; subst e2; exact ⟨h1, h2⟩
theorem OwnB.below (h : OwnB w B A n c bs) (hb : Below w.heap.size w w') : OwnB w' B A n c bs := by
 refine ⟨h.1, ?_⟩
 rcases h.2 with h2 | ⟨g, cap, cur, e, hg, hh, r⟩
 · exact .inl h2
 · have hlt : g < w.heap.size := by
    rcases Nat.lt_or_ge g w.heap.size with h | h
    · exact h
    · rw [Array.getElem?_eq_none h] at hh; cases hh
   exact .inr ⟨g, cap, cur, e, hg, (hb.block g hlt).trans hh, r⟩
theorem OwnB.alloc (h : OwnB w B A n c bs) (o : Obj) : OwnB (w.alloc o) B A n c bs := h.below ((Below.refl _ _).alloc (Nat.le_refl _) o)
theorem OwnB.empty (w : World) : OwnB (w.alloc (.cells #[] 5)) w.heap.size (some ⟨w.heap.size, 0, none⟩) 0 0 [] := own_empty w _
theorem OwnB.none_ (w : World) (B : Nat) : OwnB w B none 0 0 [] := World.ownsRow_nil _ _ _ _
end
/-- append(out, src...): out the call's own, src whatever can be read. -/
theorem wpList_appB {ops : Array Oper} {rest : List Oper} {o : Oper} {a : Act} {w : World} {Q : Exit → Act → World → Prop} (hgd : o.guard = none) (s x : Operand)
 (ho : o.op = .call { callee := .builtin .append, args := #[s, x], argTypes := #[102, 102] })
 (B : Nat) (A : Option Addr) (n c : Nat) (xs : List UInt8) (A2 : Option Addr) (m c2 : Nat) (ys : List UInt8)
 (hs : a.eval s = .slice A n c) (hx : a.eval x = .slice A2 m c2) (hown : OwnB w B A n c xs) (hr : RdB w A2 m ys) (hb : n + m ≤ 140737488355328) (hB : B ≤ w.heap.size)
 (h : ∀ A' c' w', OwnB w' B A' (n + m) c' (xs ++ ys) → Below B w w' → wpList Tryz.prog ops Q rest (a.put o.dst (.slice A' (n + m) c')) w') : wpList Tryz.prog ops Q (o :: rest) a w := by
 obtain ⟨i0, hi0, hz0, hz1, hz2⟩ := info_parts Tryz.byteInfo
 refine wpList_append_any w hgd s x 102 ho B 5 i0 _ 1 1 Tryz.underlying102 hi0 hz0 hz1 hz2 rfl (by omega) (.slice A n c) n (xs.map vb) hs hown w.heap.size A2 m c2 (ys.map vb) hx hr (vb_one ys) (by simp only [maxLen]; omega) (by omega) hB ?_
 intro v' w' hown' hg hat
 obtain ⟨A', c', rfl⟩ := own_form hown'
 refine h A' c' w' (by unfold OwnB; rw [List.map_append]; exact hown') ?_
 exact (Below.refl _ _).grown hg hB (own_base hown)
theorem RdB.str {w : World} {A : Option Addr} {n : Nat} {bs : List UInt8} (h : RdB w A n bs) (c : Nat) : (convert 102 9 (.slice A n c)).run Tryz.prog w = .ok (.string ⟨bs.toArray⟩) w := by
 have hl := h.len
 rcases Nat.eq_zero_or_pos n with h0 | h0
 · subst h0
   obtain rfl : bs = [] := List.eq_nil_of_length_eq_zero hl
   rw [run_convert_bytes_string w 102 9 5 _ 0 c Tryz.underlying102 Tryz.underlying5 Tryz.underlying9]
   cases A <;> simp [Conv.bytesToString, loadCells]
   all_goals rfl
 · obtain ⟨ad, rfl, _, hc⟩ := h.cellAt 0 h0
   subst hl
   refine run_convert_bytes_back w 102 9 5 ad c bs Tryz.underlying102 Tryz.underlying5 Tryz.underlying9 (fun j hj => ?_)
   obtain ⟨ad', e, _, hc⟩ := h.cellAt j hj
   injection e with e; subst e
   rw [hc]; simp [vb, List.getD, List.getElem?_eq_getElem hj]
end Go.Proofs.YtoaggmldekejoaaGreatDoor
/- The layer's tokens in plain Lean: what a text's first token is, what its tokens are. Conditions: none. -/
namespace Go.Proofs.YtoaggmldekejoaaGreatDoor
/-- a small letter, a digit; a part of a name; a capital; a part of a row; a blank; what a value may hold -/
def smI (c : Int) : Bool := decide (97 ≤ c) && decide (c ≤ 122)
def dgI (c : Int) : Bool := decide (48 ≤ c) && decide (c ≤ 57)
def okI (c : Int) : Bool := smI c || (dgI c || decide (c = 95))
def cpI (c : Int) : Bool := decide (65 ≤ c) && decide (c ≤ 90)
def paI (c : Int) : Bool := dgI c || (smI c || (cpI c || decide (c = 95)))
def plI (c : Int) : Bool := decide (32 ≤ c) && decide (c ≤ 126)
/-- the byte at a place -/
def bt (s : ByteArray) (i : Nat) : Int := ((s.data.toList.getD i 0).toNat : Int)
def bts (s : ByteArray) : List Int := s.data.toList.map fun b => (b.toNat : Int)
def upB (b : UInt8) : UInt8 := if smI (b.toNat : Int) then b - 32 else b
def upL (l : List UInt8) : List UInt8 := l.map upB
/-- the words of the language -/
def wordsL : List ByteArray := [⟨#[83, 69, 76, 69, 67, 84]⟩, ⟨#[68, 73, 83, 84, 73, 78, 67, 84]⟩, ⟨#[70, 82, 79, 77]⟩, ⟨#[76, 69, 70, 84]⟩, ⟨#[74, 79, 73, 78]⟩, ⟨#[79, 78]⟩, ⟨#[87, 72, 69, 82, 69]⟩, ⟨#[71, 82, 79, 85, 80]⟩, ⟨#[66, 89]⟩, ⟨#[72, 65, 86, 73, 78, 71]⟩, ⟨#[85, 78, 73, 79, 78]⟩, ⟨#[65, 76, 76]⟩, ⟨#[79, 82, 68, 69, 82]⟩, ⟨#[76, 73, 77, 73, 84]⟩, ⟨#[65, 83, 67]⟩, ⟨#[68, 69, 83, 67]⟩, ⟨#[65, 83]⟩, ⟨#[65, 78, 68]⟩, ⟨#[79, 82]⟩, ⟨#[78, 79, 84]⟩, ⟨#[73, 83]⟩, ⟨#[78, 85, 76, 76]⟩, ⟨#[84, 82, 85, 69]⟩, ⟨#[70, 65, 76, 83, 69]⟩, ⟨#[67, 79, 85, 78, 84]⟩, ⟨#[83, 85, 77]⟩, ⟨#[77, 73, 78]⟩, ⟨#[77, 65, 88]⟩]
def isWordB (s : ByteArray) : Bool := Lib.containsS wordsL s
def nameB (s : ByteArray) : Bool := decide (1 ≤ s.size) && (decide (s.size ≤ 16) && (smI (bt s 0) && ((bts s).all okI && !isWordB ⟨(upL s.data.toList).toArray⟩)))
/-- a text of these bytes -/
abbrev bS (l : List UInt8) : ByteArray := ⟨l.toArray⟩
/-- a token -/
structure Tk where
 kind : Int
 at_ : Int
 text : List UInt8
 n : Nat
deriving DecidableEq
def paU (b : UInt8) : Bool := paI (b.toNat : Int)
def dgU (b : UInt8) : Bool := dgI (b.toNat : Int)
def plU (b : UInt8) : Bool := plI (b.toNat : Int)
/-! ### lengths -/
end Go.Proofs.YtoaggmldekejoaaGreatDoor
/- What is laid of tokens has these tokens; what is wrong stays wrong. Plain Lean. Conditions: none. -/
namespace Go.Proofs.YtoaggmldekejoaaGreatDoor
def quoU (l : List UInt8) : List UInt8 := l.flatMap fun b => if b = 39 then [39, 39] else [b]
theorem takeWhile_all {p : UInt8 → Bool} : ∀ {w x : List UInt8}, w.all p = true → (∀ b r, x = b :: r → p b = false) → (w ++ x).takeWhile p = w
 | [], x, _, hx => by
  cases x with
  | nil => rfl
  | cons b r => rw [List.nil_append, List.takeWhile_cons, if_neg (by simp [hx b r rfl])]
 | a :: w, x, h, hx => by
  rw [List.all_cons, Bool.and_eq_true] at h
  rw [List.cons_append, List.takeWhile_cons, if_pos h.1, takeWhile_all h.2 hx]
/-! ### words -/
/-! ### names -/
theorem ok_pa {c : Int} (h : okI c = true) : paI c = true := by
 unfold okI at h; unfold paI
 revert h
 cases smI c <;> cases dgI c <;> simp
 exact Or.inr
theorem name_parts {l : List UInt8} (h : nameB (bS l) = true) : l.all paU = true ∧ l ≠ [] ∧ isWordB (bS (upL l)) = false ∧ ∃ b r, l = b :: r ∧ smI (b.toNat : Int) = true := by
 unfold nameB at h
 simp only [Bool.and_eq_true, Bool.not_eq_true', decide_eq_true_eq] at h
 obtain ⟨h1, _, h3, h4, h5⟩ := h
 cases l with
 | nil => exact absurd h1 (by decide)
 | cons b r =>
  refine ⟨?_, by simp, h5, b, r, rfl, h3⟩
  unfold bts at h4
  rw [List.all_map] at h4
  exact List.all_eq_true.2 fun x hx => ok_pa (List.all_eq_true.1 h4 x hx)
/-! ### numbers -/
theorem dig_nat {k : Nat} (h : k < 10) : (UInt8.ofNat (48 + k)).toNat = 48 + k := by rw [UInt8.toNat_ofNat']; omega
theorem dec_all (u : Nat) : (Lib.decDigits u).all dgU = true := by
 induction u using Nat.strongRecOn with
 | _ u ih =>
  have hd : ∀ k, k < 10 → dgU (UInt8.ofNat (48 + k)) = true := fun k hk => by
   unfold dgU dgI
   rw [dig_nat hk]
   simp only [Bool.and_eq_true, decide_eq_true_eq]
   omega
  rw [Lib.decDigits]
  split
  · rename_i h
    rw [List.all_cons, hd u h]; rfl
  · rw [List.all_append, ih (u / 10) (by omega), List.all_cons, hd (u % 10) (by omega)]; rfl
theorem dec_ne (u : Nat) : Lib.decDigits u ≠ [] := by
 rw [Lib.decDigits]; split <;> simp
theorem dg_pa {b : UInt8} (h : dgU b = true) : paU b = true := by
 unfold dgU at h; unfold paU paI; rw [h]; rfl
/-! ### texts -/
/-! ### signs -/
/-! ### what is told -/
/-! ### laid and read -/
/-! ### places rise -/
/-! ### what is wrong stays wrong -/
end Go.Proofs.YtoaggmldekejoaaGreatDoor
/- Trees in plain Lean: rows of nodes, each behind its parts. Conditions: none. -/
namespace Go.Proofs.YtoaggmldekejoaaGreatDoor
/-- what a node holds, but for its places -/
structure Py where
 tag : Int
 k : Int
 n : Int
 u : Int
 s : ByteArray
 tb : ByteArray
 nm : ByteArray
deriving DecidableEq
structure Nd where
 p : Py
 l : Int
 r : Int
deriving DecidableEq
def partsI (t : Int) : Int := if t < 1 then -1 else if 23 < t then -1 else if t ≤ 3 then 0 else if t ≤ 11 then 1 else 2
inductive Tr where
 | leaf (p : Py)
 | one (p : Py) (a : Tr)
 | two (p : Py) (a b : Tr)
namespace Tr
def size : Tr → Nat
 | leaf _ => 1
 | one _ a => a.size + 1
 | two _ a b => a.size + b.size + 1
def depth : Tr → Nat
 | leaf _ => 1
 | one _ a => a.depth + 1
 | two _ a b => max b.depth a.depth + 1
/-- the nodes, from a place on -/
def flat : Nat → Tr → List Nd
 | _, leaf p => [⟨p, -1, -1⟩]
 | o, one p a => a.flat o ++ [⟨p, ((o + a.size : Nat) : Int) - 1, -1⟩]
 | o, two p a b => a.flat o ++ (b.flat (o + a.size) ++ [⟨p, ((o + a.size : Nat) : Int) - 1, ((o + a.size + b.size : Nat) : Int) - 1⟩])
def ok (c : Py → Bool) : Tr → Bool
 | leaf p => decide (partsI p.tag = 0) && c p
 | one p a => decide (partsI p.tag = 1) && (c p && a.ok c)
 | two p a b => decide (partsI p.tag = 2) && (c p && (a.ok c && b.ok c))
theorem size_pos : ∀ t : Tr, 1 ≤ t.size
 | leaf _ => Nat.le_refl _
 | one _ a => by unfold size; omega
 | two _ a b => by unfold size; omega
theorem depth_pos : ∀ t : Tr, 1 ≤ t.depth
 | leaf _ => Nat.le_refl _
 | one _ a => by unfold depth; omega
 | two _ a b => by unfold depth; omega
theorem flat_len : ∀ (t : Tr) (o : Nat), (t.flat o).length = t.size
 | leaf _, _ => rfl
 | one _ a, o => by unfold flat size; rw [List.length_append, flat_len a]; rfl
 | two _ a b, o => by unfold flat size; rw [List.length_append, List.length_append, flat_len a, flat_len b]; simp only [List.length_cons, List.length_nil]; omega
end Tr
/-- the trees that stand open, the last one first -/
def sizes : List Tr → Nat
 | [] => 0
 | t :: r => sizes r + t.size
def flats : List Tr → List Nd
 | [] => []
 | t :: r => flats r ++ t.flat (sizes r)
def allOk (c : Py → Bool) (l : List Tr) : Prop := ∀ t ∈ l, t.ok c = true
theorem flats_len : ∀ l : List Tr, (flats l).length = sizes l
 | [] => rfl
 | t :: r => by unfold flats sizes; rw [List.length_append, flats_len r, t.flat_len]
/-- a node more -/
def grow (c : Py → Bool) (l : List Tr) (x : Nd) : Option (List Tr) :=
 if c x.p then
  if partsI x.p.tag = 0 then (if x.l = -1 ∧ x.r = -1 then some (.leaf x.p :: l) else none)
  else if partsI x.p.tag = 1 then
   match l with
   | [] => none
   | a :: r => if x.l = (sizes (a :: r) : Int) - 1 ∧ x.r = -1 then some (.one x.p a :: r) else none
  else if partsI x.p.tag = 2 then
   match l with
   | [] => none
   | [_] => none
   | b :: a :: r => if x.l = (sizes (a :: r) : Int) - 1 ∧ x.r = (sizes (b :: a :: r) : Int) - 1 then some (.two x.p a b :: r) else none
  else none
 else none
def grows (c : Py → Bool) : List Tr → List Nd → Option (List Tr)
 | l, [] => some l
 | l, x :: r => (grow c l x).bind fun m => grows c m r
theorem grows_app (c : Py → Bool) : ∀ (x y : List Nd) (l : List Tr), grows c l (x ++ y) = (grows c l x).bind fun m => grows c m y
 | [], y, l => rfl
 | a :: x, y, l => by
  rw [List.cons_append, grows, grows]
  cases grow c l a with
  | none => rfl
  | some m => exact grows_app c x y m
theorem grow_flats {c : Py → Bool} {l m : List Tr} {x : Nd} (h : grow c l x = some m) (hl : allOk c l) : flats m = flats l ++ [x] ∧ allOk c m := by
 obtain ⟨p, xl, xr⟩ := x
 unfold grow at h
 split at h
 case isFalse => cases h
 case isTrue hc =>
  simp only at h hc
  split at h
  · rename_i h0
    split at h
    · rename_i h1
      injection h with h
      subst h
      obtain ⟨rfl, rfl⟩ := h1
      refine ⟨rfl, fun t ht => ?_⟩
      rcases List.mem_cons.1 ht with rfl | ht
      · unfold Tr.ok; rw [decide_eq_true h0, hc]; rfl
      · exact hl t ht
    · cases h
  · split at h
    · rename_i h0
      split at h
      · cases h
      · rename_i a r
        split at h
        · rename_i h1
          injection h with h
          subst h
          obtain ⟨rfl, rfl⟩ := h1
          refine ⟨?_, fun t ht => ?_⟩
          · simp only [flats, Tr.flat, sizes, List.append_assoc]
          · rcases List.mem_cons.1 ht with rfl | ht
            · unfold Tr.ok; rw [decide_eq_true h0, hc, hl a (by simp)]; rfl
            · exact hl t (by simp [ht])
        · cases h
    · split at h
      · rename_i h0
        split at h
        · cases h
        · cases h
        · rename_i b a r
          split at h
          · rename_i h1
            injection h with h
            subst h
            obtain ⟨rfl, rfl⟩ := h1
            refine ⟨?_, fun t ht => ?_⟩
            · simp only [flats, Tr.flat, sizes, List.append_assoc]
            · rcases List.mem_cons.1 ht with rfl | ht
              · unfold Tr.ok; rw [decide_eq_true h0, hc, hl a (by simp), hl b (by simp)]; rfl
              · exact hl t (by simp [ht])
          · cases h
      · cases h
theorem grows_flats {c : Py → Bool} : ∀ {x : List Nd} {l m : List Tr}, grows c l x = some m → allOk c l → flats m = flats l ++ x ∧ allOk c m
 | [], l, m, h, hl => by
  rw [grows] at h
  injection h with h
  subst h
  exact ⟨by simp, hl⟩
 | a :: x, l, m, h, hl => by
  rw [grows] at h
  cases hg : grow c l a with
  | none => rw [hg] at h; cases h
  | some k =>
   rw [hg] at h
   have h1 := grow_flats hg hl
   have h2 := grows_flats (show grows c k x = some m from h) h1.2
   exact ⟨by rw [h2.1, h1.1, List.append_assoc]; rfl, h2.2⟩
theorem flat_grows (c : Py → Bool) : ∀ (t : Tr) (l : List Tr), t.ok c = true → grows c l (t.flat (sizes l)) = some (t :: l)
 | .leaf p, l, h => by
  unfold Tr.ok at h
  rw [Bool.and_eq_true, decide_eq_true_eq] at h
  rw [Tr.flat, grows]
  unfold grow
  simp only
  rw [if_pos h.2, if_pos h.1]
  rfl
 | .one p a, l, h => by
  unfold Tr.ok at h
  rw [Bool.and_eq_true, Bool.and_eq_true, decide_eq_true_eq] at h
  have ih := flat_grows c a l h.2.2
  rw [Tr.flat, grows_app, ih]
  simp only [Option.bind_some]
  rw [grows, grow, if_pos h.2.1]
  simp only
  rw [if_neg (by rw [h.1]; decide), if_pos h.1, if_pos ⟨by simp [sizes], trivial⟩]
  rfl
 | .two p a b, l, h => by
  unfold Tr.ok at h
  rw [Bool.and_eq_true, Bool.and_eq_true, Bool.and_eq_true, decide_eq_true_eq] at h
  have ih := flat_grows c a l h.2.2.1
  have ih2 := flat_grows c b (a :: l) h.2.2.2
  rw [Tr.flat, grows_app, ih]
  simp only [Option.bind_some]
  rw [show sizes l + a.size = sizes (a :: l) from rfl, grows_app, ih2]
  simp only [Option.bind_some]
  rw [grows, grow, if_pos h.2.1]
  simp only
  rw [if_neg (by rw [h.1]; decide), if_neg (by rw [h.1]; decide), if_pos h.1, if_pos ⟨by simp, by simp [sizes]⟩]
  rfl
/-- the tree of a row of nodes -/
def treeF (c : Py → Bool) (x : List Nd) : Option Tr :=
 match grows c [] x with
 | some [t] => if x.length ≤ 300 ∧ t.depth ≤ 20 then some t else none
 | _ => none
theorem treeF_some {c : Py → Bool} {x : List Nd} {t : Tr} : treeF c x = some t ↔ (x = t.flat 0 ∧ t.ok c = true ∧ t.size ≤ 300 ∧ t.depth ≤ 20) := by
 constructor
 · intro h
   unfold treeF at h
   split at h
   · rename_i u hu
     split at h
     · rename_i hc
       injection h with h
       subst h
       have := grows_flats hu (fun _ h => by cases h)
       have e : x = u.flat 0 := by have h9 := this.1; simp [flats] at h9; exact h9.symm
       exact ⟨e, this.2 u (by simp), by have := hc.1; rw [e, u.flat_len] at this; exact this, hc.2⟩
     · cases h
   · cases h
 · rintro ⟨rfl, h1, h2, h3⟩
   unfold treeF
   rw [show t.flat 0 = t.flat (sizes []) from rfl, flat_grows c t [] h1]
   simp only
   rw [if_pos ⟨by rw [t.flat_len]; exact h2, h3⟩]
end Go.Proofs.YtoaggmldekejoaaGreatDoor
