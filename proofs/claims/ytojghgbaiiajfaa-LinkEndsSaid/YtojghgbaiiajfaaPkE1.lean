/- Plain lemmas on memory for the walks of this seat (taken from the guide's pages of words to copy): slices that read as lists, blocks known whole, appends, frames. Conditions: none. -/
import Derived.Test.YtojghgbaiiajfaaRows
import Derived.WalkKit
import Derived.WalkSpells
import Derived.WalkLawsBesides
import Derived.Below
import Derived.Laws.OwnMore
import Derived.Deep.AppendLies
import Derived.Deep.Draws
import Derived.Laws.Rows
import Derived.Maps.AppendAt
import Derived.RegionTactic
import Derived.OwnWalk
import Derived.Deep.QuietTactic
import Derived.BigQuiet
import Derived.BigRegion
import Derived.Deep.OwnRows
import Derived.Laws.AppendOwn
import Derived.Laws.MakeOwn
import Derived.Laws.Entries
import Derived.Laws.BitsAllLaws
import Derived.Laws.BitsLemmas
import Derived.ChangeSame
import Derived.Lib.Hide
import Derived.IntWalk
import Derived.LaidEqlPtr
import Derived.Deep.LoopGhost
import Derived.Deep.RegionHeld3
import Derived.Deep.MidRow
namespace Go.Proofs.Ytojghgbaiiajfaa
open Go.RowKit

theorem block_of_add (a : Addr) (n : Nat) : (a.add n).block = a.block := by unfold Addr.add; split <;> rfl
theorem add_of_add (a : Addr) (i j : Nat) : (a.add i).add j = a.add (i + j) := by
 unfold Addr.add
 by_cases hi : i = 0 <;> by_cases hj : j = 0 <;> simp [hi, hj, Nat.add_assoc]

def Reads (w : World) (B size : Nat) (A : Option Addr) (n : Nat) (xs : List Value) : Prop :=
 xs.length = n * size ∧ (0 < n → ∃ ad, A = some ad ∧ ad.block < B ∧ ∀ j u, xs[j]? = some u → w.cell? (ad.add j) = some u)

section
variable {w w' : World} {B B' size n : Nat} {A : Option Addr} {xs : List Value}
theorem Reads.at_ {k : Nat} (h : Reads w B 1 A n xs) (hk : k < n) : ∃ ad u, A = some ad ∧ ad.block < B ∧ xs[k]? = some u ∧ w.cell? (ad.add k) = some u := by
 obtain ⟨ad, e, hb, hc⟩ := h.2 (by omega)
 have hl : k < xs.length := by have := h.1; omega
 exact ⟨ad, xs[k], e, hb, List.getElem?_eq_getElem hl, hc k _ (List.getElem?_eq_getElem hl)⟩
theorem Reads.keep (h : Reads w B size A n xs) (hk : ∀ p : Addr, p.block < B → w'.cell? p = w.cell? p) : Reads w' B size A n xs :=
 ⟨h.1, fun hn => by
  obtain ⟨ad, e, hb, hc⟩ := h.2 hn
  exact ⟨ad, e, hb, fun j u hu => (hk _ (by rw [block_of_add]; exact hb)).trans (hc j u hu)⟩⟩
theorem Reads.more (h : Reads w B size A n xs) (hB : B ≤ B') : Reads w B' size A n xs :=
 ⟨h.1, fun hn => by
  obtain ⟨ad, e, hb, hc⟩ := h.2 hn
  exact ⟨ad, e, by omega, hc⟩⟩
theorem Reads.below (h : Reads w B size A n xs) (hb : Below B w w') : Reads w' B size A n xs := h.keep fun _ hp => hb.cell hp
theorem Reads.drew (h : Reads w B size A n xs) : Reads w.drew B size A n xs := h
theorem Reads.drewN (h : Reads w B size A n xs) (k : Nat) : Reads (w.drewN k) B size A n xs := h
theorem Reads.alloc (h : Reads w B size A n xs) (hB : B ≤ w.heap.size) (o : Obj) : Reads (w.alloc o) B size A n xs := h.keep fun p hp => World.cell?_alloc_lt w o p (by omega)
theorem Reads.setCell (h : Reads w B size A n xs) {p : Addr} (hB : B ≤ p.block) (u : Value) : Reads (w.setCell p u) B size A n xs :=
 h.keep fun q hq => World.cell?_setCell_other w p q u (fun e => by subst e; omega)
theorem Reads.grown (h : Reads w B size A n xs) {row : Option Nat} (hg : w.grownBy w' row) (hB : B ≤ w.heap.size) (hr : ∀ g, row = some g → B ≤ g) : Reads w' B size A n xs :=
 h.keep fun p hp => World.cell?_of_block (hg.block p.block (by omega) (fun e => by have := hr _ e.symm; omega))
theorem Reads.cut (h : Reads w B size A n xs) {k cap : Nat} (hk : k ≤ n) (hc : n ≤ cap) :
 Reads w B size (if cap = k then A else A.map (·.add (k * size))) (n - k) (xs.drop (k * size)) := by
 refine ⟨by rw [List.length_drop, h.1, Nat.sub_mul], fun hn => ?_⟩
 obtain ⟨ad, rfl, hb, hcell⟩ := h.2 (by omega)
 rw [if_neg (by omega)]
 refine ⟨ad.add (k * size), rfl, by rw [block_of_add]; exact hb, fun j u hu => ?_⟩
 rw [add_of_add]
 exact hcell _ u (by rw [← hu, List.getElem?_drop])
theorem Reads.of_own {base : Nat} {e : TypeId} {c : Nat} (h : w.ownsRow base e size (.slice A n c) n xs) : Reads w w.heap.size size A n xs := by
 refine ⟨h.1, fun hn => ?_⟩
 obtain ⟨g, cap, hv, _, hlt⟩ := h.form hn
 have hA : A = some ⟨g, 0, none⟩ := by injection hv
 subst hA
 exact ⟨_, rfl, hlt, h.cells (g := g) rfl⟩
end

def Blk (w : World) (g : Nat) (t : TypeId) (cs : Array Value) : Prop := w.heap[g]? = some (.cells cs t (0, 0))

section
variable {w w' : World} {g : Nat} {t : TypeId} {cs : Array Value}
theorem Blk.lt (h : Blk w g t cs) : g < w.heap.size := by
 rcases Nat.lt_or_ge g w.heap.size with hlt | hge
 · exact hlt
 · unfold Blk at h; rw [Array.getElem?_eq_none hge] at h; cases h
theorem Blk.cell (h : Blk w g t cs) (i : Nat) : w.cell? ⟨g, i, none⟩ = cs[i]? := cell_of_row w g i cs t (0, 0) h
theorem Blk.frozen (h : Blk w g t cs) (i : Nat) : w.frozen? ⟨g, i, none⟩ = false := by
 unfold Blk at h
 simp [World.frozen?, h]
theorem Blk.new (w : World) (t : TypeId) (cs : Array Value) : Blk (w.alloc (.cells cs t)) w.heap.size t cs := heap_alloc_new w _
theorem Blk.drew (h : Blk w g t cs) : Blk w.drew g t cs := h
theorem Blk.drewN (h : Blk w g t cs) (n : Nat) : Blk (w.drewN n) g t cs := h
theorem Blk.alloc (h : Blk w g t cs) (o : Obj) : Blk (w.alloc o) g t cs := (Below.heap_alloc w o g h.lt).trans h
theorem Blk.set_ (h : Blk w g t cs) (i : Nat) (u : Value) : Blk (w.setCell ⟨g, i, none⟩ u) g t (cs.setIfInBounds i u) := by
 unfold Blk at h ⊢
 simp [World.setCell, Array.getElem?_modify, h]
theorem Blk.below {B : Nat} (h : Blk w g t cs) (hb : Below B w w') (hg : g < B) : Blk w' g t cs := (hb.block g hg).trans h
theorem Blk.grown {row : Option Nat} (h : Blk w g t cs) (hb : w.grownBy w' row) (hg : some g ≠ row) : Blk w' g t cs := (hb.block g h.lt hg).trans h
end

section
variable {P : Program} (w : World)

theorem run_append_of_nil (base : Nat) (t ty e : TypeId) (i : TypeInfo) (size : Nat) (ht : P.underlying t = some (.slice e)) (hi : P.info? e = some i)
 (v : Value) (n : Nat) (xs : List Value) (hown : w.ownsRow base e size v n xs) (c : Nat) : (Builtin.append_ #[t, t] ty #[v, .slice none 0 c]).run P w = .ok v w := by
 rcases hown.2 with ⟨rfl, rfl⟩ | ⟨g, cap, cur, rfl, _, _, hnc, _⟩
 · simp [Builtin.append_, run_underlying ht, sizeOf, typeInfo, hi, Builtin.lenOf, Builtin.firstCells]
 · simp [Builtin.append_, run_underlying ht, sizeOf, typeInfo, hi, Builtin.lenOf, Builtin.firstCells, hnc, storeCells]

theorem run_append_any (base : Nat) (t ty e : TypeId) (i : TypeInfo) (z : Value) (size bytes : Nat) (ht : P.underlying t = some (.slice e)) (hi : P.info? e = some i) (hz : i.zero = some z)
 (hsize : i.size = size) (hby : i.bytes = bytes) (hzs : z.cells.size = size) (hsz : 0 < size)
 (v : Value) (n : Nat) (xs : List Value) (hown : w.ownsRow base e size v n xs)
 (B : Nat) (A : Option Addr) (m c : Nat) (news : List Value) (hr : Reads w B size A m news) (h1 : ∀ u ∈ news, u.oneCell' = true)
 (h63 : n + m ≤ maxLen) (hbytes : (n + m) * bytes ≤ 140737488355328) (hbase : base ≤ w.heap.size) :
 ∃ v' w', (Builtin.append_ #[t, t] ty #[v, .slice A m c]).run P w = .ok v' w' ∧ w'.ownsRow base e size v' (n + m) (xs ++ news) ∧ w.grownBy w' v.ownBlock ∧
  (v'.ownBlock = v.ownBlock ∨ v'.ownBlock = some w.heap.size) := by
 rcases A with _ | ad
 · have hm : m = 0 := by
    rcases Nat.eq_zero_or_pos m with h0 | h0
    · exact h0
    · obtain ⟨ad, h, _⟩ := hr.2 h0
      cases h
   subst hm
   have hn : news = [] := List.eq_nil_of_length_eq_zero (by simpa using hr.1)
   subst hn
   exact ⟨v, w, run_append_of_nil w base t ty e i size ht hi v n xs hown c, by simpa using hown, World.grownBy.refl w _, .inl rfl⟩
 · have hcells : ∀ j u, news[j]? = some u → w.cell? (ad.add j) = some u := by
    intro j u hu
    rcases Nat.eq_zero_or_pos m with h0 | h0
    · subst h0
      have hn : news = [] := List.eq_nil_of_length_eq_zero (by simpa using hr.1)
      subst hn
      simp at hu
    · obtain ⟨ad', h, _, hc⟩ := hr.2 h0
      injection h with h
      subst h
      exact hc j u hu
   obtain ⟨v', w', hrun, h2, h3, _, h5⟩ := run_append_own_at (P := P) w base t ty e i z size bytes ht hi hz hsize hby hzs hsz v n xs hown ad m c news hr.1 hcells h1 h63 hbytes hbase
   exact ⟨v', w', hrun, h2, h3, h5⟩

theorem wp_append_any {o : Oper} {a : Act} {K : Act → World → Prop} {Q : Exit → Act → World → Prop} (s x : Operand) (t : TypeId)
 (ho : o.op = .call { callee := .builtin .append, args := #[s, x], argTypes := #[t, t] })
 (base : Nat) (e : TypeId) (i : TypeInfo) (z : Value) (size bytes : Nat) (ht : P.underlying t = some (.slice e)) (hi : P.info? e = some i) (hz : i.zero = some z)
 (hsize : i.size = size) (hby : i.bytes = bytes) (hzs : z.cells.size = size) (hsz : 0 < size)
 (v : Value) (n : Nat) (xs : List Value) (hs : a.eval s = v) (hown : w.ownsRow base e size v n xs)
 (B : Nat) (A : Option Addr) (m c : Nat) (news : List Value) (hx : a.eval x = .slice A m c) (hr : Reads w B size A m news) (h1 : ∀ u ∈ news, u.oneCell' = true)
 (h63 : n + m ≤ maxLen) (hbytes : (n + m) * bytes ≤ 140737488355328) (hbase : base ≤ w.heap.size)
 (h : ∀ v' w', w'.ownsRow base e size v' (n + m) (xs ++ news) → w.grownBy w' v.ownBlock → (v'.ownBlock = v.ownBlock ∨ v'.ownBlock = some w.heap.size) → K (a.put o.dst v') w') : o.wp P a w K Q := by
 obtain ⟨v', w', hrun, h2, h3, h4⟩ := run_append_any (P := P) w base t o.type e i z size bytes ht hi hz hsize hby hzs hsz v n xs hown B A m c news hr h1 h63 hbytes hbase
 unfold Oper.wp execOp
 simp only [ho, resolve, invoke, builtin, Sem.run_bind, Sem.run_pure, Result.andThen_ok, List.map_toArray, List.map_cons, List.map_nil, hs, hx, hrun]
 exact h v' w' h2 h3 h4

theorem wpList_append_any {ops : Array Oper} {rest : List Oper} {o : Oper} {a : Act} {Q : Exit → Act → World → Prop} (hgd : o.guard = none) (s x : Operand) (t : TypeId)
 (ho : o.op = .call { callee := .builtin .append, args := #[s, x], argTypes := #[t, t] })
 (base : Nat) (e : TypeId) (i : TypeInfo) (z : Value) (size bytes : Nat) (ht : P.underlying t = some (.slice e)) (hi : P.info? e = some i) (hz : i.zero = some z)
 (hsize : i.size = size) (hby : i.bytes = bytes) (hzs : z.cells.size = size) (hsz : 0 < size)
 (v : Value) (n : Nat) (xs : List Value) (hs : a.eval s = v) (hown : w.ownsRow base e size v n xs)
 (B : Nat) (A : Option Addr) (m c : Nat) (news : List Value) (hx : a.eval x = .slice A m c) (hr : Reads w B size A m news) (h1 : ∀ u ∈ news, u.oneCell' = true)
 (h63 : n + m ≤ maxLen) (hbytes : (n + m) * bytes ≤ 140737488355328) (hbase : base ≤ w.heap.size)
 (h : ∀ v' w', w'.ownsRow base e size v' (n + m) (xs ++ news) → w.grownBy w' v.ownBlock → (v'.ownBlock = v.ownBlock ∨ v'.ownBlock = some w.heap.size) → wpList P ops Q rest (a.put o.dst v') w') : wpList P ops Q (o :: rest) a w :=
 wpList_plain hgd fun _ hK => wp_append_any w s x t ho base e i z size bytes ht hi hz hsize hby hzs hsz v n xs hs hown B A m c news hx hr h1 h63 hbytes hbase fun v' w' h2 h3 h4 => hK _ _ (h v' w' h2 h3 h4)

end

theorem below_drewN {B : Nat} {a w : World} (h : Below B a w) (n : Nat) : Below B a (w.drewN n) := ⟨h.os, h.tape, h.output, h.size, h.block⟩
theorem only_drew {a w : World} {row : Option Nat} (h : a.grownBy w row) : a.grownBy w.drew row := ⟨h.os, h.tape, h.output, h.size, h.block⟩
theorem only_setCell {a w : World} {g : Nat} (h : a.grownBy w (some g)) {p : Addr} (hp : p.block = g ∨ a.heap.size ≤ p.block) (u : Value) : a.grownBy (w.setCell p u) (some g) :=
 ⟨h.os, h.tape, h.output, by simpa [World.setCell] using h.size, fun i hi hne => (Below.heap_setCell w p u i (by
  rintro rfl
  rcases hp with hp | hp
  · exact hne (by rw [hp])
  · omega)).trans (h.block i hi hne)⟩
section
open Go.WideShapes Go.ChangeShapes
section
variable {H : Type} {enc : TypeId × Value → H} {P : Program}
end
end
end Go.Proofs.Ytojghgbaiiajfaa
/- value.Check, value.Int, value.Null. Conditions: a value of whatever fields. -/
namespace Go.Proofs.Ytojghgbaiiajfaa
open Go.RowKit
/-- may a value be? -/
def rightB (k n u : Int) (s : ByteArray) : Bool :=
 if k = 0 then decide (n = 0 ∧ u = 0 ∧ s.toList = [])
 else if k = 1 then decide ((n = 0 ∨ n = 1) ∧ u = 0 ∧ s.toList = [])
 else if k = 2 then decide (u = 0 ∧ s.toList = [])
 else if k = 3 then decide (n = 0 ∧ u = 0 ∧ s.size ≤ 40)
 else decide (k = 4 ∧ s.toList = [])
set_option maxHeartbeats 1000000 in
theorem blank_0 (n u : Int) (s : ByteArray) (w : World) : Calls Try.prog 132 #[.agg #[.int .i64 0, .int .i64 n, .int .u64 u, .string s]] w fun e w' => e = .returned (.agg #[.int .i64 0, .int .i64 n, .int .u64 u, .string s]) ∧ Below w.heap.size w w' := by
 go_enter Try.func132, Try.ntmps132
 go_wp2
 refine bodyPost_ret (v := .agg #[.int .i64 0, .int .i64 n, .int .u64 u, .string s]) (by simp [results, Try.results132, go_sem]) rfl ⟨rfl, ?_⟩
 first | exact Below.refl _ _ | exact (Below.refl _ _).alloc (Nat.le_refl _) _ | exact ((Below.refl _ _).alloc (Nat.le_refl _) _).alloc (by simp) _
set_option maxHeartbeats 1000000 in
theorem blank_1 (n u : Int) (s : ByteArray) (h : n = 0 ∨ n = 1) (w : World) : Calls Try.prog 132 #[.agg #[.int .i64 1, .int .i64 n, .int .u64 u, .string s]] w fun e w' => e = .returned (.agg #[.int .i64 0, .int .i64 0, .int .u64 u, .string s]) ∧ Below w.heap.size w w' := by
 rcases h with rfl | rfl
 · go_enter Try.func132, Try.ntmps132
   go_wp2
   refine bodyPost_ret (v := .agg #[.int .i64 0, .int .i64 0, .int .u64 u, .string s]) (by simp [results, Try.results132, go_sem]) rfl ⟨rfl, ?_⟩
   first | exact Below.refl _ _ | exact (Below.refl _ _).alloc (Nat.le_refl _) _ | exact ((Below.refl _ _).alloc (Nat.le_refl _) _).alloc (by simp) _
 · go_enter Try.func132, Try.ntmps132
   go_wp2
   refine bodyPost_ret (v := .agg #[.int .i64 0, .int .i64 0, .int .u64 u, .string s]) (by simp [results, Try.results132, go_sem]) rfl ⟨rfl, ?_⟩
   first | exact Below.refl _ _ | exact (Below.refl _ _).alloc (Nat.le_refl _) _ | exact ((Below.refl _ _).alloc (Nat.le_refl _) _).alloc (by simp) _
set_option maxHeartbeats 1000000 in
theorem blank_1n (n u : Int) (s : ByteArray) (h : (n != 0) = true) (h2 : (n != 1) = true) (w : World) : Calls Try.prog 132 #[.agg #[.int .i64 1, .int .i64 n, .int .u64 u, .string s]] w fun e w' => e = .returned (.agg #[.int .i64 1, .int .i64 n, .int .u64 u, .string s]) ∧ Below w.heap.size w w' := by
 go_enter Try.func132, Try.ntmps132
 go_wp2
 refine bodyPost_ret (v := .agg #[.int .i64 1, .int .i64 n, .int .u64 u, .string s]) (by simp [results, Try.results132, go_sem]) rfl ⟨rfl, ?_⟩
 first | exact Below.refl _ _ | exact (Below.refl _ _).alloc (Nat.le_refl _) _ | exact ((Below.refl _ _).alloc (Nat.le_refl _) _).alloc (by simp) _
set_option maxHeartbeats 1000000 in
theorem blank_2 (n u : Int) (s : ByteArray) (w : World) : Calls Try.prog 132 #[.agg #[.int .i64 2, .int .i64 n, .int .u64 u, .string s]] w fun e w' => e = .returned (.agg #[.int .i64 0, .int .i64 0, .int .u64 u, .string s]) ∧ Below w.heap.size w w' := by
 go_enter Try.func132, Try.ntmps132
 go_wp2
 refine bodyPost_ret (v := .agg #[.int .i64 0, .int .i64 0, .int .u64 u, .string s]) (by simp [results, Try.results132, go_sem]) rfl ⟨rfl, ?_⟩
 first | exact Below.refl _ _ | exact (Below.refl _ _).alloc (Nat.le_refl _) _ | exact ((Below.refl _ _).alloc (Nat.le_refl _) _).alloc (by simp) _
set_option maxHeartbeats 1000000 in
theorem blank_3 (n u : Int) (s : ByteArray) (h : (s.size : Int) ≤ 40) (w : World) : Calls Try.prog 132 #[.agg #[.int .i64 3, .int .i64 n, .int .u64 u, .string s]] w fun e w' => e = .returned (.agg #[.int .i64 0, .int .i64 n, .int .u64 u, .string ⟨#[]⟩]) ∧ Below w.heap.size w w' := by
 go_enter Try.func132, Try.ntmps132
 go_wp2
 refine bodyPost_ret (v := .agg #[.int .i64 0, .int .i64 n, .int .u64 u, .string ⟨#[]⟩]) (by simp [results, Try.results132, go_sem]) rfl ⟨rfl, ?_⟩
 first | exact Below.refl _ _ | exact (Below.refl _ _).alloc (Nat.le_refl _) _ | exact ((Below.refl _ _).alloc (Nat.le_refl _) _).alloc (by simp) _
set_option maxHeartbeats 1000000 in
theorem blank_3n (n u : Int) (s : ByteArray) (h : ¬ (s.size : Int) ≤ 40) (w : World) : Calls Try.prog 132 #[.agg #[.int .i64 3, .int .i64 n, .int .u64 u, .string s]] w fun e w' => e = .returned (.agg #[.int .i64 3, .int .i64 n, .int .u64 u, .string s]) ∧ Below w.heap.size w w' := by
 go_enter Try.func132, Try.ntmps132
 go_wp2
 refine bodyPost_ret (v := .agg #[.int .i64 3, .int .i64 n, .int .u64 u, .string s]) (by simp [results, Try.results132, go_sem]) rfl ⟨rfl, ?_⟩
 first | exact Below.refl _ _ | exact (Below.refl _ _).alloc (Nat.le_refl _) _ | exact ((Below.refl _ _).alloc (Nat.le_refl _) _).alloc (by simp) _
set_option maxHeartbeats 1000000 in
theorem blank_4 (n u : Int) (s : ByteArray) (w : World) : Calls Try.prog 132 #[.agg #[.int .i64 4, .int .i64 n, .int .u64 u, .string s]] w fun e w' => e = .returned (.agg #[.int .i64 0, .int .i64 0, .int .u64 0, .string s]) ∧ Below w.heap.size w w' := by
 go_enter Try.func132, Try.ntmps132
 go_wp2
 refine bodyPost_ret (v := .agg #[.int .i64 0, .int .i64 0, .int .u64 0, .string s]) (by simp [results, Try.results132, go_sem]) rfl ⟨rfl, ?_⟩
 first | exact Below.refl _ _ | exact (Below.refl _ _).alloc (Nat.le_refl _) _ | exact ((Below.refl _ _).alloc (Nat.le_refl _) _).alloc (by simp) _
set_option maxHeartbeats 1000000 in
theorem blank_n (k n u : Int) (s : ByteArray) (h0 : (k == 0) = false) (h1 : (k == 1) = false) (h2 : (k == 2) = false) (h3 : (k == 3) = false) (h4 : (k == 4) = false) (w : World) : Calls Try.prog 132 #[.agg #[.int .i64 k, .int .i64 n, .int .u64 u, .string s]] w fun e w' => e = .returned (.agg #[.int .i64 k, .int .i64 n, .int .u64 u, .string s]) ∧ Below w.heap.size w w' := by
 go_enter Try.func132, Try.ntmps132
 go_wp2
 refine bodyPost_ret (v := .agg #[.int .i64 k, .int .i64 n, .int .u64 u, .string s]) (by simp [results, Try.results132, go_sem]) rfl ⟨rfl, ?_⟩
 first | exact Below.refl _ _ | exact (Below.refl _ _).alloc (Nat.le_refl _) _ | exact ((Below.refl _ _).alloc (Nat.le_refl _) _).alloc (by simp) _
end Go.Proofs.Ytojghgbaiiajfaa
/- value.Check. Conditions: a value of whatever fields. -/
namespace Go.Proofs.Ytojghgbaiiajfaa
open Go.RowKit
set_option maxHeartbeats 1000000 in
theorem check_0 (n u : Int) (s : ByteArray) (w : World) : Calls Try.prog 130 #[.agg #[.int .i64 0, .int .i64 n, .int .u64 u, .string s]] w fun e w' => e = .returned (.int .i64 (if rightB 0 n u s then 0 else 120)) ∧ Below w.heap.size w w' := by
 have b0 : Below w.heap.size w (w.alloc (.cells #[.int .i64 0, .int .i64 n, .int .u64 u, .string s] 142)) := (Below.refl _ _).alloc (Nat.le_refl _) _
 generalize hr : (if rightB 0 n u s then (0 : Int) else 120) = r
 have HR := Lib.hid hr
 clear hr
 go_enter Try.func130, Try.ntmps130
 go_wp2_with fail
 refine (blank_0 n u s _).mono ?_
 rintro e w1 ⟨rfl, b1⟩
 have b2 := b0.trans (b1.mono b0.size)
 clear b0 b1
 go_wp2
 all_goals (go_ret; refine ⟨?_, b2⟩; rw [← HR.out]; simp_all [rightB] <;> omega)
set_option maxHeartbeats 1000000 in
theorem check_1 (n u : Int) (s : ByteArray) (hn : n = 0 ∨ n = 1) (w : World) : Calls Try.prog 130 #[.agg #[.int .i64 1, .int .i64 n, .int .u64 u, .string s]] w fun e w' => e = .returned (.int .i64 (if rightB 1 n u s then 0 else 120)) ∧ Below w.heap.size w w' := by
 have b0 : Below w.heap.size w (w.alloc (.cells #[.int .i64 1, .int .i64 n, .int .u64 u, .string s] 142)) := (Below.refl _ _).alloc (Nat.le_refl _) _
 generalize hr : (if rightB 1 n u s then (0 : Int) else 120) = r
 have HR := Lib.hid hr
 clear hr
 go_enter Try.func130, Try.ntmps130
 go_wp2_with fail
 refine (blank_1 n u s hn _).mono ?_
 rintro e w1 ⟨rfl, b1⟩
 have b2 := b0.trans (b1.mono b0.size)
 clear b0 b1
 go_wp2
 all_goals (go_ret; refine ⟨?_, b2⟩; rw [← HR.out]; simp_all [rightB] <;> omega)
set_option maxHeartbeats 1000000 in
theorem check_2 (n u : Int) (s : ByteArray) (w : World) : Calls Try.prog 130 #[.agg #[.int .i64 2, .int .i64 n, .int .u64 u, .string s]] w fun e w' => e = .returned (.int .i64 (if rightB 2 n u s then 0 else 120)) ∧ Below w.heap.size w w' := by
 have b0 : Below w.heap.size w (w.alloc (.cells #[.int .i64 2, .int .i64 n, .int .u64 u, .string s] 142)) := (Below.refl _ _).alloc (Nat.le_refl _) _
 generalize hr : (if rightB 2 n u s then (0 : Int) else 120) = r
 have HR := Lib.hid hr
 clear hr
 go_enter Try.func130, Try.ntmps130
 go_wp2_with fail
 refine (blank_2 n u s _).mono ?_
 rintro e w1 ⟨rfl, b1⟩
 have b2 := b0.trans (b1.mono b0.size)
 clear b0 b1
 go_wp2
 all_goals (go_ret; refine ⟨?_, b2⟩; rw [← HR.out]; simp_all [rightB] <;> omega)
set_option maxHeartbeats 1000000 in
theorem check_4 (n u : Int) (s : ByteArray) (w : World) : Calls Try.prog 130 #[.agg #[.int .i64 4, .int .i64 n, .int .u64 u, .string s]] w fun e w' => e = .returned (.int .i64 (if rightB 4 n u s then 0 else 120)) ∧ Below w.heap.size w w' := by
 have b0 : Below w.heap.size w (w.alloc (.cells #[.int .i64 4, .int .i64 n, .int .u64 u, .string s] 142)) := (Below.refl _ _).alloc (Nat.le_refl _) _
 generalize hr : (if rightB 4 n u s then (0 : Int) else 120) = r
 have HR := Lib.hid hr
 clear hr
 go_enter Try.func130, Try.ntmps130
 go_wp2_with fail
 refine (blank_4 n u s _).mono ?_
 rintro e w1 ⟨rfl, b1⟩
 have b2 := b0.trans (b1.mono b0.size)
 clear b0 b1
 go_wp2
 all_goals (go_ret; refine ⟨?_, b2⟩; rw [← HR.out]; simp_all [rightB] <;> omega)
set_option maxHeartbeats 1000000 in
theorem check_1n (n u : Int) (s : ByteArray) (h1 : (n != 0) = true) (h2 : (n != 1) = true) (w : World) : Calls Try.prog 130 #[.agg #[.int .i64 1, .int .i64 n, .int .u64 u, .string s]] w fun e w' => e = .returned (.int .i64 (if rightB 1 n u s then 0 else 120)) ∧ Below w.heap.size w w' := by
 have b0 : Below w.heap.size w (w.alloc (.cells #[.int .i64 1, .int .i64 n, .int .u64 u, .string s] 142)) := (Below.refl _ _).alloc (Nat.le_refl _) _
 generalize hr : (if rightB 1 n u s then (0 : Int) else 120) = r
 have HR := Lib.hid hr
 clear hr
 go_enter Try.func130, Try.ntmps130
 go_wp2_with fail
 refine (blank_1n n u s h1 h2 _).mono ?_
 rintro e w1 ⟨rfl, b1⟩
 have b2 := b0.trans (b1.mono b0.size)
 clear b0 b1
 go_wp2
 all_goals (go_ret; refine ⟨?_, b2⟩; rw [← HR.out]; simp_all [rightB] <;> omega)
set_option maxHeartbeats 1000000 in
theorem check_3 (n u : Int) (s : ByteArray) (h1 : s.size ≤ 40) (w : World) : Calls Try.prog 130 #[.agg #[.int .i64 3, .int .i64 n, .int .u64 u, .string s]] w fun e w' => e = .returned (.int .i64 (if rightB 3 n u s then 0 else 120)) ∧ Below w.heap.size w w' := by
 have b0 : Below w.heap.size w (w.alloc (.cells #[.int .i64 3, .int .i64 n, .int .u64 u, .string s] 142)) := (Below.refl _ _).alloc (Nat.le_refl _) _
 generalize hr : (if rightB 3 n u s then (0 : Int) else 120) = r
 have HR := Lib.hid hr
 clear hr
 go_enter Try.func130, Try.ntmps130
 go_wp2_with fail
 refine (blank_3 n u s (by omega) _).mono ?_
 rintro e w1 ⟨rfl, b1⟩
 have b2 := b0.trans (b1.mono b0.size)
 clear b0 b1
 go_wp2
 all_goals (go_ret; refine ⟨?_, b2⟩; rw [← HR.out]; simp_all [rightB] <;> omega)
set_option maxHeartbeats 1000000 in
theorem check_3n (n u : Int) (s : ByteArray) (h1 : 40 < s.size) (w : World) : Calls Try.prog 130 #[.agg #[.int .i64 3, .int .i64 n, .int .u64 u, .string s]] w fun e w' => e = .returned (.int .i64 (if rightB 3 n u s then 0 else 120)) ∧ Below w.heap.size w w' := by
 have b0 : Below w.heap.size w (w.alloc (.cells #[.int .i64 3, .int .i64 n, .int .u64 u, .string s] 142)) := (Below.refl _ _).alloc (Nat.le_refl _) _
 generalize hr : (if rightB 3 n u s then (0 : Int) else 120) = r
 have HR := Lib.hid hr
 clear hr
 go_enter Try.func130, Try.ntmps130
 go_wp2_with fail
 refine (blank_3n n u s (by omega) _).mono ?_
 rintro e w1 ⟨rfl, b1⟩
 have b2 := b0.trans (b1.mono b0.size)
 clear b0 b1
 go_wp2
 all_goals (go_ret; refine ⟨?_, b2⟩; rw [← HR.out]; simp_all [rightB] <;> omega)
set_option maxHeartbeats 1000000 in
theorem check_n (k n u : Int) (s : ByteArray) (h0 : (k == 0) = false) (h1 : (k == 1) = false) (h2 : (k == 2) = false) (h3 : (k == 3) = false) (h4 : (k == 4) = false) (w : World) : Calls Try.prog 130 #[.agg #[.int .i64 k, .int .i64 n, .int .u64 u, .string s]] w fun e w' => e = .returned (.int .i64 (if rightB k n u s then 0 else 120)) ∧ Below w.heap.size w w' := by
 have b0 : Below w.heap.size w (w.alloc (.cells #[.int .i64 k, .int .i64 n, .int .u64 u, .string s] 142)) := (Below.refl _ _).alloc (Nat.le_refl _) _
 generalize hr : (if rightB k n u s then (0 : Int) else 120) = r
 have HR := Lib.hid hr
 clear hr
 go_enter Try.func130, Try.ntmps130
 go_wp2_with fail
 refine (blank_n k n u s h0 h1 h2 h3 h4 _).mono ?_
 rintro e w1 ⟨rfl, b1⟩
 have b2 := b0.trans (b1.mono b0.size)
 clear b0 b1
 go_wp2
 all_goals (go_ret; refine ⟨?_, b2⟩; rw [← HR.out]; simp_all [rightB] <;> omega)
theorem check_any (k n u : Int) (s : ByteArray) (w : World) : Calls Try.prog 130 #[.agg #[.int .i64 k, .int .i64 n, .int .u64 u, .string s]] w fun e w' => e = .returned (.int .i64 (if rightB k n u s then 0 else 120)) ∧ Below w.heap.size w w' := by
 by_cases h0 : k = 0
 · subst h0; exact check_0 n u s w
 by_cases h1 : k = 1
 · subst h1
   by_cases hn : n = 0 ∨ n = 1
   · exact check_1 n u s hn w
   · exact check_1n n u s (by rw [bne_iff_ne]; omega) (by rw [bne_iff_ne]; omega) w
 by_cases h2 : k = 2
 · subst h2; exact check_2 n u s w
 by_cases h3 : k = 3
 · subst h3
   by_cases hs : s.size ≤ 40
   · exact check_3 n u s hs w
   · exact check_3n n u s (by omega) w
 by_cases h4 : k = 4
 · subst h4; exact check_4 n u s w
 exact check_n k n u s (by simp [h0]) (by simp [h1]) (by simp [h2]) (by simp [h3]) (by simp [h4]) w
end Go.Proofs.Ytojghgbaiiajfaa
/- bowspritref02.Right. Conditions: a value of whatever fields. -/
namespace Go.Proofs.Ytojghgbaiiajfaa
open Go.RowKit
end Go.Proofs.Ytojghgbaiiajfaa
/- arith.are: why values are not all null, or of a kind. Conditions: the slice reads as these values. -/
namespace Go.Proofs.Ytojghgbaiiajfaa
open Go.RowKit
/-- a value's four fields -/
structure VV where
 k : Int
 n : Int
 u : Int
 s : ByteArray
def VV.ok (v : VV) : Bool := rightB v.k v.n v.u v.s
/-- the slice reads as these values. -/
def RdV (w : World) (A : Option Addr) (n : Nat) (vs : List VV) : Prop :=
 vs.length = n ∧ ∀ i, i < n → ∃ (a : Addr) (v : VV), A = some a ∧ vs[i]? = some v ∧ a.block < w.heap.size ∧ w.cell? (a.add (i * 4)) = some (.int .i64 v.k) ∧
  w.cell? ⟨(a.add (i * 4)).block, (a.add (i * 4)).off + 1, none⟩ = some (.int .i64 v.n) ∧
  w.cell? ⟨(a.add (i * 4)).block, (a.add (i * 4)).off + 2, none⟩ = some (.int .u64 v.u) ∧
  w.cell? ⟨(a.add (i * 4)).block, (a.add (i * 4)).off + 3, none⟩ = some (.string v.s)
theorem RdV.below {w w' : World} {A : Option Addr} {n : Nat} {vs : List VV} (h : RdV w A n vs) (hb : Below w.heap.size w w') : RdV w' A n vs := by
 refine ⟨h.1, fun i hi => ?_⟩
 obtain ⟨a, v, e, e2, h0, h1, h2, h3, h4⟩ := h.2 i hi
 have hbl : (a.add (i * 4)).block = a.block := by unfold Addr.add; split <;> rfl
 exact ⟨a, v, e, e2, Nat.lt_of_lt_of_le h0 hb.size, (hb.cell (by rw [hbl]; exact h0)).trans h1, (hb.cell (by simp only [hbl]; exact h0)).trans h2, (hb.cell (by simp only [hbl]; exact h0)).trans h3, (hb.cell (by simp only [hbl]; exact h0)).trans h4⟩
end Go.Proofs.Ytojghgbaiiajfaa
/- Whole variables of several cells: stored and loaded as one. Conditions: none. -/
namespace Go.Proofs.Ytojghgbaiiajfaa
open Go.RowKit
theorem blk_setCells {g : Nat} {t : TypeId} : ∀ (vs : List Value) (o : Nat) (w : World) (pre suf : List Value), Blk w g t (pre ++ suf).toArray → o = pre.length → vs.length = suf.length → Blk (w.setCells g o vs) g t (pre ++ vs).toArray
 | [], _, w, pre, suf, h, _, hl => by
  obtain rfl : suf = [] := List.eq_nil_of_length_eq_zero (by simpa using hl.symm)
  exact h
 | v :: vs, o, w, pre, suf, h, ho, hl => by
  match suf, hl with
  | s :: suf, hl =>
   rw [World.setCells]
   have h1 : Blk (w.setCell ⟨g, o, none⟩ v) g t ((pre ++ [v]) ++ suf).toArray := by
    have := h.set_ o v
    subst ho
    simpa using this
   have := blk_setCells vs (o + 1) _ (pre ++ [v]) suf h1 (by simp [ho]) (by simpa using hl)
   simpa using this
theorem blk_setAll {w : World} {g : Nat} {t : TypeId} {cs new : Array Value} (h : Blk w g t cs) (hs : new.size = cs.size) : Blk (w.setCells g 0 new.toList) g t new := by
 have := blk_setCells new.toList 0 w [] cs.toList (by simpa using h) rfl (by simpa using hs)
 simpa using this
theorem grown_setCells {w0 : World} {g : Nat} : ∀ (vs : List Value) (o : Nat) (w : World), w0.grownBy w (some g) → w0.grownBy (w.setCells g o vs) (some g)
 | [], _, _, h => h
 | v :: vs, o, w, h => by
  rw [World.setCells]
  exact grown_setCells vs (o + 1) _ (only_setCell (p := ⟨g, o, none⟩) h (.inl rfl) v)
theorem there_blk {w : World} {g : Nat} {t : TypeId} {cs : Array Value} (h : Blk w g t cs) : w.there g 0 cs.size := fun j hj => by
 rw [Nat.zero_add]
 exact ⟨by rw [h.cell j, Array.getElem?_eq_getElem hj]; rfl, h.frozen j⟩
section
variable {P : Program}
theorem wpList_store_blk {ops : Array Oper} {rest : List Oper} {op : Oper} {a : Act} {w : World} {Q : Exit → Act → World → Prop} (hgd : op.guard = none) (ty : TypeId) (x y : Operand) (ho : op.op = .store ty x y)
 (g : Nat) (t : TypeId) (cs new : Array Value) (hx : a.eval x = .pointer (some ⟨g, 0, none⟩)) (hy : a.eval y = .agg new) (hb : Blk w g t cs) (hs : new.size = cs.size) (hi : (P.info? ty).map (·.size) = some new.size) (h1 : new.all (·.oneCell') = true)
 (h : ∀ w', Blk w' g t new → w.grownBy w' (some g) → wpList P ops Q rest (a.put op.dst undef) w') : wpList P ops Q (op :: rest) a w :=
 wpList_store_mid hgd ty x y ho g 0 new hx hy (by rw [hs]; exact there_blk hb) hi h1 (h _ (blk_setAll hb hs) (grown_setCells _ _ _ (World.grownBy.refl w _)))
theorem wpList_load_blk {ops : Array Oper} {rest : List Oper} {o : Oper} {a : Act} {w : World} {Q : Exit → Act → World → Prop} (hgd : o.guard = none) (ty : TypeId) (x : Operand) (ho : o.op = .load ty x)
 (g : Nat) (hx : a.eval x = .pointer (some ⟨g, 0, none⟩)) (t : TypeId) (cs : Array Value) (d : TypeDesc) (hg : Blk w g t cs)
 (hu : P.underlying ty = some d) (hd : (match d with | .struct _ | .array _ _ => true | _ => false) = true) (hi : (P.info? ty).map (·.size) = some cs.size)
 (h : wpList P ops Q rest (a.put o.dst (.agg cs)) w) : wpList P ops Q (o :: rest) a w := wpList_load_row hgd ty x ho g hx t cs (0, 0) d hg hu hd hi h
end
theorem below_row {a w w' : World} {R : Nat} {B : Nat} (h : Below B a w) (hg : w.grownBy w' (some R)) (hB : B ≤ w.heap.size) (hR : B ≤ R) : Below B a w' := h.grown hg hB (fun k e => by injection e with e; omega)
theorem Blk.apart {w w' : World} {g g' : Nat} {t : TypeId} {cs : Array Value} (h : Blk w g t cs) (hb : w.grownBy w' (some g')) (hne : g ≠ g') : Blk w' g t cs := h.grown hb (fun e => hne (by injection e))
section
variable {P : Program}
theorem res1 {fn : Func} {p : Tmp} {ty : TypeId} (h : fn.results = #[.cell p ty]) {tmps : Array Value} {w : World} {g : Nat} {t : TypeId} {cs : Array Value} {d : TypeDesc}
 (hp : tmps.getD p undef = .pointer (some ⟨g, 0, none⟩)) (hg : Blk w g t cs) (hu : P.underlying ty = some d) (hd : (match d with | .struct _ | .array _ _ => true | _ => false) = true) (hi : (P.info? ty).map (·.size) = some cs.size) :
 (results fn tmps).run P w = .ok (.agg cs) w := results_cell_row h tmps w g t cs (0, 0) d hp hg hu hd hi
theorem res2 {fn : Func} {p q : Tmp} {ty : TypeId} (h : fn.results = #[.cell p ty, .tmp q]) {tmps : Array Value} {w : World} {g : Nat} {t : TypeId} {cs : Array Value} {d : TypeDesc} {v : Value}
 (hp : tmps.getD p undef = .pointer (some ⟨g, 0, none⟩)) (hq : tmps.getD q undef = v) (hg : Blk w g t cs) (hu : P.underlying ty = some d) (hd : (match d with | .struct _ | .array _ _ => true | _ => false) = true) (hi : (P.info? ty).map (·.size) = some cs.size) :
 (results fn tmps).run P w = .ok (.tuple #[.agg cs, v]) w := by
 have hp' : tmps[p]?.getD undef = .pointer (some ⟨g, 0, none⟩) := by simpa using hp
 have hq' : tmps[q]?.getD undef = v := by simpa using hq
 simp [results, h, hp', hq', asAddr, run_loadVar_row w g t ty cs (0, 0) d hg hu hd hi]
end
section
variable {w0 w w' : World}
theorem bl_al (h : Below w0.heap.size w0 w) (o : Obj) : Below w0.heap.size w0 (w.alloc o) := h.alloc h.size o
theorem bl_ca (h : Below w0.heap.size w0 w) (q : Below w.heap.size w w') : Below w0.heap.size w0 w' := h.trans (q.mono h.size)
theorem bl_dr (h : Below w0.heap.size w0 w) (n : Nat) : Below w0.heap.size w0 (w.drewN n) := below_drewN h n
theorem bl_gr (h : Below w0.heap.size w0 w) {g : Nat} (k : w.grownBy w' (some g)) (hg : w0.heap.size ≤ g) : Below w0.heap.size w0 w' := below_row h k h.size hg
end
end Go.Proofs.Ytojghgbaiiajfaa
/- More words on variables of several cells. Conditions: none. -/
namespace Go.Proofs.Ytojghgbaiiajfaa
open Go.RowKit
theorem Blk.mk' {w : World} {t : TypeId} {cs : Array Value} {g : Nat} (hg : g = w.heap.size) : Blk (w.alloc (.cells cs t)) g t cs := hg ▸ Blk.new w t cs
theorem Blk.ca {w w' : World} {g : Nat} {t : TypeId} {cs : Array Value} (h : Blk w g t cs) (q : Below w.heap.size w w') : Blk w' g t cs := h.below q h.lt
end Go.Proofs.Ytojghgbaiiajfaa
/- Rows of values that the call owns. Conditions: none. -/
namespace Go.Proofs.Ytojghgbaiiajfaa
open Go.RowKit
def vcells (vs : List VV) : List Value := vs.flatMap fun v => [.int .i64 v.k, .int .i64 v.n, .int .u64 v.u, .string v.s]
theorem vcells_len (vs : List VV) : (vcells vs).length = vs.length * 4 := by
 induction vs with
 | nil => rfl
 | cons v l ih => simp only [vcells, List.flatMap_cons, List.length_append] at *; simp [ih]; omega
theorem vcells_at (vs : List VV) (i : Nat) (v : VV) (h : vs[i]? = some v) : (vcells vs)[i * 4]? = some (.int .i64 v.k) ∧ (vcells vs)[i * 4 + 1]? = some (.int .i64 v.n) ∧ (vcells vs)[i * 4 + 2]? = some (.int .u64 v.u) ∧ (vcells vs)[i * 4 + 3]? = some (.string v.s) := by
 induction vs generalizing i with
 | nil => simp at h
 | cons x l ih =>
  cases i with
  | zero =>
   simp at h
   subst h
   exact ⟨rfl, rfl, rfl, rfl⟩
  | succ i =>
   have e : vcells (x :: l) = [.int .i64 x.k, .int .i64 x.n, .int .u64 x.u, .string x.s] ++ vcells l := rfl
   have := ih i (by simpa using h)
   rw [e]
   refine ⟨?_, ?_, ?_, ?_⟩
   · rw [List.getElem?_append_right (by simp; omega)]
     simpa [Nat.succ_mul] using this.1
   · rw [List.getElem?_append_right (by simp; omega)]
     have h2 := this.2.1
     rw [show (i + 1) * 4 + 1 - ([.int .i64 x.k, .int .i64 x.n, .int .u64 x.u, .string x.s] : List Value).length = i * 4 + 1 from by simp; omega]
     exact h2
   · rw [List.getElem?_append_right (by simp; omega)]
     rw [show (i + 1) * 4 + 2 - ([.int .i64 x.k, .int .i64 x.n, .int .u64 x.u, .string x.s] : List Value).length = i * 4 + 2 from by simp; omega]
     exact this.2.2.1
   · rw [List.getElem?_append_right (by simp; omega)]
     rw [show (i + 1) * 4 + 3 - ([.int .i64 x.k, .int .i64 x.n, .int .u64 x.u, .string x.s] : List Value).length = i * 4 + 3 from by simp; omega]
     exact this.2.2.2
/-- A slice of values that the call owns: from block B on. -/
def OwnV (w : World) (B : Nat) (A : Option Addr) (n c : Nat) (vs : List VV) : Prop := w.ownsRow B 142 4 (.slice A n c) n (vcells vs)
theorem OwnV.len {w : World} {B : Nat} {A : Option Addr} {n c : Nat} {vs : List VV} (h : OwnV w B A n c vs) : vs.length = n := by
 have := h.1
 rw [vcells_len] at this
 omega
theorem OwnV.rd {w : World} {B : Nat} {A : Option Addr} {n c : Nat} {vs : List VV} (h : OwnV w B A n c vs) : RdV w A n vs := by
 refine ⟨h.len, fun i hi => ?_⟩
 have hr := Reads.of_own h
 obtain ⟨ad, e, hb, hc⟩ := hr.2 (by omega)
 obtain ⟨g, cap, hv, _, hlt⟩ := World.ownsRow.form h (by omega)
 have hA : A = some ⟨g, 0, none⟩ := by injection hv
 subst hA
 injection e with e
 subst e
 have hil : i < vs.length := by rw [h.len]; exact hi
 obtain ⟨c0, c1, c2, c3⟩ := vcells_at vs i vs[i] (List.getElem?_eq_getElem hil)
 have hadd : ∀ j, (⟨g, 0, none⟩ : Addr).add j = ⟨g, j, none⟩ := fun j => by unfold Addr.add; split <;> simp_all
 have a0 := hc _ _ c0
 have a1 := hc _ _ c1
 have a2 := hc _ _ c2
 have a3 := hc _ _ c3
 rw [hadd] at a0 a1 a2 a3
 refine ⟨_, vs[i], rfl, List.getElem?_eq_getElem hil, hlt, ?_, ?_, ?_, ?_⟩
 all_goals rw [hadd]
 · exact a0
 · exact a1
 · exact a2
 · exact a3
theorem OwnV.below {w w' : World} {B : Nat} {A : Option Addr} {n c : Nat} {vs : List VV} (h : OwnV w B A n c vs) (hb : Below w.heap.size w w') : OwnV w' B A n c vs := by
 refine ⟨h.1, ?_⟩
 rcases h.2 with h2 | ⟨g, cap, cur, e, hg, hh, r⟩
 · exact .inl h2
 · have hlt : g < w.heap.size := by
    rcases Nat.lt_or_ge g w.heap.size with h | h
    · exact h
    · rw [Array.getElem?_eq_none h] at hh; cases hh
   exact .inr ⟨g, cap, cur, e, hg, (hb.block g hlt).trans hh, r⟩
theorem OwnV.alloc {w : World} {B : Nat} {A : Option Addr} {n c : Nat} {vs : List VV} (h : OwnV w B A n c vs) (o : Obj) : OwnV (w.alloc o) B A n c vs := h.below ((Below.refl _ _).alloc (Nat.le_refl _) o)
theorem OwnV.nil (w : World) (B : Nat) : OwnV w B none 0 0 [] := World.ownsRow_nil _ _ _ _
theorem OwnV.base {w : World} {B : Nat} {A : Option Addr} {n c : Nat} {vs : List VV} (h : OwnV w B A n c vs) : ∀ k, (Value.slice A n c).ownBlock = some k → B ≤ k := by
 intro k hk
 rcases h.2 with ⟨e, _⟩ | ⟨g, cap, _, e, hg, _⟩
 · injection e with e; subst e; simp [Value.ownBlock] at hk
 · injection e with e; subst e
   have : g = k := by simpa [Value.ownBlock] using hk
   omega
theorem OwnV.form {w : World} {B : Nat} {n : Nat} {v : Value} {xs : List Value} (h : w.ownsRow B 142 4 v n xs) : ∃ A c, v = .slice A n c := by
 rcases h.2 with ⟨rfl, rfl⟩ | ⟨g, cap, _, rfl, _⟩
 · exact ⟨_, _, rfl⟩
 · exact ⟨_, _, rfl⟩
end Go.Proofs.Ytojghgbaiiajfaa
/- Data in memory, by what it is made of: how many cells, what they hold, and to which blocks it leads. Conditions: none. -/
namespace Go.Proofs.Ytojghgbaiiajfaa
open Go.RowKit
/-- How a kind of data lies in memory: so many cells; what they hold; the blocks that it leads to are among F. -/
structure Lay (α : Type) where
 size : Nat
 rep : World → (Nat → Prop) → α → List Value → Prop
 len : ∀ {w F a cs}, rep w F a cs → cs.length = size
 one : ∀ {w F a cs}, rep w F a cs → ∀ u ∈ cs, u.oneCell' = true
 keep : ∀ {w w' : World} {F : Nat → Prop} {a cs}, (∀ b, F b → b < w.heap.size → w'.heap[b]? = w.heap[b]?) → rep w F a cs → rep w' F a cs
 weak : ∀ {w F G a cs}, (∀ b, F b → b < w.heap.size → G b) → rep w F a cs → rep w G a cs
/-- data of one cell that leads nowhere -/
def Lay.cell {α : Type} (mk : α → Value) (h1 : ∀ a, (mk a).oneCell' = true) : Lay α where
 size := 1
 rep := fun _ _ a cs => cs = [mk a]
 len := fun h => by subst h; rfl
 one := fun {_ _ a _} h u hu => by subst h; simp at hu; subst hu; exact h1 a
 keep := fun _ h => h
 weak := fun _ h => h
/-- two kinds, one behind the other -/
def Lay.pair {α β : Type} (L : Lay α) (M : Lay β) : Lay (α × β) where
 size := L.size + M.size
 rep := fun w F p cs => ∃ x y, cs = x ++ y ∧ L.rep w F p.1 x ∧ M.rep w F p.2 y
 len := fun h => by obtain ⟨x, y, rfl, hx, hy⟩ := h; rw [List.length_append, L.len hx, M.len hy]
 one := fun h u hu => by
  obtain ⟨x, y, rfl, hx, hy⟩ := h
  rcases List.mem_append.1 hu with hu | hu
  · exact L.one hx u hu
  · exact M.one hy u hu
 keep := fun hk h => by obtain ⟨x, y, e, hx, hy⟩ := h; exact ⟨x, y, e, L.keep hk hx, M.keep hk hy⟩
 weak := fun hk h => by obtain ⟨x, y, e, hx, hy⟩ := h; exact ⟨x, y, e, L.weak hk hx, M.weak hk hy⟩
/-- a kind that is another one under other names -/
def Lay.as {α β : Type} (L : Lay α) (f : β → α) : Lay β where
 size := L.size
 rep := fun w F b cs => L.rep w F (f b) cs
 len := L.len
 one := L.one
 keep := L.keep
 weak := L.weak
/-- several, one behind the other -/
def Lay.reps {α : Type} (L : Lay α) (w : World) (F : Nat → Prop) : List α → List Value → Prop
 | [], cs => cs = []
 | a :: l, cs => ∃ x y, cs = x ++ y ∧ L.rep w F a x ∧ L.reps w F l y
section
variable {α : Type} {L : Lay α} {w w' : World} {F G : Nat → Prop}
theorem Lay.reps_len : ∀ {xs : List α} {cs : List Value}, L.reps w F xs cs → cs.length = xs.length * L.size
 | [], _, h => by cases h; simp
 | _ :: l, _, h => by
  obtain ⟨x, y, rfl, hx, hy⟩ := h
  rw [List.length_append, L.len hx, Lay.reps_len hy, List.length_cons, Nat.succ_mul, Nat.add_comm]
theorem Lay.reps_one : ∀ {xs : List α} {cs : List Value}, L.reps w F xs cs → ∀ u ∈ cs, u.oneCell' = true
 | [], _, h, u, hu => by cases h; cases hu
 | _ :: l, _, h, u, hu => by
  obtain ⟨x, y, rfl, hx, hy⟩ := h
  rcases List.mem_append.1 hu with hu | hu
  · exact L.one hx u hu
  · exact Lay.reps_one hy u hu
theorem Lay.reps_keep (hk : ∀ b, F b → b < w.heap.size → w'.heap[b]? = w.heap[b]?) : ∀ {xs : List α} {cs : List Value}, L.reps w F xs cs → L.reps w' F xs cs
 | [], _, h => h
 | _ :: l, _, h => by
  obtain ⟨x, y, e, hx, hy⟩ := h
  exact ⟨x, y, e, L.keep hk hx, Lay.reps_keep hk hy⟩
theorem Lay.reps_weak (hk : ∀ b, F b → b < w.heap.size → G b) : ∀ {xs : List α} {cs : List Value}, L.reps w F xs cs → L.reps w G xs cs
 | [], _, h => h
 | _ :: l, _, h => by
  obtain ⟨x, y, e, hx, hy⟩ := h
  exact ⟨x, y, e, L.weak hk hx, Lay.reps_weak hk hy⟩
theorem Lay.reps_append : ∀ {xs ys : List α} {cs ds : List Value}, L.reps w F xs cs → L.reps w F ys ds → L.reps w F (xs ++ ys) (cs ++ ds)
 | [], _, _, _, h, k => by cases h; exact k
 | _ :: l, _, _, _, h, k => by
  obtain ⟨x, y, rfl, hx, hy⟩ := h
  exact ⟨x, y ++ _, by rw [List.append_assoc], hx, Lay.reps_append hy k⟩
theorem Lay.reps_single {a : α} {cs : List Value} (h : L.rep w F a cs) : L.reps w F [a] cs := ⟨cs, [], by simp, h, rfl⟩
theorem Lay.reps_at : ∀ {xs : List α} {cs : List Value} {i : Nat} {a : α}, L.reps w F xs cs → xs[i]? = some a → ∃ ds, L.rep w F a ds ∧ ∀ j u, ds[j]? = some u → cs[i * L.size + j]? = some u
 | [], _, _, _, _, h => by simp at h
 | x :: l, _, i, a, h, k => by
  obtain ⟨c, d, rfl, hx, hy⟩ := h
  cases i with
  | zero =>
   simp at k
   subst k
   exact ⟨c, hx, fun j u hu => by rw [Nat.zero_mul, Nat.zero_add, List.getElem?_append_left (List.getElem?_eq_some_iff.1 hu).1]; exact hu⟩
  | succ i =>
   obtain ⟨ds, h1, h2⟩ := Lay.reps_at hy (show l[i]? = some a by simpa using k)
   refine ⟨ds, h1, fun j u hu => ?_⟩
   rw [List.getElem?_append_right (by rw [L.len hx, Nat.succ_mul]; omega), L.len hx, show (i + 1) * L.size + j - L.size = i * L.size + j from by rw [Nat.succ_mul]; omega]
   exact h2 j u hu
/-- the slice reads as these -/
def Lay.rd (L : Lay α) (w : World) (F : Nat → Prop) (A : Option Addr) (n : Nat) (xs : List α) : Prop :=
 xs.length = n ∧ ∃ cs, L.reps w F xs cs ∧ (0 < n → ∃ ad, A = some ad ∧ ad.block < w.heap.size ∧ F ad.block ∧ ∀ j u, cs[j]? = some u → w.cell? (ad.add j) = some u)
theorem cell_of_heap {p : Addr} (h : w'.heap[p.block]? = w.heap[p.block]?) : w'.cell? p = w.cell? p := by unfold World.cell?; rw [h]
theorem lt_of_same {b : Nat} (h : w'.heap[b]? = w.heap[b]?) (hb : b < w.heap.size) : b < w'.heap.size := by
 rcases Nat.lt_or_ge b w'.heap.size with h' | h'
 · exact h'
 · rw [Array.getElem?_eq_none h', Array.getElem?_eq_getElem hb] at h; cases h
theorem Lay.rd_keep {A : Option Addr} {n : Nat} {xs : List α} (hk : ∀ b, F b → b < w.heap.size → w'.heap[b]? = w.heap[b]?) (h : L.rd w F A n xs) : L.rd w' F A n xs := by
 obtain ⟨hl, cs, hr, hc⟩ := h
 refine ⟨hl, cs, Lay.reps_keep hk hr, fun hn => ?_⟩
 obtain ⟨ad, e, hb, hf, hh⟩ := hc hn
 exact ⟨ad, e, lt_of_same (hk _ hf hb) hb, hf, fun j u hu => (cell_of_heap (by rw [block_of_add]; exact hk _ hf hb)).trans (hh j u hu)⟩
theorem Lay.rd_below {A : Option Addr} {n : Nat} {xs : List α} (h : L.rd w F A n xs) (q : Below w.heap.size w w') : L.rd w' F A n xs := Lay.rd_keep (fun b _ hb => q.block b hb) h
theorem Lay.rd_weak {A : Option Addr} {n : Nat} {xs : List α} (hk : ∀ b, F b → b < w.heap.size → G b) (h : L.rd w F A n xs) : L.rd w G A n xs := by
 obtain ⟨hl, cs, hr, hc⟩ := h
 refine ⟨hl, cs, Lay.reps_weak hk hr, fun hn => ?_⟩
 obtain ⟨ad, e, hb, hf, hh⟩ := hc hn
 exact ⟨ad, e, hb, hk _ hf hb, hh⟩
theorem Lay.rd_at {A : Option Addr} {n i : Nat} {xs : List α} (h : L.rd w F A n xs) (hi : i < n) : ∃ ad x cs, A = some ad ∧ xs[i]? = some x ∧ ad.block < w.heap.size ∧ F ad.block ∧ L.rep w F x cs ∧ ∀ j u, cs[j]? = some u → w.cell? (ad.add (i * L.size + j)) = some u := by
 obtain ⟨hl, cs, hr, hc⟩ := h
 obtain ⟨ad, e, hb, hf, hh⟩ := hc (by omega)
 have hx : xs[i]? = some xs[i] := List.getElem?_eq_getElem (by omega)
 obtain ⟨ds, h1, h2⟩ := Lay.reps_at hr hx
 exact ⟨ad, xs[i], ds, e, hx, hb, hf, h1, fun j u hu => hh _ u (h2 j u hu)⟩
theorem Lay.rd_nil (A : Option Addr) : L.rd w F A 0 [] := ⟨rfl, [], rfl, fun h => absurd h (by omega)⟩
theorem Lay.rd_len {A : Option Addr} {n : Nat} {xs : List α} (h : L.rd w F A n xs) : xs.length = n := h.1
theorem Lay.reps_take : ∀ {xs : List α} {cs : List Value} (k : Nat), L.reps w F xs cs → L.reps w F (xs.take k) (cs.take (k * L.size))
 | [], _, k, h => by cases h; simp [Lay.reps]
 | x :: l, _, 0, h => by simp [Lay.reps]
 | x :: l, _, k + 1, h => by
  obtain ⟨c, d, rfl, hx, hy⟩ := h
  refine ⟨c, d.take (k * L.size), ?_, hx, Lay.reps_take k hy⟩
  rw [Nat.succ_mul, List.take_append, List.take_of_length_le (by rw [L.len hx]; omega), L.len hx, Nat.add_sub_cancel]
theorem Lay.reps_drop : ∀ {xs : List α} {cs : List Value} (k : Nat), L.reps w F xs cs → L.reps w F (xs.drop k) (cs.drop (k * L.size))
 | [], _, k, h => by cases h; simp [Lay.reps]
 | x :: l, _, 0, h => by simpa using h
 | x :: l, _, k + 1, h => by
  obtain ⟨c, d, rfl, hx, hy⟩ := h
  have := Lay.reps_drop k hy
  rw [Nat.succ_mul, List.drop_append, List.drop_of_length_le (l := c) (by rw [L.len hx]; omega), L.len hx, Nat.add_sub_cancel]
  simpa using this
theorem Lay.rd_take {A : Option Addr} {n : Nat} {xs : List α} (h : L.rd w F A n xs) {k : Nat} (hk : k ≤ n) : L.rd w F A k (xs.take k) := by
 obtain ⟨hl, cs, hr, hc⟩ := h
 refine ⟨by rw [List.length_take]; omega, _, Lay.reps_take k hr, fun hn => ?_⟩
 obtain ⟨ad, e, hb, hf, hh⟩ := hc (by omega)
 exact ⟨ad, e, hb, hf, fun j u hu => hh j u (by rw [List.getElem?_take] at hu; split at hu; exact hu; cases hu)⟩
theorem Lay.rd_cut {A : Option Addr} {n : Nat} {xs : List α} (h : L.rd w F A n xs) {k cap : Nat} (hk : k ≤ n) (hc : n ≤ cap) : L.rd w F (if cap = k then A else A.map (·.add (k * L.size))) (n - k) (xs.drop k) := by
 obtain ⟨hl, cs, hr, hcc⟩ := h
 refine ⟨by rw [List.length_drop]; omega, _, Lay.reps_drop k hr, fun hn => ?_⟩
 obtain ⟨ad, rfl, hb, hf, hh⟩ := hcc (by omega)
 rw [if_neg (by omega)]
 refine ⟨ad.add (k * L.size), rfl, by rw [block_of_add]; exact hb, by rw [block_of_add]; exact hf, fun j u hu => ?_⟩
 rw [add_of_add]
 exact hh _ u (by rw [← hu, List.getElem?_drop])
/-- a slice of such data, as data -/
def Lay.slice (L : Lay α) : Lay (List α) where
 size := 1
 rep := fun w F xs cs => ∃ A n c, cs = [.slice A n c] ∧ n ≤ c ∧ c ≤ 9223372036854775807 ∧ L.rd w F A n xs
 len := fun h => by obtain ⟨_, _, _, rfl, _⟩ := h; rfl
 one := fun h u hu => by obtain ⟨_, _, _, rfl, _⟩ := h; simp at hu; subst hu; rfl
 keep := fun hk h => by obtain ⟨A, n, c, e, h1, h2, hr⟩ := h; exact ⟨A, n, c, e, h1, h2, Lay.rd_keep hk hr⟩
 weak := fun hk h => by obtain ⟨A, n, c, e, h1, h2, hr⟩ := h; exact ⟨A, n, c, e, h1, h2, Lay.rd_weak hk hr⟩
/-- A slice that the call owns, from block B on; what its elements lead to lies elsewhere, and is among G. -/
def Lay.own (L : Lay α) (e : TypeId) (w : World) (B : Nat) (G : Nat → Prop) (A : Option Addr) (n c : Nat) (xs : List α) : Prop :=
 xs.length = n ∧ ∃ cs, L.reps w (fun b => G b ∧ (Value.slice A n c).ownBlock ≠ some b) xs cs ∧ w.ownsRow B e L.size (.slice A n c) n cs
variable {e : TypeId} {B n c : Nat} {A : Option Addr} {xs : List α}
theorem Lay.own_len (h : L.own e w B G A n c xs) : xs.length = n := h.1
theorem Lay.own_nil (w : World) (B : Nat) : L.own e w B G none 0 0 [] := ⟨rfl, [], rfl, World.ownsRow_nil _ _ _ _⟩
theorem ownsRow_below {v : Value} {s : Nat} {ys : List Value} (h : w.ownsRow B e s v n ys) (hb : Below w.heap.size w w') : w'.ownsRow B e s v n ys := by
 refine ⟨h.1, ?_⟩
 rcases h.2 with h2 | ⟨g, cap, cur, e, hg, hh, r⟩
 · exact .inl h2
 · have hlt : g < w.heap.size := by
    rcases Nat.lt_or_ge g w.heap.size with h | h
    · exact h
    · rw [Array.getElem?_eq_none h] at hh; cases hh
   exact .inr ⟨g, cap, cur, e, hg, (hb.block g hlt).trans hh, r⟩
theorem Lay.own_below (h : L.own e w B G A n c xs) (q : Below w.heap.size w w') : L.own e w' B G A n c xs := by
 obtain ⟨hl, cs, hr, ho⟩ := h
 exact ⟨hl, cs, Lay.reps_keep (fun b _ hb => q.block b hb) hr, ownsRow_below ho q⟩
theorem Lay.own_alloc (h : L.own e w B G A n c xs) (o : Obj) : L.own e (w.alloc o) B G A n c xs := Lay.own_below h ((Below.refl _ _).alloc (Nat.le_refl _) o)
theorem Lay.own_weak {G' : Nat → Prop} (hk : ∀ b, G b → b < w.heap.size → G' b) (h : L.own e w B G A n c xs) : L.own e w B G' A n c xs := by
 obtain ⟨hl, cs, hr, ho⟩ := h
 exact ⟨hl, cs, Lay.reps_weak (fun b hb hl => ⟨hk b hb.1 hl, hb.2⟩) hr, ho⟩
theorem own_base' {v : Value} {s : Nat} {ys : List Value} (h : w.ownsRow B e s v n ys) : ∀ k, v.ownBlock = some k → B ≤ k ∧ k < w.heap.size := by
 intro k hk
 rcases h.2 with ⟨rfl, _⟩ | ⟨g, cap, _, rfl, hg, hh, _⟩
 · simp [Value.ownBlock] at hk
 · have : g = k := by simpa [Value.ownBlock] using hk
   subst this
   refine ⟨hg, ?_⟩
   rcases Nat.lt_or_ge g w.heap.size with h | h
   · exact h
   · rw [Array.getElem?_eq_none h] at hh; cases hh
theorem Lay.own_rd (h : L.own e w B G A n c xs) (hB : ∀ b, B ≤ b → b < w.heap.size → F b) (hG : ∀ b, G b → b < w.heap.size → F b) : L.rd w F A n xs := by
 obtain ⟨hl, cs, hr, ho⟩ := h
 refine ⟨hl, cs, Lay.reps_weak (fun b hb hl => hG b hb.1 hl) hr, fun hn => ?_⟩
 obtain ⟨ad, e1, hb, hc⟩ := (Reads.of_own ho).2 hn
 obtain ⟨g, cap, hv, _, hlt⟩ := World.ownsRow.form ho hn
 have hA : A = some ⟨g, 0, none⟩ := by injection hv
 subst hA
 injection e1 with e1
 subst e1
 have hbs := own_base' ho g (by simp [Value.ownBlock])
 exact ⟨_, rfl, hb, hB _ hbs.1 hbs.2, hc⟩
theorem own_form' {v : Value} {s : Nat} {ys : List Value} (h : w.ownsRow B e s v n ys) : ∃ A c, v = .slice A n c := by
 rcases h.2 with ⟨rfl, rfl⟩ | ⟨g, cap, _, rfl, _⟩
 · exact ⟨_, _, rfl⟩
 · exact ⟨_, _, rfl⟩
theorem reads_blk {g : Nat} {t : TypeId} {vs : Array Value} {s m : Nat} {ys : List Value} (h : Blk w g t vs) (hl : vs.toList = ys) (hs : ys.length = m * s) : Reads w w.heap.size s (some ⟨g, 0, none⟩) m ys := by
 refine ⟨hs, fun _ => ⟨_, rfl, h.lt, fun j u hu => ?_⟩⟩
 have hadd : (⟨g, 0, none⟩ : Addr).add j = ⟨g, j, none⟩ := by unfold Addr.add; split <;> simp_all
 rw [hadd, h.cell j, ← hu, ← hl, Array.getElem?_toList]
/-- append(out, x): out the call's own, x in a block of its own -/
theorem wpList_appL {P : Program} {ops : Array Oper} {rest : List Oper} {o : Oper} {a : Act} {Q : Exit → Act → World → Prop} (hgd : o.guard = none) (s x : Operand) (t : TypeId)
 (ho : o.op = .call { callee := .builtin .append, args := #[s, x], argTypes := #[t, t] })
 (z : Value) (k bytes : Nat) (ht : P.underlying t = some (.slice e)) (hi : (P.info? e).map (fun i => (i.zero, i.size, i.bytes)) = some (some z, k, bytes)) (hk : L.size = k) (hzs : z.cells.size = k) (hk0 : 0 < k)
 (B : Nat) (G : Nat → Prop) (A : Option Addr) (n c : Nat) (xs : List α) (g c2 : Nat) (t' : TypeId) (vs : Array Value) (y : α)
 (hs : a.eval s = .slice A n c) (hx : a.eval x = .slice (some ⟨g, 0, none⟩) 1 c2) (hown : L.own e w B G A n c xs) (hr : Blk w g t' vs)
 (hy : L.rep w (fun b => G b ∧ (Value.slice A n c).ownBlock ≠ some b) y vs.toList) (hG : ∀ b, G b → b < w.heap.size) (hb : (n + 1) * bytes ≤ 140737488355328) (hn : n + 1 ≤ maxLen) (hB : B ≤ w.heap.size)
 (h : ∀ A' c' w', L.own e w' B G A' (n + 1) c' (xs ++ [y]) → Below B w w' → wpList P ops Q rest (a.put o.dst (.slice A' (n + 1) c')) w') : wpList P ops Q (o :: rest) a w := by
 obtain ⟨hl, cs, hreps, hrow⟩ := hown
 obtain ⟨i0, hi0, hz0, hz1, hz2⟩ := info_parts hi
 subst hk
 refine wpList_append_any w hgd s x t ho B e i0 _ L.size bytes ht hi0 hz0 hz1 hz2 hzs hk0 (.slice A n c) n cs hs hrow w.heap.size (some ⟨g, 0, none⟩) 1 c2 vs.toList hx (reads_blk hr rfl (by rw [L.len hy]; omega)) (L.one hy) hn hb hB ?_
 intro v' w' hown' hg hat
 obtain ⟨A', c', rfl⟩ := own_form' hown'
 have hne : ∀ b, G b → (Value.slice A n c).ownBlock ≠ some b → (Value.slice A' (n + 1) c').ownBlock ≠ some b := fun b hb hne => by
  rcases hat with hat | hat
  · rw [hat]; exact hne
  · rw [hat]; intro e; injection e with e; have := hG b hb; omega
 have hkeep : ∀ b, (G b ∧ (Value.slice A n c).ownBlock ≠ some b) → b < w.heap.size → w'.heap[b]? = w.heap[b]? := fun b hb hlt => hg.block b hlt (fun e => hb.2 e.symm)
 refine h A' c' w' ⟨by rw [List.length_append, hl]; rfl, cs ++ vs.toList, Lay.reps_append (Lay.reps_weak (fun b hb _ => ⟨hb.1, hne b hb.1 hb.2⟩) (Lay.reps_keep hkeep hreps)) (Lay.reps_single (L.weak (fun b hb _ => ⟨hb.1, hne b hb.1 hb.2⟩) (L.keep hkeep hy))), hown'⟩ ?_
 exact (Below.refl _ _).grown hg hB (fun k hk => (own_base' hrow k hk).1)
end
end Go.Proofs.Ytojghgbaiiajfaa
