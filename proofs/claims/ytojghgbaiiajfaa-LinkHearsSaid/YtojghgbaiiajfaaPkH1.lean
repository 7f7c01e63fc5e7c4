/- Plain lemmas on memory for the walks of this seat (taken from the guide's pages of words to copy): slices that read as lists, blocks known whole, appends, frames. Conditions: none. -/
import Derived.Test.YtojghgbaiiajfaaRows
import Derived.WalkKit
import Derived.WalkSpells
import Derived.WalkLawsBesides
import Derived.Below
import Derived.Laws.OwnMore
import Derived.Deep.AppendLies
import Derived.Deep.Draws
import Derived.Laws.Rows
import Derived.Maps.AppendAt
import Derived.RegionTactic
import Derived.OwnWalk
import Derived.Deep.QuietTactic
import Derived.BigQuiet
import Derived.BigRegion
import Derived.Deep.OwnRows
import Derived.Laws.AppendOwn
import Derived.Laws.MakeOwn
import Derived.Laws.Entries
import Derived.Laws.BitsAllLaws
import Derived.Laws.BitsLemmas
import Derived.ChangeSame
import Derived.Lib.Hide
import Derived.IntWalk
import Derived.LaidEqlPtr
import Derived.Deep.LoopGhost
import Derived.Deep.RegionHeld3
import Derived.Deep.MidRow
namespace Go.Proofs.Ytojghgbaiiajfaa
open Go.RowKit

theorem block_of_add (a : Addr) (n : Nat) : (a.add n).block = a.block := by unfold Addr.add; split <;> rfl
theorem add_of_add (a : Addr) (i j : Nat) : (a.add i).add j = a.add (i + j) := by
 unfold Addr.add
 by_cases hi : i = 0 <;> by_cases hj : j = 0 <;> simp [hi, hj, Nat.add_assoc]

def Reads (w : World) (B size : Nat) (A : Option Addr) (n : Nat) (xs : List Value) : Prop :=
 xs.length = n * size ∧ (0 < n → ∃ ad, A = some ad ∧ ad.block < B ∧ ∀ j u, xs[j]? = some u → w.cell? (ad.add j) = some u)

section
variable {w w' : World} {B B' size n : Nat} {A : Option Addr} {xs : List Value}
theorem Reads.none_ : Reads w B size A 0 [] := ⟨by simp, fun h => absurd h (by omega)⟩
theorem Reads.at_ {k : Nat} (h : Reads w B 1 A n xs) (hk : k < n) : ∃ ad u, A = some ad ∧ ad.block < B ∧ xs[k]? = some u ∧ w.cell? (ad.add k) = some u := by
 obtain ⟨ad, e, hb, hc⟩ := h.2 (by omega)
 have hl : k < xs.length := by have := h.1; omega
 exact ⟨ad, xs[k], e, hb, List.getElem?_eq_getElem hl, hc k _ (List.getElem?_eq_getElem hl)⟩
theorem Reads.keep (h : Reads w B size A n xs) (hk : ∀ p : Addr, p.block < B → w'.cell? p = w.cell? p) : Reads w' B size A n xs :=
 ⟨h.1, fun hn => by
  obtain ⟨ad, e, hb, hc⟩ := h.2 hn
  exact ⟨ad, e, hb, fun j u hu => (hk _ (by rw [block_of_add]; exact hb)).trans (hc j u hu)⟩⟩
theorem Reads.more (h : Reads w B size A n xs) (hB : B ≤ B') : Reads w B' size A n xs :=
 ⟨h.1, fun hn => by
  obtain ⟨ad, e, hb, hc⟩ := h.2 hn
  exact ⟨ad, e, by omega, hc⟩⟩
theorem Reads.below (h : Reads w B size A n xs) (hb : Below B w w') : Reads w' B size A n xs := h.keep fun _ hp => hb.cell hp
theorem Reads.drew (h : Reads w B size A n xs) : Reads w.drew B size A n xs := h
theorem Reads.drewN (h : Reads w B size A n xs) (k : Nat) : Reads (w.drewN k) B size A n xs := h
theorem Reads.alloc (h : Reads w B size A n xs) (hB : B ≤ w.heap.size) (o : Obj) : Reads (w.alloc o) B size A n xs := h.keep fun p hp => World.cell?_alloc_lt w o p (by omega)
theorem Reads.setCell (h : Reads w B size A n xs) {p : Addr} (hB : B ≤ p.block) (u : Value) : Reads (w.setCell p u) B size A n xs :=
 h.keep fun q hq => World.cell?_setCell_other w p q u (fun e => by subst e; omega)
theorem Reads.grown (h : Reads w B size A n xs) {row : Option Nat} (hg : w.grownBy w' row) (hB : B ≤ w.heap.size) (hr : ∀ g, row = some g → B ≤ g) : Reads w' B size A n xs :=
 h.keep fun p hp => World.cell?_of_block (hg.block p.block (by omega) (fun e => by have := hr _ e.symm; omega))
theorem Reads.cut (h : Reads w B size A n xs) {k cap : Nat} (hk : k ≤ n) (hc : n ≤ cap) :
  Reads w B size (if cap = k then A else A.map (·.add (k * size))) (n - k) (xs.drop (k * size)) := by
 refine ⟨by rw [List.length_drop, h.1, Nat.sub_mul], fun hn => ?_⟩
 obtain ⟨ad, rfl, hb, hcell⟩ := h.2 (by omega)
 rw [if_neg (by omega)]
 refine ⟨ad.add (k * size), rfl, by rw [block_of_add]; exact hb, fun j u hu => ?_⟩
 rw [add_of_add]
 exact hcell _ u (by rw [← hu, List.getElem?_drop])
theorem Reads.of_own {base : Nat} {e : TypeId} {c : Nat} (h : w.ownsRow base e size (.slice A n c) n xs) : Reads w w.heap.size size A n xs := by
 refine ⟨h.1, fun hn => ?_⟩
 obtain ⟨g, cap, hv, _, hlt⟩ := h.form hn
 have hA : A = some ⟨g, 0, none⟩ := by injection hv
 subst hA
 exact ⟨_, rfl, hlt, h.cells (g := g) rfl⟩
end

def Blk (w : World) (g : Nat) (t : TypeId) (cs : Array Value) : Prop := w.heap[g]? = some (.cells cs t (0, 0))

section
variable {w w' : World} {g : Nat} {t : TypeId} {cs : Array Value}
theorem Blk.lt (h : Blk w g t cs) : g < w.heap.size := by
 rcases Nat.lt_or_ge g w.heap.size with hlt | hge
 · exact hlt
 · unfold Blk at h; rw [Array.getElem?_eq_none hge] at h; cases h
theorem Blk.cell (h : Blk w g t cs) (i : Nat) : w.cell? ⟨g, i, none⟩ = cs[i]? := cell_of_row w g i cs t (0, 0) h
theorem Blk.frozen (h : Blk w g t cs) (i : Nat) : w.frozen? ⟨g, i, none⟩ = false := by
 unfold Blk at h
 simp [World.frozen?, h]
theorem Blk.new (w : World) (t : TypeId) (cs : Array Value) : Blk (w.alloc (.cells cs t)) w.heap.size t cs := heap_alloc_new w _
theorem Blk.drew (h : Blk w g t cs) : Blk w.drew g t cs := h
theorem Blk.drewN (h : Blk w g t cs) (n : Nat) : Blk (w.drewN n) g t cs := h
theorem Blk.alloc (h : Blk w g t cs) (o : Obj) : Blk (w.alloc o) g t cs := (Below.heap_alloc w o g h.lt).trans h
theorem Blk.set_ (h : Blk w g t cs) (i : Nat) (u : Value) : Blk (w.setCell ⟨g, i, none⟩ u) g t (cs.setIfInBounds i u) := by
 unfold Blk at h ⊢
 simp [World.setCell, Array.getElem?_modify, h]
theorem Blk.far (h : Blk w g t cs) {p : Addr} (hp : g ≠ p.block) (u : Value) : Blk (w.setCell p u) g t cs := (Below.heap_setCell w p u g hp).trans h
theorem Blk.below {B : Nat} (h : Blk w g t cs) (hb : Below B w w') (hg : g < B) : Blk w' g t cs := (hb.block g hg).trans h
theorem Blk.grown {row : Option Nat} (h : Blk w g t cs) (hb : w.grownBy w' row) (hg : some g ≠ row) : Blk w' g t cs := (hb.block g h.lt hg).trans h
theorem Blk.ne_ {g' : Nat} {t' : TypeId} {cs' : Array Value} (h : Blk w g t cs) (h' : Blk w g' t' cs') (hne : t ≠ t') : g ≠ g' := by
 rintro rfl
 unfold Blk at h h'
 rw [h] at h'
 injection h' with h'
 injection h' with _ ht
 exact hne ht
theorem own_blk_ne {base : Nat} {e : TypeId} {size n : Nat} {v : Value} {xs : List Value} (h : w.ownsRow base e size v n xs) (hg : Blk w g t cs) (hne : e ≠ t) : v.ownBlock ≠ some g := by
 rcases h.2 with ⟨rfl, _⟩ | ⟨g', cap, cur, rfl, _, hh, _⟩
 · simp [Value.ownBlock]
 · intro he
  have : g' = g := by simpa [Value.ownBlock] using he
  subst this
  exact Blk.ne_ (t := e) hh hg hne rfl
end

section
variable {P : Program} (w : World)

theorem run_append_of_nil (base : Nat) (t ty e : TypeId) (i : TypeInfo) (size : Nat) (ht : P.underlying t = some (.slice e)) (hi : P.info? e = some i)
  (v : Value) (n : Nat) (xs : List Value) (hown : w.ownsRow base e size v n xs) (c : Nat) : (Builtin.append_ #[t, t] ty #[v, .slice none 0 c]).run P w = .ok v w := by
 rcases hown.2 with ⟨rfl, rfl⟩ | ⟨g, cap, cur, rfl, _, _, hnc, _⟩
 · simp [Builtin.append_, run_underlying ht, sizeOf, typeInfo, hi, Builtin.lenOf, Builtin.firstCells]
 · simp [Builtin.append_, run_underlying ht, sizeOf, typeInfo, hi, Builtin.lenOf, Builtin.firstCells, hnc, storeCells]

theorem run_append_any (base : Nat) (t ty e : TypeId) (i : TypeInfo) (z : Value) (size bytes : Nat) (ht : P.underlying t = some (.slice e)) (hi : P.info? e = some i) (hz : i.zero = some z)
  (hsize : i.size = size) (hby : i.bytes = bytes) (hzs : z.cells.size = size) (hsz : 0 < size)
  (v : Value) (n : Nat) (xs : List Value) (hown : w.ownsRow base e size v n xs)
  (B : Nat) (A : Option Addr) (m c : Nat) (news : List Value) (hr : Reads w B size A m news) (h1 : ∀ u ∈ news, u.oneCell' = true)
  (h63 : n + m ≤ maxLen) (hbytes : (n + m) * bytes ≤ 140737488355328) (hbase : base ≤ w.heap.size) :
  ∃ v' w', (Builtin.append_ #[t, t] ty #[v, .slice A m c]).run P w = .ok v' w' ∧ w'.ownsRow base e size v' (n + m) (xs ++ news) ∧ w.grownBy w' v.ownBlock ∧
   (v'.ownBlock = v.ownBlock ∨ v'.ownBlock = some w.heap.size) := by
 rcases A with _ | ad
 · have hm : m = 0 := by
   rcases Nat.eq_zero_or_pos m with h0 | h0
   · exact h0
   · obtain ⟨ad, h, _⟩ := hr.2 h0
    cases h
  subst hm
  have hn : news = [] := List.eq_nil_of_length_eq_zero (by simpa using hr.1)
  subst hn
  exact ⟨v, w, run_append_of_nil w base t ty e i size ht hi v n xs hown c, by simpa using hown, World.grownBy.refl w _, .inl rfl⟩
 · have hcells : ∀ j u, news[j]? = some u → w.cell? (ad.add j) = some u := by
   intro j u hu
   rcases Nat.eq_zero_or_pos m with h0 | h0
   · subst h0
    have hn : news = [] := List.eq_nil_of_length_eq_zero (by simpa using hr.1)
    subst hn
    simp at hu
   · obtain ⟨ad', h, _, hc⟩ := hr.2 h0
    injection h with h
    subst h
    exact hc j u hu
  obtain ⟨v', w', hrun, h2, h3, _, h5⟩ := run_append_own_at (P := P) w base t ty e i z size bytes ht hi hz hsize hby hzs hsz v n xs hown ad m c news hr.1 hcells h1 h63 hbytes hbase
  exact ⟨v', w', hrun, h2, h3, h5⟩

theorem wp_append_any {o : Oper} {a : Act} {K : Act → World → Prop} {Q : Exit → Act → World → Prop} (s x : Operand) (t : TypeId)
  (ho : o.op = .call { callee := .builtin .append, args := #[s, x], argTypes := #[t, t] })
  (base : Nat) (e : TypeId) (i : TypeInfo) (z : Value) (size bytes : Nat) (ht : P.underlying t = some (.slice e)) (hi : P.info? e = some i) (hz : i.zero = some z)
  (hsize : i.size = size) (hby : i.bytes = bytes) (hzs : z.cells.size = size) (hsz : 0 < size)
  (v : Value) (n : Nat) (xs : List Value) (hs : a.eval s = v) (hown : w.ownsRow base e size v n xs)
  (B : Nat) (A : Option Addr) (m c : Nat) (news : List Value) (hx : a.eval x = .slice A m c) (hr : Reads w B size A m news) (h1 : ∀ u ∈ news, u.oneCell' = true)
  (h63 : n + m ≤ maxLen) (hbytes : (n + m) * bytes ≤ 140737488355328) (hbase : base ≤ w.heap.size)
  (h : ∀ v' w', w'.ownsRow base e size v' (n + m) (xs ++ news) → w.grownBy w' v.ownBlock → (v'.ownBlock = v.ownBlock ∨ v'.ownBlock = some w.heap.size) → K (a.put o.dst v') w') : o.wp P a w K Q := by
 obtain ⟨v', w', hrun, h2, h3, h4⟩ := run_append_any (P := P) w base t o.type e i z size bytes ht hi hz hsize hby hzs hsz v n xs hown B A m c news hr h1 h63 hbytes hbase
 unfold Oper.wp execOp
 simp only [ho, resolve, invoke, builtin, Sem.run_bind, Sem.run_pure, Result.andThen_ok, List.map_toArray, List.map_cons, List.map_nil, hs, hx, hrun]
 exact h v' w' h2 h3 h4

theorem wpList_append_any {ops : Array Oper} {rest : List Oper} {o : Oper} {a : Act} {Q : Exit → Act → World → Prop} (hgd : o.guard = none) (s x : Operand) (t : TypeId)
  (ho : o.op = .call { callee := .builtin .append, args := #[s, x], argTypes := #[t, t] })
  (base : Nat) (e : TypeId) (i : TypeInfo) (z : Value) (size bytes : Nat) (ht : P.underlying t = some (.slice e)) (hi : P.info? e = some i) (hz : i.zero = some z)
  (hsize : i.size = size) (hby : i.bytes = bytes) (hzs : z.cells.size = size) (hsz : 0 < size)
  (v : Value) (n : Nat) (xs : List Value) (hs : a.eval s = v) (hown : w.ownsRow base e size v n xs)
  (B : Nat) (A : Option Addr) (m c : Nat) (news : List Value) (hx : a.eval x = .slice A m c) (hr : Reads w B size A m news) (h1 : ∀ u ∈ news, u.oneCell' = true)
  (h63 : n + m ≤ maxLen) (hbytes : (n + m) * bytes ≤ 140737488355328) (hbase : base ≤ w.heap.size)
  (h : ∀ v' w', w'.ownsRow base e size v' (n + m) (xs ++ news) → w.grownBy w' v.ownBlock → (v'.ownBlock = v.ownBlock ∨ v'.ownBlock = some w.heap.size) → wpList P ops Q rest (a.put o.dst v') w') : wpList P ops Q (o :: rest) a w :=
 wpList_plain hgd fun _ hK => wp_append_any w s x t ho base e i z size bytes ht hi hz hsize hby hzs hsz v n xs hs hown B A m c news hx hr h1 h63 hbytes hbase fun v' w' h2 h3 h4 => hK _ _ (h v' w' h2 h3 h4)

theorem step_append_any {ops : Array Oper} {o : Oper} {a : Act} {K : Act → World → Prop} {Q : Exit → Act → World → Prop} {E : Prop} (hgd : o.guard = none) (s x : Operand) (t : TypeId)
  (ho : o.op = .call { callee := .builtin .append, args := #[s, x], argTypes := #[t, t] })
  (base : Nat) (e : TypeId) (i : TypeInfo) (z : Value) (size bytes : Nat) (ht : P.underlying t = some (.slice e)) (hi : P.info? e = some i) (hz : i.zero = some z)
  (hsize : i.size = size) (hby : i.bytes = bytes) (hzs : z.cells.size = size) (hsz : 0 < size)
  (v : Value) (n : Nat) (xs : List Value) (hs : a.eval s = v) (hown : w.ownsRow base e size v n xs)
  (B : Nat) (A : Option Addr) (m c : Nat) (news : List Value) (hx : a.eval x = .slice A m c) (hr : Reads w B size A m news) (h1 : ∀ u ∈ news, u.oneCell' = true)
  (h63 : n + m ≤ maxLen) (hbytes : (n + m) * bytes ≤ 140737488355328) (hbase : base ≤ w.heap.size)
  (h : ∀ v' w', w'.ownsRow base e size v' (n + m) (xs ++ news) → w.grownBy w' v.ownBlock → (v'.ownBlock = v.ownBlock ∨ v'.ownBlock = some w.heap.size) → K (a.put o.dst v') w') :
  if Region.wanted o (yielded ops a.tmps) = true then Oper.wp P o a w K Q else E := by
 have hw : Region.wanted o (yielded ops a.tmps) = true := by simp [Region.wanted, hgd]
 rw [if_pos hw]
 exact wp_append_any w s x t ho base e i z size bytes ht hi hz hsize hby hzs hsz v n xs hs hown B A m c news hx hr h1 h63 hbytes hbase h
end

theorem hide {p : Prop} (h : p) : Hid p := h
theorem unhide {p : Prop} (h : Hid p) : p := h

theorem quiet_add {P : Program} {f : FuncId} {args : Array Value} {w : World} {a n : Nat} {v : Value}
  (h : Calls P f args (w.drewN (a + n)) fun e w' => e = .returned v ∧ ∃ m, w' = (w.drewN (a + n)).drewN m) :
  Calls P f args (w.drewN (a + n)) fun e w'' => e = .returned v ∧ ∃ m, w'' = w.drewN (a + m) :=
 h.mono fun _ _ ⟨he, m, hm⟩ => ⟨he, n + m, by rw [hm, World.drewN_drewN, Nat.add_assoc]⟩
theorem quiet_add_same {P : Program} {f : FuncId} {args : Array Value} {w : World} {a n : Nat} {v : Value}
  (h : Calls P f args (w.drewN (a + n)) fun e w' => e = .returned v ∧ w' = w.drewN (a + n)) :
  Calls P f args (w.drewN (a + n)) fun e w'' => e = .returned v ∧ ∃ m, w'' = w.drewN (a + m) :=
 h.mono fun _ _ ⟨he, hm⟩ => ⟨he, n, hm⟩
theorem quiet_add_left {P : Program} {f : FuncId} {args : Array Value} {w : World} {a n : Nat} {v : Value}
  (h : Calls P f args (w.drewN (a + n)) fun e w' => e = .returned v ∧ w.drewN (a + n) = w') :
  Calls P f args (w.drewN (a + n)) fun e w'' => e = .returned v ∧ ∃ m, w'' = w.drewN (a + m) :=
 h.mono fun _ _ ⟨he, hm⟩ => ⟨he, n, hm.symm⟩
theorem quiet_left {P : Program} {f : FuncId} {args : Array Value} {w : World} {n : Nat} {v : Value}
  (h : Calls P f args (w.drewN n) fun e w' => e = .returned v ∧ w.drewN n = w') : Calls P f args (w.drewN n) fun e w'' => e = .returned v ∧ ∃ m, w'' = w.drewN m :=
 h.mono fun _ _ ⟨he, hm⟩ => ⟨he, n, hm.symm⟩

theorem results_tmp4 {fn : Func} {t u v x : Tmp} (h : fn.results = #[.tmp t, .tmp u, .tmp v, .tmp x]) (tmps : Array Value) (P : Program) (w : World) :
  (results fn tmps).run P w = .ok (.tuple #[tmps.getD t undef, tmps.getD u undef, tmps.getD v undef, tmps.getD x undef]) w := by simp [results, h]
theorem results_tmp5 {fn : Func} {t u v x y : Tmp} (h : fn.results = #[.tmp t, .tmp u, .tmp v, .tmp x, .tmp y]) (tmps : Array Value) (P : Program) (w : World) :
  (results fn tmps).run P w = .ok (.tuple #[tmps.getD t undef, tmps.getD u undef, tmps.getD v undef, tmps.getD x undef, tmps.getD y undef]) w := by simp [results, h]

theorem below_drewN {B : Nat} {a w : World} (h : Below B a w) (n : Nat) : Below B a (w.drewN n) := ⟨h.os, h.tape, h.output, h.size, h.block⟩
theorem rowIs_drewN {w : World} {b : Nat} {t : TypeId} {n : Nat} {f : Nat → Value} (h : w.rowIs b t n f) (k : Nat) : (w.drewN k).rowIs b t n f := h
theorem grown_trans {a b c : World} (h : Grown a b) (k : Grown b c) : Grown a c :=
 ⟨World.keptBut_trans h.1 k.1, fun x => (k.2.1 x).trans (h.2.1 x), Nat.le_trans h.2.2 k.2.2⟩

theorem only_drewN {a w : World} {row : Option Nat} (h : a.grownBy w row) (n : Nat) : a.grownBy (w.drewN n) row := ⟨h.os, h.tape, h.output, h.size, h.block⟩
theorem only_drew {a w : World} {row : Option Nat} (h : a.grownBy w row) : a.grownBy w.drew row := ⟨h.os, h.tape, h.output, h.size, h.block⟩
theorem only_alloc {a w : World} {row : Option Nat} (h : a.grownBy w row) (o : Obj) : a.grownBy (w.alloc o) row :=
 ⟨h.os, h.tape, h.output, Nat.le_trans h.size (by simp), fun i hi hne => (Below.heap_alloc w o i (Nat.lt_of_lt_of_le hi h.size)).trans (h.block i hi hne)⟩
theorem only_setCell {a w : World} {g : Nat} (h : a.grownBy w (some g)) {p : Addr} (hp : p.block = g ∨ a.heap.size ≤ p.block) (u : Value) : a.grownBy (w.setCell p u) (some g) :=
 ⟨h.os, h.tape, h.output, by simpa [World.setCell] using h.size, fun i hi hne => (Below.heap_setCell w p u i (by
  rintro rfl
  rcases hp with hp | hp
  · exact hne (by rw [hp])
  · omega)).trans (h.block i hi hne)⟩
theorem only_of_below {a w : World} (h : Below a.heap.size a w) (row : Option Nat) : a.grownBy w row := ⟨h.os, h.tape, h.output, h.size, fun i hi _ => h.block i hi⟩

theorem run_make_rowN {P : Program} (t e : TypeId) (i : TypeInfo) (z : Value) (ht : P.underlying t = some (.slice e)) (hi : P.info? e = some i) (hz : i.zero = some z)
  (kl kc : IntKind) (n c : Nat) (hnc : n ≤ c) (hbytes : i.bytes * c ≤ 281474976710656) (h63 : c ≤ 9223372036854775807) (w : World) :
  (Instr.makeSlice t (.int kl (n : Int)) (.int kc (c : Int))).run P w = .ok (.slice (some ⟨w.heap.size, 0, none⟩) n c) (w.alloc (.cells (madeCells z.cells (c * i.size)) e)) := by
 have hb : (i.bytes : Int) * (c : Int) ≤ 281474976710656 := by
  have h : ((i.bytes * c : Nat) : Int) ≤ 281474976710656 := by omega
  rwa [Int.natCast_mul] at h
 have hr := run_make (P := P) w t e i z ht hi hz kl kc n c (by omega) (by omega) hb (by omega)
 simp only [Int.toNat_natCast] at hr
 exact hr
theorem run_makeMap_hint {P : Program} (t k e : TypeId) (kd : IntKind) (n : Int) (ht : P.underlying t = some (.map k e)) (w : World) :
  (Instr.makeMap t (some (.int kd n))).run P w = .ok (.map (some w.heap.size)) (w.alloc (.map #[] 0)) := by
 simp [Instr.makeMap, run_underlying ht]; rfl

section
open Go.WideShapes Go.ChangeShapes
section
variable {H : Type} {enc : TypeId × Value → H} {P : Program}
theorem post_of_below {f : Func} {s : ChangeSpec} {apart fresh handsOn again : Bool} {W W' : World} {args : Array Value} {v : Value} {ds gs : List (DataW H)} {before pa pv : List MemPlace}
  (hW : DataW.Whole enc P f.params.toList s.vars apart W args.toList ds gs before)
  (hres : ∀ (b : Nat) (sp : Nat → Bool) (hd : Bool), DataW.TrodAll enc P W' b sp hd f.resultTypes.toList (v.resultList f.resultTypes.size) (s.fn H (ds ++ gs)).results [])
  (hargs : ∀ sp : Nat → Bool, (∀ p ∈ before, sp p.block = true) → DataW.TrodAll enc P W' 0 sp true f.params.toList args.toList (s.fn H (ds ++ gs)).args pa)
  (hvars : ∀ sp : Nat → Bool, (∀ p ∈ before, sp p.block = true) → DataW.TrodVars enc P W' sp s.vars (s.fn H (ds ++ gs)).vars pv)
  (hps : before = pa ++ pv) (hb : Below W.heap.size W W')
  (hok : ∀ (j : Nat) (t : TypeId) (r : Value), f.resultTypes[j]? = some t → (v.resultList f.resultTypes.size)[j]? = some r → Value.okWide P W' .any 0 t r) :
  s.post enc P f apart fresh handsOn again W args v W' := by
 have hlt : ∀ p ∈ before, p.block < W.heap.size := fun p hp => hW.lt p hp
 have hold : ∀ p ∈ before, (fun b => decide (b < W.heap.size)) p.block = true := fun p hp => by simpa using hlt p hp
 refine ⟨ds, gs, before, [], pa, pv, hW, hres _ _ _, hargs _ hold, hvars _ hold, World.keptBut_mono (fun p hp => ⟨hp, ?_⟩) (hb.frame (· ∈ before)), fun _ => ?_⟩
 · rw [hps, List.mem_append] at hp
  exact Or.inr hp
 · obtain ⟨_, _, _, _, _, hz, hn⟩ := hW
  refine ⟨hok, _, _, ([] ++ pa) ++ pv, ⟨[] ++ pa, pv, trodAll_append (hargs _ (fun _ _ => rfl)) (hres _ _ _), hvars _ (fun _ _ => rfl), rfl, ?_, ?_⟩, ?_⟩
  · intro b off hp
   have hin : MemPlace.cell b off ∈ before := by rw [hps]; simpa using hp
   rw [hb.frozen (hlt _ hin)]
   exact hz b off hin
  · intro ha
   have := hn ha
   rw [hps] at this
   simpa using this
  · intro p hp _
   rw [hps]
   simpa using hp
end
end
theorem ofInt_i64 (a : Nat) (ha : a < 9223372036854775808) : (BitVec.ofInt 64 (a : Int)).toNat = a := by
 rw [BitVec.ofInt_natCast, BitVec.toNat_ofNat]; exact Nat.mod_eq_of_lt (by omega)
theorem i64_and_nat (a b : Nat) (ha : a < 9223372036854775808) (hb : b < 9223372036854775808) : bits .and .i64 (a : Int) (b : Int) = ((a &&& b : Nat) : Int) := by
 have hx : a &&& b < 2 ^ 63 := Nat.and_lt_two_pow _ (by omega)
 show IntKind.i64.wrap ((BitVec.ofInt 64 (a : Int) &&& BitVec.ofInt 64 (b : Int)).toNat : Int) = _
 rw [BitVec.toNat_and, ofInt_i64 a ha, ofInt_i64 b hb, IntKind.wrap_i64]
 omega
theorem i64_or_nat (a b : Nat) (ha : a < 9223372036854775808) (hb : b < 9223372036854775808) : bits .or .i64 (a : Int) (b : Int) = ((a ||| b : Nat) : Int) := by
 have hx : a ||| b < 2 ^ 63 := Nat.or_lt_two_pow (by omega) (by omega)
 show IntKind.i64.wrap ((BitVec.ofInt 64 (a : Int) ||| BitVec.ofInt 64 (b : Int)).toNat : Int) = _
 rw [BitVec.toNat_or, ofInt_i64 a ha, ofInt_i64 b hb, IntKind.wrap_i64]
 omega
theorem i64_xor_nat (a b : Nat) (ha : a < 9223372036854775808) (hb : b < 9223372036854775808) : bits .xor .i64 (a : Int) (b : Int) = ((a ^^^ b : Nat) : Int) := by
 have hx : a ^^^ b < 2 ^ 63 := Nat.xor_lt_two_pow (by omega) (by omega)
 show IntKind.i64.wrap ((BitVec.ofInt 64 (a : Int) ^^^ BitVec.ofInt 64 (b : Int)).toNat : Int) = _
 rw [BitVec.toNat_xor, ofInt_i64 a ha, ofInt_i64 b hb, IntKind.wrap_i64]
 omega

end Go.Proofs.Ytojghgbaiiajfaa
/- value.Check, value.Int, value.Null. Conditions: a value of whatever fields. -/
namespace Go.Proofs.Ytojghgbaiiajfaa
open Go.RowKit
/-- may a value be? -/
def rightB (k n u : Int) (s : ByteArray) : Bool :=
 if k = 0 then decide (n = 0 ∧ u = 0 ∧ s.toList = [])
 else if k = 1 then decide ((n = 0 ∨ n = 1) ∧ u = 0 ∧ s.toList = [])
 else if k = 2 then decide (u = 0 ∧ s.toList = [])
 else if k = 3 then decide (n = 0 ∧ u = 0 ∧ s.size ≤ 40)
 else decide (k = 4 ∧ s.toList = [])
set_option maxHeartbeats 1000000 in
theorem blank_0 (n u : Int) (s : ByteArray) (w : World) : Calls Try.prog 132 #[.agg #[.int .i64 0, .int .i64 n, .int .u64 u, .string s]] w fun e w' => e = .returned (.agg #[.int .i64 0, .int .i64 n, .int .u64 u, .string s]) ∧ Below w.heap.size w w' := by
 go_enter Try.func132, Try.ntmps132
 go_wp2
 refine bodyPost_ret (v := .agg #[.int .i64 0, .int .i64 n, .int .u64 u, .string s]) (by simp [results, Try.results132, go_sem]) rfl ⟨rfl, ?_⟩
 first | exact Below.refl _ _ | exact (Below.refl _ _).alloc (Nat.le_refl _) _ | exact ((Below.refl _ _).alloc (Nat.le_refl _) _).alloc (by simp) _
set_option maxHeartbeats 1000000 in
theorem blank_1 (n u : Int) (s : ByteArray) (h : n = 0 ∨ n = 1) (w : World) : Calls Try.prog 132 #[.agg #[.int .i64 1, .int .i64 n, .int .u64 u, .string s]] w fun e w' => e = .returned (.agg #[.int .i64 0, .int .i64 0, .int .u64 u, .string s]) ∧ Below w.heap.size w w' := by
 rcases h with rfl | rfl
 · go_enter Try.func132, Try.ntmps132
  go_wp2
  refine bodyPost_ret (v := .agg #[.int .i64 0, .int .i64 0, .int .u64 u, .string s]) (by simp [results, Try.results132, go_sem]) rfl ⟨rfl, ?_⟩
  first | exact Below.refl _ _ | exact (Below.refl _ _).alloc (Nat.le_refl _) _ | exact ((Below.refl _ _).alloc (Nat.le_refl _) _).alloc (by simp) _
 · go_enter Try.func132, Try.ntmps132
  go_wp2
  refine bodyPost_ret (v := .agg #[.int .i64 0, .int .i64 0, .int .u64 u, .string s]) (by simp [results, Try.results132, go_sem]) rfl ⟨rfl, ?_⟩
  first | exact Below.refl _ _ | exact (Below.refl _ _).alloc (Nat.le_refl _) _ | exact ((Below.refl _ _).alloc (Nat.le_refl _) _).alloc (by simp) _
set_option maxHeartbeats 1000000 in
theorem blank_1n (n u : Int) (s : ByteArray) (h : (n != 0) = true) (h2 : (n != 1) = true) (w : World) : Calls Try.prog 132 #[.agg #[.int .i64 1, .int .i64 n, .int .u64 u, .string s]] w fun e w' => e = .returned (.agg #[.int .i64 1, .int .i64 n, .int .u64 u, .string s]) ∧ Below w.heap.size w w' := by
 go_enter Try.func132, Try.ntmps132
 go_wp2
 refine bodyPost_ret (v := .agg #[.int .i64 1, .int .i64 n, .int .u64 u, .string s]) (by simp [results, Try.results132, go_sem]) rfl ⟨rfl, ?_⟩
 first | exact Below.refl _ _ | exact (Below.refl _ _).alloc (Nat.le_refl _) _ | exact ((Below.refl _ _).alloc (Nat.le_refl _) _).alloc (by simp) _
set_option maxHeartbeats 1000000 in
theorem blank_2 (n u : Int) (s : ByteArray) (w : World) : Calls Try.prog 132 #[.agg #[.int .i64 2, .int .i64 n, .int .u64 u, .string s]] w fun e w' => e = .returned (.agg #[.int .i64 0, .int .i64 0, .int .u64 u, .string s]) ∧ Below w.heap.size w w' := by
 go_enter Try.func132, Try.ntmps132
 go_wp2
 refine bodyPost_ret (v := .agg #[.int .i64 0, .int .i64 0, .int .u64 u, .string s]) (by simp [results, Try.results132, go_sem]) rfl ⟨rfl, ?_⟩
 first | exact Below.refl _ _ | exact (Below.refl _ _).alloc (Nat.le_refl _) _ | exact ((Below.refl _ _).alloc (Nat.le_refl _) _).alloc (by simp) _
set_option maxHeartbeats 1000000 in
theorem blank_3 (n u : Int) (s : ByteArray) (h : (s.size : Int) ≤ 40) (w : World) : Calls Try.prog 132 #[.agg #[.int .i64 3, .int .i64 n, .int .u64 u, .string s]] w fun e w' => e = .returned (.agg #[.int .i64 0, .int .i64 n, .int .u64 u, .string ⟨#[]⟩]) ∧ Below w.heap.size w w' := by
 go_enter Try.func132, Try.ntmps132
 go_wp2
 refine bodyPost_ret (v := .agg #[.int .i64 0, .int .i64 n, .int .u64 u, .string ⟨#[]⟩]) (by simp [results, Try.results132, go_sem]) rfl ⟨rfl, ?_⟩
 first | exact Below.refl _ _ | exact (Below.refl _ _).alloc (Nat.le_refl _) _ | exact ((Below.refl _ _).alloc (Nat.le_refl _) _).alloc (by simp) _
set_option maxHeartbeats 1000000 in
theorem blank_3n (n u : Int) (s : ByteArray) (h : ¬ (s.size : Int) ≤ 40) (w : World) : Calls Try.prog 132 #[.agg #[.int .i64 3, .int .i64 n, .int .u64 u, .string s]] w fun e w' => e = .returned (.agg #[.int .i64 3, .int .i64 n, .int .u64 u, .string s]) ∧ Below w.heap.size w w' := by
 go_enter Try.func132, Try.ntmps132
 go_wp2
 refine bodyPost_ret (v := .agg #[.int .i64 3, .int .i64 n, .int .u64 u, .string s]) (by simp [results, Try.results132, go_sem]) rfl ⟨rfl, ?_⟩
 first | exact Below.refl _ _ | exact (Below.refl _ _).alloc (Nat.le_refl _) _ | exact ((Below.refl _ _).alloc (Nat.le_refl _) _).alloc (by simp) _
set_option maxHeartbeats 1000000 in
theorem blank_4 (n u : Int) (s : ByteArray) (w : World) : Calls Try.prog 132 #[.agg #[.int .i64 4, .int .i64 n, .int .u64 u, .string s]] w fun e w' => e = .returned (.agg #[.int .i64 0, .int .i64 0, .int .u64 0, .string s]) ∧ Below w.heap.size w w' := by
 go_enter Try.func132, Try.ntmps132
 go_wp2
 refine bodyPost_ret (v := .agg #[.int .i64 0, .int .i64 0, .int .u64 0, .string s]) (by simp [results, Try.results132, go_sem]) rfl ⟨rfl, ?_⟩
 first | exact Below.refl _ _ | exact (Below.refl _ _).alloc (Nat.le_refl _) _ | exact ((Below.refl _ _).alloc (Nat.le_refl _) _).alloc (by simp) _
set_option maxHeartbeats 1000000 in
theorem blank_n (k n u : Int) (s : ByteArray) (h0 : (k == 0) = false) (h1 : (k == 1) = false) (h2 : (k == 2) = false) (h3 : (k == 3) = false) (h4 : (k == 4) = false) (w : World) : Calls Try.prog 132 #[.agg #[.int .i64 k, .int .i64 n, .int .u64 u, .string s]] w fun e w' => e = .returned (.agg #[.int .i64 k, .int .i64 n, .int .u64 u, .string s]) ∧ Below w.heap.size w w' := by
 go_enter Try.func132, Try.ntmps132
 go_wp2
 refine bodyPost_ret (v := .agg #[.int .i64 k, .int .i64 n, .int .u64 u, .string s]) (by simp [results, Try.results132, go_sem]) rfl ⟨rfl, ?_⟩
 first | exact Below.refl _ _ | exact (Below.refl _ _).alloc (Nat.le_refl _) _ | exact ((Below.refl _ _).alloc (Nat.le_refl _) _).alloc (by simp) _
end Go.Proofs.Ytojghgbaiiajfaa
/- value.Check. Conditions: a value of whatever fields. -/
namespace Go.Proofs.Ytojghgbaiiajfaa
open Go.RowKit
set_option maxHeartbeats 1000000 in
theorem check_0 (n u : Int) (s : ByteArray) (w : World) : Calls Try.prog 130 #[.agg #[.int .i64 0, .int .i64 n, .int .u64 u, .string s]] w fun e w' => e = .returned (.int .i64 (if rightB 0 n u s then 0 else 120)) ∧ Below w.heap.size w w' := by
 have b0 : Below w.heap.size w (w.alloc (.cells #[.int .i64 0, .int .i64 n, .int .u64 u, .string s] 142)) := (Below.refl _ _).alloc (Nat.le_refl _) _
 generalize hr : (if rightB 0 n u s then (0 : Int) else 120) = r
 have HR := Lib.hid hr
 clear hr
 go_enter Try.func130, Try.ntmps130
 go_wp2_with fail
 refine (blank_0 n u s _).mono ?_
 rintro e w1 ⟨rfl, b1⟩
 have b2 := b0.trans (b1.mono b0.size)
 clear b0 b1
 go_wp2
 all_goals (go_ret; refine ⟨?_, b2⟩; rw [← HR.out]; simp_all [rightB] <;> omega)
set_option maxHeartbeats 1000000 in
theorem check_1 (n u : Int) (s : ByteArray) (hn : n = 0 ∨ n = 1) (w : World) : Calls Try.prog 130 #[.agg #[.int .i64 1, .int .i64 n, .int .u64 u, .string s]] w fun e w' => e = .returned (.int .i64 (if rightB 1 n u s then 0 else 120)) ∧ Below w.heap.size w w' := by
 have b0 : Below w.heap.size w (w.alloc (.cells #[.int .i64 1, .int .i64 n, .int .u64 u, .string s] 142)) := (Below.refl _ _).alloc (Nat.le_refl _) _
 generalize hr : (if rightB 1 n u s then (0 : Int) else 120) = r
 have HR := Lib.hid hr
 clear hr
 go_enter Try.func130, Try.ntmps130
 go_wp2_with fail
 refine (blank_1 n u s hn _).mono ?_
 rintro e w1 ⟨rfl, b1⟩
 have b2 := b0.trans (b1.mono b0.size)
 clear b0 b1
 go_wp2
 all_goals (go_ret; refine ⟨?_, b2⟩; rw [← HR.out]; simp_all [rightB] <;> omega)
set_option maxHeartbeats 1000000 in
theorem check_2 (n u : Int) (s : ByteArray) (w : World) : Calls Try.prog 130 #[.agg #[.int .i64 2, .int .i64 n, .int .u64 u, .string s]] w fun e w' => e = .returned (.int .i64 (if rightB 2 n u s then 0 else 120)) ∧ Below w.heap.size w w' := by
 have b0 : Below w.heap.size w (w.alloc (.cells #[.int .i64 2, .int .i64 n, .int .u64 u, .string s] 142)) := (Below.refl _ _).alloc (Nat.le_refl _) _
 generalize hr : (if rightB 2 n u s then (0 : Int) else 120) = r
 have HR := Lib.hid hr
 clear hr
 go_enter Try.func130, Try.ntmps130
 go_wp2_with fail
 refine (blank_2 n u s _).mono ?_
 rintro e w1 ⟨rfl, b1⟩
 have b2 := b0.trans (b1.mono b0.size)
 clear b0 b1
 go_wp2
 all_goals (go_ret; refine ⟨?_, b2⟩; rw [← HR.out]; simp_all [rightB] <;> omega)
set_option maxHeartbeats 1000000 in
theorem check_4 (n u : Int) (s : ByteArray) (w : World) : Calls Try.prog 130 #[.agg #[.int .i64 4, .int .i64 n, .int .u64 u, .string s]] w fun e w' => e = .returned (.int .i64 (if rightB 4 n u s then 0 else 120)) ∧ Below w.heap.size w w' := by
 have b0 : Below w.heap.size w (w.alloc (.cells #[.int .i64 4, .int .i64 n, .int .u64 u, .string s] 142)) := (Below.refl _ _).alloc (Nat.le_refl _) _
 generalize hr : (if rightB 4 n u s then (0 : Int) else 120) = r
 have HR := Lib.hid hr
 clear hr
 go_enter Try.func130, Try.ntmps130
 go_wp2_with fail
 refine (blank_4 n u s _).mono ?_
 rintro e w1 ⟨rfl, b1⟩
 have b2 := b0.trans (b1.mono b0.size)
 clear b0 b1
 go_wp2
 all_goals (go_ret; refine ⟨?_, b2⟩; rw [← HR.out]; simp_all [rightB] <;> omega)
set_option maxHeartbeats 1000000 in
theorem check_1n (n u : Int) (s : ByteArray) (h1 : (n != 0) = true) (h2 : (n != 1) = true) (w : World) : Calls Try.prog 130 #[.agg #[.int .i64 1, .int .i64 n, .int .u64 u, .string s]] w fun e w' => e = .returned (.int .i64 (if rightB 1 n u s then 0 else 120)) ∧ Below w.heap.size w w' := by
 have b0 : Below w.heap.size w (w.alloc (.cells #[.int .i64 1, .int .i64 n, .int .u64 u, .string s] 142)) := (Below.refl _ _).alloc (Nat.le_refl _) _
 generalize hr : (if rightB 1 n u s then (0 : Int) else 120) = r
 have HR := Lib.hid hr
 clear hr
 go_enter Try.func130, Try.ntmps130
 go_wp2_with fail
 refine (blank_1n n u s h1 h2 _).mono ?_
 rintro e w1 ⟨rfl, b1⟩
 have b2 := b0.trans (b1.mono b0.size)
 clear b0 b1
 go_wp2
 all_goals (go_ret; refine ⟨?_, b2⟩; rw [← HR.out]; simp_all [rightB] <;> omega)
set_option maxHeartbeats 1000000 in
theorem check_3 (n u : Int) (s : ByteArray) (h1 : s.size ≤ 40) (w : World) : Calls Try.prog 130 #[.agg #[.int .i64 3, .int .i64 n, .int .u64 u, .string s]] w fun e w' => e = .returned (.int .i64 (if rightB 3 n u s then 0 else 120)) ∧ Below w.heap.size w w' := by
 have b0 : Below w.heap.size w (w.alloc (.cells #[.int .i64 3, .int .i64 n, .int .u64 u, .string s] 142)) := (Below.refl _ _).alloc (Nat.le_refl _) _
 generalize hr : (if rightB 3 n u s then (0 : Int) else 120) = r
 have HR := Lib.hid hr
 clear hr
 go_enter Try.func130, Try.ntmps130
 go_wp2_with fail
 refine (blank_3 n u s (by omega) _).mono ?_
 rintro e w1 ⟨rfl, b1⟩
 have b2 := b0.trans (b1.mono b0.size)
 clear b0 b1
 go_wp2
 all_goals (go_ret; refine ⟨?_, b2⟩; rw [← HR.out]; simp_all [rightB] <;> omega)
set_option maxHeartbeats 1000000 in
theorem check_3n (n u : Int) (s : ByteArray) (h1 : 40 < s.size) (w : World) : Calls Try.prog 130 #[.agg #[.int .i64 3, .int .i64 n, .int .u64 u, .string s]] w fun e w' => e = .returned (.int .i64 (if rightB 3 n u s then 0 else 120)) ∧ Below w.heap.size w w' := by
 have b0 : Below w.heap.size w (w.alloc (.cells #[.int .i64 3, .int .i64 n, .int .u64 u, .string s] 142)) := (Below.refl _ _).alloc (Nat.le_refl _) _
 generalize hr : (if rightB 3 n u s then (0 : Int) else 120) = r
 have HR := Lib.hid hr
 clear hr
 go_enter Try.func130, Try.ntmps130
 go_wp2_with fail
 refine (blank_3n n u s (by omega) _).mono ?_
 rintro e w1 ⟨rfl, b1⟩
 have b2 := b0.trans (b1.mono b0.size)
 clear b0 b1
 go_wp2
 all_goals (go_ret; refine ⟨?_, b2⟩; rw [← HR.out]; simp_all [rightB] <;> omega)
set_option maxHeartbeats 1000000 in
theorem check_n (k n u : Int) (s : ByteArray) (h0 : (k == 0) = false) (h1 : (k == 1) = false) (h2 : (k == 2) = false) (h3 : (k == 3) = false) (h4 : (k == 4) = false) (w : World) : Calls Try.prog 130 #[.agg #[.int .i64 k, .int .i64 n, .int .u64 u, .string s]] w fun e w' => e = .returned (.int .i64 (if rightB k n u s then 0 else 120)) ∧ Below w.heap.size w w' := by
 have b0 : Below w.heap.size w (w.alloc (.cells #[.int .i64 k, .int .i64 n, .int .u64 u, .string s] 142)) := (Below.refl _ _).alloc (Nat.le_refl _) _
 generalize hr : (if rightB k n u s then (0 : Int) else 120) = r
 have HR := Lib.hid hr
 clear hr
 go_enter Try.func130, Try.ntmps130
 go_wp2_with fail
 refine (blank_n k n u s h0 h1 h2 h3 h4 _).mono ?_
 rintro e w1 ⟨rfl, b1⟩
 have b2 := b0.trans (b1.mono b0.size)
 clear b0 b1
 go_wp2
 all_goals (go_ret; refine ⟨?_, b2⟩; rw [← HR.out]; simp_all [rightB] <;> omega)
theorem check_any (k n u : Int) (s : ByteArray) (w : World) : Calls Try.prog 130 #[.agg #[.int .i64 k, .int .i64 n, .int .u64 u, .string s]] w fun e w' => e = .returned (.int .i64 (if rightB k n u s then 0 else 120)) ∧ Below w.heap.size w w' := by
 by_cases h0 : k = 0
 · subst h0; exact check_0 n u s w
 by_cases h1 : k = 1
 · subst h1
  by_cases hn : n = 0 ∨ n = 1
  · exact check_1 n u s hn w
  · exact check_1n n u s (by rw [bne_iff_ne]; omega) (by rw [bne_iff_ne]; omega) w
 by_cases h2 : k = 2
 · subst h2; exact check_2 n u s w
 by_cases h3 : k = 3
 · subst h3
  by_cases hs : s.size ≤ 40
  · exact check_3 n u s hs w
  · exact check_3n n u s (by omega) w
 by_cases h4 : k = 4
 · subst h4; exact check_4 n u s w
 exact check_n k n u s (by simp [h0]) (by simp [h1]) (by simp [h2]) (by simp [h3]) (by simp [h4]) w
end Go.Proofs.Ytojghgbaiiajfaa
/- bowspritref02.Right. Conditions: a value of whatever fields. -/
namespace Go.Proofs.Ytojghgbaiiajfaa
open Go.RowKit
set_option maxHeartbeats 2000000 in
theorem right_any (k n u : Int) (s : ByteArray) (w : World) : Calls Try.prog 127 #[.agg #[.int .i64 k, .int .i64 n, .int .u64 u, .string s]] w fun e w' => e = .returned (.bool (rightB k n u s)) ∧ Below w.heap.size w w' := by
 generalize hr : rightB k n u s = r
 have HR := Lib.hid hr
 clear hr
 go_enter Try.func127, Try.ntmps127
 go_wp2
 all_goals (go_ret; refine ⟨?_, (Below.refl _ _).alloc (Nat.le_refl _) _⟩; rw [← HR.out]; simp_all [rightB] <;> first | omega | grind)
end Go.Proofs.Ytojghgbaiiajfaa
/- arith.are: why values are not all null, or of a kind. Conditions: the slice reads as these values. -/
namespace Go.Proofs.Ytojghgbaiiajfaa
open Go.RowKit
/-- a value's four fields -/
structure VV where
 k : Int
 n : Int
 u : Int
 s : ByteArray
def VV.ok (v : VV) : Bool := rightB v.k v.n v.u v.s
/-- the slice reads as these values. -/
def RdV (w : World) (A : Option Addr) (n : Nat) (vs : List VV) : Prop :=
 vs.length = n ∧ ∀ i, i < n → ∃ (a : Addr) (v : VV), A = some a ∧ vs[i]? = some v ∧ a.block < w.heap.size ∧ w.cell? (a.add (i * 4)) = some (.int .i64 v.k) ∧
  w.cell? ⟨(a.add (i * 4)).block, (a.add (i * 4)).off + 1, none⟩ = some (.int .i64 v.n) ∧
  w.cell? ⟨(a.add (i * 4)).block, (a.add (i * 4)).off + 2, none⟩ = some (.int .u64 v.u) ∧
  w.cell? ⟨(a.add (i * 4)).block, (a.add (i * 4)).off + 3, none⟩ = some (.string v.s)
theorem RdV.below {w w' : World} {A : Option Addr} {n : Nat} {vs : List VV} (h : RdV w A n vs) (hb : Below w.heap.size w w') : RdV w' A n vs := by
 refine ⟨h.1, fun i hi => ?_⟩
 obtain ⟨a, v, e, e2, h0, h1, h2, h3, h4⟩ := h.2 i hi
 have hbl : (a.add (i * 4)).block = a.block := by unfold Addr.add; split <;> rfl
 exact ⟨a, v, e, e2, Nat.lt_of_lt_of_le h0 hb.size, (hb.cell (by rw [hbl]; exact h0)).trans h1, (hb.cell (by simp only [hbl]; exact h0)).trans h2, (hb.cell (by simp only [hbl]; exact h0)).trans h3, (hb.cell (by simp only [hbl]; exact h0)).trans h4⟩
def misB (kind : Int) (v : VV) : Bool := decide (v.k ≠ 0 ∧ v.k ≠ kind)
def areE (kind : Int) (vs : List VV) : Int := if vs.all VV.ok then (if vs.any (misB kind) then 2 else 0) else 120
end Go.Proofs.Ytojghgbaiiajfaa
/- Whole variables of several cells: stored and loaded as one. Conditions: none. -/
namespace Go.Proofs.Ytojghgbaiiajfaa
open Go.RowKit
theorem blk_setCells {g : Nat} {t : TypeId} : ∀ (vs : List Value) (o : Nat) (w : World) (pre suf : List Value), Blk w g t (pre ++ suf).toArray → o = pre.length → vs.length = suf.length → Blk (w.setCells g o vs) g t (pre ++ vs).toArray
 | [], _, w, pre, suf, h, _, hl => by
  obtain rfl : suf = [] := List.eq_nil_of_length_eq_zero (by simpa using hl.symm)
  exact h
 | v :: vs, o, w, pre, suf, h, ho, hl => by
  match suf, hl with
  | s :: suf, hl =>
   rw [World.setCells]
   have h1 : Blk (w.setCell ⟨g, o, none⟩ v) g t ((pre ++ [v]) ++ suf).toArray := by
    have := h.set_ o v
    subst ho
    simpa using this
   have := blk_setCells vs (o + 1) _ (pre ++ [v]) suf h1 (by simp [ho]) (by simpa using hl)
   simpa using this
theorem blk_setAll {w : World} {g : Nat} {t : TypeId} {cs new : Array Value} (h : Blk w g t cs) (hs : new.size = cs.size) : Blk (w.setCells g 0 new.toList) g t new := by
 have := blk_setCells new.toList 0 w [] cs.toList (by simpa using h) rfl (by simpa using hs)
 simpa using this
theorem grown_setCells {w0 : World} {g : Nat} : ∀ (vs : List Value) (o : Nat) (w : World), w0.grownBy w (some g) → w0.grownBy (w.setCells g o vs) (some g)
 | [], _, _, h => h
 | v :: vs, o, w, h => by
  rw [World.setCells]
  exact grown_setCells vs (o + 1) _ (only_setCell (p := ⟨g, o, none⟩) h (.inl rfl) v)
theorem there_blk {w : World} {g : Nat} {t : TypeId} {cs : Array Value} (h : Blk w g t cs) : w.there g 0 cs.size := fun j hj => by
 rw [Nat.zero_add]
 exact ⟨by rw [h.cell j, Array.getElem?_eq_getElem hj]; rfl, h.frozen j⟩
section
variable {P : Program}
theorem wpList_store_blk {ops : Array Oper} {rest : List Oper} {op : Oper} {a : Act} {w : World} {Q : Exit → Act → World → Prop} (hgd : op.guard = none) (ty : TypeId) (x y : Operand) (ho : op.op = .store ty x y)
  (g : Nat) (t : TypeId) (cs new : Array Value) (hx : a.eval x = .pointer (some ⟨g, 0, none⟩)) (hy : a.eval y = .agg new) (hb : Blk w g t cs) (hs : new.size = cs.size) (hi : (P.info? ty).map (·.size) = some new.size) (h1 : new.all (·.oneCell') = true)
  (h : ∀ w', Blk w' g t new → w.grownBy w' (some g) → wpList P ops Q rest (a.put op.dst undef) w') : wpList P ops Q (op :: rest) a w :=
 wpList_store_mid hgd ty x y ho g 0 new hx hy (by rw [hs]; exact there_blk hb) hi h1 (h _ (blk_setAll hb hs) (grown_setCells _ _ _ (World.grownBy.refl w _)))
theorem wpList_wanted {ops : Array Oper} {rest : List Oper} {o : Oper} {a : Act} {w : World} {Q : Exit → Act → World → Prop} (hw : Region.wanted o (yielded ops a.tmps) = true)
  (h : ∀ K : Act → World → Prop, (∀ a w, wpList P ops Q rest a w → K a w) → o.wp P a w K Q) : wpList P ops Q (o :: rest) a w :=
 wpList_step fun K hK => by rw [if_pos hw]; exact h K hK
theorem wpList_load_blkG {ops : Array Oper} {rest : List Oper} {o : Oper} {a : Act} {w : World} {Q : Exit → Act → World → Prop} (hw : Region.wanted o (yielded ops a.tmps) = true) (ty : TypeId) (x : Operand) (ho : o.op = .load ty x)
  (g : Nat) (hx : a.eval x = .pointer (some ⟨g, 0, none⟩)) (t : TypeId) (cs : Array Value) (d : TypeDesc) (hg : Blk w g t cs)
  (hu : P.underlying ty = some d) (hd : (match d with | .struct _ | .array _ _ => true | _ => false) = true) (hi : (P.info? ty).map (·.size) = some cs.size)
  (h : wpList P ops Q rest (a.put o.dst (.agg cs)) w) : wpList P ops Q (o :: rest) a w :=
 wpList_wanted hw fun _ hK => wp_load_row ty x ho g hx t cs (0, 0) d hg hu hd hi (hK _ _ h)
theorem wpList_load_blk {ops : Array Oper} {rest : List Oper} {o : Oper} {a : Act} {w : World} {Q : Exit → Act → World → Prop} (hgd : o.guard = none) (ty : TypeId) (x : Operand) (ho : o.op = .load ty x)
  (g : Nat) (hx : a.eval x = .pointer (some ⟨g, 0, none⟩)) (t : TypeId) (cs : Array Value) (d : TypeDesc) (hg : Blk w g t cs)
  (hu : P.underlying ty = some d) (hd : (match d with | .struct _ | .array _ _ => true | _ => false) = true) (hi : (P.info? ty).map (·.size) = some cs.size)
  (h : wpList P ops Q rest (a.put o.dst (.agg cs)) w) : wpList P ops Q (o :: rest) a w := wpList_load_row hgd ty x ho g hx t cs (0, 0) d hg hu hd hi h
end
theorem below_row {a w w' : World} {R : Nat} {B : Nat} (h : Below B a w) (hg : w.grownBy w' (some R)) (hB : B ≤ w.heap.size) (hR : B ≤ R) : Below B a w' := h.grown hg hB (fun k e => by injection e with e; omega)
theorem Blk.apart {w w' : World} {g g' : Nat} {t : TypeId} {cs : Array Value} (h : Blk w g t cs) (hb : w.grownBy w' (some g')) (hne : g ≠ g') : Blk w' g t cs := h.grown hb (fun e => hne (by injection e))
section
variable {P : Program}
theorem res1 {fn : Func} {p : Tmp} {ty : TypeId} (h : fn.results = #[.cell p ty]) {tmps : Array Value} {w : World} {g : Nat} {t : TypeId} {cs : Array Value} {d : TypeDesc}
  (hp : tmps.getD p undef = .pointer (some ⟨g, 0, none⟩)) (hg : Blk w g t cs) (hu : P.underlying ty = some d) (hd : (match d with | .struct _ | .array _ _ => true | _ => false) = true) (hi : (P.info? ty).map (·.size) = some cs.size) :
  (results fn tmps).run P w = .ok (.agg cs) w := results_cell_row h tmps w g t cs (0, 0) d hp hg hu hd hi
theorem res2 {fn : Func} {p q : Tmp} {ty : TypeId} (h : fn.results = #[.cell p ty, .tmp q]) {tmps : Array Value} {w : World} {g : Nat} {t : TypeId} {cs : Array Value} {d : TypeDesc} {v : Value}
  (hp : tmps.getD p undef = .pointer (some ⟨g, 0, none⟩)) (hq : tmps.getD q undef = v) (hg : Blk w g t cs) (hu : P.underlying ty = some d) (hd : (match d with | .struct _ | .array _ _ => true | _ => false) = true) (hi : (P.info? ty).map (·.size) = some cs.size) :
  (results fn tmps).run P w = .ok (.tuple #[.agg cs, v]) w := by
 have hp' : tmps[p]?.getD undef = .pointer (some ⟨g, 0, none⟩) := by simpa using hp
 have hq' : tmps[q]?.getD undef = v := by simpa using hq
 simp [results, h, hp', hq', asAddr, run_loadVar_row w g t ty cs (0, 0) d hg hu hd hi]
end
section
variable {w0 w w' : World}
theorem bl_al (h : Below w0.heap.size w0 w) (o : Obj) : Below w0.heap.size w0 (w.alloc o) := h.alloc h.size o
theorem bl_ca (h : Below w0.heap.size w0 w) (q : Below w.heap.size w w') : Below w0.heap.size w0 w' := h.trans (q.mono h.size)
theorem bl_dr (h : Below w0.heap.size w0 w) (n : Nat) : Below w0.heap.size w0 (w.drewN n) := below_drewN h n
theorem bl_d1 (h : Below w0.heap.size w0 w) : Below w0.heap.size w0 w.drew := h.drew
theorem bl_set (h : Below w0.heap.size w0 w) {p : Addr} (hp : w0.heap.size ≤ p.block) (v : Value) : Below w0.heap.size w0 (w.setCell p v) := h.setCell hp v
theorem bl_gr (h : Below w0.heap.size w0 w) {g : Nat} (k : w.grownBy w' (some g)) (hg : w0.heap.size ≤ g) : Below w0.heap.size w0 w' := below_row h k h.size hg
end
theorem blk_set4 {w : World} {g : Nat} {t : TypeId} {x0 x1 x2 x3 : Value} (h : Blk w g t #[x0, x1, x2, x3]) (a b c d : Value) :
  Blk ((((w.setCell ⟨g, 0, none⟩ a).setCell ⟨g, 1, none⟩ b).setCell ⟨g, 2, none⟩ c).setCell ⟨g, 3, none⟩ d) g t #[a, b, c, d] := by
 have := (((h.set_ 0 a).set_ 1 b).set_ 2 c).set_ 3 d
 simpa using this
theorem bl_set4 {w0 w : World} (h : Below w0.heap.size w0 w) {g : Nat} (hg : w0.heap.size ≤ g) (a b c d : Value) :
  Below w0.heap.size w0 ((((w.setCell ⟨g, 0, none⟩ a).setCell ⟨g, 1, none⟩ b).setCell ⟨g, 2, none⟩ c).setCell ⟨g, 3, none⟩ d) :=
 bl_set (bl_set (bl_set (bl_set h (p := ⟨g, 0, none⟩) hg a) (p := ⟨g, 1, none⟩) hg b) (p := ⟨g, 2, none⟩) hg c) (p := ⟨g, 3, none⟩) hg d
theorem gr_set4 (w : World) (g : Nat) (a b c d : Value) :
  w.grownBy ((((w.setCell ⟨g, 0, none⟩ a).setCell ⟨g, 1, none⟩ b).setCell ⟨g, 2, none⟩ c).setCell ⟨g, 3, none⟩ d) (some g) :=
 only_setCell (p := ⟨g, 3, none⟩) (only_setCell (p := ⟨g, 2, none⟩) (only_setCell (p := ⟨g, 1, none⟩) (only_setCell (p := ⟨g, 0, none⟩) (World.grownBy.refl w _) (.inl rfl) a) (.inl rfl) b) (.inl rfl) c) (.inl rfl) d
theorem blk_set9 {w : World} {g : Nat} {t : TypeId} {x0 x1 x2 x3 x4 x5 x6 x7 x8 : Value} (h : Blk w g t #[x0, x1, x2, x3, x4, x5, x6, x7, x8]) (v0 v1 v2 v3 v4 v5 v6 v7 v8 : Value) :
  Blk (((((((((w.setCell ⟨g, 0, none⟩ v0).setCell ⟨g, 1, none⟩ v1).setCell ⟨g, 2, none⟩ v2).setCell ⟨g, 3, none⟩ v3).setCell ⟨g, 4, none⟩ v4).setCell ⟨g, 5, none⟩ v5).setCell ⟨g, 6, none⟩ v6).setCell ⟨g, 7, none⟩ v7).setCell ⟨g, 8, none⟩ v8) g t #[v0, v1, v2, v3, v4, v5, v6, v7, v8] := by
 have := (((((((((h.set_ 0 v0).set_ 1 v1).set_ 2 v2).set_ 3 v3).set_ 4 v4).set_ 5 v5).set_ 6 v6).set_ 7 v7).set_ 8 v8)
 simpa using this
theorem bl_set9 {w0 w : World} (h : Below w0.heap.size w0 w) {g : Nat} (hg : w0.heap.size ≤ g) (v0 v1 v2 v3 v4 v5 v6 v7 v8 : Value) :
  Below w0.heap.size w0 (((((((((w.setCell ⟨g, 0, none⟩ v0).setCell ⟨g, 1, none⟩ v1).setCell ⟨g, 2, none⟩ v2).setCell ⟨g, 3, none⟩ v3).setCell ⟨g, 4, none⟩ v4).setCell ⟨g, 5, none⟩ v5).setCell ⟨g, 6, none⟩ v6).setCell ⟨g, 7, none⟩ v7).setCell ⟨g, 8, none⟩ v8) := (bl_set (bl_set (bl_set (bl_set (bl_set (bl_set (bl_set (bl_set (bl_set h (p := ⟨g, 0, none⟩) hg v0) (p := ⟨g, 1, none⟩) hg v1) (p := ⟨g, 2, none⟩) hg v2) (p := ⟨g, 3, none⟩) hg v3) (p := ⟨g, 4, none⟩) hg v4) (p := ⟨g, 5, none⟩) hg v5) (p := ⟨g, 6, none⟩) hg v6) (p := ⟨g, 7, none⟩) hg v7) (p := ⟨g, 8, none⟩) hg v8)
theorem blk_far4 {w : World} {g' : Nat} {t : TypeId} {cs : Array Value} (h : Blk w g' t cs) {g : Nat} (hne : g' ≠ g) (v0 v1 v2 v3 : Value) :
  Blk ((((w.setCell ⟨g, 0, none⟩ v0).setCell ⟨g, 1, none⟩ v1).setCell ⟨g, 2, none⟩ v2).setCell ⟨g, 3, none⟩ v3) g' t cs := ((((h.far (p := ⟨g, 0, none⟩) hne v0).far (p := ⟨g, 1, none⟩) hne v1).far (p := ⟨g, 2, none⟩) hne v2).far (p := ⟨g, 3, none⟩) hne v3)
theorem blk_far9 {w : World} {g' : Nat} {t : TypeId} {cs : Array Value} (h : Blk w g' t cs) {g : Nat} (hne : g' ≠ g) (v0 v1 v2 v3 v4 v5 v6 v7 v8 : Value) :
  Blk (((((((((w.setCell ⟨g, 0, none⟩ v0).setCell ⟨g, 1, none⟩ v1).setCell ⟨g, 2, none⟩ v2).setCell ⟨g, 3, none⟩ v3).setCell ⟨g, 4, none⟩ v4).setCell ⟨g, 5, none⟩ v5).setCell ⟨g, 6, none⟩ v6).setCell ⟨g, 7, none⟩ v7).setCell ⟨g, 8, none⟩ v8) g' t cs := (((((((((h.far (p := ⟨g, 0, none⟩) hne v0).far (p := ⟨g, 1, none⟩) hne v1).far (p := ⟨g, 2, none⟩) hne v2).far (p := ⟨g, 3, none⟩) hne v3).far (p := ⟨g, 4, none⟩) hne v4).far (p := ⟨g, 5, none⟩) hne v5).far (p := ⟨g, 6, none⟩) hne v6).far (p := ⟨g, 7, none⟩) hne v7).far (p := ⟨g, 8, none⟩) hne v8)
end Go.Proofs.Ytojghgbaiiajfaa
/- More words on variables of several cells. Conditions: none. -/
namespace Go.Proofs.Ytojghgbaiiajfaa
open Go.RowKit
theorem Blk.mk' {w : World} {t : TypeId} {cs : Array Value} {g : Nat} (hg : g = w.heap.size) : Blk (w.alloc (.cells cs t)) g t cs := hg ▸ Blk.new w t cs
theorem Blk.ca {w w' : World} {g : Nat} {t : TypeId} {cs : Array Value} (h : Blk w g t cs) (q : Below w.heap.size w w') : Blk w' g t cs := h.below q h.lt
theorem vS {w : World} {g : Nat} {t : TypeId} {k n u : Int} {s : ByteArray} (h : Blk w g t #[.int .i64 k, .int .i64 n, .int .u64 u, .string s]) :
  w.cell? ⟨g, 0, none⟩ = some (.int .i64 k) ∧ w.cell? ⟨g, 1, none⟩ = some (.int .i64 n) ∧ w.cell? ⟨g, 2, none⟩ = some (.int .u64 u) ∧ w.cell? ⟨g, 3, none⟩ = some (.string s) := ⟨h.cell 0, h.cell 1, h.cell 2, h.cell 3⟩
end Go.Proofs.Ytojghgbaiiajfaa
/- Rows of values that the call owns. Conditions: none. -/
namespace Go.Proofs.Ytojghgbaiiajfaa
open Go.RowKit
def vcells (vs : List VV) : List Value := vs.flatMap fun v => [.int .i64 v.k, .int .i64 v.n, .int .u64 v.u, .string v.s]
theorem vcells_len (vs : List VV) : (vcells vs).length = vs.length * 4 := by
 induction vs with
 | nil => rfl
 | cons v l ih => simp only [vcells, List.flatMap_cons, List.length_append] at *; simp [ih]; omega
theorem vcells_append (a b : List VV) : vcells (a ++ b) = vcells a ++ vcells b := by simp [vcells]
theorem vcells_one (vs : List VV) : ∀ u ∈ vcells vs, u.oneCell' = true := by
 intro u hu
 simp only [vcells, List.mem_flatMap] at hu
 obtain ⟨v, _, hu⟩ := hu
 simp at hu
 rcases hu with rfl | rfl | rfl | rfl <;> rfl
theorem vcells_at (vs : List VV) (i : Nat) (v : VV) (h : vs[i]? = some v) : (vcells vs)[i * 4]? = some (.int .i64 v.k) ∧ (vcells vs)[i * 4 + 1]? = some (.int .i64 v.n) ∧ (vcells vs)[i * 4 + 2]? = some (.int .u64 v.u) ∧ (vcells vs)[i * 4 + 3]? = some (.string v.s) := by
 induction vs generalizing i with
 | nil => simp at h
 | cons x l ih =>
  cases i with
  | zero =>
   simp at h
   subst h
   exact ⟨rfl, rfl, rfl, rfl⟩
  | succ i =>
   have e : vcells (x :: l) = [.int .i64 x.k, .int .i64 x.n, .int .u64 x.u, .string x.s] ++ vcells l := rfl
   have := ih i (by simpa using h)
   rw [e]
   refine ⟨?_, ?_, ?_, ?_⟩
   · rw [List.getElem?_append_right (by simp; omega)]
    simpa [Nat.succ_mul] using this.1
   · rw [List.getElem?_append_right (by simp; omega)]
    have h2 := this.2.1
    rw [show (i + 1) * 4 + 1 - ([.int .i64 x.k, .int .i64 x.n, .int .u64 x.u, .string x.s] : List Value).length = i * 4 + 1 from by simp; omega]
    exact h2
   · rw [List.getElem?_append_right (by simp; omega)]
    rw [show (i + 1) * 4 + 2 - ([.int .i64 x.k, .int .i64 x.n, .int .u64 x.u, .string x.s] : List Value).length = i * 4 + 2 from by simp; omega]
    exact this.2.2.1
   · rw [List.getElem?_append_right (by simp; omega)]
    rw [show (i + 1) * 4 + 3 - ([.int .i64 x.k, .int .i64 x.n, .int .u64 x.u, .string x.s] : List Value).length = i * 4 + 3 from by simp; omega]
    exact this.2.2.2
/-- A slice of values that the call owns: from block B on. -/
def OwnV (w : World) (B : Nat) (A : Option Addr) (n c : Nat) (vs : List VV) : Prop := w.ownsRow B 142 4 (.slice A n c) n (vcells vs)
theorem OwnV.len {w : World} {B : Nat} {A : Option Addr} {n c : Nat} {vs : List VV} (h : OwnV w B A n c vs) : vs.length = n := by
 have := h.1
 rw [vcells_len] at this
 omega
theorem OwnV.rd {w : World} {B : Nat} {A : Option Addr} {n c : Nat} {vs : List VV} (h : OwnV w B A n c vs) : RdV w A n vs := by
 refine ⟨h.len, fun i hi => ?_⟩
 have hr := Reads.of_own h
 obtain ⟨ad, e, hb, hc⟩ := hr.2 (by omega)
 obtain ⟨g, cap, hv, _, hlt⟩ := World.ownsRow.form h (by omega)
 have hA : A = some ⟨g, 0, none⟩ := by injection hv
 subst hA
 injection e with e
 subst e
 have hil : i < vs.length := by rw [h.len]; exact hi
 obtain ⟨c0, c1, c2, c3⟩ := vcells_at vs i vs[i] (List.getElem?_eq_getElem hil)
 have hadd : ∀ j, (⟨g, 0, none⟩ : Addr).add j = ⟨g, j, none⟩ := fun j => by unfold Addr.add; split <;> simp_all
 have a0 := hc _ _ c0
 have a1 := hc _ _ c1
 have a2 := hc _ _ c2
 have a3 := hc _ _ c3
 rw [hadd] at a0 a1 a2 a3
 refine ⟨_, vs[i], rfl, List.getElem?_eq_getElem hil, hlt, ?_, ?_, ?_, ?_⟩
 all_goals rw [hadd]
 · exact a0
 · exact a1
 · exact a2
 · exact a3
theorem OwnV.below {w w' : World} {B : Nat} {A : Option Addr} {n c : Nat} {vs : List VV} (h : OwnV w B A n c vs) (hb : Below w.heap.size w w') : OwnV w' B A n c vs := by
 refine ⟨h.1, ?_⟩
 rcases h.2 with h2 | ⟨g, cap, cur, e, hg, hh, r⟩
 · exact .inl h2
 · have hlt : g < w.heap.size := by
   rcases Nat.lt_or_ge g w.heap.size with h | h
   · exact h
   · rw [Array.getElem?_eq_none h] at hh; cases hh
  exact .inr ⟨g, cap, cur, e, hg, (hb.block g hlt).trans hh, r⟩
theorem OwnV.alloc {w : World} {B : Nat} {A : Option Addr} {n c : Nat} {vs : List VV} (h : OwnV w B A n c vs) (o : Obj) : OwnV (w.alloc o) B A n c vs := h.below ((Below.refl _ _).alloc (Nat.le_refl _) o)
theorem OwnV.nil (w : World) (B : Nat) : OwnV w B none 0 0 [] := World.ownsRow_nil _ _ _ _
theorem OwnV.base {w : World} {B : Nat} {A : Option Addr} {n c : Nat} {vs : List VV} (h : OwnV w B A n c vs) : ∀ k, (Value.slice A n c).ownBlock = some k → B ≤ k := by
 intro k hk
 rcases h.2 with ⟨e, _⟩ | ⟨g, cap, _, e, hg, _⟩
 · injection e with e; subst e; simp [Value.ownBlock] at hk
 · injection e with e; subst e
  have : g = k := by simpa [Value.ownBlock] using hk
  omega
theorem OwnV.form {w : World} {B : Nat} {n : Nat} {v : Value} {xs : List Value} (h : w.ownsRow B 142 4 v n xs) : ∃ A c, v = .slice A n c := by
 rcases h.2 with ⟨rfl, rfl⟩ | ⟨g, cap, _, rfl, _⟩
 · exact ⟨_, _, rfl⟩
 · exact ⟨_, _, rfl⟩
theorem Try.valInfo : (Try.prog.info? 142).map (fun i => (i.zero, i.size, i.bytes)) = some (some (.agg #[.int .i64 0, .int .i64 0, .int .u64 0, .string ⟨#[]⟩]), 4, 40) := by kernel_rfl
theorem reads_one {w : World} {g : Nat} {t : TypeId} {v : VV} (h : Blk w g t #[.int .i64 v.k, .int .i64 v.n, .int .u64 v.u, .string v.s]) : Reads w w.heap.size 4 (some ⟨g, 0, none⟩) 1 (vcells [v]) := by
 refine ⟨rfl, fun _ => ⟨_, rfl, h.lt, fun j u hu => ?_⟩⟩
 have hadd : (⟨g, 0, none⟩ : Addr).add j = ⟨g, j, none⟩ := by unfold Addr.add; split <;> simp_all
 rw [hadd, h.cell j, ← hu]
 match j, hu with
 | 0, _ => rfl
 | 1, _ => rfl
 | 2, _ => rfl
 | 3, _ => rfl
/-- append(out, v): out the call's own. -/
theorem wpList_appV {ops : Array Oper} {rest : List Oper} {o : Oper} {a : Act} {w : World} {Q : Exit → Act → World → Prop} (hgd : o.guard = none) (s x : Operand)
  (ho : o.op = .call { callee := .builtin .append, args := #[s, x], argTypes := #[88, 88] })
  (B : Nat) (A : Option Addr) (n c : Nat) (xs : List VV) (g c2 : Nat) (t : TypeId) (v : VV)
  (hs : a.eval s = .slice A n c) (hx : a.eval x = .slice (some ⟨g, 0, none⟩) 1 c2) (hown : OwnV w B A n c xs) (hr : Blk w g t #[.int .i64 v.k, .int .i64 v.n, .int .u64 v.u, .string v.s]) (hb : n + 1 ≤ 1000000) (hB : B ≤ w.heap.size)
  (h : ∀ A' c' w', OwnV w' B A' (n + 1) c' (xs ++ [v]) → Below B w w' → wpList Try.prog ops Q rest (a.put o.dst (.slice A' (n + 1) c')) w') : wpList Try.prog ops Q (o :: rest) a w := by
 obtain ⟨i0, hi0, hz0, hz1, hz2⟩ := info_parts Try.valInfo
 refine wpList_append_any w hgd s x 88 ho B 142 i0 _ 4 40 Try.underlying88 hi0 hz0 hz1 hz2 rfl (by omega) (.slice A n c) n (vcells xs) hs hown w.heap.size (some ⟨g, 0, none⟩) 1 c2 (vcells [v]) hx (reads_one hr) (vcells_one _) (by simp only [maxLen]; omega) (by omega) hB ?_
 intro v' w' hown' hg hat
 obtain ⟨A', c', rfl⟩ := OwnV.form hown'
 refine h A' c' w' (by unfold OwnV; rw [vcells_append]; exact hown') ?_
 exact (Below.refl _ _).grown hg hB (OwnV.base hown)
end Go.Proofs.Ytojghgbaiiajfaa
