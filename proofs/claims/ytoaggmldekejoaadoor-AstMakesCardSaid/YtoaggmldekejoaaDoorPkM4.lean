/- Nodes and texts in memory; what the layer's tables hold. Conditions: none. -/
import Derived.Test.YtoaggmldekejoaaDoorPkM3
import Derived.Lib.MinMax
import Derived.Lib.AppendIntMem
import Derived.Lib.Itoa
import Derived.Shelf.Unicode.CaseTo
import Derived.Shelf.Unicode.DecodeSlow
import Derived.ProofKit
import Derived.OpenShut
import Derived.ShutString
import Derived.ChangeOld
import Derived.Deep.Slices
import Derived.ChangeSame
import Derived.Lib.SlicesS
import Derived.Shelf.Strings.OnBuilder
import Derived.Shelf.Strings.CaseAny
import Derived.Shelf.Slices.Turned
import Derived.Shelf.Strconv.Itoa1
import Derived.Shelf.Strconv.Itoa2
import Derived.Shelf.Small.Strs
import Derived.Shelf.Pu.ErrVarParseUint
import Derived.Shelf.GgClosure.StringsIndexFuncTop
import Derived.Shelf.Strings.Prefix
import Derived.Shelf.Strings.SplitShaped
import Derived.Ground.MpProg
import Derived.Ground.GgwProg
import Derived.Ground.Names2Prog
import Derived.Test.YtoaggmldekejoaaDoorProg
import Derived.Laws.RangeAny
namespace Go.Proofs.YtoaggmldekejoaaDoor
open Go.RowKit
theorem addr_more (a : Addr) (i j : Nat) (hj : 0 < j) : a.add (i + j) = ⟨(a.add i).block, (a.add i).off + j, none⟩ := by
  unfold Addr.add
  by_cases h : i = 0
  · subst h; simp; omega
  · simp [h]; omega
abbrev Nd.cells (x : Nd) : Array Value := #[.int .i64 x.p.tag, .int .i64 x.l, .int .i64 x.r, .int .i64 x.p.k, .int .i64 x.p.n, .int .u64 x.p.u, .string x.p.s, .string x.p.tb, .string x.p.nm]
def LN : Lay Nd where
  size := 9
  rep := fun _ _ x cs => cs = [.int .i64 x.p.tag, .int .i64 x.l, .int .i64 x.r, .int .i64 x.p.k, .int .i64 x.p.n, .int .u64 x.p.u, .string x.p.s, .string x.p.tb, .string x.p.nm]
  len := fun h => by subst h; rfl
  one := fun h u hu => by subst h; simp at hu; rcases hu with rfl | rfl | rfl | rfl | rfl | rfl | rfl | rfl | rfl <;> rfl
  keep := fun _ h => h
  weak := fun _ h => h
structure SN (w : World) (p : Addr) (x : Nd) : Prop where
  c0 : w.cell? p = some (.int .i64 x.p.tag)
  c1 : w.cell? ⟨p.block, p.off + 1, none⟩ = some (.int .i64 x.l)
  c2 : w.cell? ⟨p.block, p.off + 2, none⟩ = some (.int .i64 x.r)
  c3 : w.cell? ⟨p.block, p.off + 3, none⟩ = some (.int .i64 x.p.k)
  c4 : w.cell? ⟨p.block, p.off + 4, none⟩ = some (.int .i64 x.p.n)
  c5 : w.cell? ⟨p.block, p.off + 5, none⟩ = some (.int .u64 x.p.u)
  c6 : w.cell? ⟨p.block, p.off + 6, none⟩ = some (.string x.p.s)
  c7 : w.cell? ⟨p.block, p.off + 7, none⟩ = some (.string x.p.tb)
  c8 : w.cell? ⟨p.block, p.off + 8, none⟩ = some (.string x.p.nm)
theorem LN_at {w : World} {F : Nat → Prop} {A : Option Addr} {n i : Nat} {xs : List Nd} (h : LN.rd w F A n xs) (hi : i < n) : ∃ ad x, A = some ad ∧ xs[i]? = some x ∧ SN w (ad.add (i * 9)) x := by
  obtain ⟨ad, x, cs, e, hx, _, _, rfl, hc⟩ := Lay.rd_at h hi
  refine ⟨ad, x, e, hx, ⟨hc 0 _ rfl, ?_, ?_, ?_, ?_, ?_, ?_, ?_, ?_⟩⟩
  · rw [← addr_more _ _ 1 (by omega)]; exact hc 1 _ rfl
  · rw [← addr_more _ _ 2 (by omega)]; exact hc 2 _ rfl
  · rw [← addr_more _ _ 3 (by omega)]; exact hc 3 _ rfl
  · rw [← addr_more _ _ 4 (by omega)]; exact hc 4 _ rfl
  · rw [← addr_more _ _ 5 (by omega)]; exact hc 5 _ rfl
  · rw [← addr_more _ _ 6 (by omega)]; exact hc 6 _ rfl
  · rw [← addr_more _ _ 7 (by omega)]; exact hc 7 _ rfl
  · rw [← addr_more _ _ 8 (by omega)]; exact hc 8 _ rfl
abbrev LS : Lay ByteArray := Lay.cell (fun s : ByteArray => .string s) (fun _ => rfl)
theorem LS_at {w : World} {F : Nat → Prop} {A : Option Addr} {n i : Nat} {xs : List ByteArray} (h : LS.rd w F A n xs) (hi : i < n) : ∃ ad x, A = some ad ∧ xs[i]? = some x ∧ w.cell? (ad.add i) = some (.string x) := by
  obtain ⟨ad, x, cs, e, hx, _, _, hr, hc⟩ := Lay.rd_at h hi
  obtain rfl : cs = [.string x] := hr
  refine ⟨ad, x, e, hx, ?_⟩
  have := hc 0 _ rfl
  rwa [show i * LS.size + 0 = i from by show i * 1 + 0 = i; omega] at this
def AllB : Nat → Prop := fun _ => True
theorem Lay.rd_blk {α : Type} {L : Lay α} {w : World} {F : Nat → Prop} {g n : Nat} {t : TypeId} {vs : Array Value} {xs : List α} (h : Blk w g t vs) (hl : xs.length = n) (hr : L.reps w F xs vs.toList) (hF : F g) : L.rd w F (some ⟨g, 0, none⟩) n xs :=
  ⟨hl, vs.toList, hr, fun _ => ⟨⟨g, 0, none⟩, rfl, h.lt, hF, fun j u hu => by
    rw [show (⟨g, 0, none⟩ : Addr).add j = ⟨g, j, none⟩ from by unfold Addr.add; split <;> simp_all]
    rw [h.cell j]; simpa using hu⟩⟩
theorem LS_reps {w : World} {F : Nat → Prop} : ∀ (l : List ByteArray), LS.reps w F l (l.map fun s => .string s)
  | [] => rfl
  | s :: l => ⟨[.string s], l.map fun s => .string s, rfl, rfl, LS_reps l⟩
theorem LS_blk {w : World} {F : Nat → Prop} {g n : Nat} {t : TypeId} {l : List ByteArray} (h : Blk w g t (l.map fun s => Value.string s).toArray) (hl : l.length = n) (hF : F g) : LS.rd w F (some ⟨g, 0, none⟩) n l := Lay.rd_blk h hl (by simpa using LS_reps l) hF
theorem Utf8Tabs.below {g h : Nat} {w w' : World} (t : Lib.Utf8Tabs g h w) (b : Below w.heap.size w w') : Lib.Utf8Tabs g h w' := by
  have k : ∀ {a : Addr} {v : Value}, w.cell? a = some v → w'.cell? a = some v := fun {a v} hc => (b.cell (World.block_lt_of_cell? w a hc)).trans hc
  exact ⟨fun i hi => k (t.1 i hi), fun i hi => ⟨k (t.2 i hi).1, k (t.2 i hi).2⟩⟩
theorem CaseVar.below {g : Nat} {T : Array Lib.CaseRow} {w w' : World} (h : Lib.CaseVar g T w) (hb : Below w.heap.size w w') : Lib.CaseVar g T w' := by
  have k : ∀ {a : Addr} {v : Value}, w.cell? a = some v → w'.cell? a = some v := fun {a v} hc => (hb.cell (World.block_lt_of_cell? w a hc)).trans hc
  obtain ⟨R, oR, cap, h1, h2⟩ := h
  exact ⟨R, oR, cap, k h1, fun i hi => ⟨k (h2 i hi).1, k (h2 i hi).2.1, k (h2 i hi).2.2.1, k (h2 i hi).2.2.2.1, k (h2 i hi).2.2.2.2⟩⟩
/-- the literals that are words; the signs, by their tags -/
def vwords : List (List UInt8) := [[70, 65, 76, 83, 69], [78, 85, 76, 76], [84, 82, 85, 69]]
def asigns : List (List UInt8) := [] :: sgs
/-- what the layer's tables hold -/
structure Tab (w : World) : Prop where
  wd : ∀ i s, wordsL[i]? = some s → w.cell? ⟨2, i, none⟩ = some (.string s)
  vw : ∀ i s, vwords[i]? = some s → w.cell? ⟨1, i, none⟩ = some (.string (bS s))
  sg : ∀ i s, asigns[i]? = some s → w.cell? ⟨0, i, none⟩ = some (.string (bS s))
  ml : ∃ m, w.cell? ⟨5, 0, none⟩ = some (.int .i64 m)
  cv : Lib.CaseVar 4 Lib.caseA w
  u8 : Lib.Utf8Tabs 6 7 w
  pw : Lib.TabIs Tryd.prog w "internal/strconv.uint64pow10" .u64 Lib.pow10Tab
theorem Tab.below {w w' : World} (h : Tab w) (b : Below w.heap.size w w') : Tab w' := by
  have k : ∀ {a : Addr} {v : Value}, w.cell? a = some v → w'.cell? a = some v := fun {a v} hc => (b.cell (World.block_lt_of_cell? w a hc)).trans hc
  exact ⟨fun i s e => k (h.wd i s e), fun i s e => k (h.vw i s e), fun i s e => k (h.sg i s e), by obtain ⟨m, hm⟩ := h.ml; exact ⟨m, k hm⟩, CaseVar.below h.cv b, Utf8Tabs.below h.u8 b, Lib.tabBelow_of_tabIs h.pw w' b⟩
theorem ret_bool {a b : Bool} (h : a = b) : Ending.returned (.bool a) = Ending.returned (.bool b) := by rw [h]
end Go.Proofs.YtoaggmldekejoaaDoor
/- Arguments, by what they are made of: what an argument's cells hold. Conditions: none. -/
namespace Go.Proofs.YtoaggmldekejoaaDoor
open Go.ChangeShapes Go.WideShapes Go.ChangeAt Go.RowKit Go.Deep
/-- whatever is laid of type t reads as such data -/
def Opens (P : Program) {α : Type} (t : TypeId) (L : Lay α) (G : α → Prop) : Prop :=
  P.cellsOf t = L.size ∧ ∀ {H : Type} (enc : TypeId × Value → H) (w : World) (fuel : Nat) (cs : List Value) (x : DataW H × List MemPlace),
    DataW.trod enc P w 0 (fun _ => true) true fuel t cs = some x → ∃ a, L.rep w AllB a cs ∧ G a
section
variable {P : Program} {t : TypeId}
theorem opens_int {k : IntKind} (ht : P.underlying t = some (.int k)) (hc : P.cellsOf t = 1) : Opens P t (Lay.cell (Value.int k) (fun _ => rfl)) (fun n => (Lit.int k n).wf = true) :=
  ⟨hc, fun enc w fuel cs x h => by obtain ⟨n, e, _, wf⟩ := DataW.trod_int ht h; exact ⟨n, e, wf⟩⟩
theorem opens_bool (ht : P.underlying t = some .bool) (hc : P.cellsOf t = 1) : Opens P t (Lay.cell Value.bool (fun _ => rfl)) (fun _ => True) :=
  ⟨hc, fun enc w fuel cs x h => by obtain ⟨n, e, _⟩ := DataW.trod_bool ht h; exact ⟨n, e, trivial⟩⟩
theorem opens_str (ht : P.underlying t = some .string) (hc : P.cellsOf t = 1) : Opens P t (Lay.cell Value.string (fun _ => rfl)) (fun s => s.size ≤ maxLen) :=
  ⟨hc, fun enc w fuel cs x h => by obtain ⟨n, e, _, wf⟩ := DataW.trod_string ht h; exact ⟨n, e, wf⟩⟩
theorem lays_of {α : Type} {L : Lay α} {w : World} {F : Nat → Prop} {G : α → Prop} {a : Addr} : ∀ (n : Nat), (∀ i, i < n → ∃ x cs, L.rep w F x cs ∧ G x ∧ ∀ j u, cs[j]? = some u → w.cell? (a.add (i * L.size + j)) = some u) →
    ∃ xs cs, xs.length = n ∧ L.reps w F xs cs ∧ (∀ x ∈ xs, G x) ∧ ∀ j u, cs[j]? = some u → w.cell? (a.add j) = some u
  | 0, _ => ⟨[], [], rfl, rfl, by simp, by simp⟩
  | n + 1, h => by
    obtain ⟨xs, cs, hl, hr, hg, hc⟩ := lays_of n (fun i hi => h i (by omega))
    obtain ⟨x, ds, hx, gx, hd⟩ := h n (by omega)
    refine ⟨xs ++ [x], cs ++ ds, by simp [hl], Lay.reps_append hr (Lay.reps_single hx), ?_, fun j u hu => ?_⟩
    · intro y hy
      rcases List.mem_append.1 hy with hy | hy
      · exact hg y hy
      · rw [List.mem_singleton.1 hy]; exact gx
    · have hcl := Lay.reps_len hr
      rw [hl] at hcl
      rcases Nat.lt_or_ge j cs.length with hj | hj
      · rw [List.getElem?_append_left hj] at hu; exact hc j u hu
      · rw [List.getElem?_append_right hj] at hu
        have := hd _ u hu
        rwa [show n * L.size + (j - cs.length) = j from by rw [hcl] at hj ⊢; omega] at this
theorem cells_block {w : World} {p : Addr} {v : Value} (h : w.cell? p = some v) : p.block < w.heap.size := by
  unfold World.cell? at h
  rcases Nat.lt_or_ge p.block w.heap.size with h' | h'
  · exact h'
  · rw [Array.getElem?_eq_none h'] at h; cases h
theorem opens_slice {α : Type} {L : Lay α} {G : α → Prop} {e : TypeId} (ht : P.underlying t = some (.slice e)) (hc : P.cellsOf t = 1) (hp : 0 < L.size) (ho : Opens P e L G) :
    Opens P t L.slice (fun xs => ∀ x ∈ xs, G x) := by
  refine ⟨hc, fun enc w fuel cs x h => ?_⟩
  obtain ⟨hs, ho⟩ := ho
  rcases open_slice ht h with ⟨hcs, _⟩ | ⟨a, len, cap, m, n, D, Pl, hcs, _, hl, hm, hmm, _, hi⟩
  · exact ⟨[], ⟨none, 0, 0, hcs, Nat.le_refl _, by omega, Lay.rd_nil _⟩, by simp⟩
  · simp only [if_true] at hmm
    obtain ⟨xs, cs', hxl, hr, hg, hcc⟩ := lays_of (L := L) (w := w) (F := AllB) (G := G) (a := a) len (fun i hil => by
      obtain ⟨cs', h1, h2⟩ := hi i (by omega)
      obtain ⟨y, hy, gy⟩ := ho enc w n cs' _ h2
      obtain ⟨_, hlen, hat⟩ := World.cells?_some h1
      refine ⟨y, cs', hy, gy, fun j u hu => ?_⟩
      have hj : j < cs'.length := (List.getElem?_eq_some_iff.1 hu).1
      rw [← hs, ← Go.Deep.add_add, hat j (by omega), hu])
    refine ⟨xs, ⟨some a, len, cap, hcs, hl, hm, hxl, cs', hr, fun hn => ⟨a, rfl, ?_, trivial, hcc⟩⟩, hg⟩
    have hcl := Lay.reps_len hr
    have h0 : cs'[0]? = some (cs'[0]'(by rw [hcl, hxl]; exact Nat.mul_pos hn hp)) := List.getElem?_eq_getElem _
    have := cells_block (hcc 0 _ h0)
    rwa [show (a.add 0).block = a.block from by unfold Addr.add; split <;> rfl] at this
/-- the fields from one on -/
def OpensAt (P : Program) {α : Type} (fs : Array Field) (off : Nat) (L : Lay α) (G : α → Prop) : Prop :=
  ∀ {H : Type} (enc : TypeId × Value → H) (w : World) (fuel : Nat) (cs : List Value), cs.length = off + L.size →
    (∀ (j : Nat) (f : Field), fs[j]? = some f → ∃ x, DataW.trod enc P w 0 (fun _ => true) true fuel f.type ((cs.drop f.offset).take (P.cellsOf f.type)) = some x) → ∃ a, L.rep w AllB a (cs.drop off) ∧ G a
theorem opensAt_last {α : Type} {L : Lay α} {G : α → Prop} {fs : Array Field} {off : Nat} (i : Nat) (ft : TypeId) (hf : (fs[i]?).map (fun f => (f.type, f.offset)) = some (ft, off)) (ho : Opens P ft L G) : OpensAt P fs off L G := by
  intro H enc w fuel cs hl h
  obtain ⟨f, hfi, hfe⟩ := Option.map_eq_some_iff.1 hf
  injection hfe with e1 e2
  obtain ⟨x, hx⟩ := h i f hfi
  rw [e1, e2, ho.1, List.take_of_length_le (by rw [List.length_drop]; omega)] at hx
  exact ho.2 enc w fuel _ x hx
theorem opensAt_cons {α β : Type} {L : Lay α} {G : α → Prop} {M : Lay β} {G' : β → Prop} {fs : Array Field} {off : Nat} (i : Nat) (ft : TypeId) (hf : (fs[i]?).map (fun f => (f.type, f.offset)) = some (ft, off)) (ho : Opens P ft L G) (h2 : OpensAt P fs (off + L.size) M G') :
    OpensAt P fs off (L.pair M) (fun p => G p.1 ∧ G' p.2) := by
  intro H enc w fuel cs hl h
  obtain ⟨f, hfi, hfe⟩ := Option.map_eq_some_iff.1 hf
  injection hfe with e1 e2
  obtain ⟨x, hx⟩ := h i f hfi
  rw [e1, e2, ho.1] at hx
  obtain ⟨a, ra, ga⟩ := ho.2 enc w fuel _ x hx
  obtain ⟨b, rb, gb⟩ := h2 enc w fuel cs (by rw [hl]; exact (Nat.add_assoc _ _ _).symm) h
  refine ⟨(a, b), ⟨_, _, ?_, ra, rb⟩, ga, gb⟩
  rw [← List.drop_drop]
  exact (List.take_append_drop _ _).symm
theorem opens_struct {α : Type} {L : Lay α} {G : α → Prop} {fs : Array Field} (ht : P.underlying t = some (.struct fs)) (hc : P.cellsOf t = L.size) (h : OpensAt P fs 0 L G) : Opens P t L G := by
  refine ⟨hc, fun enc w fuel cs x hx => ?_⟩
  obtain ⟨xs, n, _, _, hl, hxl, hf⟩ := DataW.trod_struct ht hx
  have := h enc w n cs (by rw [hl, hc, Nat.zero_add]) (fun j f hj => by
    have hjl : j < fs.size := (Array.getElem?_eq_some_iff.1 hj).1
    exact ⟨xs[j]'(by omega), (hf j f hj).trans (List.getElem?_eq_getElem _)⟩)
  simpa using this
theorem opens_as {α β : Type} {L : Lay α} {G : α → Prop} {M : Lay β} {G' : β → Prop} (h : Opens P t L G) (hs : L.size = M.size) (hm : ∀ w a cs, L.rep w AllB a cs → G a → ∃ b, M.rep w AllB b cs ∧ G' b) : Opens P t M G' :=
  ⟨h.1.trans hs, fun enc w fuel cs x hx => by obtain ⟨a, ra, ga⟩ := h.2 enc w fuel cs x hx; exact hm w a cs ra ga⟩
/-- an argument that is a slice -/
theorem open_arg {α : Type} {L : Lay α} {G : List α → Prop} (ho : Opens P t L.slice G) {H : Type} {enc : TypeId × Value → H} {W : World} {A : Option Addr} {n c : Nat} {d : DataW H} {p : List MemPlace}
    (h : DataW.Trod enc P W 0 (fun _ => true) true t (.slice A n c) d p) : ∃ xs, L.rd W AllB A n xs ∧ G xs ∧ n ≤ c ∧ c ≤ 9223372036854775807 := by
  obtain ⟨fuel, hf⟩ := h
  obtain ⟨xs, ⟨A', n', c', e, h1, h2, h3⟩, g⟩ := ho.2 enc W fuel _ _ hf
  simp [Value.cells] at e
  obtain ⟨rfl, rfl, rfl⟩ := e
  exact ⟨xs, h3, g, h1, h2⟩
end
end Go.Proofs.YtoaggmldekejoaaDoor
/- Names: the reference's IsName and what it calls. Conditions: none. -/
namespace Go.Proofs.YtoaggmldekejoaaDoor
open Go.RowKit
set_option maxRecDepth 100000 in
theorem lsmall_any (c : Int) (w : World) : Calls Tryd.prog 51 #[.int .i32 c] w fun e w' => e = .returned (.bool (smI c)) ∧ w = w' := by
  have HR := Lib.hid (show smI c = (decide (97 ≤ c) && decide (c ≤ 122)) from rfl)
  generalize smI c = r at *
  go_enter Tryd.func51, Tryd.ntmps51
  go_wp2
  all_goals
    go_ret
    exact ⟨by rw [HR.out]; simp [*] <;> omega, rfl⟩
set_option maxRecDepth 100000 in
theorem ldigit_any (c : Int) (w : World) : Calls Tryd.prog 54 #[.int .i32 c] w fun e w' => e = .returned (.bool (dgI c)) ∧ w = w' := by
  have HR := Lib.hid (show dgI c = (decide (48 ≤ c) && decide (c ≤ 57)) from rfl)
  generalize dgI c = r at *
  go_enter Tryd.func54, Tryd.ntmps54
  go_wp2
  all_goals
    go_ret
    exact ⟨by rw [HR.out]; simp [*] <;> omega, rfl⟩
theorem seq_iff (a b : ByteArray) : (a.toList == b.toList) = decide (a = b) := by
  rw [ByteArray.toList_eq, ByteArray.toList_eq, Bool.eq_iff_iff, beq_iff_eq, decide_eq_true_eq]
  constructor
  · intro h
    cases a; cases b
    simp only [Array.toList_inj] at h
    subst h; rfl
  · rintro rfl; rfl
end Go.Proofs.YtoaggmldekejoaaDoor
/- Names: the reference's Words, IsWord, Upper, IsName. Conditions: none. -/
namespace Go.Proofs.YtoaggmldekejoaaDoor
open Go.RowKit
theorem run_bt {s : ByteArray} {i : Nat} {b : UInt8} (h : s.data.toList[i]? = some b) (W : World) : (Instr.index 9 (.string s) (.int .i64 (i : Int))).run Tryd.prog W = .ok (.int .u8 (b.toNat : Int)) W := by
  have hi : i < s.data.toList.length := by
    rcases Nat.lt_or_ge i s.data.toList.length with h1 | h1
    · exact h1
    · rw [List.getElem?_eq_none h1] at h; cases h
  have hs : i < s.size := by simpa using hi
  rw [run_index_string W 9 s .i64 (i : Int) Tryd.underlying9, dif_pos ⟨by omega, by omega⟩]
  rw [List.getElem?_eq_getElem hi] at h
  injection h with h
  have e : s[((i : Int)).toNat]'(by simpa using hs) = b := by
    rw [← h]
    simp only [Int.toNat_natCast]
    simp
    rfl
  rw [e]
theorem bt_of {s : ByteArray} {i : Nat} {b : UInt8} (h : s.data.toList[i]? = some b) : bt s i = (b.toNat : Int) := by unfold bt; rw [List.getD, h]; rfl
theorem byte_at {s : ByteArray} {i : Nat} (h : i < s.size) : ∃ b, s.data.toList[i]? = some b := ⟨s.data.toList[i]'(by simpa using h), List.getElem?_eq_getElem (by simpa using h)⟩
theorem allok_at {l : List Int} {i : Nat} {x : Int} (h : l[i]? = some x) : (l.drop i).all okI = (okI x && (l.drop (i + 1)).all okI) := by
  have hi : i < l.length := by
    rcases Nat.lt_or_ge i l.length with h1 | h1
    · exact h1
    · rw [List.getElem?_eq_none h1] at h; cases h
  rw [List.getElem?_eq_getElem hi] at h
  injection h with h
  rw [List.drop_eq_getElem_cons hi, h, List.all_cons]
theorem bts_at {s : ByteArray} {i : Nat} {b : UInt8} (h : s.data.toList[i]? = some b) : (bts s)[i]? = some (b.toNat : Int) := by unfold bts; rw [List.getElem?_map, h]; rfl
theorem bts_len (s : ByteArray) : (bts s).length = s.size := by unfold bts; simp
end Go.Proofs.YtoaggmldekejoaaDoor
/- The library's contracts at this dump, plain (lay-plain.mjs, pruned, by name). Conditions: as each says. -/
namespace Go.Proofs
open Go.Shelf
def Tryd.lays158_ren : Go.Shelf.Ren := ⟨fun | 158 => 53 | 165 => 60 | 166 => 61 | 167 => 62 | 169 => 63 | 230 => 64 | 203 => 65 | 240 => 74 | 241 => 75 | 197 => 72 | 118 => 76 | 168 => 77 | 270 => 78 | 262 => 79 | 276 => 89 | 277 => 90 | 260 => 88 | 242 => 91 | 313 => 92 | 278 => 99 | 274 => 100 | 275 => 101 | n => n, fun | 9 => 9 | 4 => 4 | 3 => 3 | 5 => 5 | 72 => 92 | 0 => 0 | 76 => 96 | 75 => 95 | 107 => 101 | 70 => 90 | 20 => 20 | 37 => 81 | 127 => 111 | 21 => 21 | 105 => 108 | 164 => 125 | 162 => 131 | 203 => 129 | 119 => 133 | 46 => 121 | 139 => 136 | 138 => 135 | 51 => 118 | 160 => 137 | 208 => 147 | 206 => 145 | 80 => 99 | n => n, fun | 13 => 4 | 3 => 6 | 4 => 7 | n => n⟩
theorem Tryd.lays158 : Go.Proofs.Lays.n158 Tryd.prog Tryd.lays158_ren := {
  mixed := by kernel_rfl
  f118 := Tryd.func76.trans (congrArg some (by kernel_rfl))
  f158 := Tryd.func53.trans (congrArg some (by kernel_rfl))
  f165 := Tryd.func60.trans (congrArg some (by kernel_rfl))
  f166 := Tryd.func61.trans (congrArg some (by kernel_rfl))
  f167 := Tryd.func62.trans (congrArg some (by kernel_rfl))
  f168 := Tryd.func77.trans (congrArg some (by kernel_rfl))
  f169 := Tryd.func63.trans (congrArg some (by kernel_rfl))
  f197 := Tryd.func72.trans (congrArg some (by kernel_rfl))
  f203 := Tryd.func65.trans (congrArg some (by kernel_rfl))
  f230 := Tryd.func64.trans (congrArg some (by kernel_rfl))
  f240 := Tryd.func74.trans (congrArg some (by kernel_rfl))
  f241 := Tryd.func75.trans (congrArg some (by kernel_rfl))
  f242 := Tryd.func91.trans (congrArg some (by kernel_rfl))
  f260 := Tryd.func88.trans (congrArg some (by kernel_rfl))
  f262 := Tryd.func79.trans (congrArg some (by kernel_rfl))
  f270 := Tryd.func78.trans (congrArg some (by kernel_rfl))
  f274 := Tryd.func100.trans (congrArg some (by kernel_rfl))
  f275 := Tryd.func101.trans (congrArg some (by kernel_rfl))
  f276 := Tryd.func89.trans (congrArg some (by kernel_rfl))
  f277 := Tryd.func90.trans (congrArg some (by kernel_rfl))
  f278 := Tryd.func99.trans (congrArg some (by kernel_rfl))
  f313 := Tryd.func92.trans (congrArg some (by kernel_rfl))
  t0 := Tryd.underlying0
  a0 := Tryd.isAgg0
  z0 := Tryd.sizeOf0
  v0 := Tryd.zeroValue0
  t3 := Tryd.underlying3
  a3 := Tryd.isAgg3
  z3 := Tryd.sizeOf3
  v3 := Tryd.zeroValue3
  t4 := Tryd.underlying4
  a4 := Tryd.isAgg4
  z4 := Tryd.sizeOf4
  v4 := Tryd.zeroValue4
  t5 := Tryd.underlying5
  a5 := Tryd.isAgg5
  z5 := Tryd.sizeOf5
  v5 := Tryd.zeroValue5
  t9 := Tryd.underlying9
  a9 := Tryd.isAgg9
  z9 := Tryd.sizeOf9
  v9 := Tryd.zeroValue9
  t20 := Tryd.underlying20
  a20 := Tryd.isAgg20
  z20 := Tryd.sizeOf20
  v20 := Tryd.zeroValue20
  t21 := Tryd.underlying21
  a21 := Tryd.isAgg21
  z21 := Tryd.sizeOf21
  v21 := Tryd.zeroValue21
  t37 := Tryd.underlying81
  a37 := Tryd.isAgg81
  z37 := Tryd.sizeOf81
  v37 := Tryd.zeroValue81
  t46 := Tryd.underlying121
  a46 := Tryd.isAgg121
  z46 := Tryd.sizeOf121
  v46 := Tryd.zeroValue121
  t51 := Tryd.underlying118
  a51 := Tryd.isAgg118
  z51 := Tryd.sizeOf118
  v51 := Tryd.zeroValue118
  t70 := Tryd.underlying90
  a70 := Tryd.isAgg90
  z70 := Tryd.sizeOf90
  v70 := Tryd.zeroValue90
  t72 := Tryd.underlying92
  a72 := Tryd.isAgg92
  z72 := Tryd.sizeOf92
  v72 := Tryd.zeroValue92
  t75 := Tryd.underlying95
  a75 := Tryd.isAgg95
  z75 := Tryd.sizeOf95
  v75 := Tryd.zeroValue95
  t76 := Tryd.underlying96
  a76 := Tryd.isAgg96
  z76 := Tryd.sizeOf96
  v76 := Tryd.zeroValue96
  t105 := Tryd.underlying108
  a105 := Tryd.isAgg108
  z105 := Tryd.sizeOf108
  v105 := Tryd.zeroValue108
  t107 := Tryd.underlying101
  a107 := Tryd.isAgg101
  z107 := Tryd.sizeOf101
  v107 := Tryd.zeroValue101
  t119 := Tryd.underlying133
  a119 := Tryd.isAgg133
  z119 := Tryd.sizeOf133
  t127 := Tryd.underlying111
  a127 := Tryd.isAgg111
  z127 := Tryd.sizeOf111
  v127 := Tryd.zeroValue111
  t138 := Tryd.underlying135
  a138 := Tryd.isAgg135
  z138 := Tryd.sizeOf135
  v138 := Tryd.zeroValue135
  t139 := Tryd.underlying136
  a139 := Tryd.isAgg136
  z139 := Tryd.sizeOf136
  v139 := Tryd.zeroValue136
  t160 := Tryd.underlying137
  a160 := Tryd.isAgg137
  z160 := Tryd.sizeOf137
  v160 := Tryd.zeroValue137
  t162 := Tryd.underlying131
  a162 := Tryd.isAgg131
  z162 := Tryd.sizeOf131
  v162 := Tryd.zeroValue131
  t164 := Tryd.underlying125
  a164 := Tryd.isAgg125
  z164 := Tryd.sizeOf125
  v164 := Tryd.zeroValue125
  t203 := Tryd.underlying129
  a203 := Tryd.isAgg129
  z203 := Tryd.sizeOf129
  v203 := Tryd.zeroValue129
  t206 := Tryd.underlying145
  a206 := Tryd.isAgg145
  z206 := Tryd.sizeOf145
  v206 := Tryd.zeroValue145
  t208 := Tryd.underlying147
  a208 := Tryd.isAgg147
  z208 := Tryd.sizeOf147
  v208 := Tryd.zeroValue147
  g3 := by kernel_rfl
  g4 := by kernel_rfl
  g13 := by kernel_rfl }
theorem Tryd.Builder_Extra_158 : Builder.Extra Tryd.prog Tryd.lays158_ren := {
  sizeBuilder := by kernel_rfl
  liesBuilder := by kernel_rfl
  t5 := Tryd.underlying5
  a5 := Tryd.isAgg5
  z5 := Tryd.sizeOf5
  v5 := Tryd.zeroValue5
  infoByte := by kernel_rfl
  cellsByte := by kernel_rfl
  sizeByte := by kernel_rfl
  neB5 := by decide }
open Go.RowKit in
open Go.RowKit in
open Go.RowKit in
def Tryd.lays283_ren : Go.Shelf.Ren := ⟨fun | 283 => 66 | n => n, fun | 3 => 3 | 9 => 9 | 4 => 4 | n => n, fun | n => n⟩
theorem Tryd.lays283 : Go.Proofs.Lays.n283 Tryd.prog Tryd.lays283_ren := {
  mixed := by kernel_rfl
  f283 := Tryd.func66.trans (congrArg some (by kernel_rfl))
  t3 := Tryd.underlying3
  a3 := Tryd.isAgg3
  z3 := Tryd.sizeOf3
  v3 := Tryd.zeroValue3
  t4 := Tryd.underlying4
  a4 := Tryd.isAgg4
  z4 := Tryd.sizeOf4
  v4 := Tryd.zeroValue4
  t9 := Tryd.underlying9
  a9 := Tryd.isAgg9
  z9 := Tryd.sizeOf9
  v9 := Tryd.zeroValue9 }
open Go.Lib in
/-- internal/strconv.small: "small returns the string for an i with 0 <= i < nSmalls.": i's decimal numeral. The world is as it was. (LAID: no walk: one application.) -/
theorem Tryd.internal_strconv_small (i : Nat) (h : i < 100) (w : World) :
    Calls Tryd.prog 66 #[.int .i64 i] w fun e w' => e = .returned (.string ⟨(Lib.decDigits i).toArray⟩) ∧ w' = w := Any.internal_strconv_small Tryd.lays283 i h w
def Tryd.laysM284_ren : Go.Shelf.Ren := ⟨fun | 284 => 67 | 129 => 81 | 317 => 80 | 318 => 82 | n => n, fun | 53 => 23 | 3 => 3 | 212 => 117 | 0 => 0 | 4 => 4 | 46 => 121 | 5 => 5 | 9 => 9 | n => n, fun | 17 => 3 | n => n⟩
theorem Tryd.laysM284 : Go.Proofs.LaysM.n284 Tryd.prog Tryd.laysM284_ren := {
  mixed := by kernel_rfl
  f129 := Tryd.func81.trans (congrArg some (by kernel_rfl))
  f284 := Tryd.func67.trans (congrArg some (by kernel_rfl))
  f317 := Tryd.func80.trans (congrArg some (by kernel_rfl))
  f318 := Tryd.func82.trans (congrArg some (by kernel_rfl))
  t0 := Tryd.underlying0
  a0 := Tryd.isAgg0
  z0 := Tryd.sizeOf0
  v0 := Tryd.zeroValue0
  t3 := Tryd.underlying3
  a3 := Tryd.isAgg3
  z3 := Tryd.sizeOf3
  v3 := Tryd.zeroValue3
  t4 := Tryd.underlying4
  a4 := Tryd.isAgg4
  z4 := Tryd.sizeOf4
  v4 := Tryd.zeroValue4
  t5 := Tryd.underlying5
  a5 := Tryd.isAgg5
  z5 := Tryd.sizeOf5
  v5 := Tryd.zeroValue5
  t9 := Tryd.underlying9
  a9 := Tryd.isAgg9
  z9 := Tryd.sizeOf9
  v9 := Tryd.zeroValue9
  t46 := Tryd.underlying121
  a46 := Tryd.isAgg121
  z46 := Tryd.sizeOf121
  v46 := Tryd.zeroValue121
  t53 := Tryd.underlying23
  a53 := Tryd.isAgg23
  z53 := Tryd.sizeOf23
  v53 := Tryd.zeroValue23
  t212 := Tryd.underlying117
  a212 := Tryd.isAgg117
  z212 := Tryd.sizeOf117
  v212 := Tryd.zeroValue117
  g17 := by kernel_rfl
  i0 := by kernel_rfl
  i3 := by kernel_rfl
  i4 := by kernel_rfl
  i5 := by kernel_rfl
  i9 := by kernel_rfl
  i46 := by kernel_rfl
  i53 := by kernel_rfl
  i212 := by kernel_rfl
  m17 := by kernel_rfl }
open Go.Lib in
/-- internal/strconv.numDigits, at a d that is not 0: THE NUMBER OF d's DECIMAL DIGITS. The world is as it was. (LAID: no walk: one application.) -/
theorem Tryd.internal_strconv_numDigits (u : Nat) (h1 : 1 ≤ u) (h2 : u < 18446744073709551616) (w : World) (htab : Lib.TabIs Tryd.prog w "internal/strconv.uint64pow10" .u64 Lib.pow10Tab) :
    Calls Tryd.prog 67 #[.int .u64 u] w fun e w' => e = .returned (.int .i64 (Lib.nDigits u)) ∧ w' = w := Any.internal_strconv_numDigits Tryd.laysM284 u h1 h2 w htab
def Tryd.lays285_ren : Go.Shelf.Ren := ⟨fun | 285 => 68 | n => n, fun | 37 => 81 | 53 => 23 | 3 => 3 | 4 => 4 | 51 => 118 | 9 => 9 | 5 => 5 | 0 => 0 | n => n, fun | n => n⟩
theorem Tryd.lays285 : Go.Proofs.Lays.n285 Tryd.prog Tryd.lays285_ren := {
  mixed := by kernel_rfl
  f285 := Tryd.func68.trans (congrArg some (by kernel_rfl))
  t0 := Tryd.underlying0
  a0 := Tryd.isAgg0
  z0 := Tryd.sizeOf0
  v0 := Tryd.zeroValue0
  t3 := Tryd.underlying3
  a3 := Tryd.isAgg3
  z3 := Tryd.sizeOf3
  v3 := Tryd.zeroValue3
  t4 := Tryd.underlying4
  a4 := Tryd.isAgg4
  z4 := Tryd.sizeOf4
  v4 := Tryd.zeroValue4
  t5 := Tryd.underlying5
  a5 := Tryd.isAgg5
  z5 := Tryd.sizeOf5
  v5 := Tryd.zeroValue5
  t9 := Tryd.underlying9
  a9 := Tryd.isAgg9
  z9 := Tryd.sizeOf9
  v9 := Tryd.zeroValue9
  t37 := Tryd.underlying81
  a37 := Tryd.isAgg81
  z37 := Tryd.sizeOf81
  v37 := Tryd.zeroValue81
  t51 := Tryd.underlying118
  a51 := Tryd.isAgg118
  z51 := Tryd.sizeOf118
  v51 := Tryd.zeroValue118
  t53 := Tryd.underlying23
  a53 := Tryd.isAgg23
  z53 := Tryd.sizeOf23
  v53 := Tryd.zeroValue23 }
open Go.RowKit Go.Sort Go.Lib in
/-- internal/strconv.formatBase10: "formatBase10 formats the decimal representation of u into a. The caller is responsible for ensuring that a is big enough to hold u. If a is too big, leading zeros will be filled in as needed.": THE ROW HOLDS u's DIGITS ('FmtInv .. 0 ..': every place t holds 'dg u (len - 1 - t)'); all else is as it was but for the count of draws. (LAID: no walk: one application.) -/
theorem Tryd.internal_strconv_formatBase10 (blk off cap : Nat) (u : Nat) (d : Array UInt8) (w : World) (hH : Holds (fun (b : UInt8) => Value.int .u8 (b.toNat : Int)) w blk off d) (hu : u < 10 ^ d.size) (hu64 : u < 18446744073709551616) (hsz : d.size < 4611686018427387904) :
    Calls Tryd.prog 68 #[.slice (some ⟨blk, off, none⟩) d.size cap, .int .u64 u] w fun e w' =>
      e = .returned (.tuple #[]) ∧ ∃ (n v' : Nat) (dk : Array UInt8), w' = (putRow (fun (b : UInt8) => Value.int .u8 (b.toNat : Int)) w blk off dk).drewN n ∧ FmtInv d.size u 0 v' dk := Any.internal_strconv_formatBase10 Tryd.lays285 blk off cap u d w hH hu hu64 hsz
open Go.RowKit Go.Lib in
open Go.RowKit Go.Lib in
def Tryd.lays155_ren : Go.Shelf.Ren := ⟨fun | 155 => 47 | 154 => 57 | 138 => 70 | 165 => 60 | 143 => 71 | 166 => 61 | 197 => 72 | 169 => 63 | 195 => 85 | 218 => 86 | 240 => 74 | 241 => 75 | 219 => 87 | 260 => 88 | 276 => 89 | 277 => 90 | 217 => 95 | 225 => 96 | 224 => 97 | 267 => 98 | 266 => 102 | 314 => 103 | n => n, fun | 9 => 9 | 3 => 3 | 4 => 4 | 72 => 92 | 0 => 0 | 76 => 96 | 105 => 108 | 21 => 21 | 5 => 5 | 70 => 90 | 20 => 20 | 37 => 81 | 75 => 95 | 127 => 111 | 164 => 125 | 46 => 121 | 119 => 133 | 139 => 136 | 138 => 135 | 146 => 142 | 51 => 118 | 80 => 99 | n => n, fun | 1 => 5 | 3 => 6 | 4 => 7 | n => n⟩
theorem Tryd.lays155 : Go.Proofs.Lays.n155 Tryd.prog Tryd.lays155_ren := {
  mixed := by kernel_rfl
  f138 := Tryd.func70.trans (congrArg some (by kernel_rfl))
  f143 := Tryd.func71.trans (congrArg some (by kernel_rfl))
  f154 := Tryd.func57.trans (congrArg some (by kernel_rfl))
  f155 := Tryd.func47.trans (congrArg some (by kernel_rfl))
  f165 := Tryd.func60.trans (congrArg some (by kernel_rfl))
  f166 := Tryd.func61.trans (congrArg some (by kernel_rfl))
  f169 := Tryd.func63.trans (congrArg some (by kernel_rfl))
  f195 := Tryd.func85.trans (congrArg some (by kernel_rfl))
  f197 := Tryd.func72.trans (congrArg some (by kernel_rfl))
  f217 := Tryd.func95.trans (congrArg some (by kernel_rfl))
  f218 := Tryd.func86.trans (congrArg some (by kernel_rfl))
  f219 := Tryd.func87.trans (congrArg some (by kernel_rfl))
  f224 := Tryd.func97.trans (congrArg some (by kernel_rfl))
  f225 := Tryd.func96.trans (congrArg some (by kernel_rfl))
  f240 := Tryd.func74.trans (congrArg some (by kernel_rfl))
  f241 := Tryd.func75.trans (congrArg some (by kernel_rfl))
  f260 := Tryd.func88.trans (congrArg some (by kernel_rfl))
  f266 := Tryd.func102.trans (congrArg some (by kernel_rfl))
  f267 := Tryd.func98.trans (congrArg some (by kernel_rfl))
  f276 := Tryd.func89.trans (congrArg some (by kernel_rfl))
  f277 := Tryd.func90.trans (congrArg some (by kernel_rfl))
  f314 := Tryd.func103.trans (congrArg some (by kernel_rfl))
  t0 := Tryd.underlying0
  a0 := Tryd.isAgg0
  z0 := Tryd.sizeOf0
  v0 := Tryd.zeroValue0
  t3 := Tryd.underlying3
  a3 := Tryd.isAgg3
  z3 := Tryd.sizeOf3
  v3 := Tryd.zeroValue3
  t4 := Tryd.underlying4
  a4 := Tryd.isAgg4
  z4 := Tryd.sizeOf4
  v4 := Tryd.zeroValue4
  t5 := Tryd.underlying5
  a5 := Tryd.isAgg5
  z5 := Tryd.sizeOf5
  v5 := Tryd.zeroValue5
  t9 := Tryd.underlying9
  a9 := Tryd.isAgg9
  z9 := Tryd.sizeOf9
  v9 := Tryd.zeroValue9
  t20 := Tryd.underlying20
  a20 := Tryd.isAgg20
  z20 := Tryd.sizeOf20
  v20 := Tryd.zeroValue20
  t21 := Tryd.underlying21
  a21 := Tryd.isAgg21
  z21 := Tryd.sizeOf21
  v21 := Tryd.zeroValue21
  t37 := Tryd.underlying81
  a37 := Tryd.isAgg81
  z37 := Tryd.sizeOf81
  v37 := Tryd.zeroValue81
  t46 := Tryd.underlying121
  a46 := Tryd.isAgg121
  z46 := Tryd.sizeOf121
  v46 := Tryd.zeroValue121
  t51 := Tryd.underlying118
  a51 := Tryd.isAgg118
  z51 := Tryd.sizeOf118
  v51 := Tryd.zeroValue118
  t70 := Tryd.underlying90
  a70 := Tryd.isAgg90
  z70 := Tryd.sizeOf90
  v70 := Tryd.zeroValue90
  t72 := Tryd.underlying92
  a72 := Tryd.isAgg92
  z72 := Tryd.sizeOf92
  v72 := Tryd.zeroValue92
  t75 := Tryd.underlying95
  a75 := Tryd.isAgg95
  z75 := Tryd.sizeOf95
  v75 := Tryd.zeroValue95
  t76 := Tryd.underlying96
  a76 := Tryd.isAgg96
  z76 := Tryd.sizeOf96
  v76 := Tryd.zeroValue96
  t105 := Tryd.underlying108
  a105 := Tryd.isAgg108
  z105 := Tryd.sizeOf108
  v105 := Tryd.zeroValue108
  t119 := Tryd.underlying133
  a119 := Tryd.isAgg133
  z119 := Tryd.sizeOf133
  t127 := Tryd.underlying111
  a127 := Tryd.isAgg111
  z127 := Tryd.sizeOf111
  v127 := Tryd.zeroValue111
  t138 := Tryd.underlying135
  a138 := Tryd.isAgg135
  z138 := Tryd.sizeOf135
  v138 := Tryd.zeroValue135
  t139 := Tryd.underlying136
  a139 := Tryd.isAgg136
  z139 := Tryd.sizeOf136
  v139 := Tryd.zeroValue136
  t146 := Tryd.underlying142
  a146 := Tryd.isAgg142
  z146 := Tryd.sizeOf142
  v146 := Tryd.zeroValue142
  t164 := Tryd.underlying125
  a164 := Tryd.isAgg125
  z164 := Tryd.sizeOf125
  v164 := Tryd.zeroValue125
  g1 := by kernel_rfl
  g3 := by kernel_rfl
  g4 := by kernel_rfl }
theorem Tryd.Builder_Extra_155 : Builder.Extra Tryd.prog Tryd.lays155_ren := {
  sizeBuilder := by kernel_rfl
  liesBuilder := by kernel_rfl
  t5 := Tryd.underlying5
  a5 := Tryd.isAgg5
  z5 := Tryd.sizeOf5
  v5 := Tryd.zeroValue5
  infoByte := by kernel_rfl
  cellsByte := by kernel_rfl
  sizeByte := by kernel_rfl
  neB5 := by decide }
open Go.RowKit Go.Lib in
/-- strings.ReplaceAll: "ReplaceAll returns a copy of the string s with all non-overlapping instances of old replaced by new.": AT AN old THAT IS NOT EMPTY: 'Lib.replaceAll s old new'. (LAID: no walk: one application.) -/
theorem Tryd.strings_ReplaceAll (s old new : ByteArray) (m : Int) (w : World) (hs : s.size < 4294967281) (hm : w.cell? ⟨5, 0, none⟩ = some (.int .i64 m)) (h1 : 1 ≤ old.size) (hlen : s.size + Lib.countB s old * new.size ≤ 140737488355328) :
    Calls Tryd.prog 47 #[.string s, .string old, .string new] w fun e w' =>
      e = .returned (.string ⟨(Lib.replaceAll s.data.toList old.data.toList new.data.toList).toArray⟩) ∧ Below w.heap.size w w' := Any.strings_ReplaceAll Tryd.lays155 Tryd.Builder_Extra_155 s old new m w hs hm h1 hlen
open Go.RowKit Go.Lib in
open Go.RowKit Go.Lib in
/-- **strings.ToUpper AT EVERY STRING, VALID UTF-8 OR NOT.** (LAID: no walk: one application.) -/
theorem Tryd.strings_ToUpper_any (s : ByteArray) (w : World) (hs : s.size < 35184372088832) (hV : CaseVar 4 caseA w) (hT : Lib.Utf8Tabs 6 7 w) :
    Calls Tryd.prog 53 #[.string s] w fun e w' => e = .returned (.string ⟨(Lib.toUpperD s.data.toList).toArray⟩) ∧ Below w.heap.size w w' := Any.strings_ToUpper_any Tryd.lays158 Tryd.Builder_Extra_158 s w hs hV hT
def Tryd.lays110_ren : Go.Shelf.Ren := ⟨fun | 110 => 59 | 109 => 73 | n => n, fun | 31 => 89 | 9 => 9 | 4 => 4 | 3 => 3 | 0 => 0 | n => n, fun | n => n⟩
theorem Tryd.lays110 : Go.Proofs.Lays.n110 Tryd.prog Tryd.lays110_ren := {
  mixed := by kernel_rfl
  f109 := Tryd.func73.trans (congrArg some (by kernel_rfl))
  f110 := Tryd.func59.trans (congrArg some (by kernel_rfl))
  t0 := Tryd.underlying0
  a0 := Tryd.isAgg0
  z0 := Tryd.sizeOf0
  v0 := Tryd.zeroValue0
  t3 := Tryd.underlying3
  a3 := Tryd.isAgg3
  z3 := Tryd.sizeOf3
  v3 := Tryd.zeroValue3
  t4 := Tryd.underlying4
  a4 := Tryd.isAgg4
  z4 := Tryd.sizeOf4
  v4 := Tryd.zeroValue4
  t9 := Tryd.underlying9
  a9 := Tryd.isAgg9
  z9 := Tryd.sizeOf9
  v9 := Tryd.zeroValue9
  t31 := Tryd.underlying89
  a31 := Tryd.isAgg89
  z31 := Tryd.sizeOf89
  v31 := Tryd.zeroValue89 }
open Go.Lib in
/-- slices.Contains at []string: "Contains reports whether v is present in s.": IT RETURNS 'Lib.containsS (the elements) v', which is true just where v is among them ('Lib.containsS_iff'); the world is as it was. ITS CALLEE slices.Index IS MET BY ITS OWN CONTRACT OFF THE SHELF (lay that first): no loop is walked here. (LAID: no walk: one application.) -/
theorem Tryd.slices_Contains_string (b off n c : Nat) (zs : List ByteArray) (x : ByteArray) (w : World) (hz : n ≤ zs.length) (hbig : n ≤ 9223372036854775807) (hc : ∀ j, j < zs.length → w.cell? ⟨b, off + j, none⟩ = some (.string (zs.getD j ByteArray.empty))) :
    Calls Tryd.prog 59 #[.slice (some ⟨b, off, none⟩) n c, .string x] w fun e w' => e = .returned (.bool (Lib.containsS (zs.take n) x)) ∧ w' = w := Any.slices_Contains_string Tryd.lays110 b off n c zs x w hz hbig hc
end Go.Proofs
/- Names: the layer's IsWord, IsName. Conditions: what the tables hold. -/
namespace Go.Proofs.YtoaggmldekejoaaDoor
open Go.RowKit
set_option maxRecDepth 100000 in
theorem isword_any (s : ByteArray) (w : World) (hT : Tab w) : Calls Tryd.prog 52 #[.string s] w fun e w' => e = .returned (.bool (isWordB s)) ∧ w = w' := by
  have HT := Lib.hid hT.wd
  clear hT
  go_enter Tryd.func52, Tryd.ntmps52
  go_wp2_with fail
  refine (Tryd.slices_Contains_string 2 0 28 28 wordsL s w (by decide) (by decide) (fun j hj => by rw [Nat.zero_add]; exact HT.out j _ (by rw [List.getD_eq_getElem?_getD, List.getElem?_eq_getElem hj]; rfl))).mono ?_
  rintro e w2 ⟨rfl, rfl⟩
  go_wp2
  go_ret
  exact ⟨rfl, rfl⟩
theorem isLower_smI : ∀ b : UInt8, Lib.isLowerB b = smI (b.toNat : Int) := by
  intro b
  unfold Lib.isLowerB smI
  rw [Bool.eq_iff_iff, Bool.and_eq_true, Bool.and_eq_true, decide_eq_true_eq, decide_eq_true_eq, decide_eq_true_eq, decide_eq_true_eq, UInt8.le_iff_toNat_le, UInt8.le_iff_toNat_le]
  show 97 ≤ b.toNat ∧ b.toNat ≤ 122 ↔ _
  omega
theorem upA_eq (l : List UInt8) : Lib.toUpperA l = upL l := by
  unfold Lib.toUpperA upL
  refine List.map_congr_left fun b _ => ?_
  unfold Lib.upperB upB
  rw [isLower_smI]
theorem okI_high {c : Int} (h : 128 ≤ c) : okI c = false := by
  unfold okI smI dgI
  rw [decide_eq_false (show ¬ c ≤ 122 by omega), decide_eq_false (show ¬ c ≤ 57 by omega), decide_eq_false (show ¬ c = 95 by omega)]
  simp
theorem iter_below (w : World) (s : ByteArray) (p : Nat) : Below w.heap.size w (w.iter s p) := by
  unfold World.iter
  exact bl_al (Below.refl _ _) _
set_option maxRecDepth 100000 in
set_option maxHeartbeats 4000000 in
theorem isname_any (s : ByteArray) (w : World) (hT : Tab w) (hs : s.size ≤ 9223372036854775807) : Calls Tryd.prog 43 #[.string s] w fun e w' => e = .returned (.bool (nameB s)) ∧ Below w.heap.size w w' := by
  have HR := Lib.hid (show nameB s = (decide (1 ≤ s.size) && (decide (s.size ≤ 16) && (smI (bt s 0) && ((bts s).all okI && !isWordB ⟨(upL s.data.toList).toArray⟩)))) from rfl)
  generalize nameB s = r at *
  by_cases h1 : s.size < 1
  · have h2 : s.toList.isEmpty = true := by rw [ByteArray.toList_eq, List.isEmpty_iff]; exact List.eq_nil_of_length_eq_zero (by rw [show s.data.toList.length = s.size from by simp]; omega)
    go_enter Tryd.func43, Tryd.ntmps43
    go_wp2
    go_ret
    exact ⟨ret_bool (by rw [HR.out]; simp; omega), Below.refl _ _⟩
  have h2 : s.toList.isEmpty = false := by
    rw [ByteArray.toList_eq, List.isEmpty_eq_false_iff]
    intro e
    have h9 := congrArg List.length e
    rw [show s.data.toList.length = s.size from by simp] at h9
    simp only [List.length_nil] at h9
    omega
  by_cases h16 : 16 < s.size
  · have h3 : 16 < (s.size : Int) := by omega
    go_enter Tryd.func43, Tryd.ntmps43
    go_wp2
    go_ret
    exact ⟨ret_bool (by rw [HR.out]; simp; omega), Below.refl _ _⟩
  have h3 : (s.size : Int) ≤ 16 := by omega
  obtain ⟨b, hb⟩ := byte_at (s := s) (i := 0) (by omega)
  have hix : ∀ W, (Instr.index 9 (.string s) (.int .i64 0)).run Tryd.prog W = .ok (.int .u8 (b.toNat : Int)) W := run_bt hb
  have HR2 := Lib.hid (show r = (smI (b.toNat : Int) && ((bts s).all okI && !isWordB ⟨(upL s.data.toList).toArray⟩)) from by rw [HR.out, bt_of hb, decide_eq_true (show 1 ≤ s.size by omega), decide_eq_true (show s.size ≤ 16 by omega)]; rfl)
  have hb0 : 0 ≤ (b.toNat : Int) := by omega
  have hb255 : (b.toNat : Int) < 256 := by have := b.toNat_lt; omega
  have HS := Lib.hid (show s.size ≤ 16 by omega)
  clear hb HR h1 h16
  obtain ⟨c, hc⟩ : ∃ c, c = (b.toNat : Int) := ⟨_, rfl⟩
  rw [← hc] at hix HR2 hb0 hb255
  clear hc
  go_enter Tryd.func43, Tryd.ntmps43
  go_wp2_with fail
  have hw : (c + 2147483648) % 4294967296 - 2147483648 = c := by omega
  try rw [hw]
  refine (lsmall_any c _).mono ?_
  rintro e w2 ⟨rfl, rfl⟩
  obtain ⟨q, hq⟩ : ∃ q, q = smI c := ⟨_, rfl⟩
  rw [← hq] at HR2 ⊢
  clear hq hix
  cases q
  · go_wp2
    go_ret
    exact ⟨ret_bool (by rw [HR2.out]; rfl), Below.refl _ _⟩
  go_wp2_with fail
  refine (Tryd.strings_ToUpper_any s _ (by have := HS.out; omega) hT.cv hT.u8).mono ?_
  rintro e w3 ⟨rfl, q3⟩
  have HT3 := hT.below q3
  have HQ3 := Lib.hid q3
  clear q3 hT
  go_wp2_with fail
  refine (isword_any _ _ HT3).mono ?_
  rintro e w4 ⟨rfl, rfl⟩
  clear HT3
  have HA := Lib.hid (show (bts s).all okI = false ∨ (isWordB ⟨(Lib.toUpperD s.data.toList).toArray⟩ = isWordB ⟨(upL s.data.toList).toArray⟩) from by
    by_cases ha : ∀ b ∈ s.data.toList, b.toNat < 128
    · right; rw [Lib.toUpperD_ascii _ ha, upA_eq]
    · left
      rw [Bool.eq_false_iff]
      intro h9
      apply ha
      intro b hb
      rcases Nat.lt_or_ge b.toNat 128 with h8 | h8
      · exact h8
      · have h7 := List.all_eq_true.1 h9 (b.toNat : Int) (by unfold bts; exact List.mem_map.2 ⟨b, hb, rfl⟩)
        rw [okI_high (by omega)] at h7
        cases h7)
  obtain ⟨q, hq⟩ : ∃ q, q = isWordB ⟨(Lib.toUpperD s.data.toList).toArray⟩ := ⟨_, rfl⟩
  rw [← hq] at HA ⊢
  clear hq
  cases q
  case true =>
    have HF := Lib.hid (show r = false from by
      rcases HA.out with h | h
      · rw [HR2.out, h]; rfl
      · rw [HR2.out, ← h]; simp)
    go_wp2
    go_ret
    exact ⟨ret_bool HF.out.symm, HQ3.out⟩
  case false =>
    have HF := Lib.hid (show r = (bts s).all okI from by
      rcases HA.out with h | h
      · rw [HR2.out, h]; rfl
      · rw [HR2.out, ← h]; simp)
    clear HR2 HA
    go_wp2_with fail
    clear h2 h3 hb0 hb255 hw
    go_loopw [4] (fun _ w' => ∃ pos : Nat, w' = w3.iter s pos ∧ r = ((bts s).drop pos).all okI) (fun _ w' => s.size - w'.iterPos w3.heap.size)
    case atStart => exact ⟨0, rfl, by rw [HF.out]; simp⟩
    case round =>
      obtain ⟨pos, rfl, hri⟩ := hrel
      have HRI := Lib.hid hri
      clear hri HF
      by_cases hp : pos < s.size
      · obtain ⟨b, hb⟩ := byte_at hp
        have hbe : s[pos]'hp = b := by
          have h9 : s.data.toList[pos]? = some (s[pos]'hp) := by
            rw [List.getElem?_eq_getElem (by simpa using hp)]
            simp
            rfl
          rw [h9] at hb
          injection hb
        have HA := Lib.hid (allok_at (bts_at hb))
        have hnx : ∀ ty, (Instr.next (.pointer (some ⟨w3.heap.size, 0, none⟩)) true ty).run Tryd.prog (w3.iter s pos) = _ := fun ty => run_next_any w3 s pos ty hp
        by_cases h128 : b.toNat < 128
        · rw [decode_ascii s pos hp (by rw [hbe]; exact h128), hbe] at hnx
          obtain ⟨c, hc⟩ : ∃ c : Int, c = ((b.toNat : Nat) : Int) := ⟨_, rfl⟩
          rw [← hc] at HA
          dsimp only at hnx
          rw [← hc] at hnx
          clear hb hbe hc h128
          have HO := Lib.hid (show okI c = (smI c || (dgI c || decide (c = 95))) from rfl)
          obtain ⟨ok, hok⟩ : ∃ ok, ok = okI c := ⟨_, rfl⟩
          rw [← hok] at HO HA
          clear hok
          go_wp2_with fail
          refine (ldigit_any c _).mono ?_
          rintro e w2 ⟨rfl, rfl⟩
          clear hnx
          obtain ⟨q, hq⟩ : ∃ q, q = dgI c := ⟨_, rfl⟩
          rw [← hq] at HO ⊢
          clear hq
          cases q
          case true =>
            have HK := Lib.hid (show ok = true from by rw [HO.out]; simp)
            go_wp2
            go_roundw
            case rel => exact ⟨pos + 1, rfl, by rw [HRI.out, HA.out, HK.out]; rfl⟩
            all_goals simp only [World.iterPos_iter]; omega
          case false =>
            go_wp2_with fail
            refine (lsmall_any c _).mono ?_
            rintro e w2 ⟨rfl, rfl⟩
            obtain ⟨q, hq⟩ : ∃ q, q = smI c := ⟨_, rfl⟩
            rw [← hq] at HO ⊢
            clear hq
            cases q
            case true =>
              have HK := Lib.hid (show ok = true from by rw [HO.out]; rfl)
              go_wp2
              go_roundw
              case rel => exact ⟨pos + 1, rfl, by rw [HRI.out, HA.out, HK.out]; rfl⟩
              all_goals simp only [World.iterPos_iter]; omega
            case false =>
              by_cases h95 : c = 95
              · have e1 : (c == 95) = true := by simpa using h95
                have HK := Lib.hid (show ok = true from by rw [HO.out]; simpa using h95)
                clear h95
                go_wp2
                go_roundw
                case rel => exact ⟨pos + 1, rfl, by rw [HRI.out, HA.out, HK.out]; rfl⟩
                all_goals simp only [World.iterPos_iter]; omega
              · have e1 : (c == 95) = false := by simpa using h95
                have HK := Lib.hid (show ok = false from by rw [HO.out]; simpa using h95)
                clear h95
                go_wp2
                go_ret
                exact ⟨ret_bool (by rw [HRI.out, HA.out, HK.out]; rfl), bl_ca HQ3.out (iter_below _ _ _)⟩
        · have hd := (decode_high s pos hp (by rw [hbe]; omega)).1
          obtain ⟨c, hc⟩ : ∃ c : Int, c = (((Utf8.decode s pos).1 : Nat) : Int) := ⟨_, rfl⟩
          rw [← hc] at hnx
          have hc128 : 128 ≤ c := by omega
          have HF := Lib.hid (show r = false from by rw [HRI.out, HA.out, okI_high (show (128 : Int) ≤ (b.toNat : Int) by omega)]; rfl)
          have hd1 : dgI c = false := by unfold dgI; rw [decide_eq_false (show ¬ c ≤ 57 by omega)]; simp
          have hd2 : smI c = false := by unfold smI; rw [decide_eq_false (show ¬ c ≤ 122 by omega)]; simp
          have hd3 : (c == 95) = false := by simp; omega
          clear hc hd hb hbe h128
          go_wp2_with fail
          refine (ldigit_any c _).mono ?_
          rintro e w2 ⟨rfl, rfl⟩
          rw [hd1]
          clear hnx
          go_wp2_with fail
          refine (lsmall_any c _).mono ?_
          rintro e w2 ⟨rfl, rfl⟩
          rw [hd2]
          go_wp2
          go_ret
          exact ⟨ret_bool HF.out.symm, bl_ca HQ3.out (iter_below _ _ _)⟩
      · have hnx : ∀ ty, (Instr.next (.pointer (some ⟨w3.heap.size, 0, none⟩)) true ty).run Tryd.prog (w3.iter s pos) = _ := fun ty => run_next_end w3 s pos ty hp
        have HF := Lib.hid (show r = true from by rw [HRI.out, List.drop_of_length_le (by rw [bts_len]; omega)]; rfl)
        go_wp2
        go_ret
        exact ⟨ret_bool HF.out.symm, bl_ca HQ3.out (iter_below _ _ _)⟩
end Go.Proofs.YtoaggmldekejoaaDoor
/- value.Check, value.Int, value.Null. Conditions: a value of whatever fields. -/
namespace Go.Proofs.YtoaggmldekejoaaDoor
open Go.RowKit
/-- may a value be? -/
def rightB (k n u : Int) (s : ByteArray) : Bool :=
  if k = 0 then decide (n = 0 ∧ u = 0 ∧ s.toList = [])
  else if k = 1 then decide ((n = 0 ∨ n = 1) ∧ u = 0 ∧ s.toList = [])
  else if k = 2 then decide (u = 0 ∧ s.toList = [])
  else if k = 3 then decide (n = 0 ∧ u = 0 ∧ s.size ≤ 40)
  else decide (k = 4 ∧ s.toList = [])
set_option maxHeartbeats 1000000 in
theorem blank_0 (n u : Int) (s : ByteArray) (w : World) : Calls Tryd.prog 55 #[.agg #[.int .i64 0, .int .i64 n, .int .u64 u, .string s]] w fun e w' => e = .returned (.agg #[.int .i64 0, .int .i64 n, .int .u64 u, .string s]) ∧ Below w.heap.size w w' := by
  go_enter Tryd.func55, Tryd.ntmps55
  go_wp2
  refine bodyPost_ret (v := .agg #[.int .i64 0, .int .i64 n, .int .u64 u, .string s]) (by simp [results, Tryd.results55, go_sem]) rfl ⟨rfl, ?_⟩
  first | exact Below.refl _ _ | exact (Below.refl _ _).alloc (Nat.le_refl _) _ | exact ((Below.refl _ _).alloc (Nat.le_refl _) _).alloc (by simp) _
set_option maxHeartbeats 1000000 in
theorem blank_1 (n u : Int) (s : ByteArray) (h : n = 0 ∨ n = 1) (w : World) : Calls Tryd.prog 55 #[.agg #[.int .i64 1, .int .i64 n, .int .u64 u, .string s]] w fun e w' => e = .returned (.agg #[.int .i64 0, .int .i64 0, .int .u64 u, .string s]) ∧ Below w.heap.size w w' := by
  rcases h with rfl | rfl
  · go_enter Tryd.func55, Tryd.ntmps55
    go_wp2
    refine bodyPost_ret (v := .agg #[.int .i64 0, .int .i64 0, .int .u64 u, .string s]) (by simp [results, Tryd.results55, go_sem]) rfl ⟨rfl, ?_⟩
    first | exact Below.refl _ _ | exact (Below.refl _ _).alloc (Nat.le_refl _) _ | exact ((Below.refl _ _).alloc (Nat.le_refl _) _).alloc (by simp) _
  · go_enter Tryd.func55, Tryd.ntmps55
    go_wp2
    refine bodyPost_ret (v := .agg #[.int .i64 0, .int .i64 0, .int .u64 u, .string s]) (by simp [results, Tryd.results55, go_sem]) rfl ⟨rfl, ?_⟩
    first | exact Below.refl _ _ | exact (Below.refl _ _).alloc (Nat.le_refl _) _ | exact ((Below.refl _ _).alloc (Nat.le_refl _) _).alloc (by simp) _
set_option maxHeartbeats 1000000 in
theorem blank_1n (n u : Int) (s : ByteArray) (h : (n != 0) = true) (h2 : (n != 1) = true) (w : World) : Calls Tryd.prog 55 #[.agg #[.int .i64 1, .int .i64 n, .int .u64 u, .string s]] w fun e w' => e = .returned (.agg #[.int .i64 1, .int .i64 n, .int .u64 u, .string s]) ∧ Below w.heap.size w w' := by
  go_enter Tryd.func55, Tryd.ntmps55
  go_wp2
  refine bodyPost_ret (v := .agg #[.int .i64 1, .int .i64 n, .int .u64 u, .string s]) (by simp [results, Tryd.results55, go_sem]) rfl ⟨rfl, ?_⟩
  first | exact Below.refl _ _ | exact (Below.refl _ _).alloc (Nat.le_refl _) _ | exact ((Below.refl _ _).alloc (Nat.le_refl _) _).alloc (by simp) _
set_option maxHeartbeats 1000000 in
theorem blank_2 (n u : Int) (s : ByteArray) (w : World) : Calls Tryd.prog 55 #[.agg #[.int .i64 2, .int .i64 n, .int .u64 u, .string s]] w fun e w' => e = .returned (.agg #[.int .i64 0, .int .i64 0, .int .u64 u, .string s]) ∧ Below w.heap.size w w' := by
  go_enter Tryd.func55, Tryd.ntmps55
  go_wp2
  refine bodyPost_ret (v := .agg #[.int .i64 0, .int .i64 0, .int .u64 u, .string s]) (by simp [results, Tryd.results55, go_sem]) rfl ⟨rfl, ?_⟩
  first | exact Below.refl _ _ | exact (Below.refl _ _).alloc (Nat.le_refl _) _ | exact ((Below.refl _ _).alloc (Nat.le_refl _) _).alloc (by simp) _
set_option maxHeartbeats 1000000 in
theorem blank_3 (n u : Int) (s : ByteArray) (h : (s.size : Int) ≤ 40) (w : World) : Calls Tryd.prog 55 #[.agg #[.int .i64 3, .int .i64 n, .int .u64 u, .string s]] w fun e w' => e = .returned (.agg #[.int .i64 0, .int .i64 n, .int .u64 u, .string ⟨#[]⟩]) ∧ Below w.heap.size w w' := by
  go_enter Tryd.func55, Tryd.ntmps55
  go_wp2
  refine bodyPost_ret (v := .agg #[.int .i64 0, .int .i64 n, .int .u64 u, .string ⟨#[]⟩]) (by simp [results, Tryd.results55, go_sem]) rfl ⟨rfl, ?_⟩
  first | exact Below.refl _ _ | exact (Below.refl _ _).alloc (Nat.le_refl _) _ | exact ((Below.refl _ _).alloc (Nat.le_refl _) _).alloc (by simp) _
set_option maxHeartbeats 1000000 in
theorem blank_3n (n u : Int) (s : ByteArray) (h : ¬ (s.size : Int) ≤ 40) (w : World) : Calls Tryd.prog 55 #[.agg #[.int .i64 3, .int .i64 n, .int .u64 u, .string s]] w fun e w' => e = .returned (.agg #[.int .i64 3, .int .i64 n, .int .u64 u, .string s]) ∧ Below w.heap.size w w' := by
  go_enter Tryd.func55, Tryd.ntmps55
  go_wp2
  refine bodyPost_ret (v := .agg #[.int .i64 3, .int .i64 n, .int .u64 u, .string s]) (by simp [results, Tryd.results55, go_sem]) rfl ⟨rfl, ?_⟩
  first | exact Below.refl _ _ | exact (Below.refl _ _).alloc (Nat.le_refl _) _ | exact ((Below.refl _ _).alloc (Nat.le_refl _) _).alloc (by simp) _
set_option maxHeartbeats 1000000 in
theorem blank_4 (n u : Int) (s : ByteArray) (w : World) : Calls Tryd.prog 55 #[.agg #[.int .i64 4, .int .i64 n, .int .u64 u, .string s]] w fun e w' => e = .returned (.agg #[.int .i64 0, .int .i64 0, .int .u64 0, .string s]) ∧ Below w.heap.size w w' := by
  go_enter Tryd.func55, Tryd.ntmps55
  go_wp2
  refine bodyPost_ret (v := .agg #[.int .i64 0, .int .i64 0, .int .u64 0, .string s]) (by simp [results, Tryd.results55, go_sem]) rfl ⟨rfl, ?_⟩
  first | exact Below.refl _ _ | exact (Below.refl _ _).alloc (Nat.le_refl _) _ | exact ((Below.refl _ _).alloc (Nat.le_refl _) _).alloc (by simp) _
set_option maxHeartbeats 1000000 in
theorem blank_n (k n u : Int) (s : ByteArray) (h0 : (k == 0) = false) (h1 : (k == 1) = false) (h2 : (k == 2) = false) (h3 : (k == 3) = false) (h4 : (k == 4) = false) (w : World) : Calls Tryd.prog 55 #[.agg #[.int .i64 k, .int .i64 n, .int .u64 u, .string s]] w fun e w' => e = .returned (.agg #[.int .i64 k, .int .i64 n, .int .u64 u, .string s]) ∧ Below w.heap.size w w' := by
  go_enter Tryd.func55, Tryd.ntmps55
  go_wp2
  refine bodyPost_ret (v := .agg #[.int .i64 k, .int .i64 n, .int .u64 u, .string s]) (by simp [results, Tryd.results55, go_sem]) rfl ⟨rfl, ?_⟩
  first | exact Below.refl _ _ | exact (Below.refl _ _).alloc (Nat.le_refl _) _ | exact ((Below.refl _ _).alloc (Nat.le_refl _) _).alloc (by simp) _
end Go.Proofs.YtoaggmldekejoaaDoor
