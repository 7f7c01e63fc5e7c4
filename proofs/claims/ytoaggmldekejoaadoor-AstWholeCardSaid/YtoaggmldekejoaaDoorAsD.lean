/- Nodes and texts in memory; what the layer's tables hold. Conditions: none. -/
import Derived.Test.YtoaggmldekejoaaDoorLay
import Derived.Test.YtoaggmldekejoaaDoorBytes
import Derived.Test.YtoaggmldekejoaaDoorLxP
import Derived.Test.YtoaggmldekejoaaDoorAsJ
import Derived.Lib.MinMax
import Derived.Lib.AppendIntMem
import Derived.Lib.Itoa
import Derived.Shelf.Unicode.CaseTo
import Derived.Shelf.Unicode.DecodeSlow
namespace Go.Proofs.YtoaggmldekejoaaDoor
open Go.RowKit
theorem addr_more (a : Addr) (i j : Nat) (hj : 0 < j) : a.add (i + j) = ⟨(a.add i).block, (a.add i).off + j, none⟩ := by
  unfold Addr.add
  by_cases h : i = 0
  · subst h; simp; omega
  · simp [h]; omega
abbrev Nd.cells (x : Nd) : Array Value := #[.int .i64 x.p.tag, .int .i64 x.l, .int .i64 x.r, .int .i64 x.p.k, .int .i64 x.p.n, .int .u64 x.p.u, .string x.p.s, .string x.p.tb, .string x.p.nm]
def LN : Lay Nd where
  size := 9
  rep := fun _ _ x cs => cs = [.int .i64 x.p.tag, .int .i64 x.l, .int .i64 x.r, .int .i64 x.p.k, .int .i64 x.p.n, .int .u64 x.p.u, .string x.p.s, .string x.p.tb, .string x.p.nm]
  len := fun h => by subst h; rfl
  one := fun h u hu => by subst h; simp at hu; rcases hu with rfl | rfl | rfl | rfl | rfl | rfl | rfl | rfl | rfl <;> rfl
  keep := fun _ h => h
  weak := fun _ h => h
structure SN (w : World) (p : Addr) (x : Nd) : Prop where
  c0 : w.cell? p = some (.int .i64 x.p.tag)
  c1 : w.cell? ⟨p.block, p.off + 1, none⟩ = some (.int .i64 x.l)
  c2 : w.cell? ⟨p.block, p.off + 2, none⟩ = some (.int .i64 x.r)
  c3 : w.cell? ⟨p.block, p.off + 3, none⟩ = some (.int .i64 x.p.k)
  c4 : w.cell? ⟨p.block, p.off + 4, none⟩ = some (.int .i64 x.p.n)
  c5 : w.cell? ⟨p.block, p.off + 5, none⟩ = some (.int .u64 x.p.u)
  c6 : w.cell? ⟨p.block, p.off + 6, none⟩ = some (.string x.p.s)
  c7 : w.cell? ⟨p.block, p.off + 7, none⟩ = some (.string x.p.tb)
  c8 : w.cell? ⟨p.block, p.off + 8, none⟩ = some (.string x.p.nm)
theorem LN_at {w : World} {F : Nat → Prop} {A : Option Addr} {n i : Nat} {xs : List Nd} (h : LN.rd w F A n xs) (hi : i < n) : ∃ ad x, A = some ad ∧ xs[i]? = some x ∧ SN w (ad.add (i * 9)) x := by
  obtain ⟨ad, x, cs, e, hx, _, _, rfl, hc⟩ := Lay.rd_at h hi
  refine ⟨ad, x, e, hx, ⟨hc 0 _ rfl, ?_, ?_, ?_, ?_, ?_, ?_, ?_, ?_⟩⟩
  · rw [← addr_more _ _ 1 (by omega)]; exact hc 1 _ rfl
  · rw [← addr_more _ _ 2 (by omega)]; exact hc 2 _ rfl
  · rw [← addr_more _ _ 3 (by omega)]; exact hc 3 _ rfl
  · rw [← addr_more _ _ 4 (by omega)]; exact hc 4 _ rfl
  · rw [← addr_more _ _ 5 (by omega)]; exact hc 5 _ rfl
  · rw [← addr_more _ _ 6 (by omega)]; exact hc 6 _ rfl
  · rw [← addr_more _ _ 7 (by omega)]; exact hc 7 _ rfl
  · rw [← addr_more _ _ 8 (by omega)]; exact hc 8 _ rfl
abbrev LS : Lay ByteArray := Lay.cell (fun s : ByteArray => .string s) (fun _ => rfl)
theorem LS_at {w : World} {F : Nat → Prop} {A : Option Addr} {n i : Nat} {xs : List ByteArray} (h : LS.rd w F A n xs) (hi : i < n) : ∃ ad x, A = some ad ∧ xs[i]? = some x ∧ w.cell? (ad.add i) = some (.string x) := by
  obtain ⟨ad, x, cs, e, hx, _, _, hr, hc⟩ := Lay.rd_at h hi
  obtain rfl : cs = [.string x] := hr
  refine ⟨ad, x, e, hx, ?_⟩
  have := hc 0 _ rfl
  rwa [show i * LS.size + 0 = i from by show i * 1 + 0 = i; omega] at this
def AllB : Nat → Prop := fun _ => True
theorem Lay.rd_blk {α : Type} {L : Lay α} {w : World} {F : Nat → Prop} {g n : Nat} {t : TypeId} {vs : Array Value} {xs : List α} (h : Blk w g t vs) (hl : xs.length = n) (hr : L.reps w F xs vs.toList) (hF : F g) : L.rd w F (some ⟨g, 0, none⟩) n xs :=
  ⟨hl, vs.toList, hr, fun _ => ⟨⟨g, 0, none⟩, rfl, h.lt, hF, fun j u hu => by
    rw [show (⟨g, 0, none⟩ : Addr).add j = ⟨g, j, none⟩ from by unfold Addr.add; split <;> simp_all]
    rw [h.cell j]; simpa using hu⟩⟩
theorem LS_reps {w : World} {F : Nat → Prop} : ∀ (l : List ByteArray), LS.reps w F l (l.map fun s => .string s)
  | [] => rfl
  | s :: l => ⟨[.string s], l.map fun s => .string s, rfl, rfl, LS_reps l⟩
theorem LS_blk {w : World} {F : Nat → Prop} {g n : Nat} {t : TypeId} {l : List ByteArray} (h : Blk w g t (l.map fun s => Value.string s).toArray) (hl : l.length = n) (hF : F g) : LS.rd w F (some ⟨g, 0, none⟩) n l := Lay.rd_blk h hl (by simpa using LS_reps l) hF
theorem Utf8Tabs.below {g h : Nat} {w w' : World} (t : Lib.Utf8Tabs g h w) (b : Below w.heap.size w w') : Lib.Utf8Tabs g h w' := by
  have k : ∀ {a : Addr} {v : Value}, w.cell? a = some v → w'.cell? a = some v := fun {a v} hc => (b.cell (World.block_lt_of_cell? w a hc)).trans hc
  exact ⟨fun i hi => k (t.1 i hi), fun i hi => ⟨k (t.2 i hi).1, k (t.2 i hi).2⟩⟩
theorem CaseVar.below {g : Nat} {T : Array Lib.CaseRow} {w w' : World} (h : Lib.CaseVar g T w) (hb : Below w.heap.size w w') : Lib.CaseVar g T w' := by
  have k : ∀ {a : Addr} {v : Value}, w.cell? a = some v → w'.cell? a = some v := fun {a v} hc => (hb.cell (World.block_lt_of_cell? w a hc)).trans hc
  obtain ⟨R, oR, cap, h1, h2⟩ := h
  exact ⟨R, oR, cap, k h1, fun i hi => ⟨k (h2 i hi).1, k (h2 i hi).2.1, k (h2 i hi).2.2.1, k (h2 i hi).2.2.2.1, k (h2 i hi).2.2.2.2⟩⟩
/-- the literals that are words; the signs, by their tags -/
def vwords : List (List UInt8) := [[70, 65, 76, 83, 69], [78, 85, 76, 76], [84, 82, 85, 69]]
def asigns : List (List UInt8) := [] :: sgs
/-- what the layer's tables hold -/
structure Tab (w : World) : Prop where
  wd : ∀ i s, wordsL[i]? = some s → w.cell? ⟨2, i, none⟩ = some (.string s)
  vw : ∀ i s, vwords[i]? = some s → w.cell? ⟨1, i, none⟩ = some (.string (bS s))
  sg : ∀ i s, asigns[i]? = some s → w.cell? ⟨0, i, none⟩ = some (.string (bS s))
  ml : ∃ m, w.cell? ⟨5, 0, none⟩ = some (.int .i64 m)
  cv : Lib.CaseVar 4 Lib.caseA w
  u8 : Lib.Utf8Tabs 6 7 w
  pw : Lib.TabIs Tryd.prog w "internal/strconv.uint64pow10" .u64 Lib.pow10Tab
theorem Tab.below {w w' : World} (h : Tab w) (b : Below w.heap.size w w') : Tab w' := by
  have k : ∀ {a : Addr} {v : Value}, w.cell? a = some v → w'.cell? a = some v := fun {a v} hc => (b.cell (World.block_lt_of_cell? w a hc)).trans hc
  exact ⟨fun i s e => k (h.wd i s e), fun i s e => k (h.vw i s e), fun i s e => k (h.sg i s e), by obtain ⟨m, hm⟩ := h.ml; exact ⟨m, k hm⟩, CaseVar.below h.cv b, Utf8Tabs.below h.u8 b, Lib.tabBelow_of_tabIs h.pw w' b⟩
theorem ret_bool {a b : Bool} (h : a = b) : Ending.returned (.bool a) = Ending.returned (.bool b) := by rw [h]
end Go.Proofs.YtoaggmldekejoaaDoor
