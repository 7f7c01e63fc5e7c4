/- The catalog in memory: columns, tables, texts; what the tables of the layers hold. Conditions: none. -/
import Derived.Test.YthgcdilkkldgjaaDoorLay
import Derived.Test.YthgcdilkkldgjaaDoorGs
import Derived.Lib.MinMax
import Derived.Shelf.Unicode.CaseTo
import Derived.Shelf.Unicode.DecodeSlow
namespace Go.Proofs.YthgcdilkkldgjaaDoor
open Go.RowKit
theorem addr_more (a : Addr) (i j : Nat) (hj : 0 < j) : a.add (i + j) = ⟨(a.add i).block, (a.add i).off + j, none⟩ := by
  unfold Addr.add
  by_cases h : i = 0
  · subst h; simp; omega
  · simp [h]; omega
/-- a column -/
structure CO where
  name : ByteArray
  kind : Int
abbrev CO.cells (c : CO) : Array Value := #[.string c.name, .int .i64 c.kind]
def LCO : Lay CO where
  size := 2
  rep := fun _ _ c cs => cs = [.string c.name, .int .i64 c.kind]
  len := fun h => by subst h; rfl
  one := fun h u hu => by subst h; simp at hu; rcases hu with rfl | rfl <;> rfl
  keep := fun _ h => h
  weak := fun _ h => h
structure SO (w : World) (p : Addr) (c : CO) : Prop where
  c0 : w.cell? p = some (.string c.name)
  c1 : w.cell? ⟨p.block, p.off + 1, none⟩ = some (.int .i64 c.kind)
theorem LCO_at {w : World} {F : Nat → Prop} {A : Option Addr} {n i : Nat} {xs : List CO} (h : LCO.rd w F A n xs) (hi : i < n) : ∃ ad x, A = some ad ∧ xs[i]? = some x ∧ SO w (ad.add (i * 2)) x := by
  obtain ⟨ad, x, cs, e, hx, _, _, rfl, hc⟩ := Lay.rd_at h hi
  refine ⟨ad, x, e, hx, ⟨hc 0 _ rfl, ?_⟩⟩
  rw [← addr_more _ _ 1 (by omega)]; exact hc 1 _ rfl
abbrev LK : Lay Int := Lay.cell (fun k : Int => .int .i64 k) (fun _ => rfl)
theorem LK_at {w : World} {F : Nat → Prop} {A : Option Addr} {n i : Nat} {xs : List Int} (h : LK.rd w F A n xs) (hi : i < n) : ∃ ad x, A = some ad ∧ xs[i]? = some x ∧ w.cell? (ad.add i) = some (.int .i64 x) := by
  obtain ⟨ad, x, cs, e, hx, _, _, hr, hc⟩ := Lay.rd_at h hi
  obtain rfl : cs = [.int .i64 x] := hr
  refine ⟨ad, x, e, hx, ?_⟩
  have := hc 0 _ rfl
  rwa [show i * LK.size + 0 = i from by show i * 1 + 0 = i; omega] at this
abbrev LS : Lay ByteArray := Lay.cell (fun s : ByteArray => .string s) (fun _ => rfl)
theorem LS_at {w : World} {F : Nat → Prop} {A : Option Addr} {n i : Nat} {xs : List ByteArray} (h : LS.rd w F A n xs) (hi : i < n) : ∃ ad x, A = some ad ∧ xs[i]? = some x ∧ w.cell? (ad.add i) = some (.string x) := by
  obtain ⟨ad, x, cs, e, hx, _, _, hr, hc⟩ := Lay.rd_at h hi
  obtain rfl : cs = [.string x] := hr
  refine ⟨ad, x, e, hx, ?_⟩
  have := hc 0 _ rfl
  rwa [show i * LS.size + 0 = i from by show i * 1 + 0 = i; omega] at this
/-- a table -/
structure TC where
  name : ByteArray
  cols : List CO
  keys : List Int
abbrev TC.cells (t : TC) (A : Option Addr) (n c : Nat) (B : Option Addr) (m d : Nat) : Array Value := #[.string t.name, .slice A n c, .slice B m d]
def LT3 : Lay TC where
  size := 3
  rep := fun w F t cs => ∃ A n c B m d, cs = [.string t.name, .slice A n c, .slice B m d] ∧ n ≤ c ∧ c ≤ 9223372036854775807 ∧ LCO.rd w F A n t.cols ∧ m ≤ d ∧ d ≤ 9223372036854775807 ∧ LK.rd w F B m t.keys
  len := fun h => by obtain ⟨A, n, c, B, m, d, rfl, _⟩ := h; rfl
  one := fun h u hu => by obtain ⟨A, n, c, B, m, d, rfl, _⟩ := h; simp at hu; rcases hu with rfl | rfl | rfl <;> rfl
  keep := fun hk h => by obtain ⟨A, n, c, B, m, d, e, h1, h2, hr, h3, h4, hr2⟩ := h; exact ⟨A, n, c, B, m, d, e, h1, h2, Lay.rd_keep hk hr, h3, h4, Lay.rd_keep hk hr2⟩
  weak := fun hk h => by obtain ⟨A, n, c, B, m, d, e, h1, h2, hr, h3, h4, hr2⟩ := h; exact ⟨A, n, c, B, m, d, e, h1, h2, Lay.rd_weak hk hr, h3, h4, Lay.rd_weak hk hr2⟩
/-- a table lies at this place -/
structure ST (w : World) (F : Nat → Prop) (p : Addr) (t : TC) (A : Option Addr) (n c : Nat) (B : Option Addr) (m d : Nat) : Prop where
  c0 : w.cell? p = some (.string t.name)
  c1 : w.cell? ⟨p.block, p.off + 1, none⟩ = some (.slice A n c)
  c2 : w.cell? ⟨p.block, p.off + 2, none⟩ = some (.slice B m d)
  nc : n ≤ c
  cm : c ≤ 9223372036854775807
  rd : LCO.rd w F A n t.cols
  md : m ≤ d
  dm : d ≤ 9223372036854775807
  rk : LK.rd w F B m t.keys
theorem LT3_at {w : World} {F : Nat → Prop} {A : Option Addr} {n i : Nat} {xs : List TC} (h : LT3.rd w F A n xs) (hi : i < n) : ∃ ad t A1 n1 c1 B1 m1 d1, A = some ad ∧ xs[i]? = some t ∧ ST w F (ad.add (i * 3)) t A1 n1 c1 B1 m1 d1 := by
  obtain ⟨ad, t, cs, e, hx, _, _, ⟨A1, n1, c1, B1, m1, d1, rfl, h1, h2, hr, h3, h4, hr2⟩, hc⟩ := Lay.rd_at h hi
  refine ⟨ad, t, A1, n1, c1, B1, m1, d1, e, hx, ⟨hc 0 _ rfl, ?_, ?_, h1, h2, hr, h3, h4, hr2⟩⟩
  · rw [← addr_more _ _ 1 (by omega)]; exact hc 1 _ rfl
  · rw [← addr_more _ _ 2 (by omega)]; exact hc 2 _ rfl
def AllB : Nat → Prop := fun _ => True
/-- where the first lies for which it holds; -1: none -/
def idxL {α : Type} (f : α → Bool) (l : List α) : Int := if l.findIdx f < l.length then (l.findIdx f : Int) else -1
/-- the words of the language -/
def wordsL : List ByteArray := [⟨#[83, 69, 76, 69, 67, 84]⟩, ⟨#[68, 73, 83, 84, 73, 78, 67, 84]⟩, ⟨#[70, 82, 79, 77]⟩, ⟨#[76, 69, 70, 84]⟩, ⟨#[74, 79, 73, 78]⟩, ⟨#[79, 78]⟩, ⟨#[87, 72, 69, 82, 69]⟩, ⟨#[71, 82, 79, 85, 80]⟩, ⟨#[66, 89]⟩, ⟨#[72, 65, 86, 73, 78, 71]⟩, ⟨#[85, 78, 73, 79, 78]⟩, ⟨#[65, 76, 76]⟩, ⟨#[79, 82, 68, 69, 82]⟩, ⟨#[76, 73, 77, 73, 84]⟩, ⟨#[65, 83, 67]⟩, ⟨#[68, 69, 83, 67]⟩, ⟨#[65, 83]⟩, ⟨#[65, 78, 68]⟩, ⟨#[79, 82]⟩, ⟨#[78, 79, 84]⟩, ⟨#[73, 83]⟩, ⟨#[78, 85, 76, 76]⟩, ⟨#[84, 82, 85, 69]⟩, ⟨#[70, 65, 76, 83, 69]⟩, ⟨#[67, 79, 85, 78, 84]⟩, ⟨#[83, 85, 77]⟩, ⟨#[77, 73, 78]⟩, ⟨#[77, 65, 88]⟩]
def sBool : ByteArray := ⟨#[98, 111, 111, 108]⟩
def sInt : ByteArray := ⟨#[105, 110, 116]⟩
def sText : ByteArray := ⟨#[116, 101, 120, 116]⟩
/-- what the layers' tables hold -/
structure Tab (w : World) : Prop where
  k0 : w.cell? ⟨0, 0, none⟩ = some (.string sBool)
  k1 : w.cell? ⟨0, 1, none⟩ = some (.int .i64 1)
  k2 : w.cell? ⟨0, 2, none⟩ = some (.string sInt)
  k3 : w.cell? ⟨0, 3, none⟩ = some (.int .i64 2)
  k4 : w.cell? ⟨0, 4, none⟩ = some (.string sText)
  k5 : w.cell? ⟨0, 5, none⟩ = some (.int .i64 3)
  wd : ∀ i s, wordsL[i]? = some s → w.cell? ⟨1, i, none⟩ = some (.string s)
  ml : ∃ m, w.cell? ⟨2, 0, none⟩ = some (.int .i64 m)
  cv : Lib.CaseVar 3 Lib.caseA w
  u8 : Lib.Utf8Tabs 4 5 w
theorem Utf8Tabs.below {g h : Nat} {w w' : World} (t : Lib.Utf8Tabs g h w) (b : Below w.heap.size w w') : Lib.Utf8Tabs g h w' := by
  have k : ∀ {a : Addr} {v : Value}, w.cell? a = some v → w'.cell? a = some v := fun {a v} hc => (b.cell (World.block_lt_of_cell? w a hc)).trans hc
  exact ⟨fun i hi => k (t.1 i hi), fun i hi => ⟨k (t.2 i hi).1, k (t.2 i hi).2⟩⟩
theorem CaseVar.below {g : Nat} {T : Array Lib.CaseRow} {w w' : World} (h : Lib.CaseVar g T w) (hb : Below w.heap.size w w') : Lib.CaseVar g T w' := by
  have k : ∀ {a : Addr} {v : Value}, w.cell? a = some v → w'.cell? a = some v := fun {a v} hc => (hb.cell (World.block_lt_of_cell? w a hc)).trans hc
  obtain ⟨R, oR, cap, h1, h2⟩ := h
  exact ⟨R, oR, cap, k h1, fun i hi => ⟨k (h2 i hi).1, k (h2 i hi).2.1, k (h2 i hi).2.2.1, k (h2 i hi).2.2.2.1, k (h2 i hi).2.2.2.2⟩⟩
theorem Tab.below {w w' : World} (h : Tab w) (b : Below w.heap.size w w') : Tab w' := by
  have k : ∀ {a : Addr} {v : Value}, w.cell? a = some v → w'.cell? a = some v := fun {a v} hc => (b.cell (World.block_lt_of_cell? w a hc)).trans hc
  exact ⟨k h.k0, k h.k1, k h.k2, k h.k3, k h.k4, k h.k5, fun i s e => k (h.wd i s e), by obtain ⟨m, hm⟩ := h.ml; exact ⟨m, k hm⟩, CaseVar.below h.cv b, Utf8Tabs.below h.u8 b⟩
theorem Lay.rd_blk {α : Type} {L : Lay α} {w : World} {F : Nat → Prop} {g n : Nat} {t : TypeId} {vs : Array Value} {xs : List α} (h : Blk w g t vs) (hl : xs.length = n) (hr : L.reps w F xs vs.toList) (hF : F g) : L.rd w F (some ⟨g, 0, none⟩) n xs :=
  ⟨hl, vs.toList, hr, fun _ => ⟨⟨g, 0, none⟩, rfl, h.lt, hF, fun j u hu => by
    rw [show (⟨g, 0, none⟩ : Addr).add j = ⟨g, j, none⟩ from by unfold Addr.add; split <;> simp_all]
    rw [h.cell j]; simpa using hu⟩⟩
theorem LS_reps {w : World} {F : Nat → Prop} : ∀ (l : List ByteArray), LS.reps w F l (l.map fun s => .string s)
  | [] => rfl
  | s :: l => ⟨[.string s], l.map fun s => .string s, rfl, rfl, LS_reps l⟩
theorem LS_blk {w : World} {F : Nat → Prop} {g n : Nat} {t : TypeId} {l : List ByteArray} (h : Blk w g t (l.map fun s => Value.string s).toArray) (hl : l.length = n) (hF : F g) : LS.rd w F (some ⟨g, 0, none⟩) n l := Lay.rd_blk h hl (by simpa using LS_reps l) hF
end Go.Proofs.YthgcdilkkldgjaaDoor
