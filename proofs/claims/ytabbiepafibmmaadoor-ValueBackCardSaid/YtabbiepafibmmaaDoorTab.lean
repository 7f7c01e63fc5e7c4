/- What the tables hold; value.Print at one text. Conditions: the tables. -/
import Derived.Test.YtabbiepafibmmaaDoorWb
namespace Go.Proofs.YtabbiepafibmmaaDoor
open Go.RowKit
def sFalse : ByteArray := ⟨#[70, 65, 76, 83, 69]⟩
def sNull : ByteArray := ⟨#[78, 85, 76, 76]⟩
def sTrue : ByteArray := ⟨#[84, 82, 85, 69]⟩
/-- the tables that the layer reads -/
def Tab (w : World) : Prop := Tru w ∧ (2 < w.heap.size ∧ ∃ m, w.cell? ⟨2, 0, none⟩ = some (.int .i64 m)) ∧
  (w.cell? ⟨0, 0, none⟩ = some (.string sFalse) ∧ w.cell? ⟨0, 1, none⟩ = some (.string sNull) ∧ w.cell? ⟨0, 2, none⟩ = some (.string sTrue)) ∧
  ∃ tp p, World.var? Tryd.prog w "strconv.ErrSyntax" = some #[.iface tp p]
theorem var_below {w w' : World} (b : Below w.heap.size w w') {n : String} {cs : Array Value} (h : World.var? Tryd.prog w n = some cs) : World.var? Tryd.prog w' n = some cs := by
  unfold World.var? at *
  cases hg : Tryd.prog.globalNamed n with
  | none => rw [hg] at h; cases h
  | some g =>
    rw [hg] at h
    simp only [Option.bind_some] at *
    have hlt : g < w.heap.size := by
      rcases Nat.lt_or_ge g w.heap.size with h1 | h1
      · exact h1
      · rw [Array.getElem?_eq_none h1] at h; cases h
    rw [b.block g hlt]
    exact h
theorem Tab.below {w w' : World} (h : Tab w) (b : Below w.heap.size w w') : Tab w' := by
  obtain ⟨h1, ⟨h2, m, hm⟩, ⟨w0, w1, w2⟩, tp, p, hv⟩ := h
  exact ⟨h1.below b, ⟨Nat.lt_of_lt_of_le h2 b.size, m, (b.cell h2).trans hm⟩, ⟨(b.cell (show 0 < _ by omega)).trans w0, (b.cell (show 0 < _ by omega)).trans w1, (b.cell (show 0 < _ by omega)).trans w2⟩, tp, p, var_below b hv⟩
def sIts : ByteArray := ⟨#[105, 116, 39, 115]⟩
def sQuo : ByteArray := ⟨#[39, 105, 116, 39, 39, 115, 39]⟩
set_option maxRecDepth 100000 in
set_option maxHeartbeats 2000000 in
theorem print_its (w : World) (hT : Tab w) : Calls Tryd.prog 12 #[.agg #[.int .i64 3, .int .i64 0, .int .u64 0, .string sIts]] w fun e w' => e = .returned (.tuple #[.string sQuo, .int .i64 0]) ∧ Below w.heap.size w w' := by
  have hV := Blk.new w 28 #[.int .i64 3, .int .i64 0, .int .u64 0, .string sIts]
  have bb := bl_al (Below.refl w.heap.size w) (.cells #[.int .i64 3, .int .i64 0, .int .u64 0, .string sIts] 28)
  replace hT := hT.below bb
  go_enter Tryd.func12, Tryd.ntmps12
  go_wp2_with fail
  generalize w.alloc (.cells #[.int .i64 3, .int .i64 0, .int .u64 0, .string sIts] 28) = w1 at *
  refine (check_y 3 0 0 sIts (by decide) w1).mono ?_
  rintro e w2 ⟨rfl, q2⟩
  replace hT := hT.below q2
  replace hV := hV.ca q2
  replace bb := bl_ca bb q2
  clear q2
  have v0 : w2.cell? ⟨w.heap.size, 0, none⟩ = some (.int .i64 3) := hV.cell 0
  have v3 : w2.cell? ⟨w.heap.size, 3, none⟩ = some (.string sIts) := hV.cell 3
  obtain ⟨_, ⟨_, m, hm⟩, _⟩ := hT
  go_wp2_with fail
  refine (Tryd.strings_ReplaceAll sIts ⟨#[39]⟩ ⟨#[39, 39]⟩ m w2 (by decide) hm (by decide) (by decide)).mono ?_
  rintro e w3 ⟨rfl, q3⟩
  rw [show (⟨(Lib.replaceAll sIts.data.toList (⟨#[39]⟩ : ByteArray).data.toList (⟨#[39, 39]⟩ : ByteArray).data.toList).toArray⟩ : ByteArray) = ⟨#[105, 116, 39, 39, 115]⟩ from by decide]
  replace bb := bl_ca bb q3
  clear q3 v0 v3 hm
  go_wp2
  refine bodyPost_ret (v := .tuple #[.string sQuo, .int .i64 0]) (by simp [results, Tryd.results12, go_sem]; rfl) rfl ⟨rfl, bb⟩
end Go.Proofs.YtabbiepafibmmaaDoor
