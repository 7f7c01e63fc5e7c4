/- value.quoted at one text. Conditions: none. -/
import Derived.Test.YtabbiepafibmmaaDoorTab
import Derived.WalkMore
namespace Go.Proofs.YtabbiepafibmmaaDoor
open Go.RowKit
set_option maxRecDepth 100000 in
set_option maxHeartbeats 4000000 in
theorem quoted_its (w : World) : Calls Tryd.prog 46 #[.string sQuo] w fun e w' => e = .returned (.tuple #[.string sIts, .bool true]) ∧ Below w.heap.size w w' := by
  go_enter Tryd.func46, Tryd.ntmps46
  go_wp2_with fail
  go_step3
  go_wp2_with fail
  refine (Tryd.strings_CutPrefix sQuo ⟨#[39]⟩ w).mono ?_
  rintro e w1 ⟨rfl, rfl⟩
  rw [show (⟨(Lib.trimPrefix sQuo.data.toList (⟨#[39]⟩ : ByteArray).data.toList).toArray⟩ : ByteArray) = ⟨#[105, 116, 39, 39, 115, 39]⟩ from by decide, show Lib.hasPrefix sQuo.data.toList (⟨#[39]⟩ : ByteArray).data.toList = true from by decide]
  have bb := bl_al (Below.refl w1.heap.size w1) (.cells #[.pointer none, .slice none 0 0] 81)
  have hb0 := Lib.fresh_isBuilder 81 5 w1
  go_wp2_with fail
  go_step3
  go_wp2_with fail
  generalize w1.alloc (.cells #[.pointer none, .slice none 0 0] 81) = w2 at *
  have HBB := Lib.hid (Nat.le_refl w1.heap.size)
  go_loopg [7] 6 (fun g s wr => ∃ (i : Nat) (l : List UInt8), (i = 0 ∧ l = [] ∨ i = 1 ∧ l = [105] ∨ i = 2 ∧ l = [105, 116] ∨ i = 4 ∧ l = [105, 116, 39] ∨ i = 5 ∧ l = [105, 116, 39, 115]) ∧ i + g ≤ 6 ∧ 6 ≤ i + g ∧ s = .int .i64 i ∧ Lib.IsBuilder 81 5 w1.heap.size w1.heap.size (Lib.byteCells l) wr ∧ Below w1.heap.size w1 wr)
  case atStart => exact ⟨0, [], by simp, by omega, by omega, rfl, hb0, bb⟩
  case round =>
    clear hb0 bb
    obtain ⟨i, l, hil, hi1, hi2, rfl, hb, bb⟩ := hrel
    have hsz := bb.size
    rcases hil with ⟨rfl, rfl⟩ | ⟨rfl, rfl⟩ | ⟨rfl, rfl⟩ | ⟨rfl, rfl⟩ | ⟨rfl, rfl⟩
    · have HB := Lib.hid hb
      clear hb
      go_wp2_with fail
      refine (writeByte_any w1.heap.size w1.heap.size _ 105 _ HB.out (by decide) hsz).mono ?_
      rintro e w3 ⟨rfl, h3, b3⟩
      have hb4 : Lib.IsBuilder 81 5 w1.heap.size w1.heap.size (Lib.byteCells [105]) w3 := Or.inr h3
      go_wp2_with fail
      go_roundg (gk - 1)
      · exact ⟨1, [105], by simp, by omega, by omega, by go_num, hb4, bb.trans b3⟩
      · omega
    · have HB := Lib.hid hb
      clear hb
      go_wp2_with fail
      refine (writeByte_any w1.heap.size w1.heap.size _ 116 _ HB.out (by decide) hsz).mono ?_
      rintro e w3 ⟨rfl, h3, b3⟩
      have hb4 : Lib.IsBuilder 81 5 w1.heap.size w1.heap.size (Lib.byteCells [105, 116]) w3 := Or.inr h3
      go_wp2_with fail
      go_roundg (gk - 1)
      · exact ⟨2, [105, 116], by simp, by omega, by omega, by go_num, hb4, bb.trans b3⟩
      · omega
    · have HB := Lib.hid hb
      clear hb
      go_wp2_with fail
      refine (writeByte_any w1.heap.size w1.heap.size _ 39 _ HB.out (by decide) hsz).mono ?_
      rintro e w3 ⟨rfl, h3, b3⟩
      have hb4 : Lib.IsBuilder 81 5 w1.heap.size w1.heap.size (Lib.byteCells [105, 116, 39]) w3 := Or.inr h3
      go_wp2_with fail
      go_roundg (gk - 2)
      · exact ⟨4, [105, 116, 39], by simp, by omega, by omega, by go_num, hb4, bb.trans b3⟩
      · omega
    · have HB := Lib.hid hb
      clear hb
      go_wp2_with fail
      refine (writeByte_any w1.heap.size w1.heap.size _ 115 _ HB.out (by decide) hsz).mono ?_
      rintro e w3 ⟨rfl, h3, b3⟩
      have hb4 : Lib.IsBuilder 81 5 w1.heap.size w1.heap.size (Lib.byteCells [105, 116, 39, 115]) w3 := Or.inr h3
      go_wp2_with fail
      go_roundg (gk - 1)
      · exact ⟨5, [105, 116, 39, 115], by simp, by omega, by omega, by go_num, hb4, bb.trans b3⟩
      · omega
    · have HB := Lib.hid hb
      clear hb
      go_wp2_with fail
      refine (Tryd.Builder_String_any w1.heap.size w1.heap.size [105, 116, 39, 115] _ HB.out hsz).mono ?_
      rintro e w3 ⟨rfl, b3⟩
      go_wp2
      rw [Exit.noGoto_ret]
      refine bodyPost_ret (v := .tuple #[.string sIts, .bool true]) (by simp [results, Tryd.results46, go_sem]; rfl) rfl ⟨rfl, ?_⟩
      exact (bb.trans b3)
end Go.Proofs.YtabbiepafibmmaaDoor
