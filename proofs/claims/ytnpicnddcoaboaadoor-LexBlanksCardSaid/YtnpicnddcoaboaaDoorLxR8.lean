/- The reference's Same. Conditions: the slices read so. -/
import Derived.Test.YtnpicnddcoaboaaDoorLxR7
import Derived.Test.YtnpicnddcoaboaaDoorApp
namespace Go.Proofs.YtnpicnddcoaboaaDoor
open Go.RowKit
/-- are they the same, but for their places? -/
def sameU (a b : List Tk) : Bool := decide (a.map noAt = b.map noAt)
theorem noAt_eq {x y : Tk} : (noAt x = noAt y) ↔ x.kind = y.kind ∧ x.text = y.text ∧ x.n = y.n := by
  obtain ⟨k, a, t, n⟩ := x
  obtain ⟨k2, a2, t2, n2⟩ := y
  simp [noAt]
theorem seq_text (a b : List UInt8) : ((bS a).toList == (bS b).toList) = decide (a = b) := by
  rw [ByteArray.toList_eq, ByteArray.toList_eq, Bool.eq_iff_iff, beq_iff_eq, decide_eq_true_eq]
end Go.Proofs.YtnpicnddcoaboaaDoor
