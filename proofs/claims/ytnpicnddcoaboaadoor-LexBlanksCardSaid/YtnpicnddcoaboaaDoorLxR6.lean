/- The reference's Right, digits, Written. Conditions: texts of at most 1000 bytes. -/
import Derived.Test.YtnpicnddcoaboaaDoorLxR5
namespace Go.Proofs.YtnpicnddcoaboaaDoor
open Go.RowKit
theorem contains_signs (l : List UInt8) : Lib.containsS rsignsL (bS l) = decide (l ∈ signsU) := by
  have key : ∀ s ∈ signsU, Lib.containsS rsignsL (bS s) = true := by decide
  have e : ∀ x : List UInt8, bS l = bS x → l = x := fun x h => by have h9 := congrArg (fun s => s.data.toList) h; exact h9
  rw [Bool.eq_iff_iff, decide_eq_true_eq]
  refine ⟨fun h => ?_, fun h => key l h⟩
  have h := (Lib.containsS_iff _ _).1 h
  simp only [rsignsL, List.mem_cons, List.not_mem_nil, or_false] at h
  rcases h with h | h | h | h | h | h | h | h | h | h | h | h | h | h
  all_goals
    rw [e _ h]
    decide
theorem bS_empty {l : List UInt8} : (bS l).toList.isEmpty = decide (l = []) := by
  rw [ByteArray.toList_eq]
  cases l <;> rfl
end Go.Proofs.YtnpicnddcoaboaaDoor
