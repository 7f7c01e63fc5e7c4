/- Names: the reference's IsName and what it calls. Conditions: none. -/
import Derived.Test.YtoaggmldekejoaaDoorAsD
import Derived.Lib.SlicesS
namespace Go.Proofs.YtoaggmldekejoaaDoor
open Go.RowKit
set_option maxRecDepth 100000 in
theorem lsmall_any (c : Int) (w : World) : Calls Tryd.prog 51 #[.int .i32 c] w fun e w' => e = .returned (.bool (smI c)) ∧ w = w' := by
  have HR := Lib.hid (show smI c = (decide (97 ≤ c) && decide (c ≤ 122)) from rfl)
  generalize smI c = r at *
  go_enter Tryd.func51, Tryd.ntmps51
  go_wp2
  all_goals
    go_ret
    exact ⟨by rw [HR.out]; simp [*] <;> omega, rfl⟩
set_option maxRecDepth 100000 in
theorem ldigit_any (c : Int) (w : World) : Calls Tryd.prog 54 #[.int .i32 c] w fun e w' => e = .returned (.bool (dgI c)) ∧ w = w' := by
  have HR := Lib.hid (show dgI c = (decide (48 ≤ c) && decide (c ≤ 57)) from rfl)
  generalize dgI c = r at *
  go_enter Tryd.func54, Tryd.ntmps54
  go_wp2
  all_goals
    go_ret
    exact ⟨by rw [HR.out]; simp [*] <;> omega, rfl⟩
theorem seq_iff (a b : ByteArray) : (a.toList == b.toList) = decide (a = b) := by
  rw [ByteArray.toList_eq, ByteArray.toList_eq, Bool.eq_iff_iff, beq_iff_eq, decide_eq_true_eq]
  constructor
  · intro h
    cases a; cases b
    simp only [Array.toList_inj] at h
    subst h; rfl
  · rintro rfl; rfl
end Go.Proofs.YtoaggmldekejoaaDoor
