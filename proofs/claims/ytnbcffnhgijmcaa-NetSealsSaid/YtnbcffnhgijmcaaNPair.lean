/- Which may be two nodes: net.pair, bowspritref24.Pair. Conditions: none. -/
import Derived.Test.YtnbcffnhgijmcaaNPar
namespace Go.Proofs.Ytnbcffnhgijmcaa
open Go.RowKit
def pairB (f t : Int) : Bool := decide (0 ≤ f) && decide (f ≤ 8) && decide (0 ≤ t) && decide (t ≤ 8) && (f != t)
theorem ret_bool {a b : Bool} (h : a = b) : Ending.returned (.bool a) = .returned (.bool b) := by rw [h]
theorem dt {p : Prop} [Decidable p] (h : p) : decide p = true := decide_eq_true h
theorem df {p : Prop} [Decidable p] (h : ¬ p) : decide p = false := decide_eq_false h
set_option maxRecDepth 100000 in
theorem pair_any (f t : Int) (w : World) : Calls Try.prog 43 #[.int .i64 f, .int .i64 t] w fun e w' => e = .returned (.bool (pairB f t)) ∧ w = w' := by
  obtain ⟨r, hr⟩ : ∃ r, r = pairB f t := ⟨_, rfl⟩
  rw [← hr]
  have HR := Lib.hid hr
  clear hr
  go_enter Try.func43, Try.ntmps43
  go_wp2
  all_goals
    go_ret
    refine ⟨ret_bool ?_, rfl⟩
    rw [HR.out]
    unfold pairB
    simp [*]
  all_goals omega
set_option maxRecDepth 100000 in
theorem rpair_any (f t : Int) (w : World) : Calls Try.prog 45 #[.int .i64 f, .int .i64 t] w fun e w' => e = .returned (.bool (pairB f t)) ∧ w = w' := by
  obtain ⟨r, hr⟩ : ∃ r, r = pairB f t := ⟨_, rfl⟩
  rw [← hr]
  have HR := Lib.hid hr
  clear hr
  go_enter Try.func45, Try.ntmps45
  go_wp2
  all_goals
    go_ret
    refine ⟨ret_bool ?_, rfl⟩
    rw [HR.out]
    unfold pairB
    simp [*]
  all_goals omega
end Go.Proofs.Ytnbcffnhgijmcaa
