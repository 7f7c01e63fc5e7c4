/- bowspritref02.Right. Conditions: a value of whatever fields. -/
import Derived.Test.YtabbiepafibmmaaDoorChk
namespace Go.Proofs.YtabbiepafibmmaaDoor
open Go.RowKit
set_option maxHeartbeats 2000000 in
theorem right_any (k n u : Int) (s : ByteArray) (w : World) : Calls Tryd.prog 13 #[.agg #[.int .i64 k, .int .i64 n, .int .u64 u, .string s]] w fun e w' => e = .returned (.bool (rightB k n u s)) ∧ Below w.heap.size w w' := by
  generalize hr : rightB k n u s = r
  have HR := Lib.hid hr
  clear hr
  go_enter Tryd.func13, Tryd.ntmps13
  go_wp2
  all_goals (go_ret; refine ⟨?_, (Below.refl _ _).alloc (Nat.le_refl _) _⟩; rw [← HR.out]; simp_all [rightB] <;> first | omega | grind)
end Go.Proofs.YtabbiepafibmmaaDoor
