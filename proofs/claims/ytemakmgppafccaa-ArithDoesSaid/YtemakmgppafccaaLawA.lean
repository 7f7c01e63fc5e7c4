/- bowspritlaw04.told, short. Conditions: none. -/
import Derived.Test.YtemakmgppafccaaSumAll
namespace Go.Proofs.Ytemakmgppafccaa
open Go.RowKit
set_option maxHeartbeats 1000000 in
theorem told_same (k n u : Int) (s : ByteArray) (e : Int) (w : World) : Calls Try.prog 12 #[.agg #[.int .i64 k, .int .i64 n, .int .u64 u, .string s], .int .i64 e, .agg #[.int .i64 k, .int .i64 n, .int .u64 u, .string s], .int .i64 e] w fun x w' => x = .returned (.bool true) ∧ Below w.heap.size w w' := by
  go_enter Try.func12, Try.ntmps12
  go_wp2
  go_ret
  exact ⟨rfl, bl_al (bl_al (Below.refl _ _) _) _⟩
/-- a text that is not too long -/
def cutS (s : ByteArray) : ByteArray := if s.size ≤ 41 then s else s.extract 0 41
def VV.short (v : VV) : VV := ⟨v.k, v.n, v.u, cutS v.s⟩
set_option maxHeartbeats 1000000 in
theorem short_any (k n u : Int) (s : ByteArray) (w : World) : Calls Try.prog 26 #[.agg #[.int .i64 k, .int .i64 n, .int .u64 u, .string s]] w fun x w' => x = .returned (.agg #[.int .i64 k, .int .i64 n, .int .u64 u, .string (cutS s)]) ∧ Below w.heap.size w w' := by
  by_cases hs : s.size ≤ 41
  · have h1 : (s.size : Int) ≤ 41 := by omega
    rw [show cutS s = s from by unfold cutS; rw [if_pos hs]]
    clear hs
    go_enter Try.func26, Try.ntmps26
    go_wp2
    exact bodyPost_ret (v := .agg #[.int .i64 k, .int .i64 n, .int .u64 u, .string s]) (by simp [results, Try.results26, go_sem]) rfl ⟨rfl, bl_al (bl_al (Below.refl _ _) _) _⟩
  · have h1 : 41 < (s.size : Int) := by omega
    rw [show cutS s = s.extract 0 41 from by unfold cutS; rw [if_neg hs]]
    clear hs
    go_enter Try.func26, Try.ntmps26
    go_wp2
    exact bodyPost_ret (v := .agg #[.int .i64 k, .int .i64 n, .int .u64 u, .string (s.extract 0 41)]) (by simp [results, Try.results26, go_sem]) rfl ⟨rfl, bl_al (bl_al (Below.refl _ _) _) _⟩
end Go.Proofs.Ytemakmgppafccaa
