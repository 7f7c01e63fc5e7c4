/- Two values compared by ==. Conditions: none. -/
import Derived.Test.YtabbiepafibmmaaDoorTab
namespace Go.Proofs.YtabbiepafibmmaaDoor
open Go.RowKit
def eqVV (v u : VV) : Bool := v.k == u.k && (v.n == u.n && (v.u == u.u && v.s.toList == u.s.toList))
theorem eqVV_iff (v u : VV) : eqVV v u = true ↔ v = u := by
  rcases v with ⟨k, n, x, ⟨⟨s⟩⟩⟩
  rcases u with ⟨k', n', x', ⟨⟨s'⟩⟩⟩
  simp [eqVV, ByteArray.toList_eq]
theorem run_eqVV (v u : VV) : ∀ W, (Op.equalIn 10000 28 (.agg #[.int .i64 v.k, .int .i64 v.n, .int .u64 v.u, .string v.s]) (.agg #[.int .i64 u.k, .int .i64 u.n, .int .u64 u.u, .string u.s])).run Tryd.prog W = .ok (eqVV v u) W := by
  intro W
  unfold eqVV
  rw [run_equalIn_agg W 9999 _ _ _ (by kernel_rfl) (by kernel_rfl)]
  go_simp
  by_cases h1 : v.k = u.k <;> by_cases h2 : v.n = u.n <;> by_cases h3 : v.u = u.u <;> by_cases h4 : v.s.toList = u.s.toList <;> simp [h1, h2, h3, h4]
end Go.Proofs.YtabbiepafibmmaaDoor
