/- bowspritref06.Value, whole. Conditions: the value may be; its numbers lie within their kinds. -/
import Derived.Test.YtfpodalnnchnoaaCRVal
namespace Go.Proofs.Ytfpodalnnchnoaa
open Go.RowKit
theorem retN_eq {f : FuncId} {args : Array Value} {w : World} {bs cs : List UInt8} (h : Calls Try.prog f args w (retN w bs)) (e : bs = cs) : Calls Try.prog f args w (retN w cs) := by subst e; exact h
theorem rvalue_any (v : VV) (h : v.ok = true) (hu : uOk v) (w : World) : Calls Try.prog 15 #[.agg #[.int .i64 v.k, .int .i64 v.n, .int .u64 v.u, .string v.s]] w (retN w (valB v)) := by
  obtain ⟨k, n, u, s⟩ := v
  rcases ok_cases h with ⟨h1, h2, h3, h4⟩ | ⟨h1, h2, h3, h4⟩ | ⟨h1, h3, h4⟩ | ⟨h1, h2, h3, h4⟩ | ⟨h1, h4⟩ <;> simp only at h1
  · simp only at h2 h3 h4; subst h1 h2 h3 h4
    exact retN_eq (rval_0 w) (by simp [valB])
  · simp only at h2 h3 h4; subst h1 h3 h4
    exact retN_eq (rval_1 n h2 w) (by simp [valB])
  · simp only at h3 h4; subst h1 h3 h4
    exact retN_eq (rval_2 n w) (by simp [valB])
  · simp only at h2 h3 h4; subst h1 h2 h3
    exact retN_eq (rval_3 s h4 w) (by simp [valB])
  · simp only at h4; subst h1 h4
    obtain ⟨y, rfl⟩ := Int.eq_ofNat_of_zero_le hu.1
    have hy : y < 18446744073709551616 := by have := hu.2; simp only at this; omega
    have e : U64 (y : Int) = y := by have := u64_id hu; simp only at this; exact Int.ofNat.inj this
    exact retN_eq (rval_4 n y hy w) (by simp [valB, e])
end Go.Proofs.Ytfpodalnnchnoaa
