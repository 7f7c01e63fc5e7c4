/- An argument that is a value (a struct of four fields). Conditions: none. -/
import Derived.Test.YtfpodalnnchnoaaFrame
import Derived.Test.YtfpodalnnchnoaaCVal
import Derived.Lib.SmallJoins
namespace Go.Proofs.Ytfpodalnnchnoaa
open Go.ChangeShapes Go.WideShapes Go.ChangeAt Go.RowKit Go.Joins
theorem wf_i64' {x : Int} (h : (Lit.int .i64 x).wf = true) : -9223372036854775808 ≤ x ∧ x ≤ 9223372036854775807 := by
  simp [Lit.wf, IntKind.min, IntKind.max, IntKind.signed, IntKind.bits] at h
  exact ⟨by omega, by omega⟩
theorem wf_u64' {x : Int} (h : (Lit.int .u64 x).wf = true) : 0 ≤ x ∧ x < 18446744073709551616 := by
  simp [Lit.wf, IntKind.min, IntKind.max, IntKind.signed, IntKind.bits] at h
  exact ⟨by omega, by omega⟩
theorem open_val {H : Type} {enc : TypeId × Value → H} {W : World} {base : Nat} {v : Value} {d : DataW H} {p : List MemPlace} (hv : Value.okWide Try.prog W .any base 24 v)
    (h : DataW.Trod enc Try.prog W 0 (fun _ => true) true 24 v d p) : ∃ x : VV, v = .agg #[.int .i64 x.k, .int .i64 x.n, .int .u64 x.u, .string x.s] ∧ x.rng := by
  obtain ⟨v0, v1, v2, v3, y0, y1, y2, y3, n, rfl, _, _, ht0, ht1, ht2, ht3⟩ := open_agg4 Try.underlying24 (by kernel_rfl) (by kernel_rfl) hv h
  obtain ⟨x0, e0, _, w0⟩ := DataW.trod_int Try.underlying3 ht0
  obtain ⟨x1, e1, _, w1⟩ := DataW.trod_int Try.underlying2 ht1
  obtain ⟨x2, e2, _, w2⟩ := DataW.trod_int Try.underlying22 ht2
  obtain ⟨s, e3, _⟩ := DataW.trod_string Try.underlying9 ht3
  injection e0 with e0; injection e1 with e1; injection e2 with e2; injection e3 with e3
  subst e0 e1 e2 e3
  have b1 := wf_i64' w1
  have b2 := wf_u64' w2
  exact ⟨⟨x0, x1, x2, s⟩, rfl, b1, b2⟩
end Go.Proofs.Ytfpodalnnchnoaa
