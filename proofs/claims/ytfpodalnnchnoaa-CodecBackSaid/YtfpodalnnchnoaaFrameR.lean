/- An argument that is a slice of rows. Conditions: none. -/
import Derived.Test.YtfpodalnnchnoaaFrameV
import Derived.Test.YtfpodalnnchnoaaCRows
import Derived.Test.YtfpodalnnchnoaaOpensB
namespace Go.Proofs.Ytfpodalnnchnoaa
open Go.ChangeShapes Go.WideShapes Go.ChangeAt Go.RowKit Go.Deep
theorem rng_of {k n u : Int} (h1 : (Lit.int .i64 n).wf = true) (h2 : (Lit.int .u64 u).wf = true) (s : ByteArray) : VV.rng ⟨k, n, u, s⟩ := by
  have b1 := wf_int h1
  have b2 := wf_u64 h2
  exact ⟨⟨b1.1, by have := b1.2; show n ≤ _; omega⟩, b2⟩
theorem opens_val : Opens Try.prog 24 LV VV.rng :=
  opens_as (opens_struct Try.underlying24 (by kernel_rfl)
    (opensAt_cons 0 3 (by kernel_rfl) (opens_int Try.underlying3 (by kernel_rfl))
      (opensAt_cons 1 2 (by kernel_rfl) (opens_int Try.underlying2 (by kernel_rfl))
        (opensAt_cons 2 22 (by kernel_rfl) (opens_int Try.underlying22 (by kernel_rfl))
          (opensAt_last 3 9 (by kernel_rfl) (opens_str Try.underlying9 (by kernel_rfl))))))) rfl
    (fun w a cs h g => by
      obtain ⟨k, n, u, s⟩ := a
      obtain ⟨_, _, rfl, rfl, _, _, rfl, rfl, _, _, rfl, rfl, rfl⟩ := h
      exact ⟨⟨k, n, u, s⟩, rfl, rng_of g.2.1 g.2.2.1 s⟩)
theorem opens_rows : Opens Try.prog 35 LR.slice (fun rows => ∀ r ∈ rows, ∀ v ∈ r, v.rng) :=
  opens_slice Try.underlying35 (by kernel_rfl) (by decide) (opens_slice Try.underlying27 (by kernel_rfl) (by decide) opens_val)
theorem open_rows {H : Type} {enc : TypeId × Value → H} {W : World} {A : Option Addr} {n c : Nat} {d : DataW H} {p : List MemPlace}
    (h : DataW.Trod enc Try.prog W 0 (fun _ => true) true 35 (.slice A n c) d p) : ∃ rows, LR.rd W AllB A n rows ∧ (∀ r ∈ rows, ∀ v ∈ r, v.rng) ∧ n ≤ c ∧ c ≤ 9223372036854775807 := open_arg opens_rows h
end Go.Proofs.Ytfpodalnnchnoaa
