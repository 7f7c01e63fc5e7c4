/- Arguments: a slice of acts. Conditions: none. -/
import Derived.Test.YtojghgbaiiajfaaPkS26
namespace Go.Proofs.Ytojghgbaiiajfaa
open Go.ChangeShapes Go.WideShapes Go.ChangeAt Go.RowKit Go.Deep
set_option maxRecDepth 100000 in
theorem opens_act : Opens Try.prog 49 LA10 (fun _ => True) :=
  opens_as (opens_struct Try.underlying49 (by kernel_rfl)
    (opensAt_cons 0 3 (by kernel_rfl) (opens_int Try.underlying3 (by kernel_rfl))
    (opensAt_cons 1 43 (by kernel_rfl) opens_rows
    (opensAt_cons 2 47 (by kernel_rfl) opens_packet
      (opensAt_last 3 4 (by kernel_rfl) (opens_bool Try.underlying4 (by kernel_rfl))))))) rfl
    (fun w a cs h g => by
      obtain ⟨kind, rows, pk, near⟩ := a
      obtain ⟨_, _, rfl, rfl, _, _, rfl, ⟨R, rn, rc, rfl, g1, g2, gr⟩, _, _, rfl, ⟨A, n, c, rfl, h1, h2, hr⟩, rfl⟩ := h
      exact ⟨⟨kind, rows, pk, near⟩, ⟨R, rn, rc, A, n, c, rfl, g1, g2, h1, h2, gr, hr⟩, trivial⟩)
theorem opens_acts : Opens Try.prog 41 LA10.slice (fun xs => ∀ x ∈ xs, True) := opens_slice Try.underlying41 (by kernel_rfl) (by decide) opens_act
theorem open_acts {H : Type} {enc : TypeId × Value → H} {W : World} {A : Option Addr} {n c : Nat} {d : DataW H} {p : List MemPlace} (h : DataW.Trod enc Try.prog W 0 (fun _ => true) true 41 (.slice A n c) d p) :
    ∃ xs, LA10.rd W AllB A n xs ∧ (∀ x ∈ xs, True) ∧ n ≤ c ∧ c ≤ 9223372036854775807 := open_arg opens_acts h
end Go.Proofs.Ytojghgbaiiajfaa
