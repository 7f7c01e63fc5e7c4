/- Arguments: a slice of what is done to a receiver. Conditions: none. -/
import Derived.Test.YtojghgbaiiajfaaPkH27
namespace Go.Proofs.Ytojghgbaiiajfaa
open Go.ChangeShapes Go.WideShapes Go.ChangeAt Go.RowKit Go.Deep
set_option maxRecDepth 100000 in
theorem opens_heard : Opens Try.prog 71 LHD (fun _ => True) :=
 opens_as (opens_struct Try.underlying71 (by kernel_rfl)
  (opensAt_cons 0 4 (by kernel_rfl) (opens_bool Try.underlying4 (by kernel_rfl))
  (opensAt_cons 1 4 (by kernel_rfl) (opens_bool Try.underlying4 (by kernel_rfl))
   (opensAt_last 2 47 (by kernel_rfl) opens_packet)))) rfl
  (fun w a cs h g => by
   obtain ⟨take, near, pk⟩ := a
   obtain ⟨_, _, rfl, rfl, _, _, rfl, rfl, A, n, c, rfl, h1, h2, hr⟩ := h
   exact ⟨⟨take, near, pk⟩, ⟨A, n, c, rfl, h1, h2, hr⟩, trivial⟩)
theorem opens_heards : Opens Try.prog 69 LHD.slice (fun xs => ∀ x ∈ xs, True) := opens_slice Try.underlying69 (by kernel_rfl) (by decide) opens_heard
theorem open_heards {H : Type} {enc : TypeId × Value → H} {W : World} {A : Option Addr} {n c : Nat} {d : DataW H} {p : List MemPlace} (h : DataW.Trod enc Try.prog W 0 (fun _ => true) true 69 (.slice A n c) d p) :
 ∃ xs, LHD.rd W AllB A n xs ∧ (∀ x ∈ xs, True) ∧ n ≤ c ∧ c ≤ 9223372036854775807 := open_arg opens_heards h
end Go.Proofs.Ytojghgbaiiajfaa
