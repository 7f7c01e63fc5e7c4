/- Arguments that are rows of nets and of numbers. Conditions: none. -/
import Derived.Test.YtnbcffnhgijmcaaPkB15
import Derived.Test.YtnbcffnhgijmcaaZNTells
namespace Go.Proofs.Ytnbcffnhgijmcaa
open Go.ChangeShapes Go.WideShapes Go.ChangeAt Go.RowKit Go.Deep
set_option maxRecDepth 100000 in
theorem opens_nets : Opens Try.prog 66 LNt.slice (fun xs => ∀ a ∈ xs, U64r a.1 ∧ ∀ p ∈ a.2, p.rng) :=
  opens_slice Try.underlying66 (by kernel_rfl) (by decide) opens_net
theorem opens_ints : Opens Try.prog 67 LI.slice (fun xs => ∀ x ∈ xs, (Lit.int .i64 x).wf = true) :=
  opens_slice Try.underlying67 (by kernel_rfl) (by decide) (opens_int Try.underlying3 (by kernel_rfl))
theorem open_nets {H : Type} {enc : TypeId × Value → H} {W : World} {A : Option Addr} {n c : Nat} {d : DataW H} {p : List MemPlace} (h : DataW.Trod enc Try.prog W 0 (fun _ => true) true 66 (.slice A n c) d p) :
    ∃ xs, LNt.rd W AllB A n xs ∧ (∀ a ∈ xs, U64r a.1 ∧ ∀ p ∈ a.2, p.rng) ∧ n ≤ c ∧ c ≤ 9223372036854775807 := open_arg opens_nets h
theorem open_intl {H : Type} {enc : TypeId × Value → H} {W : World} {A : Option Addr} {n c : Nat} {d : DataW H} {p : List MemPlace} (h : DataW.Trod enc Try.prog W 0 (fun _ => true) true 67 (.slice A n c) d p) :
    ∃ xs, LI.rd W AllB A n xs ∧ (∀ x ∈ xs, (Lit.int .i64 x).wf = true) ∧ n ≤ c ∧ c ≤ 9223372036854775807 := open_arg opens_ints h
end Go.Proofs.Ytnbcffnhgijmcaa
