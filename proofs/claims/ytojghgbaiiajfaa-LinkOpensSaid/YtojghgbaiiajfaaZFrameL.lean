/- Arguments that are slices of numbers. Conditions: none. -/
import Derived.Test.YtojghgbaiiajfaaPkO15
import Derived.Test.YtojghgbaiiajfaaZLOpensL
import Derived.ProofKit
import Derived.OpenShut
import Derived.ShutString
import Derived.ChangeOld
import Derived.Deep.Slices
import Derived.Deep.Fields
import Derived.ChangeSame
namespace Go.Proofs.Ytojghgbaiiajfaa
open Go.ChangeShapes Go.WideShapes Go.ChangeAt Go.RowKit Go.Deep
theorem Try.own : ownKnob Try.prog.godebug = none := by kernel_rfl
theorem Try.laidOut : laidOutB Try.prog = true := by kernel_rfl
set_option maxRecDepth 100000 in
theorem opens_ints : Opens Try.prog 23 LI.slice (fun xs => ∀ x ∈ xs, (Lit.int .i64 x).wf = true) :=
  opens_slice Try.underlying23 (by kernel_rfl) (by decide) (opens_int Try.underlying3 (by kernel_rfl))
set_option maxRecDepth 100000 in
theorem opens_u32s : Opens Try.prog 22 LU.slice (fun xs => ∀ x ∈ xs, (Lit.int .u32 x).wf = true) :=
  opens_slice Try.underlying22 (by kernel_rfl) (by decide) (opens_int Try.underlying25 (by kernel_rfl))
theorem open_intl {H : Type} {enc : TypeId × Value → H} {W : World} {A : Option Addr} {n c : Nat} {d : DataW H} {p : List MemPlace} (h : DataW.Trod enc Try.prog W 0 (fun _ => true) true 23 (.slice A n c) d p) :
    ∃ xs, LI.rd W AllB A n xs ∧ (∀ x ∈ xs, (Lit.int .i64 x).wf = true) ∧ n ≤ c ∧ c ≤ 9223372036854775807 := open_arg opens_ints h
theorem open_u32l {H : Type} {enc : TypeId × Value → H} {W : World} {A : Option Addr} {n c : Nat} {d : DataW H} {p : List MemPlace} (h : DataW.Trod enc Try.prog W 0 (fun _ => true) true 22 (.slice A n c) d p) :
    ∃ xs, LU.rd W AllB A n xs ∧ (∀ x ∈ xs, (Lit.int .u32 x).wf = true) ∧ n ≤ c ∧ c ≤ 9223372036854775807 := open_arg opens_u32s h
end Go.Proofs.Ytojghgbaiiajfaa
