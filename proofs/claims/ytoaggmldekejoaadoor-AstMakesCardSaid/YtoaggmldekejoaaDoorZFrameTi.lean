/- The frame: rows of numbers as arguments. Conditions: none. -/
import Derived.Test.YtoaggmldekejoaaDoorPkM18
import Derived.Test.YtoaggmldekejoaaDoorZFrameT
namespace Go.Proofs.YtoaggmldekejoaaDoor
open Go.ChangeShapes Go.WideShapes Go.ChangeAt Go.RowKit Go.Deep
variable {H : Type} {enc : TypeId × Value → H}
set_option maxRecDepth 100000 in
theorem open_intl {W : World} {A : Option Addr} {n c : Nat} {d : DataW H} {p : List MemPlace} (h : DataW.Trod enc Tryd.prog W 0 (fun _ => true) true 22 (.slice A n c) d p) :
    ∃ xs, LZ.rd W AllB A n xs ∧ (∀ x ∈ xs, (Lit.int .i64 x).wf = true) ∧ n ≤ c ∧ c ≤ 9223372036854775807 := open_arg (opens_slice Tryd.underlying22 (by kernel_rfl) (by decide) (opens_int Tryd.underlying3 (by kernel_rfl))) h
end Go.Proofs.YtoaggmldekejoaaDoor
