/- The frame: rows of trees as arguments. Conditions: none. -/
import Derived.Test.YtoaggmldekejoaaGreatDoorPkT17
import Derived.Test.YtoaggmldekejoaaGreatDoorZFrameT
namespace Go.Proofs.YtoaggmldekejoaaGreatDoor
open Go.ChangeShapes Go.WideShapes Go.ChangeAt Go.RowKit Go.Deep
variable {H : Type} {enc : TypeId × Value → H}
set_option maxRecDepth 100000 in
theorem open_trees {W : World} {A : Option Addr} {n c : Nat} {d : DataW H} {p : List MemPlace} (h : DataW.Trod enc Tryz.prog W 0 (fun _ => true) true 22 (.slice A n c) d p) :
    ∃ xs, LTr.rd W AllB A n xs ∧ (∀ x ∈ xs, ∀ z ∈ x, SmP z.p ∧ RgP z.p) ∧ n ≤ c ∧ c ≤ 9223372036854775807 := open_arg (opens_slice Tryz.underlying22 (by kernel_rfl) (by decide) opens_tree) h
end Go.Proofs.YtoaggmldekejoaaGreatDoor
