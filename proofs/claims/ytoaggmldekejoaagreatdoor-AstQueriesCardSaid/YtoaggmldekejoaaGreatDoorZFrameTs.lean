/- The frame: rows of trees as arguments. Conditions: none. -/
import Derived.Test.YtoaggmldekejoaaGreatDoorPkQ26
import Derived.Test.YtoaggmldekejoaaGreatDoorZFrameT
namespace Go.Proofs.YtoaggmldekejoaaGreatDoor
open Go.ChangeShapes Go.WideShapes Go.ChangeAt Go.RowKit Go.Deep
variable {H : Type} {enc : TypeId × Value → H}
end Go.Proofs.YtoaggmldekejoaaGreatDoor
