/- value.Text, Bool, Plain, True, and the reference's Bool, Plain. Conditions: none. -/
import Derived.Test.YtoaggmldekejoaaDoorRight
import Derived.Test.YtoaggmldekejoaaDoorBlk2
namespace Go.Proofs.YtoaggmldekejoaaDoor
open Go.RowKit
theorem ibne_t {a b : Int} (h : a ≠ b) : (a != b) = true := by simpa using h
theorem ibne_f {a b : Int} (h : a = b) : (a != b) = false := by simpa using h
theorem ibeq_t {a b : Int} (h : a = b) : (a == b) = true := by simpa using h
theorem ibeq_f {a b : Int} (h : a ≠ b) : (a == b) = false := by simpa using h
def plainB (k n u : Int) (s : ByteArray) : Bool := rightB k n u s && k != 4
end Go.Proofs.YtoaggmldekejoaaDoor
