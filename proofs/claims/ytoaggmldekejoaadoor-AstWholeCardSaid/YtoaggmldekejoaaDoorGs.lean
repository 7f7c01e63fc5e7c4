/- Regions walked in one order, whether they draw or not; operations that are wanted or not by a truth that stands open. Conditions: none. -/
import Derived.Test.YtoaggmldekejoaaDoorPs
import Derived.Deep.Cut
namespace Go.Proofs.YtoaggmldekejoaaDoor
open Go.RowKit
section
variable {P : Program} {ops : Array Oper} {Q : Exit → Act → World → Prop}
/-- a region that does not draw, as one that does: the text's order is one of those -/
theorem wp_region_ps0 {id : Nat} {a : Act} {w : World} (md : Region.Mode) (S : Array Bool → (Nat → Value) → World → Prop)
    (hlin : Region.linearise.go md ops ops.size 0 (Array.replicate ops.size false) [] = List.range ops.size) (hS : S (Array.replicate ops.size false) (fun _ => undef) w)
    (h : Ps P md ops Q S ops.size (fun _ => undef) (Array.replicate ops.size false) a) : (Code.region id ops false).wp P Q a w :=
  wp_region (by
    rw [← hlin]
    exact wpAny_sound ops.size 0 _ a w (wpAny_of_ps _ _ _ _ (fun j o ho hj => by
      exfalso
      unfold Dn at hj
      have hjl : j < ops.size := (Array.getElem?_eq_some_iff.1 ho).1
      simp [hjl] at hj) h _ hS))
end
end Go.Proofs.YtoaggmldekejoaaDoor
