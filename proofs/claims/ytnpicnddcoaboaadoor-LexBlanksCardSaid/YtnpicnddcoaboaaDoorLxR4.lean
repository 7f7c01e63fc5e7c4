/- The reference's One at signs, and whole. Conditions: texts of at most 100000 bytes, a place within. -/
import Derived.Test.YtnpicnddcoaboaaDoorLxR3
namespace Go.Proofs.YtnpicnddcoaboaaDoor
open Go.RowKit
def SgV (W0 : World) (v : Value) (w' : World) : Prop := (∀ g : Nat, v = .slice (some ⟨g, 0, none⟩) 14 14 → LS.rd w' AllB (some ⟨g, 0, none⟩) 14 rsignsL) ∧ Below W0.heap.size W0 w'
theorem SgV.mk {W0 w' : World} {g : Nat} (hr : LS.rd w' AllB (some ⟨g, 0, none⟩) 14 rsignsL) (hb : Below W0.heap.size W0 w') : SgV W0 (.slice (some ⟨g, 0, none⟩) 14 14) w' := ⟨fun g' e => by cases e; exact hr, hb⟩
theorem sgn_some {l s : List UInt8} (h : sgU l = some s) : sgnT l = (⟨5, 0, s, 0⟩, s.length, true) := by unfold sgnT; rw [h]
theorem sgn_no {l : List UInt8} (h : sgU l = none) : (sgnT l).2.2 = false := by unfold sgnT; rw [h]
theorem ext_two {s : ByteArray} {i : Nat} {b c : UInt8} (h : s.data.toList[i]? = some b) (h2 : s.data.toList[i + 1]? = some c) : (s.extract i (i + 2)).data.toList = [b, c] := by
  rw [Lib.extract_data, show i + 2 - i = 2 from by omega, drop_at h, drop_at h2]
  rfl
end Go.Proofs.YtnpicnddcoaboaaDoor
