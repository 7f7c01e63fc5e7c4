/- Bytes stored into a slice of the call's own. Conditions: none. -/
import Derived.Test.YtfpodalnnchnoaaBytes
namespace Go.Proofs.Ytfpodalnnchnoaa
open Go.RowKit
section
variable {w w' : World} {A : Option Addr} {B n c : Nat} {bs : List UInt8}
theorem OwnB.len (h : OwnB w B A n c bs) : bs.length = n := by have := h.1; simpa using this
/-- What the call owns: at place i there is a cell, it is not frozen; stored into, the slice owns the new row. -/
theorem OwnB.at_ (h : OwnB w B A n c bs) (i : Nat) (hi : i < n) : ∃ g, A = some ⟨g, 0, none⟩ ∧ B ≤ g ∧ g < w.heap.size ∧ w.cell? ⟨g, i, none⟩ = some (vb (bs.getD i 0)) ∧ w.frozen? ⟨g, i, none⟩ = false ∧
    ∀ (b : UInt8) (v : Value), v = vb b → OwnB (w.setCell ⟨g, i, none⟩ v) B A n c (bs.set i b) := by
  have hl := h.len
  rcases h.2 with ⟨e, h0⟩ | ⟨g, cap, cur, e, hg, hh, r⟩
  · omega
  · injection e with e1 e2 e3
    subst e1 e3
    have hlt : g < w.heap.size := by
      rcases Nat.lt_or_ge g w.heap.size with h | h
      · exact h
      · rw [Array.getElem?_eq_none h] at hh; cases hh
    refine ⟨g, rfl, hg, hlt, ?_, World.ownsRow.frozenAt h i, fun b v hv => ?_⟩
    · rw [World.ownsRow.cellAt h i (by omega)]
      have hib : i < bs.length := by omega
      simp [List.getD, List.getElem?_eq_getElem hib]
    · subst hv
      have := (World.ownsRow.stored h i (vb b)).1
      unfold OwnB
      rw [List.map_set]
      exact this
theorem OwnB.far (h : OwnB w B A n c bs) {p : Addr} (hp : p.block < B) (v : Value) : OwnB (w.setCell p v) B A n c bs := ownsRow_setCell_below h hp v
end
end Go.Proofs.Ytfpodalnnchnoaa
