/- The table of the checksum as cells of memory, and how it is filled. Conditions: none. -/
import Derived.Test.YtnbcffnhgijmcaaMem
import Derived.Test.YtnbcffnhgijmcaaCrc
import Derived.Deep.WholeRow
namespace Go.Proofs.Ytnbcffnhgijmcaa
open Go.RowKit
/-- the cells of a table of 256 numbers -/
def tabCells (T : Nat → Nat) : Array Value := ((List.range 256).map fun i => Value.int .u32 (T i)).toArray
def tupd (T : Nat → Nat) (n v : Nat) : Nat → Nat := fun i => if i = n then v else T i
theorem tabCells_size (T : Nat → Nat) : (tabCells T).size = 256 := by simp [tabCells]
theorem tabCells_get (T : Nat → Nat) (i : Nat) (h : i < 256) : (tabCells T)[i]? = some (.int .u32 (T i)) := by simp [tabCells, h]
theorem tabCells_set (T : Nat → Nat) (n v : Nat) (u : Value) (hu : u = .int .u32 (v : Nat)) : (tabCells T).setIfInBounds n u = tabCells (tupd T n v) := by
  subst hu
  apply Array.ext_getElem?
  intro i
  rw [Array.getElem?_setIfInBounds]
  by_cases hi : i < 256
  · rw [tabCells_get _ _ hi, tabCells_get _ _ hi, tabCells_size]
    unfold tupd
    by_cases h : n = i
    · subst h; simp [hi]
    · have : ¬ i = n := fun e => h e.symm
      simp [h, this]
  · have h1 : (tabCells T)[i]? = none := Array.getElem?_eq_none (by rw [tabCells_size]; omega)
    have h2 : (tabCells (tupd T n v))[i]? = none := Array.getElem?_eq_none (by rw [tabCells_size]; omega)
    rw [h1, h2]
    split
    · rw [if_neg (by rw [tabCells_size]; omega)]
    · rfl
theorem tabCells_one (T : Nat → Nat) : (tabCells T).all (·.oneCell') = true := by
  simp [tabCells, Value.oneCell']
def pows : List Nat := [128, 64, 32, 16, 8, 4, 2, 1]
def PowRight (n : Nat) (T : Nat → Nat) : Prop := ∀ p ∈ pows, n < p → T p = Crc.step8 p
theorem pow_start : PowRight 64 (tupd (fun _ => 0) 128 2197175160) := by
  intro p hp h
  simp only [pows, List.mem_cons, List.not_mem_nil, or_false] at hp
  rcases hp with rfl | rfl | rfl | rfl | rfl | rfl | rfl | rfl <;> first | omega | decide +kernel
theorem pow_round (n : Nat) (hn : n ∈ [64, 32, 16, 8, 4, 2, 1]) (T : Nat → Nat) (h : PowRight n T) : PowRight (n / 2) (tupd T n (Crc.step (T (2 * n)))) := by
  have h2 : T (2 * n) = Crc.step8 (2 * n) := h _ (by simp only [List.mem_cons, List.not_mem_nil, or_false] at hn; rcases hn with rfl | rfl | rfl | rfl | rfl | rfl | rfl <;> decide) (by
    simp only [List.mem_cons, List.not_mem_nil, or_false] at hn; omega)
  have h3 : Crc.step (Crc.step8 (2 * n)) = Crc.step8 n := by unfold Crc.step8; rw [Crc.step_even]
  intro p hp hlt
  unfold tupd
  split
  · rename_i e; subst e; rw [h2, h3]
  · rename_i e
    refine h p hp ?_
    simp only [List.mem_cons, List.not_mem_nil, or_false] at hn
    simp only [pows, List.mem_cons, List.not_mem_nil, or_false] at hp
    omega
/-- the second filling: all below n + low are right, and the powers of two -/
theorem fill_round (n low : Nat) (hn : n ∈ [2, 4, 8, 16, 32, 64, 128]) (hl : low < n) (T : Nat → Nat) (hp : PowRight 0 T) (h : ∀ i, i < n + low → T i = Crc.step8 i) :
    PowRight 0 (tupd T (n + low) (T n ^^^ T low)) ∧ ∀ i, i < n + low + 1 → tupd T (n + low) (T n ^^^ T low) i = Crc.step8 i := by
  have hnp : T n = Crc.step8 n := hp n (by
    simp only [List.mem_cons, List.not_mem_nil, or_false] at hn
    simp only [pows, List.mem_cons, List.not_mem_nil, or_false]; omega) (by simp only [List.mem_cons, List.not_mem_nil, or_false] at hn; omega)
  have hx : n ^^^ low = n + low := by
    have : ∀ n ∈ [2, 4, 8, 16, 32, 64, 128], ∀ low, low < n → n ^^^ low = n + low := by decide +kernel
    exact this n hn low hl
  have hv : T n ^^^ T low = Crc.step8 (n + low) := by rw [hnp, h low (by omega), ← Crc.step8_xor, hx]
  rw [hv]
  refine ⟨fun p hp' h0 => ?_, fun i hi => ?_⟩
  · unfold tupd; split
    · rename_i e; rw [e]
    · exact hp p hp' h0
  · unfold tupd; split
    · rename_i e; rw [e]
    · exact h i (by omega)
theorem zero_step8 : Crc.step8 0 = 0 := by decide
theorem one_below (T : Nat → Nat) (hp : PowRight 0 T) (h0 : T 0 = 0) : ∀ i, i < 2 → T i = Crc.step8 i := by
  intro i hi
  have : i = 0 ∨ i = 1 := by omega
  rcases this with rfl | rfl
  · rw [h0, zero_step8]
  · exact hp 1 (by decide) (by omega)
end Go.Proofs.Ytnbcffnhgijmcaa
