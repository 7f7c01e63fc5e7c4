/- An argument that is a slice of numbers. Conditions: none. -/
import Derived.Test.YtemakmgppafccaaFrameV
import Derived.Test.YtemakmgppafccaaRdI
namespace Go.Proofs.Ytemakmgppafccaa
open Go.ChangeShapes Go.WideShapes Go.ChangeAt Go.RowKit Go.Deep
theorem rdI_of_cells {W : World} {x : Addr} {l c : Nat} {zs : List Int} (hl : l ≤ c) (hz : zs.length = c) (hcell : ∀ i, i < zs.length → W.cell? (x.add i) = some (.int .i64 (zs.getD i 0))) : RdI W (some x) l (zs.take l) := by
  refine ⟨by simp; omega, fun h0 => ⟨x, rfl, ?_, fun j u hu => ?_⟩⟩
  · have h1 := hcell 0 (by omega)
    unfold World.cell? at h1
    rcases Nat.lt_or_ge x.block W.heap.size with h | h
    · exact h
    · rw [show (x.add 0).block = x.block from by unfold Addr.add; rfl, Array.getElem?_eq_none h] at h1
      cases h1
  · simp only [List.getElem?_map, Option.map_eq_some_iff] at hu
    obtain ⟨n, hn, rfl⟩ := hu
    rw [List.getElem?_take] at hn
    split at hn
    · have hjz : j < zs.length := (List.getElem?_eq_some_iff.1 hn).1
      rw [hcell j hjz]
      have : zs.getD j 0 = n := by simp [List.getD, hn]
      rw [this]
    · cases hn
theorem open_i64s {H : Type} {enc : TypeId × Value → H} {W : World} {A : Option Addr} {n c : Nat} {d : DataW H} {p : List MemPlace}
    (h : DataW.Trod enc Try.prog W 0 (fun _ => true) true 34 (.slice A n c) d p) : ∃ zs, RdI W A n zs ∧ (∀ z ∈ zs, I64 z) ∧ n ≤ c ∧ c ≤ 9223372036854775807 := by
  obtain ⟨fuel, hf⟩ := h
  rcases open_ints Try.underlying34 Try.underlying2 (by kernel_rfl) hf with ⟨hcs, _⟩ | ⟨x, l, c', zs, hcs, _, hl, hm, hz, _, hcell, hwz⟩
  · simp [Value.cells] at hcs
    obtain ⟨rfl, rfl, rfl⟩ := hcs
    exact ⟨[], Reads.none_, by simp, Nat.le_refl _, by decide⟩
  · simp [Value.cells] at hcs
    obtain ⟨rfl, rfl, rfl⟩ := hcs
    refine ⟨_, rdI_of_cells hl (by simpa using hz) hcell, fun z hzz => ?_, hl, hm⟩
    have := wf_int (hwz z (List.mem_of_mem_take hzz))
    unfold I64
    omega
theorem open_intl {H : Type} {enc : TypeId × Value → H} {W : World} {A : Option Addr} {n c : Nat} {d : DataW H} {p : List MemPlace}
    (h : DataW.Trod enc Try.prog W 0 (fun _ => true) true 39 (.slice A n c) d p) : ∃ zs, RdI W A n zs ∧ (∀ z ∈ zs, I64 z) ∧ n ≤ c ∧ c ≤ 9223372036854775807 := by
  obtain ⟨fuel, hf⟩ := h
  rcases open_ints Try.underlying39 Try.underlying3 (by kernel_rfl) hf with ⟨hcs, _⟩ | ⟨x, l, c', zs, hcs, _, hl, hm, hz, _, hcell, hwz⟩
  · simp [Value.cells] at hcs
    obtain ⟨rfl, rfl, rfl⟩ := hcs
    exact ⟨[], Reads.none_, by simp, Nat.le_refl _, by decide⟩
  · simp [Value.cells] at hcs
    obtain ⟨rfl, rfl, rfl⟩ := hcs
    refine ⟨_, rdI_of_cells hl (by simpa using hz) hcell, fun z hzz => ?_, hl, hm⟩
    have := wf_int (hwz z (List.mem_of_mem_take hzz))
    unfold I64
    omega
end Go.Proofs.Ytemakmgppafccaa
