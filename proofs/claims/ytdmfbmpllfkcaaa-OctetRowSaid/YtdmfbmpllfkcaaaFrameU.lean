/- An argument that is a slice of uint64. Conditions: none. -/
import Derived.Test.YtdmfbmpllfkcaaaFrame
import Derived.Test.YtdmfbmpllfkcaaaRow
namespace Go.Proofs.Ytdmfbmpllfkcaaa
open Go.ChangeShapes Go.WideShapes Go.ChangeAt Go.RowKit
theorem open_u64s {H : Type} {enc : TypeId × Value → H} {W : World} {A : Option Addr} {n c : Nat} {d : DataW H} {p : List MemPlace}
    (h : DataW.Trod enc Try.prog W 0 (fun _ => true) true 46 (.slice A n c) d p) : ∃ xs : List Nat, RdU W A n xs ∧ (∀ x ∈ xs, x < 2 ^ 64) ∧ n ≤ c ∧ c ≤ 9223372036854775807 := by
  obtain ⟨fuel, hf⟩ := h
  rcases open_ints Try.underlying46 Try.underlying37 (by kernel_rfl) hf with ⟨hcs, _⟩ | ⟨x, l, c', zs, hcs, _, hl, hm, hz, _, hcell, hwz⟩
  · simp [Value.cells] at hcs
    obtain ⟨rfl, rfl, rfl⟩ := hcs
    exact ⟨[], Reads.none_, by simp, Nat.le_refl _, by decide⟩
  · simp [Value.cells] at hcs
    obtain ⟨rfl, rfl, rfl⟩ := hcs
    simp only [if_true] at hz
    have hb : ∀ n ∈ zs, 0 ≤ n ∧ n < 18446744073709551616 := fun n hn => wf_u64 (hwz n hn)
    refine ⟨(zs.take n).map Int.toNat, ⟨by simp; omega, fun h0 => ⟨x, rfl, ?_, fun j u hu => ?_⟩⟩, ?_, hl, hm⟩
    · have h1 := hcell 0 (by omega)
      unfold World.cell? at h1
      rcases Nat.lt_or_ge x.block W.heap.size with h | h
      · exact h
      · rw [show (x.add 0).block = x.block from by unfold Addr.add; rfl, Array.getElem?_eq_none h] at h1
        cases h1
    · simp only [List.getElem?_map, Option.map_map, Option.map_eq_some_iff] at hu
      obtain ⟨m, hm, rfl⟩ := hu
      rw [List.getElem?_take] at hm
      split at hm
      · have hjz : j < zs.length := (List.getElem?_eq_some_iff.1 hm).1
        rw [hcell j hjz]
        have e : zs.getD j 0 = m := by simp [List.getD, hm]
        rw [e]
        have := (hb m (List.mem_of_getElem? hm)).1
        show some (Value.int .u64 m) = some (Value.int .u64 ((m.toNat : Nat) : Int))
        rw [Int.toNat_of_nonneg this]
      · cases hm
    · intro y hy
      obtain ⟨m, hm, rfl⟩ := List.mem_map.1 hy
      have := hb m (List.mem_of_mem_take hm)
      omega
end Go.Proofs.Ytdmfbmpllfkcaaa
