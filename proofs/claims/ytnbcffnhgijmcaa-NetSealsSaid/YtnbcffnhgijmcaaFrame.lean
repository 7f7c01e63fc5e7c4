/- Lemmas by which a statement of this seat is taken back to a walk: an argument that is a slice of bytes reads as a row of bytes; an argument that is a number lies within its kind. Conditions: none. -/
import Derived.Test.YtnbcffnhgijmcaaBytes
import Derived.ProofKit
import Derived.OpenShut
import Derived.ShutString
import Derived.ChangeOld
namespace Go.Proofs.Ytnbcffnhgijmcaa
open Go.ChangeShapes Go.WideShapes Go.ChangeAt Go.RowKit
theorem Try.own : ownKnob Try.prog.godebug = none := by kernel_rfl
theorem Try.laidOut : laidOutB Try.prog = true := by kernel_rfl
theorem rdB_of_cells {W : World} {x : Addr} {l c : Nat} {zs : List Int} (hl : l ≤ c) (hz : zs.length = c) (hcell : ∀ i, i < zs.length → W.cell? (x.add i) = some (.int .u8 (zs.getD i 0)))
    (hwz : ∀ n ∈ zs, (Lit.int .u8 n).wf = true) : RdB W (some x) l ((zs.take l).map fun n => UInt8.ofNat n.toNat) := by
  have hv : ∀ n ∈ zs, Value.int .u8 n = vb (UInt8.ofNat n.toNat) := by
    intro n hn
    have := hwz n hn
    simp [Lit.wf, IntKind.min, IntKind.max, IntKind.signed, IntKind.bits] at this
    unfold vb
    have h2 : ((UInt8.ofNat n.toNat).toNat : Int) = n := by simp; omega
    rw [h2]
  refine ⟨by simp; omega, fun h0 => ⟨x, rfl, ?_, fun j u hu => ?_⟩⟩
  · have h1 := hcell 0 (by omega)
    have := World.cell?_spot h1
    unfold World.cell? at h1
    rcases Nat.lt_or_ge x.block W.heap.size with h | h
    · exact h
    · rw [show (x.add 0).block = x.block from by unfold Addr.add; rfl, Array.getElem?_eq_none h] at h1
      cases h1
  · simp only [List.getElem?_map, Option.map_map, Option.map_eq_some_iff] at hu
    obtain ⟨n, hn, rfl⟩ := hu
    rw [List.getElem?_take] at hn
    split at hn
    · rename_i hj
      have hjz : j < zs.length := (List.getElem?_eq_some_iff.1 hn).1
      rw [hcell j hjz]
      have : zs.getD j 0 = n := by simp [List.getD, hn]
      rw [this]
      exact congrArg some (hv n (List.mem_of_getElem? hn))
    · cases hn
/-- A slice of bytes that came in. -/
theorem open_bytes {H : Type} {enc : TypeId × Value → H} {W : World} {A : Option Addr} {n c : Nat} {d : DataW H} {p : List MemPlace}
    (h : DataW.Trod enc Try.prog W 0 (fun _ => true) true 27 (.slice A n c) d p) : ∃ bs, RdB W A n bs ∧ n ≤ c ∧ c ≤ 9223372036854775807 := by
  obtain ⟨fuel, hf⟩ := h
  rcases open_ints Try.underlying27 Try.underlying5 (by kernel_rfl) hf with ⟨hcs, _⟩ | ⟨x, l, c', zs, hcs, _, hl, hm, hz, _, hcell, hwz⟩
  · simp [Value.cells] at hcs
    obtain ⟨rfl, rfl, rfl⟩ := hcs
    exact ⟨[], RdB.nil, Nat.le_refl _, by decide⟩
  · simp [Value.cells] at hcs
    obtain ⟨rfl, rfl, rfl⟩ := hcs
    exact ⟨_, rdB_of_cells hl (by simpa using hz) hcell hwz, hl, hm⟩
theorem wf_int {x : Int} (h : (Lit.int .i64 x).wf = true) : -9223372036854775808 ≤ x ∧ x ≤ 9223372036854775807 := by
  simp [Lit.wf, IntKind.min, IntKind.max, IntKind.signed, IntKind.bits] at h
  exact ⟨by omega, by omega⟩
theorem wf_u8 {x : Int} (h : (Lit.int .u8 x).wf = true) : 0 ≤ x ∧ x < 256 := by
  simp [Lit.wf, IntKind.min, IntKind.max, IntKind.signed, IntKind.bits] at h
  exact ⟨by omega, by omega⟩
theorem fwf_u64 {x : Int} (h : (Lit.int .u64 x).wf = true) : 0 ≤ x ∧ x < 18446744073709551616 := by
  simp [Lit.wf, IntKind.min, IntKind.max, IntKind.signed, IntKind.bits] at h
  exact ⟨by omega, by omega⟩
end Go.Proofs.Ytnbcffnhgijmcaa
