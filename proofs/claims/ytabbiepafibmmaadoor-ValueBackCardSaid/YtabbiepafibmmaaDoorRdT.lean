/- Rows of texts and of numbers that came in. Conditions: none. -/
import Derived.Test.YtabbiepafibmmaaDoorFrameV
import Derived.Deep.Strs
namespace Go.Proofs.YtabbiepafibmmaaDoor
open Go.ChangeShapes Go.WideShapes Go.ChangeAt Go.RowKit Go.Deep
def RdT (w : World) (A : Option Addr) (n : Nat) (ss : List ByteArray) : Prop := Reads w w.heap.size 1 A n (ss.map Value.string)
def RdI (w : World) (A : Option Addr) (n : Nat) (zs : List Int) : Prop := Reads w w.heap.size 1 A n (zs.map (Value.int .i64))
theorem RdT.at_ {w : World} {A : Option Addr} {n k : Nat} {ss : List ByteArray} (h : RdT w A n ss) (hk : k < n) : ∃ ad s, A = some ad ∧ ss[k]? = some s ∧ w.cell? (ad.add k) = some (.string s) := by
  obtain ⟨ad, u, e, _, hu, hc⟩ := Reads.at_ h hk
  rw [List.getElem?_map] at hu
  cases hz : ss[k]? with
  | none => rw [hz] at hu; cases hu
  | some z =>
    rw [hz] at hu
    injection hu with hu
    subst hu
    exact ⟨ad, z, e, rfl, hc⟩
theorem RdI.at_ {w : World} {A : Option Addr} {n k : Nat} {zs : List Int} (h : RdI w A n zs) (hk : k < n) : ∃ ad z, A = some ad ∧ zs[k]? = some z ∧ w.cell? (ad.add k) = some (.int .i64 z) := by
  obtain ⟨ad, u, e, _, hu, hc⟩ := Reads.at_ h hk
  rw [List.getElem?_map] at hu
  cases hz : zs[k]? with
  | none => rw [hz] at hu; cases hu
  | some z =>
    rw [hz] at hu
    injection hu with hu
    subst hu
    exact ⟨ad, z, e, rfl, hc⟩
theorem RdT.below {w w' : World} {A : Option Addr} {n : Nat} {ss : List ByteArray} (h : RdT w A n ss) (hb : Below w.heap.size w w') : RdT w' A n ss := (Reads.below h hb).more hb.size
theorem RdI.below {w w' : World} {A : Option Addr} {n : Nat} {zs : List Int} (h : RdI w A n zs) (hb : Below w.heap.size w w') : RdI w' A n zs := (Reads.below h hb).more hb.size
theorem reads_of_cells {W : World} {x : Addr} {l c : Nat} {α : Type} (mk : α → Value) (d : α) {zs : List α} (hl : l ≤ c) (hz : zs.length = c) (hcell : ∀ i, i < zs.length → W.cell? (x.add i) = some (mk (zs.getD i d))) : Reads W W.heap.size 1 (some x) l ((zs.take l).map mk) := by
  refine ⟨by simp; omega, fun h0 => ⟨x, rfl, ?_, fun j u hu => ?_⟩⟩
  · have h1 := hcell 0 (by omega)
    unfold World.cell? at h1
    rcases Nat.lt_or_ge x.block W.heap.size with h | h
    · exact h
    · rw [show (x.add 0).block = x.block from by unfold Addr.add; rfl, Array.getElem?_eq_none h] at h1
      cases h1
  · simp only [List.getElem?_map, Option.map_eq_some_iff] at hu
    obtain ⟨n, hn, rfl⟩ := hu
    rw [List.getElem?_take] at hn
    split at hn
    · have hjz : j < zs.length := (List.getElem?_eq_some_iff.1 hn).1
      rw [hcell j hjz]
      have : zs.getD j d = n := by simp [List.getD, hn]
      rw [this]
    · cases hn
theorem open_i64s {H : Type} {enc : TypeId × Value → H} {W : World} {A : Option Addr} {n c : Nat} {d : DataW H} {p : List MemPlace}
    (h : DataW.Trod enc Tryd.prog W 0 (fun _ => true) true 40 (.slice A n c) d p) : ∃ zs, RdI W A n zs ∧ (∀ z ∈ zs, I64 z) ∧ n ≤ c ∧ c ≤ 9223372036854775807 := by
  obtain ⟨fuel, hf⟩ := h
  rcases open_ints Tryd.underlying40 Tryd.underlying2 (by kernel_rfl) hf with ⟨hcs, _⟩ | ⟨x, l, c', zs, hcs, _, hl, hm, hz, _, hcell, hwz⟩
  · simp [Value.cells] at hcs
    obtain ⟨rfl, rfl, rfl⟩ := hcs
    exact ⟨[], Reads.none_, by simp, Nat.le_refl _, by decide⟩
  · simp [Value.cells] at hcs
    obtain ⟨rfl, rfl, rfl⟩ := hcs
    refine ⟨_, reads_of_cells (Value.int .i64) 0 hl (by simpa using hz) hcell, fun z hzz => ?_, hl, hm⟩
    have := wf_int (hwz z (List.mem_of_mem_take hzz))
    unfold I64
    omega
theorem open_strs {H : Type} {enc : TypeId × Value → H} {W : World} {A : Option Addr} {n c : Nat} {d : DataW H} {p : List MemPlace}
    (h : DataW.Trod enc Tryd.prog W 0 (fun _ => true) true 23 (.slice A n c) d p) : ∃ ss, RdT W A n ss ∧ n ≤ c ∧ c ≤ 9223372036854775807 := by
  obtain ⟨fuel, hf⟩ := h
  rcases open_strings Tryd.underlying23 Tryd.underlying9 (by kernel_rfl) hf with ⟨hcs, _⟩ | ⟨x, l, c', zs, hcs, _, hl, hm, hz, _, hcell⟩
  · simp [Value.cells] at hcs
    obtain ⟨rfl, rfl, rfl⟩ := hcs
    exact ⟨[], Reads.none_, Nat.le_refl _, by decide⟩
  · simp [Value.cells] at hcs
    obtain ⟨rfl, rfl, rfl⟩ := hcs
    exact ⟨_, reads_of_cells Value.string ByteArray.empty hl (by simpa using hz) hcell.1, hl, hm⟩
end Go.Proofs.YtabbiepafibmmaaDoor
