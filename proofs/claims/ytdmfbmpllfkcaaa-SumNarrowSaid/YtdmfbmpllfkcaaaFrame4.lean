/- An argument that is an array of four bytes. Conditions: none. -/
import Derived.Test.YtdmfbmpllfkcaaaFrame
import Derived.Lib.SmallJoins
namespace Go.Proofs.Ytdmfbmpllfkcaaa
open Go.ChangeShapes Go.WideShapes Go.ChangeAt Go.RowKit
theorem open_arr4 {H : Type} {enc : TypeId × Value → H} {W : World} {base : Nat} {v : Value} {d : DataW H} {p : List MemPlace} (hv : Value.okWide Try.prog W .any base 31 v)
    (h : DataW.Trod enc Try.prog W 0 (fun _ => true) true 31 v d p) : ∃ t0 t1 t2 t3 : UInt8, v = .agg #[vb t0, vb t1, vb t2, vb t3] := by
  simp only [Value.okWide, Try.underlying31] at hv
  obtain ⟨cs, rfl, hsz, _⟩ := hv
  rw [show Try.prog.cellsOf 31 = 4 from by kernel_rfl] at hsz
  obtain ⟨c0, c1, c2, c3, rfl⟩ := Joins.array4 hsz
  obtain ⟨fuel, hf⟩ := h
  obtain ⟨xs, m, _, hx, _, hlen, hg⟩ := DataW.trod_array Try.underlying31 hf
  have hc : Try.prog.cellsOf 5 = 1 := by kernel_rfl
  rw [hc] at hg
  have one : ∀ i c, i < 4 → ((Value.agg #[c0, c1, c2, c3]).cells.toList.drop (i * 1)).take 1 = [c] → ∃ t : UInt8, c = vb t := by
    intro i c hi he
    have h1 := hg i hi
    rw [he] at h1
    have hil : i < xs.length := by omega
    rw [List.getElem?_eq_getElem hil] at h1
    obtain ⟨a, e0, _, wa⟩ := DataW.trod_int Try.underlying5 h1
    injection e0 with e0
    subst e0
    obtain ⟨h2, h3⟩ := wf_u8 wa
    refine ⟨UInt8.ofNat a.toNat, ?_⟩
    unfold vb
    have : ((UInt8.ofNat a.toNat).toNat : Int) = a := by simp; omega
    rw [this]
  obtain ⟨t0, rfl⟩ := one 0 c0 (by omega) rfl
  obtain ⟨t1, rfl⟩ := one 1 c1 (by omega) rfl
  obtain ⟨t2, rfl⟩ := one 2 c2 (by omega) rfl
  obtain ⟨t3, rfl⟩ := one 3 c3 (by omega) rfl
  exact ⟨t0, t1, t2, t3, rfl⟩
end Go.Proofs.Ytdmfbmpllfkcaaa
