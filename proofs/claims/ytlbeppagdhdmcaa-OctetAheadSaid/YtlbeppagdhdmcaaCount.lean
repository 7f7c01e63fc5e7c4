/- bytes.Count of one byte in eight bytes that are all 255: eight. Conditions: the slices read so. -/
import Derived.Test.YtlbeppagdhdmcaaWakes1
import Derived.Shelf.Bytes.SlCountOne
namespace Go.Proofs.Ytlbeppagdhdmcaa
open Go.RowKit
set_option maxHeartbeats 2000000 in
set_option maxRecDepth 100000 in
theorem count8 (g : Nat) (c g2 d : Nat) (w : World) (bs : List UInt8) (h : RdB w (some ⟨g, 0, none⟩) 8 bs) (hb : bs = [255, 255, 255, 255, 255, 255, 255, 255]) (hc2 : w.cell? ⟨g2, 0, none⟩ = some (.int .u8 255)) :
    Calls Try.prog 7 #[.slice (some ⟨g, 0, none⟩) 8 c, .slice (some ⟨g2, 0, none⟩) 1 d] w fun e w' => e = .returned (.int .i64 8) ∧ w = w' := by
  subst hb
  have hc : ∀ i, i < 8 → w.cell? ((⟨g, 0, none⟩ : Addr).add i) = some (.int .u8 (([255, 255, 255, 255, 255, 255, 255, 255] : List Int).getD i 0)) := by
    intro i hi
    obtain ⟨ad, e, _, hc⟩ := h.cellAt i hi
    injection e with e; subst e
    rw [hc]
    have : i = 0 ∨ i = 1 ∨ i = 2 ∨ i = 3 ∨ i = 4 ∨ i = 5 ∨ i = 6 ∨ i = 7 := by omega
    rcases this with rfl | rfl | rfl | rfl | rfl | rfl | rfl | rfl <;> rfl
  clear h
  go_enter Try.func7, Try.ntmps7
  go_wp2
  rw [run_callFunc_extern Try.func15 (by kernel_rfl) (by kernel_rfl) (by kernel_rfl) (e := Extern.BytealgCount.count) (by kernel_rfl), Lib.run_countAt w ⟨g, 0, none⟩ 8 c [255, 255, 255, 255, 255, 255, 255, 255] rfl hc 255]
  simp only [Result.andThen]
  rw [Oper.upon_value]
  go_wp2
  go_ret
  refine ⟨?_, rfl⟩
  show Ending.returned (.int .i64 (Lib.countByte (Lib.bytesOf [255, 255, 255, 255, 255, 255, 255, 255]) 255 : Nat)) = _
  rw [show Lib.countByte (Lib.bytesOf [255, 255, 255, 255, 255, 255, 255, 255]) 255 = 8 from by decide +kernel]
  rfl
end Go.Proofs.Ytlbeppagdhdmcaa
