/- bowspritlaw03.wakes answers true. Conditions: none. -/
import Derived.Test.YtdmfbmpllfkcaaaOpen
import Derived.Lib.SlBytesConst
namespace Go.Proofs.Ytdmfbmpllfkcaaa
open Go.RowKit
theorem RdB.lit (w : World) (bs : List UInt8) (cs : Array Value) (hc : cs = (bs.map vb).toArray) (t : TypeId) (n : Nat) (hn : n = bs.length) (fr : Nat × Nat) : RdB (w.alloc (.cells cs t fr)) (some ⟨w.heap.size, 0, none⟩) n bs := by
  subst hc hn
  refine ⟨by simp, fun _ => ⟨_, rfl, by simp, fun j u hu => ?_⟩⟩
  have hadd : (⟨w.heap.size, 0, none⟩ : Addr).add j = ⟨w.heap.size, j, none⟩ := by unfold Addr.add; split <;> simp_all
  rw [hadd, cell_of_row _ _ j _ t fr (heap_alloc_new w _)]
  simpa using hu
theorem wk1 : opened (sealed [7]) = [7] ∧ openErr (sealed [7]) = 0 ∧ opened [0, 0, 0, 1] = [] ∧ openErr [0, 0, 0, 1] = 130 ∧ Crc.sum [49, 50, 51, 52, 53, 54, 55, 56, 57] = 3808858755 := by decide +kernel
set_option maxRecDepth 100000 in
set_option maxHeartbeats 1000000 in
theorem wakes3_any (w : World) : Calls Try.prog 14 #[] w fun e w' => e = .returned (.bool true) ∧ Below w.heap.size w w' := by
  obtain ⟨k1, k2, k3, k4, k5⟩ := wk1
  have K1 := Lib.hid k1
  have K2 := Lib.hid k2
  have K4 := Lib.hid k4
  have K5 := Lib.hid k5
  clear k1 k2 k3 k4 k5
  have kc := fun (w : World) (C : Array Value) (n c : Nat) => Lib.run_convert_bytes_const (P := Try.prog) w 22 5 C n c Try.underlying22 Try.underlying5
  go_enter Try.func14, Try.ntmps14
  go_wp2_with fail
  have r0 := RdB.lit w [7] #[.int .u8 7] rfl 5 1 rfl (0, 0)
  have b0 : Below w.heap.size w (w.alloc (.cells #[.int .u8 7] 5)) := (Below.refl _ _).alloc (Nat.le_refl _) _
  generalize w.alloc (.cells #[.int .u8 7] 5) = w0 at *
  refine (seal_any _ 1 1 [7] w0 r0 (by omega)).mono ?_
  rintro e w1 ⟨A1, c1, rfl, ho1, hb1⟩
  have b1 := b0.trans (hb1.mono b0.size)
  have l1 := ho1.cap
  clear b0 r0 hb1
  go_wp2_with fail
  refine (open_any A1 _ c1 (sealed [7]) w1 ho1.rd (by omega) l1.1).mono ?_
  rintro e w2 ⟨A2, n2, c2, rfl, ho2, hb2⟩
  rw [K1.out] at ho2
  rw [K2.out]
  have hn2 : n2 = 1 := by have := ho2.1; simp at this; omega
  subst hn2
  have b2 := b1.trans (hb2.mono b1.size)
  clear l1 ho1 hb2 b1
  go_wp2_with fail
  have r2 := RdB.lit w2 [0, 0, 0, 1] #[.int .u8 0, .int .u8 0, .int .u8 0, .int .u8 1] rfl 5 4 rfl (0, 0)
  have o2 := ho2.alloc (.cells #[.int .u8 0, .int .u8 0, .int .u8 0, .int .u8 1] 5)
  have b3 := b2.alloc b2.size (.cells #[.int .u8 0, .int .u8 0, .int .u8 0, .int .u8 1] 5)
  clear ho2 b2
  generalize w2.alloc (.cells #[.int .u8 0, .int .u8 0, .int .u8 0, .int .u8 1] 5) = w3 at *
  refine (open_any _ 4 4 [0, 0, 0, 1] w3 r2 (by omega) (by omega)).mono ?_
  rintro e w4 ⟨A3, n3, c3, rfl, ho3, hb3⟩
  rw [K4.out]
  have o4 := o2.below hb3
  have b4 := b3.trans (hb3.mono b3.size)
  clear r2 o2 b3 ho3 hb3
  go_wp2_with fail
  have r4 := RdB.lit w4 [49, 50, 51, 52, 53, 54, 55, 56, 57] #[.int .u8 49, .int .u8 50, .int .u8 51, .int .u8 52, .int .u8 53, .int .u8 54, .int .u8 55, .int .u8 56, .int .u8 57] rfl 5 9 rfl (9, 10)
  have o5 := o4.alloc (.cells #[.int .u8 49, .int .u8 50, .int .u8 51, .int .u8 52, .int .u8 53, .int .u8 54, .int .u8 55, .int .u8 56, .int .u8 57] 5 (9, 10))
  have b5 := b4.alloc b4.size (.cells #[.int .u8 49, .int .u8 50, .int .u8 51, .int .u8 52, .int .u8 53, .int .u8 54, .int .u8 55, .int .u8 56, .int .u8 57] 5 (9, 10))
  clear o4 b4
  generalize w4.alloc (.cells #[.int .u8 49, .int .u8 50, .int .u8 51, .int .u8 52, .int .u8 53, .int .u8 54, .int .u8 55, .int .u8 56, .int .u8 57] 5 (9, 10)) = w5 at *
  refine (sum32_any _ 9 9 [49, 50, 51, 52, 53, 54, 55, 56, 57] w5 r4 (by omega)).mono ?_
  rintro e w6 ⟨rfl, hb6⟩
  rw [K5.out]
  have b6 := b5.trans (hb6.mono b5.size)
  obtain ⟨ad, rfl, _, hc⟩ := (o5.below hb6).rd.cellAt 0 (by omega)
  have hc' : w6.cell? ad = some (.int .u8 7) := by simpa [Addr.add, vb] using hc
  clear r4 o5 b5 hb6 hc
  go_wp2
  go_ret
  exact ⟨rfl, b6⟩
end Go.Proofs.Ytdmfbmpllfkcaaa
