/- bowspritlaw01.wakes answers true. Conditions: none. -/
import Derived.Test.YtlbeppagdhdmcaaUs
namespace Go.Proofs.Ytlbeppagdhdmcaa
open Go.RowKit
theorem RdB.lit (w : World) (bs : List UInt8) (cs : Array Value) (hc : cs = (bs.map vb).toArray) (t : TypeId) (n : Nat) (hn : n = bs.length) (fr : Nat × Nat) : RdB (w.alloc (.cells cs t fr)) (some ⟨w.heap.size, 0, none⟩) n bs := by
  subst hc hn
  refine ⟨by simp, fun _ => ⟨_, rfl, by simp, fun j u hu => ?_⟩⟩
  have hadd : (⟨w.heap.size, 0, none⟩ : Addr).add j = ⟨w.heap.size, j, none⟩ := by unfold Addr.add; split <;> simp_all
  rw [hadd, cell_of_row _ _ j _ t fr (heap_alloc_new w _)]
  simpa using hu
theorem wk1o : pkB [1, 2, 3] 0 0 2 = 3 ∧ pkO [1, 2, 3] 0 0 2 = true ∧ wv (rdO [1, 2, 3] 0 0 2) = 258 ∧ rdP [1, 2, 3] 0 0 2 = 2 ∧ rdW [1, 2, 3] 0 0 2 = 0 ∧
    pkO [1, 2, 3] 2 0 1 = false ∧ wv (rdO [1, 2, 3] 2 0 2) = 0 ∧ rdP [1, 2, 3] 2 0 2 = 2 ∧ rdW [1, 2, 3] 2 0 2 = 7 := by decide +kernel
theorem grown_below {a w w' : World} {R : Nat} {B : Nat} (h : Below B a w) (hg : w.grownBy w' (some R)) (hB : B ≤ w.heap.size) (hR : B ≤ R) : Below B a w' := h.grown hg hB (fun k e => by injection e with e; omega)
set_option maxRecDepth 100000 in
set_option maxHeartbeats 1000000 in
theorem wakes1_any (w : World) : Calls Try.prog 4 #[] w fun e w' => e = .returned (.bool true) ∧ Below w.heap.size w w' := by
  obtain ⟨k1, k2, k3, k4, k5, k6, k7, k8, k9⟩ := wk1o
  have K1 := Lib.hid k1; have K2 := Lib.hid k2; have K3 := Lib.hid k3; have K4 := Lib.hid k4; have K5 := Lib.hid k5; have K6 := Lib.hid k6; have K7 := Lib.hid k7; have K8 := Lib.hid k8; have K9 := Lib.hid k9
  clear k1 k2 k3 k4 k5 k6 k7 k8 k9
  go_enter Try.func4, Try.ntmps4
  go_wp2_with fail
  have r0 := RdB.lit w [1, 2, 3] #[.int .u8 1, .int .u8 2, .int .u8 3] rfl 5 3 rfl (0, 0)
  have b0 : Below w.heap.size w (w.alloc (.cells #[.int .u8 1, .int .u8 2, .int .u8 3] 5)) := (Below.refl _ _).alloc (Nat.le_refl _) _
  generalize w.alloc (.cells #[.int .u8 1, .int .u8 2, .int .u8 3] 5) = w0 at *
  refine (read_any _ 3 3 [1, 2, 3] w0 r0 (by omega)).mono ?_
  rintro e w1 ⟨R, O, c, rfl, hRB, _, hr, q1⟩
  have b1 := b0.trans (q1.mono b0.size)
  have hRw : w.heap.size ≤ R := Nat.le_trans b0.size hRB
  clear b0 r0 q1
  go_wp2_with fail
  refine (peek_any R O 3 c [1, 2, 3] 0 0 2 w1 hr (by omega) (by omega)).mono ?_
  rintro e w2 ⟨rfl, q, rfl⟩
  rw [K1.out, K2.out, show vb 3 = .int .u8 3 from rfl]
  replace hr := hr.drewN q
  have b2 := below_drewN b1 q
  clear b1
  generalize w1.drewN q = w2 at *
  go_wp2_with fail
  refine (u16_any R O 3 c [1, 2, 3] 0 0 w2 hr).mono ?_
  rintro e w3 ⟨rfl, hr3, g3⟩
  rw [K3.out]
  rw [K4.out, K5.out] at hr3
  have b3 := grown_below b2 g3 b2.size hRw
  clear b2 hr g3
  go_wp2_with fail
  refine (peek_any R O 3 c [1, 2, 3] 2 0 1 w3 hr3 (by omega) (by omega)).mono ?_
  rintro e w2 ⟨rfl, q2, rfl⟩
  rw [K6.out]
  replace hr3 := hr3.drewN q2
  have b4 := below_drewN b3 q2
  clear b3
  generalize w3.drewN q2 = w4 at *
  go_wp2_with fail
  refine (u16_any R O 3 c [1, 2, 3] 2 0 w4 hr3).mono ?_
  rintro e w5 ⟨rfl, hr5, g5⟩
  rw [K7.out]
  rw [K8.out, K9.out] at hr5
  have b5 := grown_below b4 g5 b4.size hRw
  clear b4 hr3 g5
  go_wp2_with fail
  refine (err_any R O 3 c [1, 2, 3] 2 7 w5 hr5).mono ?_
  rintro e w6 ⟨rfl, rfl⟩
  go_wp2_with fail
  refine (left_any R O 3 c [1, 2, 3] 2 7 w5 hr5).mono ?_
  rintro e w6 ⟨rfl, q6, rfl⟩
  have b6 := below_drewN b5 q6
  clear b5 hr5
  generalize w5.drewN q6 = w6 at *
  go_wp2_with fail
  have r6 := RdB.lit w6 [9] #[.int .u8 9] rfl 5 1 rfl (0, 0)
  have b7 := b6.alloc b6.size (.cells #[.int .u8 9] 5)
  clear b6
  generalize w6.alloc (.cells #[.int .u8 9] 5) = w7 at *
  refine (Put64_any _ 1 1 [9] 2 w7 r6 (by omega) (by decide)).mono ?_
  rintro e w8 ⟨A8, c8, rfl, _, q8⟩
  have b8 := b7.trans (q8.mono b7.size)
  clear b7 q8
  go_wp2
  go_ret
  exact ⟨rfl, b8⟩
end Go.Proofs.Ytlbeppagdhdmcaa
