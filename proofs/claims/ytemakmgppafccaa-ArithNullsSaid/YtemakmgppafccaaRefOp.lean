/- bowspritref04.Do: the operators. Conditions: numbers within their kind. -/
import Derived.Test.YtemakmgppafccaaRefDo
import Derived.Deep.DrawnRows
import Derived.Test.YtemakmgppafccaaBigQuot
namespace Go.Proofs.Ytemakmgppafccaa
open Go.RowKit Go.Proofs.Big
set_option maxHeartbeats 1000000 in
theorem rint_any (n : Int) (w : World) : Calls Try.prog 33 #[.int .i64 n] w fun e w' => e = .returned (.agg #[.int .i64 2, .int .i64 n, .int .u64 0, .string ⟨#[]⟩]) ∧ Below w.heap.size w w' := by
  go_enter Try.func33, Try.ntmps33
  go_wp2
  exact bodyPost_ret (v := .agg #[.int .i64 2, .int .i64 n, .int .u64 0, .string ⟨#[]⟩]) (by simp [results, Try.results33, go_sem]) rfl ⟨rfl, (Below.refl _ _).alloc (Nat.le_refl _) _⟩
/-- what a number comes to -/
def outR (z : Int) : VV × Int := if smallB z then (VI z, 0) else (V0, 140)
attribute [local go_sem ↓] Go.wp_at_zero Go.wp_at_succ
set_option maxRecDepth 100000 in
set_option maxHeartbeats 4000000 in
theorem refop_add (a b : VV) (w : World) (hra : rightB a.k a.n a.u a.s = true) (hrb : rightB b.k b.n b.u b.s = true) (hta : (rightB a.k a.n a.u a.s && kindB 2 a.k) = true) (htb : (rightB b.k b.n b.u b.s && kindB 2 b.k) = true) (hk : (a.k == 0) = false) (hk2 : (b.k == 0) = false) (ia : I64 a.n) (ib : I64 b.n) : Calls Try.prog 25 #[.int .u8 43, .agg #[.int .i64 a.k, .int .i64 a.n, .int .u64 a.u, .string a.s], .agg #[.int .i64 b.k, .int .i64 b.n, .int .u64 b.u, .string b.s]] w fun e w' => e = .returned (resT (outR (a.n + b.n))) ∧ Below w.heap.size w w' := by
  have hz8 : (a.n + b.n).natAbs < 4294967296 ^ 8 := by
    rw [show (4294967296 ^ 8 : Nat) = 115792089237316195423570985008687907853269984665640564039457584007913129639936 from by decide]
    unfold I64 at ia ib
    omega
  have HC0 := (show ∀ w, Calls Try.prog 38 #[bigV a.n, bigV b.n] w fun e w' => e = .returned (bigV (a.n + b.n)) ∧ Below w.heap.size w w' from fun w => plus_any a.n b.n w (by rw [show (4294967296 ^ 7 : Nat) = 26959946667150639794667015087019630673637144422540572481103610249216 from by decide]; unfold I64 at ia; omega) (by rw [show (4294967296 ^ 7 : Nat) = 26959946667150639794667015087019630673637144422540572481103610249216 from by decide]; unfold I64 at ib; omega))
  have HSM := Lib.hid (fun w => small_any (a.n + b.n) w hz8)
  clear hz8
  generalize hzz : a.n + b.n = z at *
  have HZ := Lib.hid hzz
  clear hzz
  obtain ⟨d0, d1, d2, d3, d4, d5, d6, d7, hd⟩ := eight (digs_len 8 z.natAbs)
  have hbv : bigV z = .agg #[.int .u64 d0, .int .u64 d1, .int .u64 d2, .int .u64 d3, .int .u64 d4, .int .u64 d5, .int .u64 d6, .int .u64 d7, .bool (decide (z < 0))] := by unfold bigV; rw [hd]; rfl
  have HBV := Lib.hid hbv
  rw [hbv] at HC0
  have HC := Lib.hid HC0
  have HD := Lib.hid hd
  clear hd hbv HC0
  unfold I64 at ia ib
  have hA := (((Blk.new w 27 #[.int .i64 a.k, .int .i64 a.n, .int .u64 a.u, .string a.s]).alloc (.cells #[.int .i64 b.k, .int .i64 b.n, .int .u64 b.u, .string b.s] 27)).alloc (.cells #[.int .i64 0, .int .i64 0, .int .u64 0, .string ⟨#[]⟩] 27))
  have hB := ((Blk.new (w.alloc (.cells #[.int .i64 a.k, .int .i64 a.n, .int .u64 a.u, .string a.s] 27)) 27 #[.int .i64 b.k, .int .i64 b.n, .int .u64 b.u, .string b.s]).alloc (.cells #[.int .i64 0, .int .i64 0, .int .u64 0, .string ⟨#[]⟩] 27))
  have hR := (Blk.new ((w.alloc (.cells #[.int .i64 a.k, .int .i64 a.n, .int .u64 a.u, .string a.s] 27)).alloc (.cells #[.int .i64 b.k, .int .i64 b.n, .int .u64 b.u, .string b.s] 27)) 27 #[.int .i64 0, .int .i64 0, .int .u64 0, .string ⟨#[]⟩])
  have b0 := (bl_al (bl_al (bl_al (Below.refl w.heap.size w) (.cells #[.int .i64 a.k, .int .i64 a.n, .int .u64 a.u, .string a.s] 27)) (.cells #[.int .i64 b.k, .int .i64 b.n, .int .u64 b.u, .string b.s] 27)) (.cells #[.int .i64 0, .int .i64 0, .int .u64 0, .string ⟨#[]⟩] 27))
  simp only [World.size_alloc] at hB hR
  go_enter Try.func25, Try.ntmps25
  go_wp2_with fail
  generalize (((w.alloc (.cells #[.int .i64 a.k, .int .i64 a.n, .int .u64 a.u, .string a.s] 27)).alloc (.cells #[.int .i64 b.k, .int .i64 b.n, .int .u64 b.u, .string b.s] 27)).alloc (.cells #[.int .i64 0, .int .i64 0, .int .u64 0, .string ⟨#[]⟩] 27)) = w1 at *
  refine (right_any a.k a.n a.u a.s w1).mono ?_
  rintro e w2 ⟨rfl, q2⟩
  rw [hra]
  have hA2 := hA.below q2 hA.lt
  have hB2 := hB.below q2 hB.lt
  have hR2 := hR.below q2 hR.lt
  have b2 := bl_ca b0 q2
  clear hA hB hR q2 b0
  have tA0 : w2.cell? ⟨w.heap.size, 0, none⟩ = some (.int .i64 a.k) := hA2.cell 0
  have tA1 : w2.cell? ⟨w.heap.size, 1, none⟩ = some (.int .i64 a.n) := hA2.cell 1
  have tA2 : w2.cell? ⟨w.heap.size, 2, none⟩ = some (.int .u64 a.u) := hA2.cell 2
  have tA3 : w2.cell? ⟨w.heap.size, 3, none⟩ = some (.string a.s) := hA2.cell 3
  have tB0 : w2.cell? ⟨w.heap.size + 1, 0, none⟩ = some (.int .i64 b.k) := hB2.cell 0
  have tB1 : w2.cell? ⟨w.heap.size + 1, 1, none⟩ = some (.int .i64 b.n) := hB2.cell 1
  have tB2 : w2.cell? ⟨w.heap.size + 1, 2, none⟩ = some (.int .u64 b.u) := hB2.cell 2
  have tB3 : w2.cell? ⟨w.heap.size + 1, 3, none⟩ = some (.string b.s) := hB2.cell 3
  clear hra
  go_wp2_with fail
  refine (right_any b.k b.n b.u b.s w2).mono ?_
  rintro e w3 ⟨rfl, q3⟩
  rw [hrb]
  have hA3 := hA2.below q3 hA2.lt
  have hB3 := hB2.below q3 hB2.lt
  have hR3 := hR2.below q3 hR2.lt
  have b3 := bl_ca b2 q3
  clear hA2 hB2 hR2 q3 b2
  clear hrb tA0 tA1 tA2 tA3 tB0 tB1 tB2 tB3
  have tA0 : w3.cell? ⟨w.heap.size, 0, none⟩ = some (.int .i64 a.k) := hA3.cell 0
  have tA1 : w3.cell? ⟨w.heap.size, 1, none⟩ = some (.int .i64 a.n) := hA3.cell 1
  have tA2 : w3.cell? ⟨w.heap.size, 2, none⟩ = some (.int .u64 a.u) := hA3.cell 2
  have tA3 : w3.cell? ⟨w.heap.size, 3, none⟩ = some (.string a.s) := hA3.cell 3
  have tB0 : w3.cell? ⟨w.heap.size + 1, 0, none⟩ = some (.int .i64 b.k) := hB3.cell 0
  have tB1 : w3.cell? ⟨w.heap.size + 1, 1, none⟩ = some (.int .i64 b.n) := hB3.cell 1
  have tB2 : w3.cell? ⟨w.heap.size + 1, 2, none⟩ = some (.int .u64 b.u) := hB3.cell 2
  have tB3 : w3.cell? ⟨w.heap.size + 1, 3, none⟩ = some (.string b.s) := hB3.cell 3
  go_wp2_with fail
  refine (term_any a.k a.n a.u a.s w3).mono ?_
  rintro e w4 ⟨rfl, q4⟩
  rw [hta]
  have hA4 := hA3.below q4 hA3.lt
  have hB4 := hB3.below q4 hB3.lt
  have hR4 := hR3.below q4 hR3.lt
  have b4 := bl_ca b3 q4
  clear hA3 hB3 hR3 q4 b3
  clear hta tA0 tA1 tA2 tA3 tB0 tB1 tB2 tB3
  have tA0 : w4.cell? ⟨w.heap.size, 0, none⟩ = some (.int .i64 a.k) := hA4.cell 0
  have tA1 : w4.cell? ⟨w.heap.size, 1, none⟩ = some (.int .i64 a.n) := hA4.cell 1
  have tA2 : w4.cell? ⟨w.heap.size, 2, none⟩ = some (.int .u64 a.u) := hA4.cell 2
  have tA3 : w4.cell? ⟨w.heap.size, 3, none⟩ = some (.string a.s) := hA4.cell 3
  have tB0 : w4.cell? ⟨w.heap.size + 1, 0, none⟩ = some (.int .i64 b.k) := hB4.cell 0
  have tB1 : w4.cell? ⟨w.heap.size + 1, 1, none⟩ = some (.int .i64 b.n) := hB4.cell 1
  have tB2 : w4.cell? ⟨w.heap.size + 1, 2, none⟩ = some (.int .u64 b.u) := hB4.cell 2
  have tB3 : w4.cell? ⟨w.heap.size + 1, 3, none⟩ = some (.string b.s) := hB4.cell 3
  go_wp2_with fail
  refine (term_any b.k b.n b.u b.s w4).mono ?_
  rintro e w5 ⟨rfl, q5⟩
  rw [htb]
  have hA5 := hA4.below q5 hA4.lt
  have hB5 := hB4.below q5 hB4.lt
  have hR5 := hR4.below q5 hR4.lt
  have b5 := bl_ca b4 q5
  clear hA4 hB4 hR4 q5 b4
  clear htb tA0 tA1 tA2 tA3 tB0 tB1 tB2 tB3
  have tA0 : w5.cell? ⟨w.heap.size, 0, none⟩ = some (.int .i64 a.k) := hA5.cell 0
  have tA1 : w5.cell? ⟨w.heap.size, 1, none⟩ = some (.int .i64 a.n) := hA5.cell 1
  have tA2 : w5.cell? ⟨w.heap.size, 2, none⟩ = some (.int .u64 a.u) := hA5.cell 2
  have tA3 : w5.cell? ⟨w.heap.size, 3, none⟩ = some (.string a.s) := hA5.cell 3
  have tB0 : w5.cell? ⟨w.heap.size + 1, 0, none⟩ = some (.int .i64 b.k) := hB5.cell 0
  have tB1 : w5.cell? ⟨w.heap.size + 1, 1, none⟩ = some (.int .i64 b.n) := hB5.cell 1
  have tB2 : w5.cell? ⟨w.heap.size + 1, 2, none⟩ = some (.int .u64 b.u) := hB5.cell 2
  have tB3 : w5.cell? ⟨w.heap.size + 1, 3, none⟩ = some (.string b.s) := hB5.cell 3
  have hO := Blk.new w5 51 #[Value.int .u64 0, .int .u64 0, .int .u64 0, .int .u64 0, .int .u64 0, .int .u64 0, .int .u64 0, .int .u64 0, .bool false]
  have hA := hA5.alloc (.cells #[Value.int .u64 0, .int .u64 0, .int .u64 0, .int .u64 0, .int .u64 0, .int .u64 0, .int .u64 0, .int .u64 0, .bool false] 51)
  have hB := hB5.alloc (.cells #[Value.int .u64 0, .int .u64 0, .int .u64 0, .int .u64 0, .int .u64 0, .int .u64 0, .int .u64 0, .int .u64 0, .bool false] 51)
  have hR := hR5.alloc (.cells #[Value.int .u64 0, .int .u64 0, .int .u64 0, .int .u64 0, .int .u64 0, .int .u64 0, .int .u64 0, .int .u64 0, .bool false] 51)
  have bb := bl_al b5 (.cells #[Value.int .u64 0, .int .u64 0, .int .u64 0, .int .u64 0, .int .u64 0, .int .u64 0, .int .u64 0, .int .u64 0, .bool false] 51)
  have hlt5 : w.heap.size + 1 + 1 < w5.heap.size := hR5.lt
  clear hA5 hB5 hR5 b5
  go_wp2
  generalize w5.alloc (.cells #[Value.int .u64 0, .int .u64 0, .int .u64 0, .int .u64 0, .int .u64 0, .int .u64 0, .int .u64 0, .int .u64 0, .bool false] 51) = w6 at *
  generalize w5.heap.size = GO at *
  clear tA0 tA1 tA2 tA3 tB0 tB1 tB2 tB3
  replace hA := hA.drew
  replace hB := hB.drew
  replace hR := hR.drew
  replace hO := hO.drew
  replace bb := bl_d1 bb
  have a1 : w6.drew.cell? ⟨w.heap.size, 1, none⟩ = some (.int .i64 a.n) := hA.cell 1
  have b1 : w6.drew.cell? ⟨w.heap.size + 1, 1, none⟩ = some (.int .i64 b.n) := hB.cell 1
  go_region_held3 (fun w' => w'.cell? ⟨w.heap.size, 1, none⟩ = some (.int .i64 a.n) ∧ w'.cell? ⟨w.heap.size + 1, 1, none⟩ = some (.int .i64 b.n)) (first | with_reducible exact eS | with_reducible exact ⟨a1, b1⟩ | exact ⟨(blk_far9 hA (g := GO) (by omega) _ _ _ _ _ _ _ _ _).cell 1, (blk_far9 hB (g := GO) (by omega) _ _ _ _ _ _ _ _ _).cell 1⟩)
    (first
      | (go_at_call 37; refine (int_any _ _ (by omega) (by omega)).mono ?_; rintro e wa ⟨rfl, qa⟩; replace hA := hA.below qa hA.lt; replace hB := hB.below qa hB.lt; replace hR := hR.below qa hR.lt; replace hO := hO.below qa hO.lt; replace bb := bl_ca bb qa; clear qa; have eS : wa.cell? ⟨w.heap.size, 1, none⟩ = some (.int .i64 a.n) ∧ wa.cell? ⟨w.heap.size + 1, 1, none⟩ = some (.int .i64 b.n) := ⟨hA.cell 1, hB.cell 1⟩)
      | (go_at_call 38; refine (HC.out _).mono ?_; rintro e wb ⟨rfl, qb⟩; replace hA := hA.below qb hA.lt; replace hB := hB.below qb hB.lt; replace hR := hR.below qb hR.lt; replace hO := hO.below qb hO.lt; replace bb := bl_ca bb qb; clear qb; have eS : wb.cell? ⟨w.heap.size, 1, none⟩ = some (.int .i64 a.n) ∧ wb.cell? ⟨w.heap.size + 1, 1, none⟩ = some (.int .i64 b.n) := ⟨hA.cell 1, hB.cell 1⟩; have r0 : wb.cell? ⟨GO, 0, none⟩ = some (.int .u64 0) := hO.cell 0; have f0 : wb.frozen? ⟨GO, 0, none⟩ = false := hO.frozen 0; have r1 : wb.cell? ⟨GO, 1, none⟩ = some (.int .u64 0) := hO.cell 1; have f1 : wb.frozen? ⟨GO, 1, none⟩ = false := hO.frozen 1; have r2 : wb.cell? ⟨GO, 2, none⟩ = some (.int .u64 0) := hO.cell 2; have f2 : wb.frozen? ⟨GO, 2, none⟩ = false := hO.frozen 2; have r3 : wb.cell? ⟨GO, 3, none⟩ = some (.int .u64 0) := hO.cell 3; have f3 : wb.frozen? ⟨GO, 3, none⟩ = false := hO.frozen 3; have r4 : wb.cell? ⟨GO, 4, none⟩ = some (.int .u64 0) := hO.cell 4; have f4 : wb.frozen? ⟨GO, 4, none⟩ = false := hO.frozen 4; have r5 : wb.cell? ⟨GO, 5, none⟩ = some (.int .u64 0) := hO.cell 5; have f5 : wb.frozen? ⟨GO, 5, none⟩ = false := hO.frozen 5; have r6 : wb.cell? ⟨GO, 6, none⟩ = some (.int .u64 0) := hO.cell 6; have f6 : wb.frozen? ⟨GO, 6, none⟩ = false := hO.frozen 6; have r7 : wb.cell? ⟨GO, 7, none⟩ = some (.int .u64 0) := hO.cell 7; have f7 : wb.frozen? ⟨GO, 7, none⟩ = false := hO.frozen 7; have r8 : wb.cell? ⟨GO, 8, none⟩ = some (.bool false) := hO.cell 8; have f8 : wb.frozen? ⟨GO, 8, none⟩ = false := hO.frozen 8))
  all_goals
    have hS := blk_set9 hO (.int .u64 d0) (.int .u64 d1) (.int .u64 d2) (.int .u64 d3) (.int .u64 d4) (.int .u64 d5) (.int .u64 d6) (.int .u64 d7) (.bool (decide (z < 0)))
    have hS2 : Blk (((((((((wb.setCell ⟨GO, 0, none⟩ (.int .u64 d0)).setCell ⟨GO, 1, none⟩ (.int .u64 d1)).setCell ⟨GO, 2, none⟩ (.int .u64 d2)).setCell ⟨GO, 3, none⟩ (.int .u64 d3)).setCell ⟨GO, 4, none⟩ (.int .u64 d4)).setCell ⟨GO, 5, none⟩ (.int .u64 d5)).setCell ⟨GO, 6, none⟩ (.int .u64 d6)).setCell ⟨GO, 7, none⟩ (.int .u64 d7)).setCell ⟨GO, 8, none⟩ (.bool (decide (z < 0)))) GO 51 (bigC (digs 8 z.natAbs) (decide (z < 0))) := by rw [HD.out]; exact hS
    have hR9 := blk_far9 hR (g := GO) (by omega) (.int .u64 d0) (.int .u64 d1) (.int .u64 d2) (.int .u64 d3) (.int .u64 d4) (.int .u64 d5) (.int .u64 d6) (.int .u64 d7) (.bool (decide (z < 0)))
    have b9 := bl_set9 bb (g := GO) (by omega) (.int .u64 d0) (.int .u64 d1) (.int .u64 d2) (.int .u64 d3) (.int .u64 d4) (.int .u64 d5) (.int .u64 d6) (.int .u64 d7) (.bool (decide (z < 0)))
    clear hS hR bb hA hB hO r0 r1 r2 r3 r4 r5 r6 r7 r8 f0 f1 f2 f3 f4 f5 f6 f7 f8 eS a1 b1
    try clear hHeld
    generalize (((((((((wb.setCell ⟨GO, 0, none⟩ (.int .u64 d0)).setCell ⟨GO, 1, none⟩ (.int .u64 d1)).setCell ⟨GO, 2, none⟩ (.int .u64 d2)).setCell ⟨GO, 3, none⟩ (.int .u64 d3)).setCell ⟨GO, 4, none⟩ (.int .u64 d4)).setCell ⟨GO, 5, none⟩ (.int .u64 d5)).setCell ⟨GO, 6, none⟩ (.int .u64 d6)).setCell ⟨GO, 7, none⟩ (.int .u64 d7)).setCell ⟨GO, 8, none⟩ (.bool (decide (z < 0)))) = w8 at *
    go_wp2_with (refine wpList_load_blk rfl 51 (.tmp 8) rfl GO rfl 51 _ _ hS2 Try.underlying51 rfl (bigI_ _ _ (digs_len _ _)) ?_)
    refine (HSM.out w8).mono ?_
    rintro e w10 ⟨n, rfl, hn, q10⟩
    have hR10 := hR9.below q10 hR9.lt
    have b10 := bl_ca b9 q10
    clear hR9 b9 q10 hS2
    by_cases hs : smallB z = true
    · obtain rfl := hn hs
      have HS := Lib.hid hs
      rw [hs]
      clear hs hn
      go_wp2_with fail
      refine (rint_any n w10).mono ?_
      rintro e w11 ⟨rfl, q11⟩
      have hR11 := hR10.below q11 hR10.lt
      have b11 := bl_ca b10 q11
      clear hR10 b10 q11
      go_wp2_with (refine wpList_store_blk rfl 27 (.tmp 6) (.tmp 90) rfl (w.heap.size + 1 + 1) 27 _ _ rfl rfl hR11 rfl valI (one4 _ _ _ _) ?_; intro w12 hRw12 g12)
      exact bodyPost_ret (res2 Try.results25 rfl rfl hRw12 Try.underlying27 rfl valI) rfl ⟨by unfold outR; rw [HS.out]; rfl, bl_gr b11 g12 (by omega)⟩
    · have hs2 : smallB z = false := by simpa using hs
      have HS := Lib.hid hs2
      rw [hs2]
      clear hs hs2 hn
      go_wp2_with (refine wpList_store_blk rfl 27 (.tmp 6) (.tmp 88) rfl (w.heap.size + 1 + 1) 27 _ _ rfl rfl hR10 rfl valI (one4 _ _ _ _) ?_; intro w12 hRw12 g12)
      exact bodyPost_ret (res2 Try.results25 rfl rfl hRw12 Try.underlying27 rfl valI) rfl ⟨by unfold outR; rw [HS.out]; rfl, bl_gr b10 g12 (by omega)⟩
set_option maxRecDepth 100000 in
set_option maxHeartbeats 4000000 in
theorem refop_sub (a b : VV) (w : World) (hra : rightB a.k a.n a.u a.s = true) (hrb : rightB b.k b.n b.u b.s = true) (hta : (rightB a.k a.n a.u a.s && kindB 2 a.k) = true) (htb : (rightB b.k b.n b.u b.s && kindB 2 b.k) = true) (hk : (a.k == 0) = false) (hk2 : (b.k == 0) = false) (ia : I64 a.n) (ib : I64 b.n) : Calls Try.prog 25 #[.int .u8 45, .agg #[.int .i64 a.k, .int .i64 a.n, .int .u64 a.u, .string a.s], .agg #[.int .i64 b.k, .int .i64 b.n, .int .u64 b.u, .string b.s]] w fun e w' => e = .returned (resT (outR (a.n + -b.n))) ∧ Below w.heap.size w w' := by
  have hz8 : (a.n + -b.n).natAbs < 4294967296 ^ 8 := by
    rw [show (4294967296 ^ 8 : Nat) = 115792089237316195423570985008687907853269984665640564039457584007913129639936 from by decide]
    unfold I64 at ia ib
    omega
  have HC0 := (show ∀ w, Calls Try.prog 38 #[bigV a.n, bigV (-b.n)] w fun e w' => e = .returned (bigV (a.n + -b.n)) ∧ Below w.heap.size w w' from fun w => plus_any a.n (-b.n) w (by rw [show (4294967296 ^ 7 : Nat) = 26959946667150639794667015087019630673637144422540572481103610249216 from by decide]; unfold I64 at ia; omega) (by rw [show (4294967296 ^ 7 : Nat) = 26959946667150639794667015087019630673637144422540572481103610249216 from by decide]; unfold I64 at ib; omega))
  have HSM := Lib.hid (fun w => small_any (a.n + -b.n) w hz8)
  clear hz8
  generalize hzz : a.n + -b.n = z at *
  have HZ := Lib.hid hzz
  clear hzz
  obtain ⟨d0, d1, d2, d3, d4, d5, d6, d7, hd⟩ := eight (digs_len 8 z.natAbs)
  have hbv : bigV z = .agg #[.int .u64 d0, .int .u64 d1, .int .u64 d2, .int .u64 d3, .int .u64 d4, .int .u64 d5, .int .u64 d6, .int .u64 d7, .bool (decide (z < 0))] := by unfold bigV; rw [hd]; rfl
  have HBV := Lib.hid hbv
  rw [hbv] at HC0
  have HC := Lib.hid HC0
  have HD := Lib.hid hd
  clear hd hbv HC0
  have HTN := Lib.hid (show ∀ w, Calls Try.prog 47 #[bigV b.n] w fun e w' => e = .returned (bigV (-b.n)) ∧ Below w.heap.size w w' from fun w => turned_any b.n w (by rw [show (4294967296 ^ 8 : Nat) = 115792089237316195423570985008687907853269984665640564039457584007913129639936 from by decide]; unfold I64 at ib; omega))
  unfold I64 at ia ib
  have hA := (((Blk.new w 27 #[.int .i64 a.k, .int .i64 a.n, .int .u64 a.u, .string a.s]).alloc (.cells #[.int .i64 b.k, .int .i64 b.n, .int .u64 b.u, .string b.s] 27)).alloc (.cells #[.int .i64 0, .int .i64 0, .int .u64 0, .string ⟨#[]⟩] 27))
  have hB := ((Blk.new (w.alloc (.cells #[.int .i64 a.k, .int .i64 a.n, .int .u64 a.u, .string a.s] 27)) 27 #[.int .i64 b.k, .int .i64 b.n, .int .u64 b.u, .string b.s]).alloc (.cells #[.int .i64 0, .int .i64 0, .int .u64 0, .string ⟨#[]⟩] 27))
  have hR := (Blk.new ((w.alloc (.cells #[.int .i64 a.k, .int .i64 a.n, .int .u64 a.u, .string a.s] 27)).alloc (.cells #[.int .i64 b.k, .int .i64 b.n, .int .u64 b.u, .string b.s] 27)) 27 #[.int .i64 0, .int .i64 0, .int .u64 0, .string ⟨#[]⟩])
  have b0 := (bl_al (bl_al (bl_al (Below.refl w.heap.size w) (.cells #[.int .i64 a.k, .int .i64 a.n, .int .u64 a.u, .string a.s] 27)) (.cells #[.int .i64 b.k, .int .i64 b.n, .int .u64 b.u, .string b.s] 27)) (.cells #[.int .i64 0, .int .i64 0, .int .u64 0, .string ⟨#[]⟩] 27))
  simp only [World.size_alloc] at hB hR
  go_enter Try.func25, Try.ntmps25
  go_wp2_with fail
  generalize (((w.alloc (.cells #[.int .i64 a.k, .int .i64 a.n, .int .u64 a.u, .string a.s] 27)).alloc (.cells #[.int .i64 b.k, .int .i64 b.n, .int .u64 b.u, .string b.s] 27)).alloc (.cells #[.int .i64 0, .int .i64 0, .int .u64 0, .string ⟨#[]⟩] 27)) = w1 at *
  refine (right_any a.k a.n a.u a.s w1).mono ?_
  rintro e w2 ⟨rfl, q2⟩
  rw [hra]
  have hA2 := hA.below q2 hA.lt
  have hB2 := hB.below q2 hB.lt
  have hR2 := hR.below q2 hR.lt
  have b2 := bl_ca b0 q2
  clear hA hB hR q2 b0
  have tA0 : w2.cell? ⟨w.heap.size, 0, none⟩ = some (.int .i64 a.k) := hA2.cell 0
  have tA1 : w2.cell? ⟨w.heap.size, 1, none⟩ = some (.int .i64 a.n) := hA2.cell 1
  have tA2 : w2.cell? ⟨w.heap.size, 2, none⟩ = some (.int .u64 a.u) := hA2.cell 2
  have tA3 : w2.cell? ⟨w.heap.size, 3, none⟩ = some (.string a.s) := hA2.cell 3
  have tB0 : w2.cell? ⟨w.heap.size + 1, 0, none⟩ = some (.int .i64 b.k) := hB2.cell 0
  have tB1 : w2.cell? ⟨w.heap.size + 1, 1, none⟩ = some (.int .i64 b.n) := hB2.cell 1
  have tB2 : w2.cell? ⟨w.heap.size + 1, 2, none⟩ = some (.int .u64 b.u) := hB2.cell 2
  have tB3 : w2.cell? ⟨w.heap.size + 1, 3, none⟩ = some (.string b.s) := hB2.cell 3
  clear hra
  go_wp2_with fail
  refine (right_any b.k b.n b.u b.s w2).mono ?_
  rintro e w3 ⟨rfl, q3⟩
  rw [hrb]
  have hA3 := hA2.below q3 hA2.lt
  have hB3 := hB2.below q3 hB2.lt
  have hR3 := hR2.below q3 hR2.lt
  have b3 := bl_ca b2 q3
  clear hA2 hB2 hR2 q3 b2
  clear hrb tA0 tA1 tA2 tA3 tB0 tB1 tB2 tB3
  have tA0 : w3.cell? ⟨w.heap.size, 0, none⟩ = some (.int .i64 a.k) := hA3.cell 0
  have tA1 : w3.cell? ⟨w.heap.size, 1, none⟩ = some (.int .i64 a.n) := hA3.cell 1
  have tA2 : w3.cell? ⟨w.heap.size, 2, none⟩ = some (.int .u64 a.u) := hA3.cell 2
  have tA3 : w3.cell? ⟨w.heap.size, 3, none⟩ = some (.string a.s) := hA3.cell 3
  have tB0 : w3.cell? ⟨w.heap.size + 1, 0, none⟩ = some (.int .i64 b.k) := hB3.cell 0
  have tB1 : w3.cell? ⟨w.heap.size + 1, 1, none⟩ = some (.int .i64 b.n) := hB3.cell 1
  have tB2 : w3.cell? ⟨w.heap.size + 1, 2, none⟩ = some (.int .u64 b.u) := hB3.cell 2
  have tB3 : w3.cell? ⟨w.heap.size + 1, 3, none⟩ = some (.string b.s) := hB3.cell 3
  go_wp2_with fail
  refine (term_any a.k a.n a.u a.s w3).mono ?_
  rintro e w4 ⟨rfl, q4⟩
  rw [hta]
  have hA4 := hA3.below q4 hA3.lt
  have hB4 := hB3.below q4 hB3.lt
  have hR4 := hR3.below q4 hR3.lt
  have b4 := bl_ca b3 q4
  clear hA3 hB3 hR3 q4 b3
  clear hta tA0 tA1 tA2 tA3 tB0 tB1 tB2 tB3
  have tA0 : w4.cell? ⟨w.heap.size, 0, none⟩ = some (.int .i64 a.k) := hA4.cell 0
  have tA1 : w4.cell? ⟨w.heap.size, 1, none⟩ = some (.int .i64 a.n) := hA4.cell 1
  have tA2 : w4.cell? ⟨w.heap.size, 2, none⟩ = some (.int .u64 a.u) := hA4.cell 2
  have tA3 : w4.cell? ⟨w.heap.size, 3, none⟩ = some (.string a.s) := hA4.cell 3
  have tB0 : w4.cell? ⟨w.heap.size + 1, 0, none⟩ = some (.int .i64 b.k) := hB4.cell 0
  have tB1 : w4.cell? ⟨w.heap.size + 1, 1, none⟩ = some (.int .i64 b.n) := hB4.cell 1
  have tB2 : w4.cell? ⟨w.heap.size + 1, 2, none⟩ = some (.int .u64 b.u) := hB4.cell 2
  have tB3 : w4.cell? ⟨w.heap.size + 1, 3, none⟩ = some (.string b.s) := hB4.cell 3
  go_wp2_with fail
  refine (term_any b.k b.n b.u b.s w4).mono ?_
  rintro e w5 ⟨rfl, q5⟩
  rw [htb]
  have hA5 := hA4.below q5 hA4.lt
  have hB5 := hB4.below q5 hB4.lt
  have hR5 := hR4.below q5 hR4.lt
  have b5 := bl_ca b4 q5
  clear hA4 hB4 hR4 q5 b4
  clear htb tA0 tA1 tA2 tA3 tB0 tB1 tB2 tB3
  have tA0 : w5.cell? ⟨w.heap.size, 0, none⟩ = some (.int .i64 a.k) := hA5.cell 0
  have tA1 : w5.cell? ⟨w.heap.size, 1, none⟩ = some (.int .i64 a.n) := hA5.cell 1
  have tA2 : w5.cell? ⟨w.heap.size, 2, none⟩ = some (.int .u64 a.u) := hA5.cell 2
  have tA3 : w5.cell? ⟨w.heap.size, 3, none⟩ = some (.string a.s) := hA5.cell 3
  have tB0 : w5.cell? ⟨w.heap.size + 1, 0, none⟩ = some (.int .i64 b.k) := hB5.cell 0
  have tB1 : w5.cell? ⟨w.heap.size + 1, 1, none⟩ = some (.int .i64 b.n) := hB5.cell 1
  have tB2 : w5.cell? ⟨w.heap.size + 1, 2, none⟩ = some (.int .u64 b.u) := hB5.cell 2
  have tB3 : w5.cell? ⟨w.heap.size + 1, 3, none⟩ = some (.string b.s) := hB5.cell 3
  have hO := Blk.new w5 51 #[Value.int .u64 0, .int .u64 0, .int .u64 0, .int .u64 0, .int .u64 0, .int .u64 0, .int .u64 0, .int .u64 0, .bool false]
  have hA := hA5.alloc (.cells #[Value.int .u64 0, .int .u64 0, .int .u64 0, .int .u64 0, .int .u64 0, .int .u64 0, .int .u64 0, .int .u64 0, .bool false] 51)
  have hB := hB5.alloc (.cells #[Value.int .u64 0, .int .u64 0, .int .u64 0, .int .u64 0, .int .u64 0, .int .u64 0, .int .u64 0, .int .u64 0, .bool false] 51)
  have hR := hR5.alloc (.cells #[Value.int .u64 0, .int .u64 0, .int .u64 0, .int .u64 0, .int .u64 0, .int .u64 0, .int .u64 0, .int .u64 0, .bool false] 51)
  have bb := bl_al b5 (.cells #[Value.int .u64 0, .int .u64 0, .int .u64 0, .int .u64 0, .int .u64 0, .int .u64 0, .int .u64 0, .int .u64 0, .bool false] 51)
  have hlt5 : w.heap.size + 1 + 1 < w5.heap.size := hR5.lt
  clear hA5 hB5 hR5 b5
  go_wp2
  generalize w5.alloc (.cells #[Value.int .u64 0, .int .u64 0, .int .u64 0, .int .u64 0, .int .u64 0, .int .u64 0, .int .u64 0, .int .u64 0, .bool false] 51) = w6 at *
  generalize w5.heap.size = GO at *
  clear tA0 tA1 tA2 tA3 tB0 tB1 tB2 tB3
  replace hA := hA.drew
  replace hB := hB.drew
  replace hR := hR.drew
  replace hO := hO.drew
  replace bb := bl_d1 bb
  have a1 : w6.drew.cell? ⟨w.heap.size, 1, none⟩ = some (.int .i64 a.n) := hA.cell 1
  have b1 : w6.drew.cell? ⟨w.heap.size + 1, 1, none⟩ = some (.int .i64 b.n) := hB.cell 1
  go_region_held3 (fun w' => w'.cell? ⟨w.heap.size, 1, none⟩ = some (.int .i64 a.n) ∧ w'.cell? ⟨w.heap.size + 1, 1, none⟩ = some (.int .i64 b.n)) (first | with_reducible exact eS | with_reducible exact ⟨a1, b1⟩ | exact ⟨(blk_far9 hA (g := GO) (by omega) _ _ _ _ _ _ _ _ _).cell 1, (blk_far9 hB (g := GO) (by omega) _ _ _ _ _ _ _ _ _).cell 1⟩)
    (first
      | (go_at_call 37; refine (int_any _ _ (by omega) (by omega)).mono ?_; rintro e wa ⟨rfl, qa⟩; replace hA := hA.below qa hA.lt; replace hB := hB.below qa hB.lt; replace hR := hR.below qa hR.lt; replace hO := hO.below qa hO.lt; replace bb := bl_ca bb qa; clear qa; have eS : wa.cell? ⟨w.heap.size, 1, none⟩ = some (.int .i64 a.n) ∧ wa.cell? ⟨w.heap.size + 1, 1, none⟩ = some (.int .i64 b.n) := ⟨hA.cell 1, hB.cell 1⟩)
      | (go_at_call 47; refine (HTN.out _).mono ?_; rintro e wt ⟨rfl, qt⟩; replace hA := hA.below qt hA.lt; replace hB := hB.below qt hB.lt; replace hR := hR.below qt hR.lt; replace hO := hO.below qt hO.lt; replace bb := bl_ca bb qt; clear qt; have eS : wt.cell? ⟨w.heap.size, 1, none⟩ = some (.int .i64 a.n) ∧ wt.cell? ⟨w.heap.size + 1, 1, none⟩ = some (.int .i64 b.n) := ⟨hA.cell 1, hB.cell 1⟩)
      | (go_at_call 38; refine (HC.out _).mono ?_; rintro e wb ⟨rfl, qb⟩; replace hA := hA.below qb hA.lt; replace hB := hB.below qb hB.lt; replace hR := hR.below qb hR.lt; replace hO := hO.below qb hO.lt; replace bb := bl_ca bb qb; clear qb; have eS : wb.cell? ⟨w.heap.size, 1, none⟩ = some (.int .i64 a.n) ∧ wb.cell? ⟨w.heap.size + 1, 1, none⟩ = some (.int .i64 b.n) := ⟨hA.cell 1, hB.cell 1⟩; have r0 : wb.cell? ⟨GO, 0, none⟩ = some (.int .u64 0) := hO.cell 0; have f0 : wb.frozen? ⟨GO, 0, none⟩ = false := hO.frozen 0; have r1 : wb.cell? ⟨GO, 1, none⟩ = some (.int .u64 0) := hO.cell 1; have f1 : wb.frozen? ⟨GO, 1, none⟩ = false := hO.frozen 1; have r2 : wb.cell? ⟨GO, 2, none⟩ = some (.int .u64 0) := hO.cell 2; have f2 : wb.frozen? ⟨GO, 2, none⟩ = false := hO.frozen 2; have r3 : wb.cell? ⟨GO, 3, none⟩ = some (.int .u64 0) := hO.cell 3; have f3 : wb.frozen? ⟨GO, 3, none⟩ = false := hO.frozen 3; have r4 : wb.cell? ⟨GO, 4, none⟩ = some (.int .u64 0) := hO.cell 4; have f4 : wb.frozen? ⟨GO, 4, none⟩ = false := hO.frozen 4; have r5 : wb.cell? ⟨GO, 5, none⟩ = some (.int .u64 0) := hO.cell 5; have f5 : wb.frozen? ⟨GO, 5, none⟩ = false := hO.frozen 5; have r6 : wb.cell? ⟨GO, 6, none⟩ = some (.int .u64 0) := hO.cell 6; have f6 : wb.frozen? ⟨GO, 6, none⟩ = false := hO.frozen 6; have r7 : wb.cell? ⟨GO, 7, none⟩ = some (.int .u64 0) := hO.cell 7; have f7 : wb.frozen? ⟨GO, 7, none⟩ = false := hO.frozen 7; have r8 : wb.cell? ⟨GO, 8, none⟩ = some (.bool false) := hO.cell 8; have f8 : wb.frozen? ⟨GO, 8, none⟩ = false := hO.frozen 8))
  all_goals
    have hS := blk_set9 hO (.int .u64 d0) (.int .u64 d1) (.int .u64 d2) (.int .u64 d3) (.int .u64 d4) (.int .u64 d5) (.int .u64 d6) (.int .u64 d7) (.bool (decide (z < 0)))
    have hS2 : Blk (((((((((wb.setCell ⟨GO, 0, none⟩ (.int .u64 d0)).setCell ⟨GO, 1, none⟩ (.int .u64 d1)).setCell ⟨GO, 2, none⟩ (.int .u64 d2)).setCell ⟨GO, 3, none⟩ (.int .u64 d3)).setCell ⟨GO, 4, none⟩ (.int .u64 d4)).setCell ⟨GO, 5, none⟩ (.int .u64 d5)).setCell ⟨GO, 6, none⟩ (.int .u64 d6)).setCell ⟨GO, 7, none⟩ (.int .u64 d7)).setCell ⟨GO, 8, none⟩ (.bool (decide (z < 0)))) GO 51 (bigC (digs 8 z.natAbs) (decide (z < 0))) := by rw [HD.out]; exact hS
    have hR9 := blk_far9 hR (g := GO) (by omega) (.int .u64 d0) (.int .u64 d1) (.int .u64 d2) (.int .u64 d3) (.int .u64 d4) (.int .u64 d5) (.int .u64 d6) (.int .u64 d7) (.bool (decide (z < 0)))
    have b9 := bl_set9 bb (g := GO) (by omega) (.int .u64 d0) (.int .u64 d1) (.int .u64 d2) (.int .u64 d3) (.int .u64 d4) (.int .u64 d5) (.int .u64 d6) (.int .u64 d7) (.bool (decide (z < 0)))
    clear hS hR bb hA hB hO r0 r1 r2 r3 r4 r5 r6 r7 r8 f0 f1 f2 f3 f4 f5 f6 f7 f8 eS a1 b1
    try clear hHeld
    generalize (((((((((wb.setCell ⟨GO, 0, none⟩ (.int .u64 d0)).setCell ⟨GO, 1, none⟩ (.int .u64 d1)).setCell ⟨GO, 2, none⟩ (.int .u64 d2)).setCell ⟨GO, 3, none⟩ (.int .u64 d3)).setCell ⟨GO, 4, none⟩ (.int .u64 d4)).setCell ⟨GO, 5, none⟩ (.int .u64 d5)).setCell ⟨GO, 6, none⟩ (.int .u64 d6)).setCell ⟨GO, 7, none⟩ (.int .u64 d7)).setCell ⟨GO, 8, none⟩ (.bool (decide (z < 0)))) = w8 at *
    go_wp2_with (refine wpList_load_blk rfl 51 (.tmp 8) rfl GO rfl 51 _ _ hS2 Try.underlying51 rfl (bigI_ _ _ (digs_len _ _)) ?_)
    refine (HSM.out w8).mono ?_
    rintro e w10 ⟨n, rfl, hn, q10⟩
    have hR10 := hR9.below q10 hR9.lt
    have b10 := bl_ca b9 q10
    clear hR9 b9 q10 hS2
    by_cases hs : smallB z = true
    · obtain rfl := hn hs
      have HS := Lib.hid hs
      rw [hs]
      clear hs hn
      go_wp2_with fail
      refine (rint_any n w10).mono ?_
      rintro e w11 ⟨rfl, q11⟩
      have hR11 := hR10.below q11 hR10.lt
      have b11 := bl_ca b10 q11
      clear hR10 b10 q11
      go_wp2_with (refine wpList_store_blk rfl 27 (.tmp 6) (.tmp 90) rfl (w.heap.size + 1 + 1) 27 _ _ rfl rfl hR11 rfl valI (one4 _ _ _ _) ?_; intro w12 hRw12 g12)
      exact bodyPost_ret (res2 Try.results25 rfl rfl hRw12 Try.underlying27 rfl valI) rfl ⟨by unfold outR; rw [HS.out]; rfl, bl_gr b11 g12 (by omega)⟩
    · have hs2 : smallB z = false := by simpa using hs
      have HS := Lib.hid hs2
      rw [hs2]
      clear hs hs2 hn
      go_wp2_with (refine wpList_store_blk rfl 27 (.tmp 6) (.tmp 88) rfl (w.heap.size + 1 + 1) 27 _ _ rfl rfl hR10 rfl valI (one4 _ _ _ _) ?_; intro w12 hRw12 g12)
      exact bodyPost_ret (res2 Try.results25 rfl rfl hRw12 Try.underlying27 rfl valI) rfl ⟨by unfold outR; rw [HS.out]; rfl, bl_gr b10 g12 (by omega)⟩
set_option maxRecDepth 100000 in
set_option maxHeartbeats 4000000 in
theorem refop_mul (a b : VV) (w : World) (hra : rightB a.k a.n a.u a.s = true) (hrb : rightB b.k b.n b.u b.s = true) (hta : (rightB a.k a.n a.u a.s && kindB 2 a.k) = true) (htb : (rightB b.k b.n b.u b.s && kindB 2 b.k) = true) (hk : (a.k == 0) = false) (hk2 : (b.k == 0) = false) (ia : I64 a.n) (ib : I64 b.n) : Calls Try.prog 25 #[.int .u8 42, .agg #[.int .i64 a.k, .int .i64 a.n, .int .u64 a.u, .string a.s], .agg #[.int .i64 b.k, .int .i64 b.n, .int .u64 b.u, .string b.s]] w fun e w' => e = .returned (resT (outR (a.n * b.n))) ∧ Below w.heap.size w w' := by
  have hz8 : (a.n * b.n).natAbs < 4294967296 ^ 8 := by
    rw [show (4294967296 ^ 8 : Nat) = 115792089237316195423570985008687907853269984665640564039457584007913129639936 from by decide, Int.natAbs_mul]
    unfold I64 at ia ib
    have h1 := Nat.mul_le_mul (show a.n.natAbs ≤ 9223372036854775808 by omega) (show b.n.natAbs ≤ 9223372036854775808 by omega)
    omega
  have HC0 := (show ∀ w, Calls Try.prog 48 #[bigV a.n, bigV b.n] w fun e w' => e = .returned (bigV (a.n * b.n)) ∧ Below w.heap.size w w' from fun w => times_any a.n b.n w (by rw [show (4294967296 ^ 4 : Nat) = 340282366920938463463374607431768211456 from by decide]; unfold I64 at ia; omega) (by rw [show (4294967296 ^ 4 : Nat) = 340282366920938463463374607431768211456 from by decide]; unfold I64 at ib; omega))
  have HSM := Lib.hid (fun w => small_any (a.n * b.n) w hz8)
  clear hz8
  generalize hzz : a.n * b.n = z at *
  have HZ := Lib.hid hzz
  clear hzz
  obtain ⟨d0, d1, d2, d3, d4, d5, d6, d7, hd⟩ := eight (digs_len 8 z.natAbs)
  have hbv : bigV z = .agg #[.int .u64 d0, .int .u64 d1, .int .u64 d2, .int .u64 d3, .int .u64 d4, .int .u64 d5, .int .u64 d6, .int .u64 d7, .bool (decide (z < 0))] := by unfold bigV; rw [hd]; rfl
  have HBV := Lib.hid hbv
  rw [hbv] at HC0
  have HC := Lib.hid HC0
  have HD := Lib.hid hd
  clear hd hbv HC0
  unfold I64 at ia ib
  have hA := (((Blk.new w 27 #[.int .i64 a.k, .int .i64 a.n, .int .u64 a.u, .string a.s]).alloc (.cells #[.int .i64 b.k, .int .i64 b.n, .int .u64 b.u, .string b.s] 27)).alloc (.cells #[.int .i64 0, .int .i64 0, .int .u64 0, .string ⟨#[]⟩] 27))
  have hB := ((Blk.new (w.alloc (.cells #[.int .i64 a.k, .int .i64 a.n, .int .u64 a.u, .string a.s] 27)) 27 #[.int .i64 b.k, .int .i64 b.n, .int .u64 b.u, .string b.s]).alloc (.cells #[.int .i64 0, .int .i64 0, .int .u64 0, .string ⟨#[]⟩] 27))
  have hR := (Blk.new ((w.alloc (.cells #[.int .i64 a.k, .int .i64 a.n, .int .u64 a.u, .string a.s] 27)).alloc (.cells #[.int .i64 b.k, .int .i64 b.n, .int .u64 b.u, .string b.s] 27)) 27 #[.int .i64 0, .int .i64 0, .int .u64 0, .string ⟨#[]⟩])
  have b0 := (bl_al (bl_al (bl_al (Below.refl w.heap.size w) (.cells #[.int .i64 a.k, .int .i64 a.n, .int .u64 a.u, .string a.s] 27)) (.cells #[.int .i64 b.k, .int .i64 b.n, .int .u64 b.u, .string b.s] 27)) (.cells #[.int .i64 0, .int .i64 0, .int .u64 0, .string ⟨#[]⟩] 27))
  simp only [World.size_alloc] at hB hR
  go_enter Try.func25, Try.ntmps25
  go_wp2_with fail
  generalize (((w.alloc (.cells #[.int .i64 a.k, .int .i64 a.n, .int .u64 a.u, .string a.s] 27)).alloc (.cells #[.int .i64 b.k, .int .i64 b.n, .int .u64 b.u, .string b.s] 27)).alloc (.cells #[.int .i64 0, .int .i64 0, .int .u64 0, .string ⟨#[]⟩] 27)) = w1 at *
  refine (right_any a.k a.n a.u a.s w1).mono ?_
  rintro e w2 ⟨rfl, q2⟩
  rw [hra]
  have hA2 := hA.below q2 hA.lt
  have hB2 := hB.below q2 hB.lt
  have hR2 := hR.below q2 hR.lt
  have b2 := bl_ca b0 q2
  clear hA hB hR q2 b0
  have tA0 : w2.cell? ⟨w.heap.size, 0, none⟩ = some (.int .i64 a.k) := hA2.cell 0
  have tA1 : w2.cell? ⟨w.heap.size, 1, none⟩ = some (.int .i64 a.n) := hA2.cell 1
  have tA2 : w2.cell? ⟨w.heap.size, 2, none⟩ = some (.int .u64 a.u) := hA2.cell 2
  have tA3 : w2.cell? ⟨w.heap.size, 3, none⟩ = some (.string a.s) := hA2.cell 3
  have tB0 : w2.cell? ⟨w.heap.size + 1, 0, none⟩ = some (.int .i64 b.k) := hB2.cell 0
  have tB1 : w2.cell? ⟨w.heap.size + 1, 1, none⟩ = some (.int .i64 b.n) := hB2.cell 1
  have tB2 : w2.cell? ⟨w.heap.size + 1, 2, none⟩ = some (.int .u64 b.u) := hB2.cell 2
  have tB3 : w2.cell? ⟨w.heap.size + 1, 3, none⟩ = some (.string b.s) := hB2.cell 3
  clear hra
  go_wp2_with fail
  refine (right_any b.k b.n b.u b.s w2).mono ?_
  rintro e w3 ⟨rfl, q3⟩
  rw [hrb]
  have hA3 := hA2.below q3 hA2.lt
  have hB3 := hB2.below q3 hB2.lt
  have hR3 := hR2.below q3 hR2.lt
  have b3 := bl_ca b2 q3
  clear hA2 hB2 hR2 q3 b2
  clear hrb tA0 tA1 tA2 tA3 tB0 tB1 tB2 tB3
  have tA0 : w3.cell? ⟨w.heap.size, 0, none⟩ = some (.int .i64 a.k) := hA3.cell 0
  have tA1 : w3.cell? ⟨w.heap.size, 1, none⟩ = some (.int .i64 a.n) := hA3.cell 1
  have tA2 : w3.cell? ⟨w.heap.size, 2, none⟩ = some (.int .u64 a.u) := hA3.cell 2
  have tA3 : w3.cell? ⟨w.heap.size, 3, none⟩ = some (.string a.s) := hA3.cell 3
  have tB0 : w3.cell? ⟨w.heap.size + 1, 0, none⟩ = some (.int .i64 b.k) := hB3.cell 0
  have tB1 : w3.cell? ⟨w.heap.size + 1, 1, none⟩ = some (.int .i64 b.n) := hB3.cell 1
  have tB2 : w3.cell? ⟨w.heap.size + 1, 2, none⟩ = some (.int .u64 b.u) := hB3.cell 2
  have tB3 : w3.cell? ⟨w.heap.size + 1, 3, none⟩ = some (.string b.s) := hB3.cell 3
  go_wp2_with fail
  refine (term_any a.k a.n a.u a.s w3).mono ?_
  rintro e w4 ⟨rfl, q4⟩
  rw [hta]
  have hA4 := hA3.below q4 hA3.lt
  have hB4 := hB3.below q4 hB3.lt
  have hR4 := hR3.below q4 hR3.lt
  have b4 := bl_ca b3 q4
  clear hA3 hB3 hR3 q4 b3
  clear hta tA0 tA1 tA2 tA3 tB0 tB1 tB2 tB3
  have tA0 : w4.cell? ⟨w.heap.size, 0, none⟩ = some (.int .i64 a.k) := hA4.cell 0
  have tA1 : w4.cell? ⟨w.heap.size, 1, none⟩ = some (.int .i64 a.n) := hA4.cell 1
  have tA2 : w4.cell? ⟨w.heap.size, 2, none⟩ = some (.int .u64 a.u) := hA4.cell 2
  have tA3 : w4.cell? ⟨w.heap.size, 3, none⟩ = some (.string a.s) := hA4.cell 3
  have tB0 : w4.cell? ⟨w.heap.size + 1, 0, none⟩ = some (.int .i64 b.k) := hB4.cell 0
  have tB1 : w4.cell? ⟨w.heap.size + 1, 1, none⟩ = some (.int .i64 b.n) := hB4.cell 1
  have tB2 : w4.cell? ⟨w.heap.size + 1, 2, none⟩ = some (.int .u64 b.u) := hB4.cell 2
  have tB3 : w4.cell? ⟨w.heap.size + 1, 3, none⟩ = some (.string b.s) := hB4.cell 3
  go_wp2_with fail
  refine (term_any b.k b.n b.u b.s w4).mono ?_
  rintro e w5 ⟨rfl, q5⟩
  rw [htb]
  have hA5 := hA4.below q5 hA4.lt
  have hB5 := hB4.below q5 hB4.lt
  have hR5 := hR4.below q5 hR4.lt
  have b5 := bl_ca b4 q5
  clear hA4 hB4 hR4 q5 b4
  clear htb tA0 tA1 tA2 tA3 tB0 tB1 tB2 tB3
  have tA0 : w5.cell? ⟨w.heap.size, 0, none⟩ = some (.int .i64 a.k) := hA5.cell 0
  have tA1 : w5.cell? ⟨w.heap.size, 1, none⟩ = some (.int .i64 a.n) := hA5.cell 1
  have tA2 : w5.cell? ⟨w.heap.size, 2, none⟩ = some (.int .u64 a.u) := hA5.cell 2
  have tA3 : w5.cell? ⟨w.heap.size, 3, none⟩ = some (.string a.s) := hA5.cell 3
  have tB0 : w5.cell? ⟨w.heap.size + 1, 0, none⟩ = some (.int .i64 b.k) := hB5.cell 0
  have tB1 : w5.cell? ⟨w.heap.size + 1, 1, none⟩ = some (.int .i64 b.n) := hB5.cell 1
  have tB2 : w5.cell? ⟨w.heap.size + 1, 2, none⟩ = some (.int .u64 b.u) := hB5.cell 2
  have tB3 : w5.cell? ⟨w.heap.size + 1, 3, none⟩ = some (.string b.s) := hB5.cell 3
  have hO := Blk.new w5 51 #[Value.int .u64 0, .int .u64 0, .int .u64 0, .int .u64 0, .int .u64 0, .int .u64 0, .int .u64 0, .int .u64 0, .bool false]
  have hA := hA5.alloc (.cells #[Value.int .u64 0, .int .u64 0, .int .u64 0, .int .u64 0, .int .u64 0, .int .u64 0, .int .u64 0, .int .u64 0, .bool false] 51)
  have hB := hB5.alloc (.cells #[Value.int .u64 0, .int .u64 0, .int .u64 0, .int .u64 0, .int .u64 0, .int .u64 0, .int .u64 0, .int .u64 0, .bool false] 51)
  have hR := hR5.alloc (.cells #[Value.int .u64 0, .int .u64 0, .int .u64 0, .int .u64 0, .int .u64 0, .int .u64 0, .int .u64 0, .int .u64 0, .bool false] 51)
  have bb := bl_al b5 (.cells #[Value.int .u64 0, .int .u64 0, .int .u64 0, .int .u64 0, .int .u64 0, .int .u64 0, .int .u64 0, .int .u64 0, .bool false] 51)
  have hlt5 : w.heap.size + 1 + 1 < w5.heap.size := hR5.lt
  clear hA5 hB5 hR5 b5
  go_wp2
  generalize w5.alloc (.cells #[Value.int .u64 0, .int .u64 0, .int .u64 0, .int .u64 0, .int .u64 0, .int .u64 0, .int .u64 0, .int .u64 0, .bool false] 51) = w6 at *
  generalize w5.heap.size = GO at *
  clear tA0 tA1 tA2 tA3 tB0 tB1 tB2 tB3
  replace hA := hA.drew
  replace hB := hB.drew
  replace hR := hR.drew
  replace hO := hO.drew
  replace bb := bl_d1 bb
  have a1 : w6.drew.cell? ⟨w.heap.size, 1, none⟩ = some (.int .i64 a.n) := hA.cell 1
  have b1 : w6.drew.cell? ⟨w.heap.size + 1, 1, none⟩ = some (.int .i64 b.n) := hB.cell 1
  go_region_held3 (fun w' => w'.cell? ⟨w.heap.size, 1, none⟩ = some (.int .i64 a.n) ∧ w'.cell? ⟨w.heap.size + 1, 1, none⟩ = some (.int .i64 b.n)) (first | with_reducible exact eS | with_reducible exact ⟨a1, b1⟩ | exact ⟨(blk_far9 hA (g := GO) (by omega) _ _ _ _ _ _ _ _ _).cell 1, (blk_far9 hB (g := GO) (by omega) _ _ _ _ _ _ _ _ _).cell 1⟩)
    (first
      | (go_at_call 37; refine (int_any _ _ (by omega) (by omega)).mono ?_; rintro e wa ⟨rfl, qa⟩; replace hA := hA.below qa hA.lt; replace hB := hB.below qa hB.lt; replace hR := hR.below qa hR.lt; replace hO := hO.below qa hO.lt; replace bb := bl_ca bb qa; clear qa; have eS : wa.cell? ⟨w.heap.size, 1, none⟩ = some (.int .i64 a.n) ∧ wa.cell? ⟨w.heap.size + 1, 1, none⟩ = some (.int .i64 b.n) := ⟨hA.cell 1, hB.cell 1⟩)
      | (go_at_call 48; refine (HC.out _).mono ?_; rintro e wb ⟨rfl, qb⟩; replace hA := hA.below qb hA.lt; replace hB := hB.below qb hB.lt; replace hR := hR.below qb hR.lt; replace hO := hO.below qb hO.lt; replace bb := bl_ca bb qb; clear qb; have eS : wb.cell? ⟨w.heap.size, 1, none⟩ = some (.int .i64 a.n) ∧ wb.cell? ⟨w.heap.size + 1, 1, none⟩ = some (.int .i64 b.n) := ⟨hA.cell 1, hB.cell 1⟩; have r0 : wb.cell? ⟨GO, 0, none⟩ = some (.int .u64 0) := hO.cell 0; have f0 : wb.frozen? ⟨GO, 0, none⟩ = false := hO.frozen 0; have r1 : wb.cell? ⟨GO, 1, none⟩ = some (.int .u64 0) := hO.cell 1; have f1 : wb.frozen? ⟨GO, 1, none⟩ = false := hO.frozen 1; have r2 : wb.cell? ⟨GO, 2, none⟩ = some (.int .u64 0) := hO.cell 2; have f2 : wb.frozen? ⟨GO, 2, none⟩ = false := hO.frozen 2; have r3 : wb.cell? ⟨GO, 3, none⟩ = some (.int .u64 0) := hO.cell 3; have f3 : wb.frozen? ⟨GO, 3, none⟩ = false := hO.frozen 3; have r4 : wb.cell? ⟨GO, 4, none⟩ = some (.int .u64 0) := hO.cell 4; have f4 : wb.frozen? ⟨GO, 4, none⟩ = false := hO.frozen 4; have r5 : wb.cell? ⟨GO, 5, none⟩ = some (.int .u64 0) := hO.cell 5; have f5 : wb.frozen? ⟨GO, 5, none⟩ = false := hO.frozen 5; have r6 : wb.cell? ⟨GO, 6, none⟩ = some (.int .u64 0) := hO.cell 6; have f6 : wb.frozen? ⟨GO, 6, none⟩ = false := hO.frozen 6; have r7 : wb.cell? ⟨GO, 7, none⟩ = some (.int .u64 0) := hO.cell 7; have f7 : wb.frozen? ⟨GO, 7, none⟩ = false := hO.frozen 7; have r8 : wb.cell? ⟨GO, 8, none⟩ = some (.bool false) := hO.cell 8; have f8 : wb.frozen? ⟨GO, 8, none⟩ = false := hO.frozen 8))
  all_goals
    have hS := blk_set9 hO (.int .u64 d0) (.int .u64 d1) (.int .u64 d2) (.int .u64 d3) (.int .u64 d4) (.int .u64 d5) (.int .u64 d6) (.int .u64 d7) (.bool (decide (z < 0)))
    have hS2 : Blk (((((((((wb.setCell ⟨GO, 0, none⟩ (.int .u64 d0)).setCell ⟨GO, 1, none⟩ (.int .u64 d1)).setCell ⟨GO, 2, none⟩ (.int .u64 d2)).setCell ⟨GO, 3, none⟩ (.int .u64 d3)).setCell ⟨GO, 4, none⟩ (.int .u64 d4)).setCell ⟨GO, 5, none⟩ (.int .u64 d5)).setCell ⟨GO, 6, none⟩ (.int .u64 d6)).setCell ⟨GO, 7, none⟩ (.int .u64 d7)).setCell ⟨GO, 8, none⟩ (.bool (decide (z < 0)))) GO 51 (bigC (digs 8 z.natAbs) (decide (z < 0))) := by rw [HD.out]; exact hS
    have hR9 := blk_far9 hR (g := GO) (by omega) (.int .u64 d0) (.int .u64 d1) (.int .u64 d2) (.int .u64 d3) (.int .u64 d4) (.int .u64 d5) (.int .u64 d6) (.int .u64 d7) (.bool (decide (z < 0)))
    have b9 := bl_set9 bb (g := GO) (by omega) (.int .u64 d0) (.int .u64 d1) (.int .u64 d2) (.int .u64 d3) (.int .u64 d4) (.int .u64 d5) (.int .u64 d6) (.int .u64 d7) (.bool (decide (z < 0)))
    clear hS hR bb hA hB hO r0 r1 r2 r3 r4 r5 r6 r7 r8 f0 f1 f2 f3 f4 f5 f6 f7 f8 eS a1 b1
    try clear hHeld
    generalize (((((((((wb.setCell ⟨GO, 0, none⟩ (.int .u64 d0)).setCell ⟨GO, 1, none⟩ (.int .u64 d1)).setCell ⟨GO, 2, none⟩ (.int .u64 d2)).setCell ⟨GO, 3, none⟩ (.int .u64 d3)).setCell ⟨GO, 4, none⟩ (.int .u64 d4)).setCell ⟨GO, 5, none⟩ (.int .u64 d5)).setCell ⟨GO, 6, none⟩ (.int .u64 d6)).setCell ⟨GO, 7, none⟩ (.int .u64 d7)).setCell ⟨GO, 8, none⟩ (.bool (decide (z < 0)))) = w8 at *
    go_wp2_with (refine wpList_load_blk rfl 51 (.tmp 8) rfl GO rfl 51 _ _ hS2 Try.underlying51 rfl (bigI_ _ _ (digs_len _ _)) ?_)
    refine (HSM.out w8).mono ?_
    rintro e w10 ⟨n, rfl, hn, q10⟩
    have hR10 := hR9.below q10 hR9.lt
    have b10 := bl_ca b9 q10
    clear hR9 b9 q10 hS2
    by_cases hs : smallB z = true
    · obtain rfl := hn hs
      have HS := Lib.hid hs
      rw [hs]
      clear hs hn
      go_wp2_with fail
      refine (rint_any n w10).mono ?_
      rintro e w11 ⟨rfl, q11⟩
      have hR11 := hR10.below q11 hR10.lt
      have b11 := bl_ca b10 q11
      clear hR10 b10 q11
      go_wp2_with (refine wpList_store_blk rfl 27 (.tmp 6) (.tmp 90) rfl (w.heap.size + 1 + 1) 27 _ _ rfl rfl hR11 rfl valI (one4 _ _ _ _) ?_; intro w12 hRw12 g12)
      exact bodyPost_ret (res2 Try.results25 rfl rfl hRw12 Try.underlying27 rfl valI) rfl ⟨by unfold outR; rw [HS.out]; rfl, bl_gr b11 g12 (by omega)⟩
    · have hs2 : smallB z = false := by simpa using hs
      have HS := Lib.hid hs2
      rw [hs2]
      clear hs hs2 hn
      go_wp2_with (refine wpList_store_blk rfl 27 (.tmp 6) (.tmp 88) rfl (w.heap.size + 1 + 1) 27 _ _ rfl rfl hR10 rfl valI (one4 _ _ _ _) ?_; intro w12 hRw12 g12)
      exact bodyPost_ret (res2 Try.results25 rfl rfl hRw12 Try.underlying27 rfl valI) rfl ⟨by unfold outR; rw [HS.out]; rfl, bl_gr b10 g12 (by omega)⟩
set_option maxRecDepth 100000 in
set_option maxHeartbeats 4000000 in
theorem refop_div (a b : VV) (w : World) (hra : rightB a.k a.n a.u a.s = true) (hrb : rightB b.k b.n b.u b.s = true) (hta : (rightB a.k a.n a.u a.s && kindB 2 a.k) = true) (htb : (rightB b.k b.n b.u b.s && kindB 2 b.k) = true) (hk : (a.k == 0) = false) (hk2 : (b.k == 0) = false) (ia : I64 a.n) (ib : I64 b.n) (h0 : b.n ≠ 0) : Calls Try.prog 25 #[.int .u8 47, .agg #[.int .i64 a.k, .int .i64 a.n, .int .u64 a.u, .string a.s], .agg #[.int .i64 b.k, .int .i64 b.n, .int .u64 b.u, .string b.s]] w fun e w' => e = .returned (resT (outR (a.n.tdiv b.n))) ∧ Below w.heap.size w w' := by
  have hz8 : (a.n.tdiv b.n).natAbs < 4294967296 ^ 8 := by
    have h1 := Nat.div_le_self a.n.natAbs b.n.natAbs
    have h2 : (a.n.tdiv b.n).natAbs = a.n.natAbs / b.n.natAbs := Int.natAbs_tdiv _ _
    rw [show (4294967296 ^ 8 : Nat) = 115792089237316195423570985008687907853269984665640564039457584007913129639936 from by decide, h2]
    unfold I64 at ia ib
    omega
  have HC0 := (show ∀ w, Calls Try.prog 49 #[bigV a.n, bigV b.n] w fun e w' => e = .returned (bigV (a.n.tdiv b.n)) ∧ Below w.heap.size w w' from fun w => quot_any a.n b.n w (by unfold I64 at ia; omega) (by unfold I64 at ib; omega) h0)
  have HSM := Lib.hid (fun w => small_any (a.n.tdiv b.n) w hz8)
  clear hz8
  generalize hzz : a.n.tdiv b.n = z at *
  have HZ := Lib.hid hzz
  clear hzz
  obtain ⟨d0, d1, d2, d3, d4, d5, d6, d7, hd⟩ := eight (digs_len 8 z.natAbs)
  have hbv : bigV z = .agg #[.int .u64 d0, .int .u64 d1, .int .u64 d2, .int .u64 d3, .int .u64 d4, .int .u64 d5, .int .u64 d6, .int .u64 d7, .bool (decide (z < 0))] := by unfold bigV; rw [hd]; rfl
  have HBV := Lib.hid hbv
  rw [hbv] at HC0
  have HC := Lib.hid HC0
  have HD := Lib.hid hd
  clear hd hbv HC0
  have hb0 : (b.n == 0) = false := ibeq_f h0
  have HB0 := Lib.hid hb0
  clear hb0
  unfold I64 at ia ib
  have hA := (((Blk.new w 27 #[.int .i64 a.k, .int .i64 a.n, .int .u64 a.u, .string a.s]).alloc (.cells #[.int .i64 b.k, .int .i64 b.n, .int .u64 b.u, .string b.s] 27)).alloc (.cells #[.int .i64 0, .int .i64 0, .int .u64 0, .string ⟨#[]⟩] 27))
  have hB := ((Blk.new (w.alloc (.cells #[.int .i64 a.k, .int .i64 a.n, .int .u64 a.u, .string a.s] 27)) 27 #[.int .i64 b.k, .int .i64 b.n, .int .u64 b.u, .string b.s]).alloc (.cells #[.int .i64 0, .int .i64 0, .int .u64 0, .string ⟨#[]⟩] 27))
  have hR := (Blk.new ((w.alloc (.cells #[.int .i64 a.k, .int .i64 a.n, .int .u64 a.u, .string a.s] 27)).alloc (.cells #[.int .i64 b.k, .int .i64 b.n, .int .u64 b.u, .string b.s] 27)) 27 #[.int .i64 0, .int .i64 0, .int .u64 0, .string ⟨#[]⟩])
  have b0 := (bl_al (bl_al (bl_al (Below.refl w.heap.size w) (.cells #[.int .i64 a.k, .int .i64 a.n, .int .u64 a.u, .string a.s] 27)) (.cells #[.int .i64 b.k, .int .i64 b.n, .int .u64 b.u, .string b.s] 27)) (.cells #[.int .i64 0, .int .i64 0, .int .u64 0, .string ⟨#[]⟩] 27))
  simp only [World.size_alloc] at hB hR
  go_enter Try.func25, Try.ntmps25
  go_wp2_with fail
  generalize (((w.alloc (.cells #[.int .i64 a.k, .int .i64 a.n, .int .u64 a.u, .string a.s] 27)).alloc (.cells #[.int .i64 b.k, .int .i64 b.n, .int .u64 b.u, .string b.s] 27)).alloc (.cells #[.int .i64 0, .int .i64 0, .int .u64 0, .string ⟨#[]⟩] 27)) = w1 at *
  refine (right_any a.k a.n a.u a.s w1).mono ?_
  rintro e w2 ⟨rfl, q2⟩
  rw [hra]
  have hA2 := hA.below q2 hA.lt
  have hB2 := hB.below q2 hB.lt
  have hR2 := hR.below q2 hR.lt
  have b2 := bl_ca b0 q2
  clear hA hB hR q2 b0
  have tA0 : w2.cell? ⟨w.heap.size, 0, none⟩ = some (.int .i64 a.k) := hA2.cell 0
  have tA1 : w2.cell? ⟨w.heap.size, 1, none⟩ = some (.int .i64 a.n) := hA2.cell 1
  have tA2 : w2.cell? ⟨w.heap.size, 2, none⟩ = some (.int .u64 a.u) := hA2.cell 2
  have tA3 : w2.cell? ⟨w.heap.size, 3, none⟩ = some (.string a.s) := hA2.cell 3
  have tB0 : w2.cell? ⟨w.heap.size + 1, 0, none⟩ = some (.int .i64 b.k) := hB2.cell 0
  have tB1 : w2.cell? ⟨w.heap.size + 1, 1, none⟩ = some (.int .i64 b.n) := hB2.cell 1
  have tB2 : w2.cell? ⟨w.heap.size + 1, 2, none⟩ = some (.int .u64 b.u) := hB2.cell 2
  have tB3 : w2.cell? ⟨w.heap.size + 1, 3, none⟩ = some (.string b.s) := hB2.cell 3
  clear hra
  go_wp2_with fail
  refine (right_any b.k b.n b.u b.s w2).mono ?_
  rintro e w3 ⟨rfl, q3⟩
  rw [hrb]
  have hA3 := hA2.below q3 hA2.lt
  have hB3 := hB2.below q3 hB2.lt
  have hR3 := hR2.below q3 hR2.lt
  have b3 := bl_ca b2 q3
  clear hA2 hB2 hR2 q3 b2
  clear hrb tA0 tA1 tA2 tA3 tB0 tB1 tB2 tB3
  have tA0 : w3.cell? ⟨w.heap.size, 0, none⟩ = some (.int .i64 a.k) := hA3.cell 0
  have tA1 : w3.cell? ⟨w.heap.size, 1, none⟩ = some (.int .i64 a.n) := hA3.cell 1
  have tA2 : w3.cell? ⟨w.heap.size, 2, none⟩ = some (.int .u64 a.u) := hA3.cell 2
  have tA3 : w3.cell? ⟨w.heap.size, 3, none⟩ = some (.string a.s) := hA3.cell 3
  have tB0 : w3.cell? ⟨w.heap.size + 1, 0, none⟩ = some (.int .i64 b.k) := hB3.cell 0
  have tB1 : w3.cell? ⟨w.heap.size + 1, 1, none⟩ = some (.int .i64 b.n) := hB3.cell 1
  have tB2 : w3.cell? ⟨w.heap.size + 1, 2, none⟩ = some (.int .u64 b.u) := hB3.cell 2
  have tB3 : w3.cell? ⟨w.heap.size + 1, 3, none⟩ = some (.string b.s) := hB3.cell 3
  go_wp2_with fail
  refine (term_any a.k a.n a.u a.s w3).mono ?_
  rintro e w4 ⟨rfl, q4⟩
  rw [hta]
  have hA4 := hA3.below q4 hA3.lt
  have hB4 := hB3.below q4 hB3.lt
  have hR4 := hR3.below q4 hR3.lt
  have b4 := bl_ca b3 q4
  clear hA3 hB3 hR3 q4 b3
  clear hta tA0 tA1 tA2 tA3 tB0 tB1 tB2 tB3
  have tA0 : w4.cell? ⟨w.heap.size, 0, none⟩ = some (.int .i64 a.k) := hA4.cell 0
  have tA1 : w4.cell? ⟨w.heap.size, 1, none⟩ = some (.int .i64 a.n) := hA4.cell 1
  have tA2 : w4.cell? ⟨w.heap.size, 2, none⟩ = some (.int .u64 a.u) := hA4.cell 2
  have tA3 : w4.cell? ⟨w.heap.size, 3, none⟩ = some (.string a.s) := hA4.cell 3
  have tB0 : w4.cell? ⟨w.heap.size + 1, 0, none⟩ = some (.int .i64 b.k) := hB4.cell 0
  have tB1 : w4.cell? ⟨w.heap.size + 1, 1, none⟩ = some (.int .i64 b.n) := hB4.cell 1
  have tB2 : w4.cell? ⟨w.heap.size + 1, 2, none⟩ = some (.int .u64 b.u) := hB4.cell 2
  have tB3 : w4.cell? ⟨w.heap.size + 1, 3, none⟩ = some (.string b.s) := hB4.cell 3
  go_wp2_with fail
  refine (term_any b.k b.n b.u b.s w4).mono ?_
  rintro e w5 ⟨rfl, q5⟩
  rw [htb]
  have hA5 := hA4.below q5 hA4.lt
  have hB5 := hB4.below q5 hB4.lt
  have hR5 := hR4.below q5 hR4.lt
  have b5 := bl_ca b4 q5
  clear hA4 hB4 hR4 q5 b4
  clear htb tA0 tA1 tA2 tA3 tB0 tB1 tB2 tB3
  have tA0 : w5.cell? ⟨w.heap.size, 0, none⟩ = some (.int .i64 a.k) := hA5.cell 0
  have tA1 : w5.cell? ⟨w.heap.size, 1, none⟩ = some (.int .i64 a.n) := hA5.cell 1
  have tA2 : w5.cell? ⟨w.heap.size, 2, none⟩ = some (.int .u64 a.u) := hA5.cell 2
  have tA3 : w5.cell? ⟨w.heap.size, 3, none⟩ = some (.string a.s) := hA5.cell 3
  have tB0 : w5.cell? ⟨w.heap.size + 1, 0, none⟩ = some (.int .i64 b.k) := hB5.cell 0
  have tB1 : w5.cell? ⟨w.heap.size + 1, 1, none⟩ = some (.int .i64 b.n) := hB5.cell 1
  have tB2 : w5.cell? ⟨w.heap.size + 1, 2, none⟩ = some (.int .u64 b.u) := hB5.cell 2
  have tB3 : w5.cell? ⟨w.heap.size + 1, 3, none⟩ = some (.string b.s) := hB5.cell 3
  have hO := Blk.new w5 51 #[Value.int .u64 0, .int .u64 0, .int .u64 0, .int .u64 0, .int .u64 0, .int .u64 0, .int .u64 0, .int .u64 0, .bool false]
  have hA := hA5.alloc (.cells #[Value.int .u64 0, .int .u64 0, .int .u64 0, .int .u64 0, .int .u64 0, .int .u64 0, .int .u64 0, .int .u64 0, .bool false] 51)
  have hB := hB5.alloc (.cells #[Value.int .u64 0, .int .u64 0, .int .u64 0, .int .u64 0, .int .u64 0, .int .u64 0, .int .u64 0, .int .u64 0, .bool false] 51)
  have hR := hR5.alloc (.cells #[Value.int .u64 0, .int .u64 0, .int .u64 0, .int .u64 0, .int .u64 0, .int .u64 0, .int .u64 0, .int .u64 0, .bool false] 51)
  have bb := bl_al b5 (.cells #[Value.int .u64 0, .int .u64 0, .int .u64 0, .int .u64 0, .int .u64 0, .int .u64 0, .int .u64 0, .int .u64 0, .bool false] 51)
  have hlt5 : w.heap.size + 1 + 1 < w5.heap.size := hR5.lt
  clear hA5 hB5 hR5 b5
  have hb0 := HB0.out
  have tBB : (w5.alloc (.cells #[Value.int .u64 0, .int .u64 0, .int .u64 0, .int .u64 0, .int .u64 0, .int .u64 0, .int .u64 0, .int .u64 0, .bool false] 51)).cell? ⟨w.heap.size + 1, 1, none⟩ = some (.int .i64 b.n) := hB.cell 1
  go_wp2
  clear tBB hb0
  generalize w5.alloc (.cells #[Value.int .u64 0, .int .u64 0, .int .u64 0, .int .u64 0, .int .u64 0, .int .u64 0, .int .u64 0, .int .u64 0, .bool false] 51) = w6 at *
  generalize w5.heap.size = GO at *
  clear tA0 tA1 tA2 tA3 tB0 tB1 tB2 tB3
  replace hA := hA.drew
  replace hB := hB.drew
  replace hR := hR.drew
  replace hO := hO.drew
  replace bb := bl_d1 bb
  have a1 : w6.drew.cell? ⟨w.heap.size, 1, none⟩ = some (.int .i64 a.n) := hA.cell 1
  have b1 : w6.drew.cell? ⟨w.heap.size + 1, 1, none⟩ = some (.int .i64 b.n) := hB.cell 1
  go_region_held3 (fun w' => w'.cell? ⟨w.heap.size, 1, none⟩ = some (.int .i64 a.n) ∧ w'.cell? ⟨w.heap.size + 1, 1, none⟩ = some (.int .i64 b.n)) (first | with_reducible exact eS | with_reducible exact ⟨a1, b1⟩ | exact ⟨(blk_far9 hA (g := GO) (by omega) _ _ _ _ _ _ _ _ _).cell 1, (blk_far9 hB (g := GO) (by omega) _ _ _ _ _ _ _ _ _).cell 1⟩)
    (first
      | (go_at_call 37; refine (int_any _ _ (by omega) (by omega)).mono ?_; rintro e wa ⟨rfl, qa⟩; replace hA := hA.below qa hA.lt; replace hB := hB.below qa hB.lt; replace hR := hR.below qa hR.lt; replace hO := hO.below qa hO.lt; replace bb := bl_ca bb qa; clear qa; have eS : wa.cell? ⟨w.heap.size, 1, none⟩ = some (.int .i64 a.n) ∧ wa.cell? ⟨w.heap.size + 1, 1, none⟩ = some (.int .i64 b.n) := ⟨hA.cell 1, hB.cell 1⟩)
      | (go_at_call 49; refine (HC.out _).mono ?_; rintro e wb ⟨rfl, qb⟩; replace hA := hA.below qb hA.lt; replace hB := hB.below qb hB.lt; replace hR := hR.below qb hR.lt; replace hO := hO.below qb hO.lt; replace bb := bl_ca bb qb; clear qb; have eS : wb.cell? ⟨w.heap.size, 1, none⟩ = some (.int .i64 a.n) ∧ wb.cell? ⟨w.heap.size + 1, 1, none⟩ = some (.int .i64 b.n) := ⟨hA.cell 1, hB.cell 1⟩; have r0 : wb.cell? ⟨GO, 0, none⟩ = some (.int .u64 0) := hO.cell 0; have f0 : wb.frozen? ⟨GO, 0, none⟩ = false := hO.frozen 0; have r1 : wb.cell? ⟨GO, 1, none⟩ = some (.int .u64 0) := hO.cell 1; have f1 : wb.frozen? ⟨GO, 1, none⟩ = false := hO.frozen 1; have r2 : wb.cell? ⟨GO, 2, none⟩ = some (.int .u64 0) := hO.cell 2; have f2 : wb.frozen? ⟨GO, 2, none⟩ = false := hO.frozen 2; have r3 : wb.cell? ⟨GO, 3, none⟩ = some (.int .u64 0) := hO.cell 3; have f3 : wb.frozen? ⟨GO, 3, none⟩ = false := hO.frozen 3; have r4 : wb.cell? ⟨GO, 4, none⟩ = some (.int .u64 0) := hO.cell 4; have f4 : wb.frozen? ⟨GO, 4, none⟩ = false := hO.frozen 4; have r5 : wb.cell? ⟨GO, 5, none⟩ = some (.int .u64 0) := hO.cell 5; have f5 : wb.frozen? ⟨GO, 5, none⟩ = false := hO.frozen 5; have r6 : wb.cell? ⟨GO, 6, none⟩ = some (.int .u64 0) := hO.cell 6; have f6 : wb.frozen? ⟨GO, 6, none⟩ = false := hO.frozen 6; have r7 : wb.cell? ⟨GO, 7, none⟩ = some (.int .u64 0) := hO.cell 7; have f7 : wb.frozen? ⟨GO, 7, none⟩ = false := hO.frozen 7; have r8 : wb.cell? ⟨GO, 8, none⟩ = some (.bool false) := hO.cell 8; have f8 : wb.frozen? ⟨GO, 8, none⟩ = false := hO.frozen 8))
  all_goals
    have hS := blk_set9 hO (.int .u64 d0) (.int .u64 d1) (.int .u64 d2) (.int .u64 d3) (.int .u64 d4) (.int .u64 d5) (.int .u64 d6) (.int .u64 d7) (.bool (decide (z < 0)))
    have hS2 : Blk (((((((((wb.setCell ⟨GO, 0, none⟩ (.int .u64 d0)).setCell ⟨GO, 1, none⟩ (.int .u64 d1)).setCell ⟨GO, 2, none⟩ (.int .u64 d2)).setCell ⟨GO, 3, none⟩ (.int .u64 d3)).setCell ⟨GO, 4, none⟩ (.int .u64 d4)).setCell ⟨GO, 5, none⟩ (.int .u64 d5)).setCell ⟨GO, 6, none⟩ (.int .u64 d6)).setCell ⟨GO, 7, none⟩ (.int .u64 d7)).setCell ⟨GO, 8, none⟩ (.bool (decide (z < 0)))) GO 51 (bigC (digs 8 z.natAbs) (decide (z < 0))) := by rw [HD.out]; exact hS
    have hR9 := blk_far9 hR (g := GO) (by omega) (.int .u64 d0) (.int .u64 d1) (.int .u64 d2) (.int .u64 d3) (.int .u64 d4) (.int .u64 d5) (.int .u64 d6) (.int .u64 d7) (.bool (decide (z < 0)))
    have b9 := bl_set9 bb (g := GO) (by omega) (.int .u64 d0) (.int .u64 d1) (.int .u64 d2) (.int .u64 d3) (.int .u64 d4) (.int .u64 d5) (.int .u64 d6) (.int .u64 d7) (.bool (decide (z < 0)))
    clear hS hR bb hA hB hO r0 r1 r2 r3 r4 r5 r6 r7 r8 f0 f1 f2 f3 f4 f5 f6 f7 f8 eS a1 b1
    try clear hHeld
    generalize (((((((((wb.setCell ⟨GO, 0, none⟩ (.int .u64 d0)).setCell ⟨GO, 1, none⟩ (.int .u64 d1)).setCell ⟨GO, 2, none⟩ (.int .u64 d2)).setCell ⟨GO, 3, none⟩ (.int .u64 d3)).setCell ⟨GO, 4, none⟩ (.int .u64 d4)).setCell ⟨GO, 5, none⟩ (.int .u64 d5)).setCell ⟨GO, 6, none⟩ (.int .u64 d6)).setCell ⟨GO, 7, none⟩ (.int .u64 d7)).setCell ⟨GO, 8, none⟩ (.bool (decide (z < 0)))) = w8 at *
    go_wp2_with (refine wpList_load_blk rfl 51 (.tmp 8) rfl GO rfl 51 _ _ hS2 Try.underlying51 rfl (bigI_ _ _ (digs_len _ _)) ?_)
    refine (HSM.out w8).mono ?_
    rintro e w10 ⟨n, rfl, hn, q10⟩
    have hR10 := hR9.below q10 hR9.lt
    have b10 := bl_ca b9 q10
    clear hR9 b9 q10 hS2
    by_cases hs : smallB z = true
    · obtain rfl := hn hs
      have HS := Lib.hid hs
      rw [hs]
      clear hs hn
      go_wp2_with fail
      refine (rint_any n w10).mono ?_
      rintro e w11 ⟨rfl, q11⟩
      have hR11 := hR10.below q11 hR10.lt
      have b11 := bl_ca b10 q11
      clear hR10 b10 q11
      go_wp2_with (refine wpList_store_blk rfl 27 (.tmp 6) (.tmp 90) rfl (w.heap.size + 1 + 1) 27 _ _ rfl rfl hR11 rfl valI (one4 _ _ _ _) ?_; intro w12 hRw12 g12)
      exact bodyPost_ret (res2 Try.results25 rfl rfl hRw12 Try.underlying27 rfl valI) rfl ⟨by unfold outR; rw [HS.out]; rfl, bl_gr b11 g12 (by omega)⟩
    · have hs2 : smallB z = false := by simpa using hs
      have HS := Lib.hid hs2
      rw [hs2]
      clear hs hs2 hn
      go_wp2_with (refine wpList_store_blk rfl 27 (.tmp 6) (.tmp 88) rfl (w.heap.size + 1 + 1) 27 _ _ rfl rfl hR10 rfl valI (one4 _ _ _ _) ?_; intro w12 hRw12 g12)
      exact bodyPost_ret (res2 Try.results25 rfl rfl hRw12 Try.underlying27 rfl valI) rfl ⟨by unfold outR; rw [HS.out]; rfl, bl_gr b10 g12 (by omega)⟩
set_option maxRecDepth 100000 in
set_option maxHeartbeats 2000000 in
theorem refop_div0 (a b : VV) (w : World) (hra : rightB a.k a.n a.u a.s = true) (hrb : rightB b.k b.n b.u b.s = true) (hta : (rightB a.k a.n a.u a.s && kindB 2 a.k) = true) (htb : (rightB b.k b.n b.u b.s && kindB 2 b.k) = true) (hk : (a.k == 0) = false) (hk2 : (b.k == 0) = false) (h0 : (b.n == 0) = true) : Calls Try.prog 25 #[.int .u8 47, .agg #[.int .i64 a.k, .int .i64 a.n, .int .u64 a.u, .string a.s], .agg #[.int .i64 b.k, .int .i64 b.n, .int .u64 b.u, .string b.s]] w fun e w' => e = .returned (resT (V0, 140)) ∧ Below w.heap.size w w' := by
  have hA := (((Blk.new w 27 #[.int .i64 a.k, .int .i64 a.n, .int .u64 a.u, .string a.s]).alloc (.cells #[.int .i64 b.k, .int .i64 b.n, .int .u64 b.u, .string b.s] 27)).alloc (.cells #[.int .i64 0, .int .i64 0, .int .u64 0, .string ⟨#[]⟩] 27))
  have hB := ((Blk.new (w.alloc (.cells #[.int .i64 a.k, .int .i64 a.n, .int .u64 a.u, .string a.s] 27)) 27 #[.int .i64 b.k, .int .i64 b.n, .int .u64 b.u, .string b.s]).alloc (.cells #[.int .i64 0, .int .i64 0, .int .u64 0, .string ⟨#[]⟩] 27))
  have hR := (Blk.new ((w.alloc (.cells #[.int .i64 a.k, .int .i64 a.n, .int .u64 a.u, .string a.s] 27)).alloc (.cells #[.int .i64 b.k, .int .i64 b.n, .int .u64 b.u, .string b.s] 27)) 27 #[.int .i64 0, .int .i64 0, .int .u64 0, .string ⟨#[]⟩])
  have b0 := (bl_al (bl_al (bl_al (Below.refl w.heap.size w) (.cells #[.int .i64 a.k, .int .i64 a.n, .int .u64 a.u, .string a.s] 27)) (.cells #[.int .i64 b.k, .int .i64 b.n, .int .u64 b.u, .string b.s] 27)) (.cells #[.int .i64 0, .int .i64 0, .int .u64 0, .string ⟨#[]⟩] 27))
  simp only [World.size_alloc] at hB hR
  go_enter Try.func25, Try.ntmps25
  go_wp2_with fail
  generalize (((w.alloc (.cells #[.int .i64 a.k, .int .i64 a.n, .int .u64 a.u, .string a.s] 27)).alloc (.cells #[.int .i64 b.k, .int .i64 b.n, .int .u64 b.u, .string b.s] 27)).alloc (.cells #[.int .i64 0, .int .i64 0, .int .u64 0, .string ⟨#[]⟩] 27)) = w1 at *
  refine (right_any a.k a.n a.u a.s w1).mono ?_
  rintro e w2 ⟨rfl, q2⟩
  rw [hra]
  have hA2 := hA.below q2 hA.lt
  have hB2 := hB.below q2 hB.lt
  have hR2 := hR.below q2 hR.lt
  have b2 := bl_ca b0 q2
  clear hA hB hR q2 b0
  have tA0 : w2.cell? ⟨w.heap.size, 0, none⟩ = some (.int .i64 a.k) := hA2.cell 0
  have tA1 : w2.cell? ⟨w.heap.size, 1, none⟩ = some (.int .i64 a.n) := hA2.cell 1
  have tA2 : w2.cell? ⟨w.heap.size, 2, none⟩ = some (.int .u64 a.u) := hA2.cell 2
  have tA3 : w2.cell? ⟨w.heap.size, 3, none⟩ = some (.string a.s) := hA2.cell 3
  have tB0 : w2.cell? ⟨w.heap.size + 1, 0, none⟩ = some (.int .i64 b.k) := hB2.cell 0
  have tB1 : w2.cell? ⟨w.heap.size + 1, 1, none⟩ = some (.int .i64 b.n) := hB2.cell 1
  have tB2 : w2.cell? ⟨w.heap.size + 1, 2, none⟩ = some (.int .u64 b.u) := hB2.cell 2
  have tB3 : w2.cell? ⟨w.heap.size + 1, 3, none⟩ = some (.string b.s) := hB2.cell 3
  clear hra
  go_wp2_with fail
  refine (right_any b.k b.n b.u b.s w2).mono ?_
  rintro e w3 ⟨rfl, q3⟩
  rw [hrb]
  have hA3 := hA2.below q3 hA2.lt
  have hB3 := hB2.below q3 hB2.lt
  have hR3 := hR2.below q3 hR2.lt
  have b3 := bl_ca b2 q3
  clear hA2 hB2 hR2 q3 b2
  clear hrb tA0 tA1 tA2 tA3 tB0 tB1 tB2 tB3
  have tA0 : w3.cell? ⟨w.heap.size, 0, none⟩ = some (.int .i64 a.k) := hA3.cell 0
  have tA1 : w3.cell? ⟨w.heap.size, 1, none⟩ = some (.int .i64 a.n) := hA3.cell 1
  have tA2 : w3.cell? ⟨w.heap.size, 2, none⟩ = some (.int .u64 a.u) := hA3.cell 2
  have tA3 : w3.cell? ⟨w.heap.size, 3, none⟩ = some (.string a.s) := hA3.cell 3
  have tB0 : w3.cell? ⟨w.heap.size + 1, 0, none⟩ = some (.int .i64 b.k) := hB3.cell 0
  have tB1 : w3.cell? ⟨w.heap.size + 1, 1, none⟩ = some (.int .i64 b.n) := hB3.cell 1
  have tB2 : w3.cell? ⟨w.heap.size + 1, 2, none⟩ = some (.int .u64 b.u) := hB3.cell 2
  have tB3 : w3.cell? ⟨w.heap.size + 1, 3, none⟩ = some (.string b.s) := hB3.cell 3
  go_wp2_with fail
  refine (term_any a.k a.n a.u a.s w3).mono ?_
  rintro e w4 ⟨rfl, q4⟩
  rw [hta]
  have hA4 := hA3.below q4 hA3.lt
  have hB4 := hB3.below q4 hB3.lt
  have hR4 := hR3.below q4 hR3.lt
  have b4 := bl_ca b3 q4
  clear hA3 hB3 hR3 q4 b3
  clear hta tA0 tA1 tA2 tA3 tB0 tB1 tB2 tB3
  have tA0 : w4.cell? ⟨w.heap.size, 0, none⟩ = some (.int .i64 a.k) := hA4.cell 0
  have tA1 : w4.cell? ⟨w.heap.size, 1, none⟩ = some (.int .i64 a.n) := hA4.cell 1
  have tA2 : w4.cell? ⟨w.heap.size, 2, none⟩ = some (.int .u64 a.u) := hA4.cell 2
  have tA3 : w4.cell? ⟨w.heap.size, 3, none⟩ = some (.string a.s) := hA4.cell 3
  have tB0 : w4.cell? ⟨w.heap.size + 1, 0, none⟩ = some (.int .i64 b.k) := hB4.cell 0
  have tB1 : w4.cell? ⟨w.heap.size + 1, 1, none⟩ = some (.int .i64 b.n) := hB4.cell 1
  have tB2 : w4.cell? ⟨w.heap.size + 1, 2, none⟩ = some (.int .u64 b.u) := hB4.cell 2
  have tB3 : w4.cell? ⟨w.heap.size + 1, 3, none⟩ = some (.string b.s) := hB4.cell 3
  go_wp2_with fail
  refine (term_any b.k b.n b.u b.s w4).mono ?_
  rintro e w5 ⟨rfl, q5⟩
  rw [htb]
  have hA5 := hA4.below q5 hA4.lt
  have hB5 := hB4.below q5 hB4.lt
  have hR5 := hR4.below q5 hR4.lt
  have b5 := bl_ca b4 q5
  clear hA4 hB4 hR4 q5 b4
  clear htb tA0 tA1 tA2 tA3 tB0 tB1 tB2 tB3
  have tA0 : w5.cell? ⟨w.heap.size, 0, none⟩ = some (.int .i64 a.k) := hA5.cell 0
  have tA1 : w5.cell? ⟨w.heap.size, 1, none⟩ = some (.int .i64 a.n) := hA5.cell 1
  have tA2 : w5.cell? ⟨w.heap.size, 2, none⟩ = some (.int .u64 a.u) := hA5.cell 2
  have tA3 : w5.cell? ⟨w.heap.size, 3, none⟩ = some (.string a.s) := hA5.cell 3
  have tB0 : w5.cell? ⟨w.heap.size + 1, 0, none⟩ = some (.int .i64 b.k) := hB5.cell 0
  have tB1 : w5.cell? ⟨w.heap.size + 1, 1, none⟩ = some (.int .i64 b.n) := hB5.cell 1
  have tB2 : w5.cell? ⟨w.heap.size + 1, 2, none⟩ = some (.int .u64 b.u) := hB5.cell 2
  have tB3 : w5.cell? ⟨w.heap.size + 1, 3, none⟩ = some (.string b.s) := hB5.cell 3
  have hR := hR5.alloc (.cells #[Value.int .u64 0, .int .u64 0, .int .u64 0, .int .u64 0, .int .u64 0, .int .u64 0, .int .u64 0, .int .u64 0, .bool false] 51)
  have hB := hB5.alloc (.cells #[Value.int .u64 0, .int .u64 0, .int .u64 0, .int .u64 0, .int .u64 0, .int .u64 0, .int .u64 0, .int .u64 0, .bool false] 51)
  have bb := bl_al b5 (.cells #[Value.int .u64 0, .int .u64 0, .int .u64 0, .int .u64 0, .int .u64 0, .int .u64 0, .int .u64 0, .int .u64 0, .bool false] 51)
  have tBB : (w5.alloc (.cells #[Value.int .u64 0, .int .u64 0, .int .u64 0, .int .u64 0, .int .u64 0, .int .u64 0, .int .u64 0, .int .u64 0, .bool false] 51)).cell? ⟨w.heap.size + 1, 1, none⟩ = some (.int .i64 b.n) := hB.cell 1
  have KR := Lib.hid hR
  clear hA5 hB5 hR5 b5 hR
  go_wp2_with (refine wpList_store_blk rfl 27 (.tmp 6) (.tmp 45) rfl (w.heap.size + 1 + 1) 27 _ _ rfl rfl KR.out rfl valI (one4 _ _ _ _) ?_; intro w12 hRw12 g12)
  exact bodyPost_ret (res2 Try.results25 rfl rfl hRw12 Try.underlying27 rfl valI) rfl ⟨rfl, bl_gr bb g12 (by omega)⟩
end Go.Proofs.Ytemakmgppafccaa
