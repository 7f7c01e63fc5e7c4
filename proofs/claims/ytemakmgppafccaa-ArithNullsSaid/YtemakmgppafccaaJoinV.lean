/- arith.Join, arith.End. Conditions: fields within their kinds. -/
import Derived.Test.YtemakmgppafccaaSumV2
namespace Go.Proofs.Ytemakmgppafccaa
open Go.RowKit
attribute [local go_sem ↓] Go.wp_at_zero Go.wp_at_succ
set_option maxRecDepth 100000 in
set_option maxHeartbeats 4000000 in
theorem join_e (a b : VV) (E : Int) (w : World) (he : areE 4 [a, b] = E) (t1 : (E != 0) = true) : Calls Try.prog 14 #[.agg #[.int .i64 a.k, .int .i64 a.n, .int .u64 a.u, .string a.s], .agg #[.int .i64 b.k, .int .i64 b.n, .int .u64 b.u, .string b.s]] w fun e w' => e = .returned (resT (V0, E)) ∧ Below w.heap.size w w' := by
  have hA := ((((Blk.new w 27 #[.int .i64 a.k, .int .i64 a.n, .int .u64 a.u, .string a.s]).alloc (.cells #[.int .i64 b.k, .int .i64 b.n, .int .u64 b.u, .string b.s] 27)).alloc (.cells #[.int .i64 0, .int .i64 0, .int .u64 0, .string ⟨#[]⟩] 27)).alloc (.cells #[.int .i64 a.k, .int .i64 a.n, .int .u64 a.u, .string a.s, .int .i64 b.k, .int .i64 b.n, .int .u64 b.u, .string b.s] 27))
  have hB := (((Blk.new (w.alloc (.cells #[.int .i64 a.k, .int .i64 a.n, .int .u64 a.u, .string a.s] 27)) 27 #[.int .i64 b.k, .int .i64 b.n, .int .u64 b.u, .string b.s]).alloc (.cells #[.int .i64 0, .int .i64 0, .int .u64 0, .string ⟨#[]⟩] 27)).alloc (.cells #[.int .i64 a.k, .int .i64 a.n, .int .u64 a.u, .string a.s, .int .i64 b.k, .int .i64 b.n, .int .u64 b.u, .string b.s] 27))
  have hR := ((Blk.new ((w.alloc (.cells #[.int .i64 a.k, .int .i64 a.n, .int .u64 a.u, .string a.s] 27)).alloc (.cells #[.int .i64 b.k, .int .i64 b.n, .int .u64 b.u, .string b.s] 27)) 27 #[.int .i64 0, .int .i64 0, .int .u64 0, .string ⟨#[]⟩]).alloc (.cells #[.int .i64 a.k, .int .i64 a.n, .int .u64 a.u, .string a.s, .int .i64 b.k, .int .i64 b.n, .int .u64 b.u, .string b.s] 27))
  have hS := (Blk.new (((w.alloc (.cells #[.int .i64 a.k, .int .i64 a.n, .int .u64 a.u, .string a.s] 27)).alloc (.cells #[.int .i64 b.k, .int .i64 b.n, .int .u64 b.u, .string b.s] 27)).alloc (.cells #[.int .i64 0, .int .i64 0, .int .u64 0, .string ⟨#[]⟩] 27)) 27 #[.int .i64 a.k, .int .i64 a.n, .int .u64 a.u, .string a.s, .int .i64 b.k, .int .i64 b.n, .int .u64 b.u, .string b.s])
  have bb := (bl_al (bl_al (bl_al (bl_al (Below.refl w.heap.size w) (.cells #[.int .i64 a.k, .int .i64 a.n, .int .u64 a.u, .string a.s] 27)) (.cells #[.int .i64 b.k, .int .i64 b.n, .int .u64 b.u, .string b.s] 27)) (.cells #[.int .i64 0, .int .i64 0, .int .u64 0, .string ⟨#[]⟩] 27)) (.cells #[.int .i64 a.k, .int .i64 a.n, .int .u64 a.u, .string a.s, .int .i64 b.k, .int .i64 b.n, .int .u64 b.u, .string b.s] 27))
  simp only [World.size_alloc] at hB hR hS
  have Hhe := Lib.hid he
  clear he
  go_enter Try.func14, Try.ntmps14
  go_wp2_with fail
  generalize ((((w.alloc (.cells #[.int .i64 a.k, .int .i64 a.n, .int .u64 a.u, .string a.s] 27)).alloc (.cells #[.int .i64 b.k, .int .i64 b.n, .int .u64 b.u, .string b.s] 27)).alloc (.cells #[.int .i64 0, .int .i64 0, .int .u64 0, .string ⟨#[]⟩] 27)).alloc (.cells #[.int .i64 a.k, .int .i64 a.n, .int .u64 a.u, .string a.s, .int .i64 b.k, .int .i64 b.n, .int .u64 b.u, .string b.s] 27)) = w1 at *
  refine (are_any 4 _ 2 2 [a, b] w1 (rdv_two hS) (by omega)).mono ?_
  rintro e w2 ⟨rfl, q2⟩
  rw [Hhe.out]
  replace hA := hA.ca q2
  replace hB := hB.ca q2
  replace hR := hR.ca q2
  replace hS := hS.ca q2
  replace bb := bl_ca bb q2
  clear q2
  clear hS
  have hA_0 : w2.cell? ⟨w.heap.size, 0, none⟩ = some (.int .i64 a.k) := hA.cell 0
  have hA_1 : w2.cell? ⟨w.heap.size, 1, none⟩ = some (.int .i64 a.n) := hA.cell 1
  have hA_2 : w2.cell? ⟨w.heap.size, 2, none⟩ = some (.int .u64 a.u) := hA.cell 2
  have hA_3 : w2.cell? ⟨w.heap.size, 3, none⟩ = some (.string a.s) := hA.cell 3
  have hB_0 : w2.cell? ⟨w.heap.size + 1, 0, none⟩ = some (.int .i64 b.k) := hB.cell 0
  have hB_1 : w2.cell? ⟨w.heap.size + 1, 1, none⟩ = some (.int .i64 b.n) := hB.cell 1
  have hB_2 : w2.cell? ⟨w.heap.size + 1, 2, none⟩ = some (.int .u64 b.u) := hB.cell 2
  have hB_3 : w2.cell? ⟨w.heap.size + 1, 3, none⟩ = some (.string b.s) := hB.cell 3
  clear hA_0 hA_1 hA_2 hA_3 hB_0 hB_1 hB_2 hB_3
  go_wp2_with (refine wpList_store_blk rfl 27 (.tmp 4) (.tmp 14) rfl (w.heap.size + 1 + 1) 27 _ _ rfl rfl hR rfl valI (one4 _ _ _ _) ?_; intro w3 kw3 gw3)
  replace bb := bl_gr bb gw3 (by omega)
  exact bodyPost_ret (res2 Try.results14 rfl rfl kw3 Try.underlying27 rfl valI) rfl ⟨rfl, bb⟩
set_option maxRecDepth 100000 in
set_option maxHeartbeats 4000000 in
theorem join_a (a b : VV) (E : Int) (w : World) (he : areE 4 [a, b] = E) (t1 : (E != 0) = false) (k1 : (a.k == 0) = true) : Calls Try.prog 14 #[.agg #[.int .i64 a.k, .int .i64 a.n, .int .u64 a.u, .string a.s], .agg #[.int .i64 b.k, .int .i64 b.n, .int .u64 b.u, .string b.s]] w fun e w' => e = .returned (resT (b, 0)) ∧ Below w.heap.size w w' := by
  have hA := ((((Blk.new w 27 #[.int .i64 a.k, .int .i64 a.n, .int .u64 a.u, .string a.s]).alloc (.cells #[.int .i64 b.k, .int .i64 b.n, .int .u64 b.u, .string b.s] 27)).alloc (.cells #[.int .i64 0, .int .i64 0, .int .u64 0, .string ⟨#[]⟩] 27)).alloc (.cells #[.int .i64 a.k, .int .i64 a.n, .int .u64 a.u, .string a.s, .int .i64 b.k, .int .i64 b.n, .int .u64 b.u, .string b.s] 27))
  have hB := (((Blk.new (w.alloc (.cells #[.int .i64 a.k, .int .i64 a.n, .int .u64 a.u, .string a.s] 27)) 27 #[.int .i64 b.k, .int .i64 b.n, .int .u64 b.u, .string b.s]).alloc (.cells #[.int .i64 0, .int .i64 0, .int .u64 0, .string ⟨#[]⟩] 27)).alloc (.cells #[.int .i64 a.k, .int .i64 a.n, .int .u64 a.u, .string a.s, .int .i64 b.k, .int .i64 b.n, .int .u64 b.u, .string b.s] 27))
  have hR := ((Blk.new ((w.alloc (.cells #[.int .i64 a.k, .int .i64 a.n, .int .u64 a.u, .string a.s] 27)).alloc (.cells #[.int .i64 b.k, .int .i64 b.n, .int .u64 b.u, .string b.s] 27)) 27 #[.int .i64 0, .int .i64 0, .int .u64 0, .string ⟨#[]⟩]).alloc (.cells #[.int .i64 a.k, .int .i64 a.n, .int .u64 a.u, .string a.s, .int .i64 b.k, .int .i64 b.n, .int .u64 b.u, .string b.s] 27))
  have hS := (Blk.new (((w.alloc (.cells #[.int .i64 a.k, .int .i64 a.n, .int .u64 a.u, .string a.s] 27)).alloc (.cells #[.int .i64 b.k, .int .i64 b.n, .int .u64 b.u, .string b.s] 27)).alloc (.cells #[.int .i64 0, .int .i64 0, .int .u64 0, .string ⟨#[]⟩] 27)) 27 #[.int .i64 a.k, .int .i64 a.n, .int .u64 a.u, .string a.s, .int .i64 b.k, .int .i64 b.n, .int .u64 b.u, .string b.s])
  have bb := (bl_al (bl_al (bl_al (bl_al (Below.refl w.heap.size w) (.cells #[.int .i64 a.k, .int .i64 a.n, .int .u64 a.u, .string a.s] 27)) (.cells #[.int .i64 b.k, .int .i64 b.n, .int .u64 b.u, .string b.s] 27)) (.cells #[.int .i64 0, .int .i64 0, .int .u64 0, .string ⟨#[]⟩] 27)) (.cells #[.int .i64 a.k, .int .i64 a.n, .int .u64 a.u, .string a.s, .int .i64 b.k, .int .i64 b.n, .int .u64 b.u, .string b.s] 27))
  simp only [World.size_alloc] at hB hR hS
  have Hhe := Lib.hid he
  clear he
  go_enter Try.func14, Try.ntmps14
  go_wp2_with fail
  generalize ((((w.alloc (.cells #[.int .i64 a.k, .int .i64 a.n, .int .u64 a.u, .string a.s] 27)).alloc (.cells #[.int .i64 b.k, .int .i64 b.n, .int .u64 b.u, .string b.s] 27)).alloc (.cells #[.int .i64 0, .int .i64 0, .int .u64 0, .string ⟨#[]⟩] 27)).alloc (.cells #[.int .i64 a.k, .int .i64 a.n, .int .u64 a.u, .string a.s, .int .i64 b.k, .int .i64 b.n, .int .u64 b.u, .string b.s] 27)) = w1 at *
  refine (are_any 4 _ 2 2 [a, b] w1 (rdv_two hS) (by omega)).mono ?_
  rintro e w2 ⟨rfl, q2⟩
  rw [Hhe.out]
  replace hA := hA.ca q2
  replace hB := hB.ca q2
  replace hR := hR.ca q2
  replace hS := hS.ca q2
  replace bb := bl_ca bb q2
  clear q2
  clear hS
  have hA_0 : w2.cell? ⟨w.heap.size, 0, none⟩ = some (.int .i64 a.k) := hA.cell 0
  have hA_1 : w2.cell? ⟨w.heap.size, 1, none⟩ = some (.int .i64 a.n) := hA.cell 1
  have hA_2 : w2.cell? ⟨w.heap.size, 2, none⟩ = some (.int .u64 a.u) := hA.cell 2
  have hA_3 : w2.cell? ⟨w.heap.size, 3, none⟩ = some (.string a.s) := hA.cell 3
  have hB_0 : w2.cell? ⟨w.heap.size + 1, 0, none⟩ = some (.int .i64 b.k) := hB.cell 0
  have hB_1 : w2.cell? ⟨w.heap.size + 1, 1, none⟩ = some (.int .i64 b.n) := hB.cell 1
  have hB_2 : w2.cell? ⟨w.heap.size + 1, 2, none⟩ = some (.int .u64 b.u) := hB.cell 2
  have hB_3 : w2.cell? ⟨w.heap.size + 1, 3, none⟩ = some (.string b.s) := hB.cell 3
  go_wp2_with (refine wpList_store_blk rfl 27 (.tmp 4) (.tmp 20) rfl (w.heap.size + 1 + 1) 27 _ _ rfl rfl hR rfl valI (one4 _ _ _ _) ?_; intro w3 kw3 gw3)
  replace bb := bl_gr bb gw3 (by omega)
  exact bodyPost_ret (res2 Try.results14 rfl rfl kw3 Try.underlying27 rfl valI) rfl ⟨rfl, bb⟩
set_option maxRecDepth 100000 in
set_option maxHeartbeats 4000000 in
theorem join_b (a b : VV) (E : Int) (w : World) (he : areE 4 [a, b] = E) (t1 : (E != 0) = false) (k1 : (a.k == 0) = false) (k2 : (b.k == 0) = true) : Calls Try.prog 14 #[.agg #[.int .i64 a.k, .int .i64 a.n, .int .u64 a.u, .string a.s], .agg #[.int .i64 b.k, .int .i64 b.n, .int .u64 b.u, .string b.s]] w fun e w' => e = .returned (resT (a, 0)) ∧ Below w.heap.size w w' := by
  have hA := ((((Blk.new w 27 #[.int .i64 a.k, .int .i64 a.n, .int .u64 a.u, .string a.s]).alloc (.cells #[.int .i64 b.k, .int .i64 b.n, .int .u64 b.u, .string b.s] 27)).alloc (.cells #[.int .i64 0, .int .i64 0, .int .u64 0, .string ⟨#[]⟩] 27)).alloc (.cells #[.int .i64 a.k, .int .i64 a.n, .int .u64 a.u, .string a.s, .int .i64 b.k, .int .i64 b.n, .int .u64 b.u, .string b.s] 27))
  have hB := (((Blk.new (w.alloc (.cells #[.int .i64 a.k, .int .i64 a.n, .int .u64 a.u, .string a.s] 27)) 27 #[.int .i64 b.k, .int .i64 b.n, .int .u64 b.u, .string b.s]).alloc (.cells #[.int .i64 0, .int .i64 0, .int .u64 0, .string ⟨#[]⟩] 27)).alloc (.cells #[.int .i64 a.k, .int .i64 a.n, .int .u64 a.u, .string a.s, .int .i64 b.k, .int .i64 b.n, .int .u64 b.u, .string b.s] 27))
  have hR := ((Blk.new ((w.alloc (.cells #[.int .i64 a.k, .int .i64 a.n, .int .u64 a.u, .string a.s] 27)).alloc (.cells #[.int .i64 b.k, .int .i64 b.n, .int .u64 b.u, .string b.s] 27)) 27 #[.int .i64 0, .int .i64 0, .int .u64 0, .string ⟨#[]⟩]).alloc (.cells #[.int .i64 a.k, .int .i64 a.n, .int .u64 a.u, .string a.s, .int .i64 b.k, .int .i64 b.n, .int .u64 b.u, .string b.s] 27))
  have hS := (Blk.new (((w.alloc (.cells #[.int .i64 a.k, .int .i64 a.n, .int .u64 a.u, .string a.s] 27)).alloc (.cells #[.int .i64 b.k, .int .i64 b.n, .int .u64 b.u, .string b.s] 27)).alloc (.cells #[.int .i64 0, .int .i64 0, .int .u64 0, .string ⟨#[]⟩] 27)) 27 #[.int .i64 a.k, .int .i64 a.n, .int .u64 a.u, .string a.s, .int .i64 b.k, .int .i64 b.n, .int .u64 b.u, .string b.s])
  have bb := (bl_al (bl_al (bl_al (bl_al (Below.refl w.heap.size w) (.cells #[.int .i64 a.k, .int .i64 a.n, .int .u64 a.u, .string a.s] 27)) (.cells #[.int .i64 b.k, .int .i64 b.n, .int .u64 b.u, .string b.s] 27)) (.cells #[.int .i64 0, .int .i64 0, .int .u64 0, .string ⟨#[]⟩] 27)) (.cells #[.int .i64 a.k, .int .i64 a.n, .int .u64 a.u, .string a.s, .int .i64 b.k, .int .i64 b.n, .int .u64 b.u, .string b.s] 27))
  simp only [World.size_alloc] at hB hR hS
  have Hhe := Lib.hid he
  clear he
  go_enter Try.func14, Try.ntmps14
  go_wp2_with fail
  generalize ((((w.alloc (.cells #[.int .i64 a.k, .int .i64 a.n, .int .u64 a.u, .string a.s] 27)).alloc (.cells #[.int .i64 b.k, .int .i64 b.n, .int .u64 b.u, .string b.s] 27)).alloc (.cells #[.int .i64 0, .int .i64 0, .int .u64 0, .string ⟨#[]⟩] 27)).alloc (.cells #[.int .i64 a.k, .int .i64 a.n, .int .u64 a.u, .string a.s, .int .i64 b.k, .int .i64 b.n, .int .u64 b.u, .string b.s] 27)) = w1 at *
  refine (are_any 4 _ 2 2 [a, b] w1 (rdv_two hS) (by omega)).mono ?_
  rintro e w2 ⟨rfl, q2⟩
  rw [Hhe.out]
  replace hA := hA.ca q2
  replace hB := hB.ca q2
  replace hR := hR.ca q2
  replace hS := hS.ca q2
  replace bb := bl_ca bb q2
  clear q2
  clear hS
  have hA_0 : w2.cell? ⟨w.heap.size, 0, none⟩ = some (.int .i64 a.k) := hA.cell 0
  have hA_1 : w2.cell? ⟨w.heap.size, 1, none⟩ = some (.int .i64 a.n) := hA.cell 1
  have hA_2 : w2.cell? ⟨w.heap.size, 2, none⟩ = some (.int .u64 a.u) := hA.cell 2
  have hA_3 : w2.cell? ⟨w.heap.size, 3, none⟩ = some (.string a.s) := hA.cell 3
  have hB_0 : w2.cell? ⟨w.heap.size + 1, 0, none⟩ = some (.int .i64 b.k) := hB.cell 0
  have hB_1 : w2.cell? ⟨w.heap.size + 1, 1, none⟩ = some (.int .i64 b.n) := hB.cell 1
  have hB_2 : w2.cell? ⟨w.heap.size + 1, 2, none⟩ = some (.int .u64 b.u) := hB.cell 2
  have hB_3 : w2.cell? ⟨w.heap.size + 1, 3, none⟩ = some (.string b.s) := hB.cell 3
  go_wp2_with (refine wpList_store_blk rfl 27 (.tmp 4) (.tmp 25) rfl (w.heap.size + 1 + 1) 27 _ _ rfl rfl hR rfl valI (one4 _ _ _ _) ?_; intro w3 kw3 gw3)
  replace bb := bl_gr bb gw3 (by omega)
  exact bodyPost_ret (res2 Try.results14 rfl rfl kw3 Try.underlying27 rfl valI) rfl ⟨rfl, bb⟩
set_option maxRecDepth 100000 in
set_option maxHeartbeats 4000000 in
theorem join_p (a b : VV) (E : Int) (w : World) (he : areE 4 [a, b] = E) (t1 : (E != 0) = false) (k1 : (a.k == 0) = false) (k2 : (b.k == 0) = false) (R : VV × Int) (hpl : ∀ w, Calls Try.prog 34 #[.agg #[.int .i64 a.k, .int .i64 a.n, .int .u64 a.u, .string a.s], .agg #[.int .i64 b.k, .int .i64 b.n, .int .u64 b.u, .string b.s]] w fun e w' => e = .returned (resT R) ∧ Below w.heap.size w w') : Calls Try.prog 14 #[.agg #[.int .i64 a.k, .int .i64 a.n, .int .u64 a.u, .string a.s], .agg #[.int .i64 b.k, .int .i64 b.n, .int .u64 b.u, .string b.s]] w fun e w' => e = .returned (resT R) ∧ Below w.heap.size w w' := by
  have HP := Lib.hid hpl
  clear hpl
  have hA := ((((Blk.new w 27 #[.int .i64 a.k, .int .i64 a.n, .int .u64 a.u, .string a.s]).alloc (.cells #[.int .i64 b.k, .int .i64 b.n, .int .u64 b.u, .string b.s] 27)).alloc (.cells #[.int .i64 0, .int .i64 0, .int .u64 0, .string ⟨#[]⟩] 27)).alloc (.cells #[.int .i64 a.k, .int .i64 a.n, .int .u64 a.u, .string a.s, .int .i64 b.k, .int .i64 b.n, .int .u64 b.u, .string b.s] 27))
  have hB := (((Blk.new (w.alloc (.cells #[.int .i64 a.k, .int .i64 a.n, .int .u64 a.u, .string a.s] 27)) 27 #[.int .i64 b.k, .int .i64 b.n, .int .u64 b.u, .string b.s]).alloc (.cells #[.int .i64 0, .int .i64 0, .int .u64 0, .string ⟨#[]⟩] 27)).alloc (.cells #[.int .i64 a.k, .int .i64 a.n, .int .u64 a.u, .string a.s, .int .i64 b.k, .int .i64 b.n, .int .u64 b.u, .string b.s] 27))
  have hR := ((Blk.new ((w.alloc (.cells #[.int .i64 a.k, .int .i64 a.n, .int .u64 a.u, .string a.s] 27)).alloc (.cells #[.int .i64 b.k, .int .i64 b.n, .int .u64 b.u, .string b.s] 27)) 27 #[.int .i64 0, .int .i64 0, .int .u64 0, .string ⟨#[]⟩]).alloc (.cells #[.int .i64 a.k, .int .i64 a.n, .int .u64 a.u, .string a.s, .int .i64 b.k, .int .i64 b.n, .int .u64 b.u, .string b.s] 27))
  have hS := (Blk.new (((w.alloc (.cells #[.int .i64 a.k, .int .i64 a.n, .int .u64 a.u, .string a.s] 27)).alloc (.cells #[.int .i64 b.k, .int .i64 b.n, .int .u64 b.u, .string b.s] 27)).alloc (.cells #[.int .i64 0, .int .i64 0, .int .u64 0, .string ⟨#[]⟩] 27)) 27 #[.int .i64 a.k, .int .i64 a.n, .int .u64 a.u, .string a.s, .int .i64 b.k, .int .i64 b.n, .int .u64 b.u, .string b.s])
  have bb := (bl_al (bl_al (bl_al (bl_al (Below.refl w.heap.size w) (.cells #[.int .i64 a.k, .int .i64 a.n, .int .u64 a.u, .string a.s] 27)) (.cells #[.int .i64 b.k, .int .i64 b.n, .int .u64 b.u, .string b.s] 27)) (.cells #[.int .i64 0, .int .i64 0, .int .u64 0, .string ⟨#[]⟩] 27)) (.cells #[.int .i64 a.k, .int .i64 a.n, .int .u64 a.u, .string a.s, .int .i64 b.k, .int .i64 b.n, .int .u64 b.u, .string b.s] 27))
  simp only [World.size_alloc] at hB hR hS
  have Hhe := Lib.hid he
  clear he
  go_enter Try.func14, Try.ntmps14
  go_wp2_with fail
  generalize ((((w.alloc (.cells #[.int .i64 a.k, .int .i64 a.n, .int .u64 a.u, .string a.s] 27)).alloc (.cells #[.int .i64 b.k, .int .i64 b.n, .int .u64 b.u, .string b.s] 27)).alloc (.cells #[.int .i64 0, .int .i64 0, .int .u64 0, .string ⟨#[]⟩] 27)).alloc (.cells #[.int .i64 a.k, .int .i64 a.n, .int .u64 a.u, .string a.s, .int .i64 b.k, .int .i64 b.n, .int .u64 b.u, .string b.s] 27)) = w1 at *
  refine (are_any 4 _ 2 2 [a, b] w1 (rdv_two hS) (by omega)).mono ?_
  rintro e w2 ⟨rfl, q2⟩
  rw [Hhe.out]
  replace hA := hA.ca q2
  replace hB := hB.ca q2
  replace hR := hR.ca q2
  replace hS := hS.ca q2
  replace bb := bl_ca bb q2
  clear q2
  clear hS
  have hA_0 : w2.cell? ⟨w.heap.size, 0, none⟩ = some (.int .i64 a.k) := hA.cell 0
  have hA_1 : w2.cell? ⟨w.heap.size, 1, none⟩ = some (.int .i64 a.n) := hA.cell 1
  have hA_2 : w2.cell? ⟨w.heap.size, 2, none⟩ = some (.int .u64 a.u) := hA.cell 2
  have hA_3 : w2.cell? ⟨w.heap.size, 3, none⟩ = some (.string a.s) := hA.cell 3
  have hB_0 : w2.cell? ⟨w.heap.size + 1, 0, none⟩ = some (.int .i64 b.k) := hB.cell 0
  have hB_1 : w2.cell? ⟨w.heap.size + 1, 1, none⟩ = some (.int .i64 b.n) := hB.cell 1
  have hB_2 : w2.cell? ⟨w.heap.size + 1, 2, none⟩ = some (.int .u64 b.u) := hB.cell 2
  have hB_3 : w2.cell? ⟨w.heap.size + 1, 3, none⟩ = some (.string b.s) := hB.cell 3
  go_wp2_with fail
  refine (HP.out _).mono ?_
  rintro e w3 ⟨rfl, q3⟩
  simp only [resT]
  clear hA_0 hA_1 hA_2 hA_3 hB_0 hB_1 hB_2 hB_3
  replace hA := hA.ca q3
  replace hB := hB.ca q3
  replace hR := hR.ca q3
  replace bb := bl_ca bb q3
  clear q3
  go_wp2_with (refine wpList_store_blk rfl 27 (.tmp 4) (.tmp 29) rfl (w.heap.size + 1 + 1) 27 _ _ rfl rfl hR rfl valI (one4 _ _ _ _) ?_; intro w4 kw4 gw4)
  replace bb := bl_gr bb gw4 (by omega)
  exact bodyPost_ret (res2 Try.results14 rfl rfl kw4 Try.underlying27 rfl valI) rfl ⟨rfl, bb⟩
set_option maxRecDepth 100000 in
set_option maxHeartbeats 4000000 in
theorem end_e (a : VV) (E : Int) (w : World) (he : areE 4 [a] = E) (t1 : (E != 0) = true) : Calls Try.prog 10 #[.agg #[.int .i64 a.k, .int .i64 a.n, .int .u64 a.u, .string a.s]] w fun e w' => e = .returned (resT (V0, E)) ∧ Below w.heap.size w w' := by
  have hA := (((Blk.new w 27 #[.int .i64 a.k, .int .i64 a.n, .int .u64 a.u, .string a.s]).alloc (.cells #[.int .i64 0, .int .i64 0, .int .u64 0, .string ⟨#[]⟩] 27)).alloc (.cells #[.int .i64 a.k, .int .i64 a.n, .int .u64 a.u, .string a.s] 27))
  have hR := ((Blk.new (w.alloc (.cells #[.int .i64 a.k, .int .i64 a.n, .int .u64 a.u, .string a.s] 27)) 27 #[.int .i64 0, .int .i64 0, .int .u64 0, .string ⟨#[]⟩]).alloc (.cells #[.int .i64 a.k, .int .i64 a.n, .int .u64 a.u, .string a.s] 27))
  have hS := (Blk.new ((w.alloc (.cells #[.int .i64 a.k, .int .i64 a.n, .int .u64 a.u, .string a.s] 27)).alloc (.cells #[.int .i64 0, .int .i64 0, .int .u64 0, .string ⟨#[]⟩] 27)) 27 #[.int .i64 a.k, .int .i64 a.n, .int .u64 a.u, .string a.s])
  have bb := (bl_al (bl_al (bl_al (Below.refl w.heap.size w) (.cells #[.int .i64 a.k, .int .i64 a.n, .int .u64 a.u, .string a.s] 27)) (.cells #[.int .i64 0, .int .i64 0, .int .u64 0, .string ⟨#[]⟩] 27)) (.cells #[.int .i64 a.k, .int .i64 a.n, .int .u64 a.u, .string a.s] 27))
  simp only [World.size_alloc] at hR hS
  have Hhe := Lib.hid he
  clear he
  go_enter Try.func10, Try.ntmps10
  go_wp2_with fail
  generalize (((w.alloc (.cells #[.int .i64 a.k, .int .i64 a.n, .int .u64 a.u, .string a.s] 27)).alloc (.cells #[.int .i64 0, .int .i64 0, .int .u64 0, .string ⟨#[]⟩] 27)).alloc (.cells #[.int .i64 a.k, .int .i64 a.n, .int .u64 a.u, .string a.s] 27)) = w1 at *
  refine (are_any 4 _ 1 1 [a] w1 (rdv_one hS) (by omega)).mono ?_
  rintro e w2 ⟨rfl, q2⟩
  rw [Hhe.out]
  replace hA := hA.ca q2
  replace hR := hR.ca q2
  replace hS := hS.ca q2
  replace bb := bl_ca bb q2
  clear q2
  clear hS
  have hA_0 : w2.cell? ⟨w.heap.size, 0, none⟩ = some (.int .i64 a.k) := hA.cell 0
  have hA_1 : w2.cell? ⟨w.heap.size, 1, none⟩ = some (.int .i64 a.n) := hA.cell 1
  have hA_2 : w2.cell? ⟨w.heap.size, 2, none⟩ = some (.int .u64 a.u) := hA.cell 2
  have hA_3 : w2.cell? ⟨w.heap.size, 3, none⟩ = some (.string a.s) := hA.cell 3
  clear hA_0 hA_1 hA_2 hA_3
  go_wp2_with (refine wpList_store_blk rfl 27 (.tmp 2) (.tmp 12) rfl (w.heap.size + 1) 27 _ _ rfl rfl hR rfl valI (one4 _ _ _ _) ?_; intro w3 kw3 gw3)
  replace bb := bl_gr bb gw3 (by omega)
  exact bodyPost_ret (res2 Try.results10 rfl rfl kw3 Try.underlying27 rfl valI) rfl ⟨rfl, bb⟩
set_option maxRecDepth 100000 in
set_option maxHeartbeats 4000000 in
theorem end_n (a : VV) (E : Int) (w : World) (he : areE 4 [a] = E) (t1 : (E != 0) = false) (k1 : (a.k == 0) = true) : Calls Try.prog 10 #[.agg #[.int .i64 a.k, .int .i64 a.n, .int .u64 a.u, .string a.s]] w fun e w' => e = .returned (resT (a, 0)) ∧ Below w.heap.size w w' := by
  have hA := (((Blk.new w 27 #[.int .i64 a.k, .int .i64 a.n, .int .u64 a.u, .string a.s]).alloc (.cells #[.int .i64 0, .int .i64 0, .int .u64 0, .string ⟨#[]⟩] 27)).alloc (.cells #[.int .i64 a.k, .int .i64 a.n, .int .u64 a.u, .string a.s] 27))
  have hR := ((Blk.new (w.alloc (.cells #[.int .i64 a.k, .int .i64 a.n, .int .u64 a.u, .string a.s] 27)) 27 #[.int .i64 0, .int .i64 0, .int .u64 0, .string ⟨#[]⟩]).alloc (.cells #[.int .i64 a.k, .int .i64 a.n, .int .u64 a.u, .string a.s] 27))
  have hS := (Blk.new ((w.alloc (.cells #[.int .i64 a.k, .int .i64 a.n, .int .u64 a.u, .string a.s] 27)).alloc (.cells #[.int .i64 0, .int .i64 0, .int .u64 0, .string ⟨#[]⟩] 27)) 27 #[.int .i64 a.k, .int .i64 a.n, .int .u64 a.u, .string a.s])
  have bb := (bl_al (bl_al (bl_al (Below.refl w.heap.size w) (.cells #[.int .i64 a.k, .int .i64 a.n, .int .u64 a.u, .string a.s] 27)) (.cells #[.int .i64 0, .int .i64 0, .int .u64 0, .string ⟨#[]⟩] 27)) (.cells #[.int .i64 a.k, .int .i64 a.n, .int .u64 a.u, .string a.s] 27))
  simp only [World.size_alloc] at hR hS
  have Hhe := Lib.hid he
  clear he
  go_enter Try.func10, Try.ntmps10
  go_wp2_with fail
  generalize (((w.alloc (.cells #[.int .i64 a.k, .int .i64 a.n, .int .u64 a.u, .string a.s] 27)).alloc (.cells #[.int .i64 0, .int .i64 0, .int .u64 0, .string ⟨#[]⟩] 27)).alloc (.cells #[.int .i64 a.k, .int .i64 a.n, .int .u64 a.u, .string a.s] 27)) = w1 at *
  refine (are_any 4 _ 1 1 [a] w1 (rdv_one hS) (by omega)).mono ?_
  rintro e w2 ⟨rfl, q2⟩
  rw [Hhe.out]
  replace hA := hA.ca q2
  replace hR := hR.ca q2
  replace hS := hS.ca q2
  replace bb := bl_ca bb q2
  clear q2
  clear hS
  have hA_0 : w2.cell? ⟨w.heap.size, 0, none⟩ = some (.int .i64 a.k) := hA.cell 0
  have hA_1 : w2.cell? ⟨w.heap.size, 1, none⟩ = some (.int .i64 a.n) := hA.cell 1
  have hA_2 : w2.cell? ⟨w.heap.size, 2, none⟩ = some (.int .u64 a.u) := hA.cell 2
  have hA_3 : w2.cell? ⟨w.heap.size, 3, none⟩ = some (.string a.s) := hA.cell 3
  go_wp2_with (refine wpList_store_blk rfl 27 (.tmp 2) (.tmp 18) rfl (w.heap.size + 1) 27 _ _ rfl rfl hR rfl valI (one4 _ _ _ _) ?_; intro w3 kw3 gw3)
  replace bb := bl_gr bb gw3 (by omega)
  exact bodyPost_ret (res2 Try.results10 rfl rfl kw3 Try.underlying27 rfl valI) rfl ⟨rfl, bb⟩
set_option maxRecDepth 100000 in
set_option maxHeartbeats 4000000 in
theorem end_y (an au n q1 q2 : Int) (w : World) (he : areE 4 [⟨4, an, au, ⟨#[]⟩⟩] = 0) (_hn : wrap64 au = n) (hn2 : IntKind.i64.wrap au = n) (ht1 : (q1 == an) = true) (ht2 : (q2 == au) = true) (hwd : ∀ w, Calls Try.prog 28 #[.agg #[.int .i64 2, .int .i64 n, .int .u64 0, .string ⟨#[]⟩]] w fun e w' => e = .returned (.agg #[.int .i64 4, .int .i64 q1, .int .u64 q2, .string ⟨#[]⟩]) ∧ Below w.heap.size w w') : Calls Try.prog 10 #[.agg #[.int .i64 4, .int .i64 an, .int .u64 au, .string ⟨#[]⟩]] w fun e w' => e = .returned (resT (VI n, 0)) ∧ Below w.heap.size w w' := by
  have hA := (((Blk.new w 27 #[.int .i64 4, .int .i64 an, .int .u64 au, .string ⟨#[]⟩]).alloc (.cells #[.int .i64 0, .int .i64 0, .int .u64 0, .string ⟨#[]⟩] 27)).alloc (.cells #[.int .i64 4, .int .i64 an, .int .u64 au, .string ⟨#[]⟩] 27))
  have hR := ((Blk.new (w.alloc (.cells #[.int .i64 4, .int .i64 an, .int .u64 au, .string ⟨#[]⟩] 27)) 27 #[.int .i64 0, .int .i64 0, .int .u64 0, .string ⟨#[]⟩]).alloc (.cells #[.int .i64 4, .int .i64 an, .int .u64 au, .string ⟨#[]⟩] 27))
  have hS := (Blk.new ((w.alloc (.cells #[.int .i64 4, .int .i64 an, .int .u64 au, .string ⟨#[]⟩] 27)).alloc (.cells #[.int .i64 0, .int .i64 0, .int .u64 0, .string ⟨#[]⟩] 27)) 27 #[.int .i64 4, .int .i64 an, .int .u64 au, .string ⟨#[]⟩])
  have bb := (bl_al (bl_al (bl_al (Below.refl w.heap.size w) (.cells #[.int .i64 4, .int .i64 an, .int .u64 au, .string ⟨#[]⟩] 27)) (.cells #[.int .i64 0, .int .i64 0, .int .u64 0, .string ⟨#[]⟩] 27)) (.cells #[.int .i64 4, .int .i64 an, .int .u64 au, .string ⟨#[]⟩] 27))
  simp only [World.size_alloc] at hR hS
  have Hhe := Lib.hid he
  clear he
  have Hhwd := Lib.hid hwd
  clear hwd
  go_enter Try.func10, Try.ntmps10
  go_wp2_with fail
  generalize (((w.alloc (.cells #[.int .i64 4, .int .i64 an, .int .u64 au, .string ⟨#[]⟩] 27)).alloc (.cells #[.int .i64 0, .int .i64 0, .int .u64 0, .string ⟨#[]⟩] 27)).alloc (.cells #[.int .i64 4, .int .i64 an, .int .u64 au, .string ⟨#[]⟩] 27)) = w1 at *
  refine (are_any 4 _ 1 1 [⟨4, an, au, ⟨#[]⟩⟩] w1 (rdv_one (a := ⟨4, an, au, ⟨#[]⟩⟩) hS) (by omega)).mono ?_
  rintro e w2 ⟨rfl, q2⟩
  rw [Hhe.out]
  replace hA := hA.ca q2
  replace hR := hR.ca q2
  replace hS := hS.ca q2
  replace bb := bl_ca bb q2
  clear q2
  clear hS
  have hA_0 : w2.cell? ⟨w.heap.size, 0, none⟩ = some (.int .i64 4) := hA.cell 0
  have hA_2 : w2.cell? ⟨w.heap.size, 2, none⟩ = some (.int .u64 au) := hA.cell 2
  go_wp2_with fail
  refine (vint_any n _).mono ?_
  rintro e w3 ⟨rfl, q3⟩
  clear hA_0 hA_2
  replace hA := hA.ca q3
  replace hR := hR.ca q3
  replace bb := bl_ca bb q3
  clear q3
  have lhV_hA := hA.lt
  have lhV_hR := hR.lt
  replace hA := hA.alloc (.cells #[.int .i64 2, .int .i64 n, .int .u64 0, .string ⟨#[]⟩] 27)
  replace hR := hR.alloc (.cells #[.int .i64 2, .int .i64 n, .int .u64 0, .string ⟨#[]⟩] 27)
  have hV := Blk.new w3 27 #[.int .i64 2, .int .i64 n, .int .u64 0, .string ⟨#[]⟩]
  have bz := bb.size
  replace bb := bl_al bb (.cells #[.int .i64 2, .int .i64 n, .int .u64 0, .string ⟨#[]⟩] 27)
  go_wp2
  generalize w3.alloc (.cells #[.int .i64 2, .int .i64 n, .int .u64 0, .string ⟨#[]⟩] 27) = w4 at *
  generalize w3.heap.size = G4 at *
  go_region_held3 (fun w' => (w'.cell? ⟨w.heap.size, 0, none⟩ = some (.int .i64 4) ∧ w'.cell? ⟨w.heap.size, 1, none⟩ = some (.int .i64 an) ∧ w'.cell? ⟨w.heap.size, 2, none⟩ = some (.int .u64 au) ∧ w'.cell? ⟨w.heap.size, 3, none⟩ = some (.string ⟨#[]⟩)) ∧ (w'.cell? ⟨G4, 0, none⟩ = some (.int .i64 2) ∧ w'.cell? ⟨G4, 1, none⟩ = some (.int .i64 n) ∧ w'.cell? ⟨G4, 2, none⟩ = some (.int .u64 0) ∧ w'.cell? ⟨G4, 3, none⟩ = some (.string ⟨#[]⟩))) (first | with_reducible exact ⟨vS (hA), vS (hV)⟩ | with_reducible exact ⟨vS (hA.drew), vS (hV.drew)⟩ | with_reducible exact ⟨vS ((hA.alloc _).drew), vS ((hV.alloc _).drew)⟩ | with_reducible exact ⟨vS (((hA.alloc _).alloc _).drew), vS (((hV.alloc _).alloc _).drew)⟩ | with_reducible exact ⟨vS ((hA.alloc _)), vS ((hV.alloc _))⟩)
    (first
      | (go_at_call 28; (with_reducible refine (Hhwd.out _).mono ?_); rintro e w5 ⟨rfl, q5⟩; replace hA : Blk w5 (w.heap.size) 27 #[.int .i64 4, .int .i64 an, .int .u64 au, .string ⟨#[]⟩] := (by first | with_reducible exact (hA).ca q5 | with_reducible exact (hA.drew).ca q5 | with_reducible exact ((hA.alloc _).drew).ca q5 | with_reducible exact (((hA.alloc _).alloc _).drew).ca q5 | with_reducible exact ((hA.alloc _)).ca q5); replace hR : Blk w5 (w.heap.size + 1) 27 #[.int .i64 0, .int .i64 0, .int .u64 0, .string ⟨#[]⟩] := (by first | with_reducible exact (hR).ca q5 | with_reducible exact (hR.drew).ca q5 | with_reducible exact ((hR.alloc _).drew).ca q5 | with_reducible exact (((hR.alloc _).alloc _).drew).ca q5 | with_reducible exact ((hR.alloc _)).ca q5); replace hV : Blk w5 (G4) 27 #[.int .i64 2, .int .i64 n, .int .u64 0, .string ⟨#[]⟩] := (by first | with_reducible exact (hV).ca q5 | with_reducible exact (hV.drew).ca q5 | with_reducible exact ((hV.alloc _).drew).ca q5 | with_reducible exact (((hV.alloc _).alloc _).drew).ca q5 | with_reducible exact ((hV.alloc _)).ca q5); replace bb : Below w.heap.size w w5 := (by first | with_reducible exact bl_ca bb q5 | with_reducible exact bl_ca (bl_d1 bb) q5 | with_reducible exact bl_ca (bl_d1 (bl_al bb _)) q5 | with_reducible exact bl_ca (bl_d1 (bl_al (bl_al bb _) _)) q5 | with_reducible exact bl_ca (bl_al bb _) q5)))
  have hV_0 : w5.cell? ⟨G4, 0, none⟩ = some (.int .i64 2) := hV.cell 0
  have hV_1 : w5.cell? ⟨G4, 1, none⟩ = some (.int .i64 n) := hV.cell 1
  have hV_2 : w5.cell? ⟨G4, 2, none⟩ = some (.int .u64 0) := hV.cell 2
  have hV_3 : w5.cell? ⟨G4, 3, none⟩ = some (.string ⟨#[]⟩) := hV.cell 3
  try clear hHeld
  go_wp2_with (refine wpList_store_blk rfl 27 (.tmp 2) (.tmp 27) rfl (w.heap.size + 1) 27 _ _ rfl rfl hR rfl valI (one4 _ _ _ _) ?_; intro w6 kw6 gw6)
  replace bb := bl_gr bb gw6 (by omega)
  exact bodyPost_ret (res2 Try.results10 rfl rfl kw6 Try.underlying27 rfl valI) rfl ⟨rfl, bb⟩
set_option maxRecDepth 100000 in
set_option maxHeartbeats 4000000 in
theorem end_f (an au n q1 q2 : Int) (w : World) (he : areE 4 [⟨4, an, au, ⟨#[]⟩⟩] = 0) (_hn : wrap64 au = n) (hn2 : IntKind.i64.wrap au = n) (ht1 : (q1 == an) = false) (ht2 : (q2 == au) = true) (hwd : ∀ w, Calls Try.prog 28 #[.agg #[.int .i64 2, .int .i64 n, .int .u64 0, .string ⟨#[]⟩]] w fun e w' => e = .returned (.agg #[.int .i64 4, .int .i64 q1, .int .u64 q2, .string ⟨#[]⟩]) ∧ Below w.heap.size w w') : Calls Try.prog 10 #[.agg #[.int .i64 4, .int .i64 an, .int .u64 au, .string ⟨#[]⟩]] w fun e w' => e = .returned (resT (V0, 140)) ∧ Below w.heap.size w w' := by
  have hA := (((Blk.new w 27 #[.int .i64 4, .int .i64 an, .int .u64 au, .string ⟨#[]⟩]).alloc (.cells #[.int .i64 0, .int .i64 0, .int .u64 0, .string ⟨#[]⟩] 27)).alloc (.cells #[.int .i64 4, .int .i64 an, .int .u64 au, .string ⟨#[]⟩] 27))
  have hR := ((Blk.new (w.alloc (.cells #[.int .i64 4, .int .i64 an, .int .u64 au, .string ⟨#[]⟩] 27)) 27 #[.int .i64 0, .int .i64 0, .int .u64 0, .string ⟨#[]⟩]).alloc (.cells #[.int .i64 4, .int .i64 an, .int .u64 au, .string ⟨#[]⟩] 27))
  have hS := (Blk.new ((w.alloc (.cells #[.int .i64 4, .int .i64 an, .int .u64 au, .string ⟨#[]⟩] 27)).alloc (.cells #[.int .i64 0, .int .i64 0, .int .u64 0, .string ⟨#[]⟩] 27)) 27 #[.int .i64 4, .int .i64 an, .int .u64 au, .string ⟨#[]⟩])
  have bb := (bl_al (bl_al (bl_al (Below.refl w.heap.size w) (.cells #[.int .i64 4, .int .i64 an, .int .u64 au, .string ⟨#[]⟩] 27)) (.cells #[.int .i64 0, .int .i64 0, .int .u64 0, .string ⟨#[]⟩] 27)) (.cells #[.int .i64 4, .int .i64 an, .int .u64 au, .string ⟨#[]⟩] 27))
  simp only [World.size_alloc] at hR hS
  have Hhe := Lib.hid he
  clear he
  have Hhwd := Lib.hid hwd
  clear hwd
  go_enter Try.func10, Try.ntmps10
  go_wp2_with fail
  generalize (((w.alloc (.cells #[.int .i64 4, .int .i64 an, .int .u64 au, .string ⟨#[]⟩] 27)).alloc (.cells #[.int .i64 0, .int .i64 0, .int .u64 0, .string ⟨#[]⟩] 27)).alloc (.cells #[.int .i64 4, .int .i64 an, .int .u64 au, .string ⟨#[]⟩] 27)) = w1 at *
  refine (are_any 4 _ 1 1 [⟨4, an, au, ⟨#[]⟩⟩] w1 (rdv_one (a := ⟨4, an, au, ⟨#[]⟩⟩) hS) (by omega)).mono ?_
  rintro e w2 ⟨rfl, q2⟩
  rw [Hhe.out]
  replace hA := hA.ca q2
  replace hR := hR.ca q2
  replace hS := hS.ca q2
  replace bb := bl_ca bb q2
  clear q2
  clear hS
  have hA_0 : w2.cell? ⟨w.heap.size, 0, none⟩ = some (.int .i64 4) := hA.cell 0
  have hA_2 : w2.cell? ⟨w.heap.size, 2, none⟩ = some (.int .u64 au) := hA.cell 2
  go_wp2_with fail
  refine (vint_any n _).mono ?_
  rintro e w3 ⟨rfl, q3⟩
  clear hA_0 hA_2
  replace hA := hA.ca q3
  replace hR := hR.ca q3
  replace bb := bl_ca bb q3
  clear q3
  have lhV_hA := hA.lt
  have lhV_hR := hR.lt
  replace hA := hA.alloc (.cells #[.int .i64 2, .int .i64 n, .int .u64 0, .string ⟨#[]⟩] 27)
  replace hR := hR.alloc (.cells #[.int .i64 2, .int .i64 n, .int .u64 0, .string ⟨#[]⟩] 27)
  have hV := Blk.new w3 27 #[.int .i64 2, .int .i64 n, .int .u64 0, .string ⟨#[]⟩]
  have bz := bb.size
  replace bb := bl_al bb (.cells #[.int .i64 2, .int .i64 n, .int .u64 0, .string ⟨#[]⟩] 27)
  go_wp2
  generalize w3.alloc (.cells #[.int .i64 2, .int .i64 n, .int .u64 0, .string ⟨#[]⟩] 27) = w4 at *
  generalize w3.heap.size = G4 at *
  go_region_held3 (fun w' => (w'.cell? ⟨w.heap.size, 0, none⟩ = some (.int .i64 4) ∧ w'.cell? ⟨w.heap.size, 1, none⟩ = some (.int .i64 an) ∧ w'.cell? ⟨w.heap.size, 2, none⟩ = some (.int .u64 au) ∧ w'.cell? ⟨w.heap.size, 3, none⟩ = some (.string ⟨#[]⟩)) ∧ (w'.cell? ⟨G4, 0, none⟩ = some (.int .i64 2) ∧ w'.cell? ⟨G4, 1, none⟩ = some (.int .i64 n) ∧ w'.cell? ⟨G4, 2, none⟩ = some (.int .u64 0) ∧ w'.cell? ⟨G4, 3, none⟩ = some (.string ⟨#[]⟩))) (first | with_reducible exact ⟨vS (hA), vS (hV)⟩ | with_reducible exact ⟨vS (hA.drew), vS (hV.drew)⟩ | with_reducible exact ⟨vS ((hA.alloc _).drew), vS ((hV.alloc _).drew)⟩ | with_reducible exact ⟨vS (((hA.alloc _).alloc _).drew), vS (((hV.alloc _).alloc _).drew)⟩ | with_reducible exact ⟨vS ((hA.alloc _)), vS ((hV.alloc _))⟩)
    (first
      | (go_at_call 28; (with_reducible refine (Hhwd.out _).mono ?_); rintro e w5 ⟨rfl, q5⟩; replace hA : Blk w5 (w.heap.size) 27 #[.int .i64 4, .int .i64 an, .int .u64 au, .string ⟨#[]⟩] := (by first | with_reducible exact (hA).ca q5 | with_reducible exact (hA.drew).ca q5 | with_reducible exact ((hA.alloc _).drew).ca q5 | with_reducible exact (((hA.alloc _).alloc _).drew).ca q5 | with_reducible exact ((hA.alloc _)).ca q5); replace hR : Blk w5 (w.heap.size + 1) 27 #[.int .i64 0, .int .i64 0, .int .u64 0, .string ⟨#[]⟩] := (by first | with_reducible exact (hR).ca q5 | with_reducible exact (hR.drew).ca q5 | with_reducible exact ((hR.alloc _).drew).ca q5 | with_reducible exact (((hR.alloc _).alloc _).drew).ca q5 | with_reducible exact ((hR.alloc _)).ca q5); replace hV : Blk w5 (G4) 27 #[.int .i64 2, .int .i64 n, .int .u64 0, .string ⟨#[]⟩] := (by first | with_reducible exact (hV).ca q5 | with_reducible exact (hV.drew).ca q5 | with_reducible exact ((hV.alloc _).drew).ca q5 | with_reducible exact (((hV.alloc _).alloc _).drew).ca q5 | with_reducible exact ((hV.alloc _)).ca q5); replace bb : Below w.heap.size w w5 := (by first | with_reducible exact bl_ca bb q5 | with_reducible exact bl_ca (bl_d1 bb) q5 | with_reducible exact bl_ca (bl_d1 (bl_al bb _)) q5 | with_reducible exact bl_ca (bl_d1 (bl_al (bl_al bb _) _)) q5 | with_reducible exact bl_ca (bl_al bb _) q5)))
  try clear hHeld
  go_wp2_with (refine wpList_store_blk rfl 27 (.tmp 2) (.tmp 28) rfl (w.heap.size + 1) 27 _ _ rfl rfl hR rfl valI (one4 _ _ _ _) ?_; intro w6 kw6 gw6)
  replace bb := bl_gr bb gw6 (by omega)
  exact bodyPost_ret (res2 Try.results10 rfl rfl kw6 Try.underlying27 rfl valI) rfl ⟨rfl, bb⟩
end Go.Proofs.Ytemakmgppafccaa
