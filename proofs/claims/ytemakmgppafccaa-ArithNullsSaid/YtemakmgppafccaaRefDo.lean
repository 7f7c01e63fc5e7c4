/- bowspritref04.Do: errors and nulls. Conditions: none. -/
import Derived.Test.YtemakmgppafccaaAdds
namespace Go.Proofs.Ytemakmgppafccaa
open Go.RowKit Go.Proofs.Big
set_option maxRecDepth 100000 in
set_option maxHeartbeats 2000000 in
theorem refdo_e1 (op : Int) (a b : VV) (w : World) (hra : rightB a.k a.n a.u a.s = false) : Calls Try.prog 25 #[.int .u8 op, .agg #[.int .i64 a.k, .int .i64 a.n, .int .u64 a.u, .string a.s], .agg #[.int .i64 b.k, .int .i64 b.n, .int .u64 b.u, .string b.s]] w fun e w' => e = .returned (resT (V0, 120)) ∧ Below w.heap.size w w' := by
  have hA := (((Blk.new w 27 #[.int .i64 a.k, .int .i64 a.n, .int .u64 a.u, .string a.s]).alloc (.cells #[.int .i64 b.k, .int .i64 b.n, .int .u64 b.u, .string b.s] 27)).alloc (.cells #[.int .i64 0, .int .i64 0, .int .u64 0, .string ⟨#[]⟩] 27))
  have hB := ((Blk.new (w.alloc (.cells #[.int .i64 a.k, .int .i64 a.n, .int .u64 a.u, .string a.s] 27)) 27 #[.int .i64 b.k, .int .i64 b.n, .int .u64 b.u, .string b.s]).alloc (.cells #[.int .i64 0, .int .i64 0, .int .u64 0, .string ⟨#[]⟩] 27))
  have hR := (Blk.new ((w.alloc (.cells #[.int .i64 a.k, .int .i64 a.n, .int .u64 a.u, .string a.s] 27)).alloc (.cells #[.int .i64 b.k, .int .i64 b.n, .int .u64 b.u, .string b.s] 27)) 27 #[.int .i64 0, .int .i64 0, .int .u64 0, .string ⟨#[]⟩])
  have b0 := (bl_al (bl_al (bl_al (Below.refl w.heap.size w) (.cells #[.int .i64 a.k, .int .i64 a.n, .int .u64 a.u, .string a.s] 27)) (.cells #[.int .i64 b.k, .int .i64 b.n, .int .u64 b.u, .string b.s] 27)) (.cells #[.int .i64 0, .int .i64 0, .int .u64 0, .string ⟨#[]⟩] 27))
  simp only [World.size_alloc] at hB hR
  go_enter Try.func25, Try.ntmps25
  go_wp2_with fail
  generalize (((w.alloc (.cells #[.int .i64 a.k, .int .i64 a.n, .int .u64 a.u, .string a.s] 27)).alloc (.cells #[.int .i64 b.k, .int .i64 b.n, .int .u64 b.u, .string b.s] 27)).alloc (.cells #[.int .i64 0, .int .i64 0, .int .u64 0, .string ⟨#[]⟩] 27)) = w1 at *
  refine (right_any a.k a.n a.u a.s w1).mono ?_
  rintro e w2 ⟨rfl, q2⟩
  rw [hra]
  have hA2 := hA.below q2 hA.lt
  have hB2 := hB.below q2 hB.lt
  have hR2 := hR.below q2 hR.lt
  have b2 := bl_ca b0 q2
  clear hA hB hR q2 b0
  clear hra
  go_wp2_with (refine wpList_store_blk rfl 27 (.tmp 6) (.tmp 20) rfl (w.heap.size + 1 + 1) 27 _ _ rfl rfl hR2 rfl valI (one4 _ _ _ _) ?_; intro w3 hRw3 g3)
  exact bodyPost_ret (res2 Try.results25 rfl rfl hRw3 Try.underlying27 rfl valI) rfl ⟨rfl, bl_gr b2 g3 (by omega)⟩
set_option maxRecDepth 100000 in
set_option maxHeartbeats 2000000 in
theorem refdo_e2 (op : Int) (a b : VV) (w : World) (hra : rightB a.k a.n a.u a.s = true) (hrb : rightB b.k b.n b.u b.s = false) : Calls Try.prog 25 #[.int .u8 op, .agg #[.int .i64 a.k, .int .i64 a.n, .int .u64 a.u, .string a.s], .agg #[.int .i64 b.k, .int .i64 b.n, .int .u64 b.u, .string b.s]] w fun e w' => e = .returned (resT (V0, 120)) ∧ Below w.heap.size w w' := by
  have hA := (((Blk.new w 27 #[.int .i64 a.k, .int .i64 a.n, .int .u64 a.u, .string a.s]).alloc (.cells #[.int .i64 b.k, .int .i64 b.n, .int .u64 b.u, .string b.s] 27)).alloc (.cells #[.int .i64 0, .int .i64 0, .int .u64 0, .string ⟨#[]⟩] 27))
  have hB := ((Blk.new (w.alloc (.cells #[.int .i64 a.k, .int .i64 a.n, .int .u64 a.u, .string a.s] 27)) 27 #[.int .i64 b.k, .int .i64 b.n, .int .u64 b.u, .string b.s]).alloc (.cells #[.int .i64 0, .int .i64 0, .int .u64 0, .string ⟨#[]⟩] 27))
  have hR := (Blk.new ((w.alloc (.cells #[.int .i64 a.k, .int .i64 a.n, .int .u64 a.u, .string a.s] 27)).alloc (.cells #[.int .i64 b.k, .int .i64 b.n, .int .u64 b.u, .string b.s] 27)) 27 #[.int .i64 0, .int .i64 0, .int .u64 0, .string ⟨#[]⟩])
  have b0 := (bl_al (bl_al (bl_al (Below.refl w.heap.size w) (.cells #[.int .i64 a.k, .int .i64 a.n, .int .u64 a.u, .string a.s] 27)) (.cells #[.int .i64 b.k, .int .i64 b.n, .int .u64 b.u, .string b.s] 27)) (.cells #[.int .i64 0, .int .i64 0, .int .u64 0, .string ⟨#[]⟩] 27))
  simp only [World.size_alloc] at hB hR
  go_enter Try.func25, Try.ntmps25
  go_wp2_with fail
  generalize (((w.alloc (.cells #[.int .i64 a.k, .int .i64 a.n, .int .u64 a.u, .string a.s] 27)).alloc (.cells #[.int .i64 b.k, .int .i64 b.n, .int .u64 b.u, .string b.s] 27)).alloc (.cells #[.int .i64 0, .int .i64 0, .int .u64 0, .string ⟨#[]⟩] 27)) = w1 at *
  refine (right_any a.k a.n a.u a.s w1).mono ?_
  rintro e w2 ⟨rfl, q2⟩
  rw [hra]
  have hA2 := hA.below q2 hA.lt
  have hB2 := hB.below q2 hB.lt
  have hR2 := hR.below q2 hR.lt
  have b2 := bl_ca b0 q2
  clear hA hB hR q2 b0
  have tA0 : w2.cell? ⟨w.heap.size, 0, none⟩ = some (.int .i64 a.k) := hA2.cell 0
  have tA1 : w2.cell? ⟨w.heap.size, 1, none⟩ = some (.int .i64 a.n) := hA2.cell 1
  have tA2 : w2.cell? ⟨w.heap.size, 2, none⟩ = some (.int .u64 a.u) := hA2.cell 2
  have tA3 : w2.cell? ⟨w.heap.size, 3, none⟩ = some (.string a.s) := hA2.cell 3
  have tB0 : w2.cell? ⟨w.heap.size + 1, 0, none⟩ = some (.int .i64 b.k) := hB2.cell 0
  have tB1 : w2.cell? ⟨w.heap.size + 1, 1, none⟩ = some (.int .i64 b.n) := hB2.cell 1
  have tB2 : w2.cell? ⟨w.heap.size + 1, 2, none⟩ = some (.int .u64 b.u) := hB2.cell 2
  have tB3 : w2.cell? ⟨w.heap.size + 1, 3, none⟩ = some (.string b.s) := hB2.cell 3
  clear hra
  go_wp2_with fail
  refine (right_any b.k b.n b.u b.s w2).mono ?_
  rintro e w3 ⟨rfl, q3⟩
  rw [hrb]
  have hA3 := hA2.below q3 hA2.lt
  have hB3 := hB2.below q3 hB2.lt
  have hR3 := hR2.below q3 hR2.lt
  have b3 := bl_ca b2 q3
  clear hA2 hB2 hR2 q3 b2
  clear hrb tA0 tA1 tA2 tA3 tB0 tB1 tB2 tB3
  go_wp2_with (refine wpList_store_blk rfl 27 (.tmp 6) (.tmp 20) rfl (w.heap.size + 1 + 1) 27 _ _ rfl rfl hR3 rfl valI (one4 _ _ _ _) ?_; intro w4 hRw4 g4)
  exact bodyPost_ret (res2 Try.results25 rfl rfl hRw4 Try.underlying27 rfl valI) rfl ⟨rfl, bl_gr b3 g4 (by omega)⟩
set_option maxRecDepth 100000 in
set_option maxHeartbeats 2000000 in
theorem refdo_m1 (op : Int) (a b : VV) (w : World) (hra : rightB a.k a.n a.u a.s = true) (hrb : rightB b.k b.n b.u b.s = true) (hta : (rightB a.k a.n a.u a.s && kindB 2 a.k) = false) : Calls Try.prog 25 #[.int .u8 op, .agg #[.int .i64 a.k, .int .i64 a.n, .int .u64 a.u, .string a.s], .agg #[.int .i64 b.k, .int .i64 b.n, .int .u64 b.u, .string b.s]] w fun e w' => e = .returned (resT (V0, 2)) ∧ Below w.heap.size w w' := by
  have hA := (((Blk.new w 27 #[.int .i64 a.k, .int .i64 a.n, .int .u64 a.u, .string a.s]).alloc (.cells #[.int .i64 b.k, .int .i64 b.n, .int .u64 b.u, .string b.s] 27)).alloc (.cells #[.int .i64 0, .int .i64 0, .int .u64 0, .string ⟨#[]⟩] 27))
  have hB := ((Blk.new (w.alloc (.cells #[.int .i64 a.k, .int .i64 a.n, .int .u64 a.u, .string a.s] 27)) 27 #[.int .i64 b.k, .int .i64 b.n, .int .u64 b.u, .string b.s]).alloc (.cells #[.int .i64 0, .int .i64 0, .int .u64 0, .string ⟨#[]⟩] 27))
  have hR := (Blk.new ((w.alloc (.cells #[.int .i64 a.k, .int .i64 a.n, .int .u64 a.u, .string a.s] 27)).alloc (.cells #[.int .i64 b.k, .int .i64 b.n, .int .u64 b.u, .string b.s] 27)) 27 #[.int .i64 0, .int .i64 0, .int .u64 0, .string ⟨#[]⟩])
  have b0 := (bl_al (bl_al (bl_al (Below.refl w.heap.size w) (.cells #[.int .i64 a.k, .int .i64 a.n, .int .u64 a.u, .string a.s] 27)) (.cells #[.int .i64 b.k, .int .i64 b.n, .int .u64 b.u, .string b.s] 27)) (.cells #[.int .i64 0, .int .i64 0, .int .u64 0, .string ⟨#[]⟩] 27))
  simp only [World.size_alloc] at hB hR
  go_enter Try.func25, Try.ntmps25
  go_wp2_with fail
  generalize (((w.alloc (.cells #[.int .i64 a.k, .int .i64 a.n, .int .u64 a.u, .string a.s] 27)).alloc (.cells #[.int .i64 b.k, .int .i64 b.n, .int .u64 b.u, .string b.s] 27)).alloc (.cells #[.int .i64 0, .int .i64 0, .int .u64 0, .string ⟨#[]⟩] 27)) = w1 at *
  refine (right_any a.k a.n a.u a.s w1).mono ?_
  rintro e w2 ⟨rfl, q2⟩
  rw [hra]
  have hA2 := hA.below q2 hA.lt
  have hB2 := hB.below q2 hB.lt
  have hR2 := hR.below q2 hR.lt
  have b2 := bl_ca b0 q2
  clear hA hB hR q2 b0
  have tA0 : w2.cell? ⟨w.heap.size, 0, none⟩ = some (.int .i64 a.k) := hA2.cell 0
  have tA1 : w2.cell? ⟨w.heap.size, 1, none⟩ = some (.int .i64 a.n) := hA2.cell 1
  have tA2 : w2.cell? ⟨w.heap.size, 2, none⟩ = some (.int .u64 a.u) := hA2.cell 2
  have tA3 : w2.cell? ⟨w.heap.size, 3, none⟩ = some (.string a.s) := hA2.cell 3
  have tB0 : w2.cell? ⟨w.heap.size + 1, 0, none⟩ = some (.int .i64 b.k) := hB2.cell 0
  have tB1 : w2.cell? ⟨w.heap.size + 1, 1, none⟩ = some (.int .i64 b.n) := hB2.cell 1
  have tB2 : w2.cell? ⟨w.heap.size + 1, 2, none⟩ = some (.int .u64 b.u) := hB2.cell 2
  have tB3 : w2.cell? ⟨w.heap.size + 1, 3, none⟩ = some (.string b.s) := hB2.cell 3
  clear hra
  go_wp2_with fail
  refine (right_any b.k b.n b.u b.s w2).mono ?_
  rintro e w3 ⟨rfl, q3⟩
  rw [hrb]
  have hA3 := hA2.below q3 hA2.lt
  have hB3 := hB2.below q3 hB2.lt
  have hR3 := hR2.below q3 hR2.lt
  have b3 := bl_ca b2 q3
  clear hA2 hB2 hR2 q3 b2
  clear hrb tA0 tA1 tA2 tA3 tB0 tB1 tB2 tB3
  have tA0 : w3.cell? ⟨w.heap.size, 0, none⟩ = some (.int .i64 a.k) := hA3.cell 0
  have tA1 : w3.cell? ⟨w.heap.size, 1, none⟩ = some (.int .i64 a.n) := hA3.cell 1
  have tA2 : w3.cell? ⟨w.heap.size, 2, none⟩ = some (.int .u64 a.u) := hA3.cell 2
  have tA3 : w3.cell? ⟨w.heap.size, 3, none⟩ = some (.string a.s) := hA3.cell 3
  have tB0 : w3.cell? ⟨w.heap.size + 1, 0, none⟩ = some (.int .i64 b.k) := hB3.cell 0
  have tB1 : w3.cell? ⟨w.heap.size + 1, 1, none⟩ = some (.int .i64 b.n) := hB3.cell 1
  have tB2 : w3.cell? ⟨w.heap.size + 1, 2, none⟩ = some (.int .u64 b.u) := hB3.cell 2
  have tB3 : w3.cell? ⟨w.heap.size + 1, 3, none⟩ = some (.string b.s) := hB3.cell 3
  go_wp2_with fail
  refine (term_any a.k a.n a.u a.s w3).mono ?_
  rintro e w4 ⟨rfl, q4⟩
  rw [hta]
  have hA4 := hA3.below q4 hA3.lt
  have hB4 := hB3.below q4 hB3.lt
  have hR4 := hR3.below q4 hR3.lt
  have b4 := bl_ca b3 q4
  clear hA3 hB3 hR3 q4 b3
  clear hta tA0 tA1 tA2 tA3 tB0 tB1 tB2 tB3
  go_wp2_with (refine wpList_store_blk rfl 27 (.tmp 6) (.tmp 30) rfl (w.heap.size + 1 + 1) 27 _ _ rfl rfl hR4 rfl valI (one4 _ _ _ _) ?_; intro w5 hRw5 g5)
  exact bodyPost_ret (res2 Try.results25 rfl rfl hRw5 Try.underlying27 rfl valI) rfl ⟨rfl, bl_gr b4 g5 (by omega)⟩
set_option maxRecDepth 100000 in
set_option maxHeartbeats 2000000 in
theorem refdo_m2 (op : Int) (a b : VV) (w : World) (hra : rightB a.k a.n a.u a.s = true) (hrb : rightB b.k b.n b.u b.s = true) (hta : (rightB a.k a.n a.u a.s && kindB 2 a.k) = true) (htb : (rightB b.k b.n b.u b.s && kindB 2 b.k) = false) : Calls Try.prog 25 #[.int .u8 op, .agg #[.int .i64 a.k, .int .i64 a.n, .int .u64 a.u, .string a.s], .agg #[.int .i64 b.k, .int .i64 b.n, .int .u64 b.u, .string b.s]] w fun e w' => e = .returned (resT (V0, 2)) ∧ Below w.heap.size w w' := by
  have hA := (((Blk.new w 27 #[.int .i64 a.k, .int .i64 a.n, .int .u64 a.u, .string a.s]).alloc (.cells #[.int .i64 b.k, .int .i64 b.n, .int .u64 b.u, .string b.s] 27)).alloc (.cells #[.int .i64 0, .int .i64 0, .int .u64 0, .string ⟨#[]⟩] 27))
  have hB := ((Blk.new (w.alloc (.cells #[.int .i64 a.k, .int .i64 a.n, .int .u64 a.u, .string a.s] 27)) 27 #[.int .i64 b.k, .int .i64 b.n, .int .u64 b.u, .string b.s]).alloc (.cells #[.int .i64 0, .int .i64 0, .int .u64 0, .string ⟨#[]⟩] 27))
  have hR := (Blk.new ((w.alloc (.cells #[.int .i64 a.k, .int .i64 a.n, .int .u64 a.u, .string a.s] 27)).alloc (.cells #[.int .i64 b.k, .int .i64 b.n, .int .u64 b.u, .string b.s] 27)) 27 #[.int .i64 0, .int .i64 0, .int .u64 0, .string ⟨#[]⟩])
  have b0 := (bl_al (bl_al (bl_al (Below.refl w.heap.size w) (.cells #[.int .i64 a.k, .int .i64 a.n, .int .u64 a.u, .string a.s] 27)) (.cells #[.int .i64 b.k, .int .i64 b.n, .int .u64 b.u, .string b.s] 27)) (.cells #[.int .i64 0, .int .i64 0, .int .u64 0, .string ⟨#[]⟩] 27))
  simp only [World.size_alloc] at hB hR
  go_enter Try.func25, Try.ntmps25
  go_wp2_with fail
  generalize (((w.alloc (.cells #[.int .i64 a.k, .int .i64 a.n, .int .u64 a.u, .string a.s] 27)).alloc (.cells #[.int .i64 b.k, .int .i64 b.n, .int .u64 b.u, .string b.s] 27)).alloc (.cells #[.int .i64 0, .int .i64 0, .int .u64 0, .string ⟨#[]⟩] 27)) = w1 at *
  refine (right_any a.k a.n a.u a.s w1).mono ?_
  rintro e w2 ⟨rfl, q2⟩
  rw [hra]
  have hA2 := hA.below q2 hA.lt
  have hB2 := hB.below q2 hB.lt
  have hR2 := hR.below q2 hR.lt
  have b2 := bl_ca b0 q2
  clear hA hB hR q2 b0
  have tA0 : w2.cell? ⟨w.heap.size, 0, none⟩ = some (.int .i64 a.k) := hA2.cell 0
  have tA1 : w2.cell? ⟨w.heap.size, 1, none⟩ = some (.int .i64 a.n) := hA2.cell 1
  have tA2 : w2.cell? ⟨w.heap.size, 2, none⟩ = some (.int .u64 a.u) := hA2.cell 2
  have tA3 : w2.cell? ⟨w.heap.size, 3, none⟩ = some (.string a.s) := hA2.cell 3
  have tB0 : w2.cell? ⟨w.heap.size + 1, 0, none⟩ = some (.int .i64 b.k) := hB2.cell 0
  have tB1 : w2.cell? ⟨w.heap.size + 1, 1, none⟩ = some (.int .i64 b.n) := hB2.cell 1
  have tB2 : w2.cell? ⟨w.heap.size + 1, 2, none⟩ = some (.int .u64 b.u) := hB2.cell 2
  have tB3 : w2.cell? ⟨w.heap.size + 1, 3, none⟩ = some (.string b.s) := hB2.cell 3
  clear hra
  go_wp2_with fail
  refine (right_any b.k b.n b.u b.s w2).mono ?_
  rintro e w3 ⟨rfl, q3⟩
  rw [hrb]
  have hA3 := hA2.below q3 hA2.lt
  have hB3 := hB2.below q3 hB2.lt
  have hR3 := hR2.below q3 hR2.lt
  have b3 := bl_ca b2 q3
  clear hA2 hB2 hR2 q3 b2
  clear hrb tA0 tA1 tA2 tA3 tB0 tB1 tB2 tB3
  have tA0 : w3.cell? ⟨w.heap.size, 0, none⟩ = some (.int .i64 a.k) := hA3.cell 0
  have tA1 : w3.cell? ⟨w.heap.size, 1, none⟩ = some (.int .i64 a.n) := hA3.cell 1
  have tA2 : w3.cell? ⟨w.heap.size, 2, none⟩ = some (.int .u64 a.u) := hA3.cell 2
  have tA3 : w3.cell? ⟨w.heap.size, 3, none⟩ = some (.string a.s) := hA3.cell 3
  have tB0 : w3.cell? ⟨w.heap.size + 1, 0, none⟩ = some (.int .i64 b.k) := hB3.cell 0
  have tB1 : w3.cell? ⟨w.heap.size + 1, 1, none⟩ = some (.int .i64 b.n) := hB3.cell 1
  have tB2 : w3.cell? ⟨w.heap.size + 1, 2, none⟩ = some (.int .u64 b.u) := hB3.cell 2
  have tB3 : w3.cell? ⟨w.heap.size + 1, 3, none⟩ = some (.string b.s) := hB3.cell 3
  go_wp2_with fail
  refine (term_any a.k a.n a.u a.s w3).mono ?_
  rintro e w4 ⟨rfl, q4⟩
  rw [hta]
  have hA4 := hA3.below q4 hA3.lt
  have hB4 := hB3.below q4 hB3.lt
  have hR4 := hR3.below q4 hR3.lt
  have b4 := bl_ca b3 q4
  clear hA3 hB3 hR3 q4 b3
  clear hta tA0 tA1 tA2 tA3 tB0 tB1 tB2 tB3
  have tA0 : w4.cell? ⟨w.heap.size, 0, none⟩ = some (.int .i64 a.k) := hA4.cell 0
  have tA1 : w4.cell? ⟨w.heap.size, 1, none⟩ = some (.int .i64 a.n) := hA4.cell 1
  have tA2 : w4.cell? ⟨w.heap.size, 2, none⟩ = some (.int .u64 a.u) := hA4.cell 2
  have tA3 : w4.cell? ⟨w.heap.size, 3, none⟩ = some (.string a.s) := hA4.cell 3
  have tB0 : w4.cell? ⟨w.heap.size + 1, 0, none⟩ = some (.int .i64 b.k) := hB4.cell 0
  have tB1 : w4.cell? ⟨w.heap.size + 1, 1, none⟩ = some (.int .i64 b.n) := hB4.cell 1
  have tB2 : w4.cell? ⟨w.heap.size + 1, 2, none⟩ = some (.int .u64 b.u) := hB4.cell 2
  have tB3 : w4.cell? ⟨w.heap.size + 1, 3, none⟩ = some (.string b.s) := hB4.cell 3
  go_wp2_with fail
  refine (term_any b.k b.n b.u b.s w4).mono ?_
  rintro e w5 ⟨rfl, q5⟩
  rw [htb]
  have hA5 := hA4.below q5 hA4.lt
  have hB5 := hB4.below q5 hB4.lt
  have hR5 := hR4.below q5 hR4.lt
  have b5 := bl_ca b4 q5
  clear hA4 hB4 hR4 q5 b4
  clear htb tA0 tA1 tA2 tA3 tB0 tB1 tB2 tB3
  go_wp2_with (refine wpList_store_blk rfl 27 (.tmp 6) (.tmp 30) rfl (w.heap.size + 1 + 1) 27 _ _ rfl rfl hR5 rfl valI (one4 _ _ _ _) ?_; intro w6 hRw6 g6)
  exact bodyPost_ret (res2 Try.results25 rfl rfl hRw6 Try.underlying27 rfl valI) rfl ⟨rfl, bl_gr b5 g6 (by omega)⟩
set_option maxRecDepth 100000 in
set_option maxHeartbeats 2000000 in
theorem refdo_n1 (op : Int) (a b : VV) (w : World) (hra : rightB a.k a.n a.u a.s = true) (hrb : rightB b.k b.n b.u b.s = true) (hta : (rightB a.k a.n a.u a.s && kindB 2 a.k) = true) (htb : (rightB b.k b.n b.u b.s && kindB 2 b.k) = true) (hk : (a.k == 0) = true) : Calls Try.prog 25 #[.int .u8 op, .agg #[.int .i64 a.k, .int .i64 a.n, .int .u64 a.u, .string a.s], .agg #[.int .i64 b.k, .int .i64 b.n, .int .u64 b.u, .string b.s]] w fun e w' => e = .returned (resT (V0, 0)) ∧ Below w.heap.size w w' := by
  have hA := (((Blk.new w 27 #[.int .i64 a.k, .int .i64 a.n, .int .u64 a.u, .string a.s]).alloc (.cells #[.int .i64 b.k, .int .i64 b.n, .int .u64 b.u, .string b.s] 27)).alloc (.cells #[.int .i64 0, .int .i64 0, .int .u64 0, .string ⟨#[]⟩] 27))
  have hB := ((Blk.new (w.alloc (.cells #[.int .i64 a.k, .int .i64 a.n, .int .u64 a.u, .string a.s] 27)) 27 #[.int .i64 b.k, .int .i64 b.n, .int .u64 b.u, .string b.s]).alloc (.cells #[.int .i64 0, .int .i64 0, .int .u64 0, .string ⟨#[]⟩] 27))
  have hR := (Blk.new ((w.alloc (.cells #[.int .i64 a.k, .int .i64 a.n, .int .u64 a.u, .string a.s] 27)).alloc (.cells #[.int .i64 b.k, .int .i64 b.n, .int .u64 b.u, .string b.s] 27)) 27 #[.int .i64 0, .int .i64 0, .int .u64 0, .string ⟨#[]⟩])
  have b0 := (bl_al (bl_al (bl_al (Below.refl w.heap.size w) (.cells #[.int .i64 a.k, .int .i64 a.n, .int .u64 a.u, .string a.s] 27)) (.cells #[.int .i64 b.k, .int .i64 b.n, .int .u64 b.u, .string b.s] 27)) (.cells #[.int .i64 0, .int .i64 0, .int .u64 0, .string ⟨#[]⟩] 27))
  simp only [World.size_alloc] at hB hR
  go_enter Try.func25, Try.ntmps25
  go_wp2_with fail
  generalize (((w.alloc (.cells #[.int .i64 a.k, .int .i64 a.n, .int .u64 a.u, .string a.s] 27)).alloc (.cells #[.int .i64 b.k, .int .i64 b.n, .int .u64 b.u, .string b.s] 27)).alloc (.cells #[.int .i64 0, .int .i64 0, .int .u64 0, .string ⟨#[]⟩] 27)) = w1 at *
  refine (right_any a.k a.n a.u a.s w1).mono ?_
  rintro e w2 ⟨rfl, q2⟩
  rw [hra]
  have hA2 := hA.below q2 hA.lt
  have hB2 := hB.below q2 hB.lt
  have hR2 := hR.below q2 hR.lt
  have b2 := bl_ca b0 q2
  clear hA hB hR q2 b0
  have tA0 : w2.cell? ⟨w.heap.size, 0, none⟩ = some (.int .i64 a.k) := hA2.cell 0
  have tA1 : w2.cell? ⟨w.heap.size, 1, none⟩ = some (.int .i64 a.n) := hA2.cell 1
  have tA2 : w2.cell? ⟨w.heap.size, 2, none⟩ = some (.int .u64 a.u) := hA2.cell 2
  have tA3 : w2.cell? ⟨w.heap.size, 3, none⟩ = some (.string a.s) := hA2.cell 3
  have tB0 : w2.cell? ⟨w.heap.size + 1, 0, none⟩ = some (.int .i64 b.k) := hB2.cell 0
  have tB1 : w2.cell? ⟨w.heap.size + 1, 1, none⟩ = some (.int .i64 b.n) := hB2.cell 1
  have tB2 : w2.cell? ⟨w.heap.size + 1, 2, none⟩ = some (.int .u64 b.u) := hB2.cell 2
  have tB3 : w2.cell? ⟨w.heap.size + 1, 3, none⟩ = some (.string b.s) := hB2.cell 3
  clear hra
  go_wp2_with fail
  refine (right_any b.k b.n b.u b.s w2).mono ?_
  rintro e w3 ⟨rfl, q3⟩
  rw [hrb]
  have hA3 := hA2.below q3 hA2.lt
  have hB3 := hB2.below q3 hB2.lt
  have hR3 := hR2.below q3 hR2.lt
  have b3 := bl_ca b2 q3
  clear hA2 hB2 hR2 q3 b2
  clear hrb tA0 tA1 tA2 tA3 tB0 tB1 tB2 tB3
  have tA0 : w3.cell? ⟨w.heap.size, 0, none⟩ = some (.int .i64 a.k) := hA3.cell 0
  have tA1 : w3.cell? ⟨w.heap.size, 1, none⟩ = some (.int .i64 a.n) := hA3.cell 1
  have tA2 : w3.cell? ⟨w.heap.size, 2, none⟩ = some (.int .u64 a.u) := hA3.cell 2
  have tA3 : w3.cell? ⟨w.heap.size, 3, none⟩ = some (.string a.s) := hA3.cell 3
  have tB0 : w3.cell? ⟨w.heap.size + 1, 0, none⟩ = some (.int .i64 b.k) := hB3.cell 0
  have tB1 : w3.cell? ⟨w.heap.size + 1, 1, none⟩ = some (.int .i64 b.n) := hB3.cell 1
  have tB2 : w3.cell? ⟨w.heap.size + 1, 2, none⟩ = some (.int .u64 b.u) := hB3.cell 2
  have tB3 : w3.cell? ⟨w.heap.size + 1, 3, none⟩ = some (.string b.s) := hB3.cell 3
  go_wp2_with fail
  refine (term_any a.k a.n a.u a.s w3).mono ?_
  rintro e w4 ⟨rfl, q4⟩
  rw [hta]
  have hA4 := hA3.below q4 hA3.lt
  have hB4 := hB3.below q4 hB3.lt
  have hR4 := hR3.below q4 hR3.lt
  have b4 := bl_ca b3 q4
  clear hA3 hB3 hR3 q4 b3
  clear hta tA0 tA1 tA2 tA3 tB0 tB1 tB2 tB3
  have tA0 : w4.cell? ⟨w.heap.size, 0, none⟩ = some (.int .i64 a.k) := hA4.cell 0
  have tA1 : w4.cell? ⟨w.heap.size, 1, none⟩ = some (.int .i64 a.n) := hA4.cell 1
  have tA2 : w4.cell? ⟨w.heap.size, 2, none⟩ = some (.int .u64 a.u) := hA4.cell 2
  have tA3 : w4.cell? ⟨w.heap.size, 3, none⟩ = some (.string a.s) := hA4.cell 3
  have tB0 : w4.cell? ⟨w.heap.size + 1, 0, none⟩ = some (.int .i64 b.k) := hB4.cell 0
  have tB1 : w4.cell? ⟨w.heap.size + 1, 1, none⟩ = some (.int .i64 b.n) := hB4.cell 1
  have tB2 : w4.cell? ⟨w.heap.size + 1, 2, none⟩ = some (.int .u64 b.u) := hB4.cell 2
  have tB3 : w4.cell? ⟨w.heap.size + 1, 3, none⟩ = some (.string b.s) := hB4.cell 3
  go_wp2_with fail
  refine (term_any b.k b.n b.u b.s w4).mono ?_
  rintro e w5 ⟨rfl, q5⟩
  rw [htb]
  have hA5 := hA4.below q5 hA4.lt
  have hB5 := hB4.below q5 hB4.lt
  have hR5 := hR4.below q5 hR4.lt
  have b5 := bl_ca b4 q5
  clear hA4 hB4 hR4 q5 b4
  clear htb tA0 tA1 tA2 tA3 tB0 tB1 tB2 tB3
  have tA0 : w5.cell? ⟨w.heap.size, 0, none⟩ = some (.int .i64 a.k) := hA5.cell 0
  have tA1 : w5.cell? ⟨w.heap.size, 1, none⟩ = some (.int .i64 a.n) := hA5.cell 1
  have tA2 : w5.cell? ⟨w.heap.size, 2, none⟩ = some (.int .u64 a.u) := hA5.cell 2
  have tA3 : w5.cell? ⟨w.heap.size, 3, none⟩ = some (.string a.s) := hA5.cell 3
  have tB0 : w5.cell? ⟨w.heap.size + 1, 0, none⟩ = some (.int .i64 b.k) := hB5.cell 0
  have tB1 : w5.cell? ⟨w.heap.size + 1, 1, none⟩ = some (.int .i64 b.n) := hB5.cell 1
  have tB2 : w5.cell? ⟨w.heap.size + 1, 2, none⟩ = some (.int .u64 b.u) := hB5.cell 2
  have tB3 : w5.cell? ⟨w.heap.size + 1, 3, none⟩ = some (.string b.s) := hB5.cell 3
  go_wp2_with (refine wpList_store_blk rfl 27 (.tmp 6) (.tmp 40) rfl (w.heap.size + 1 + 1) 27 _ _ rfl rfl hR5 rfl valI (one4 _ _ _ _) ?_; intro w6 hRw6 g6)
  exact bodyPost_ret (res2 Try.results25 rfl rfl hRw6 Try.underlying27 rfl valI) rfl ⟨rfl, bl_gr b5 g6 (by omega)⟩
set_option maxRecDepth 100000 in
set_option maxHeartbeats 2000000 in
theorem refdo_n2 (op : Int) (a b : VV) (w : World) (hra : rightB a.k a.n a.u a.s = true) (hrb : rightB b.k b.n b.u b.s = true) (hta : (rightB a.k a.n a.u a.s && kindB 2 a.k) = true) (htb : (rightB b.k b.n b.u b.s && kindB 2 b.k) = true) (hk : (a.k == 0) = false) (hk2 : (b.k == 0) = true) : Calls Try.prog 25 #[.int .u8 op, .agg #[.int .i64 a.k, .int .i64 a.n, .int .u64 a.u, .string a.s], .agg #[.int .i64 b.k, .int .i64 b.n, .int .u64 b.u, .string b.s]] w fun e w' => e = .returned (resT (V0, 0)) ∧ Below w.heap.size w w' := by
  have hA := (((Blk.new w 27 #[.int .i64 a.k, .int .i64 a.n, .int .u64 a.u, .string a.s]).alloc (.cells #[.int .i64 b.k, .int .i64 b.n, .int .u64 b.u, .string b.s] 27)).alloc (.cells #[.int .i64 0, .int .i64 0, .int .u64 0, .string ⟨#[]⟩] 27))
  have hB := ((Blk.new (w.alloc (.cells #[.int .i64 a.k, .int .i64 a.n, .int .u64 a.u, .string a.s] 27)) 27 #[.int .i64 b.k, .int .i64 b.n, .int .u64 b.u, .string b.s]).alloc (.cells #[.int .i64 0, .int .i64 0, .int .u64 0, .string ⟨#[]⟩] 27))
  have hR := (Blk.new ((w.alloc (.cells #[.int .i64 a.k, .int .i64 a.n, .int .u64 a.u, .string a.s] 27)).alloc (.cells #[.int .i64 b.k, .int .i64 b.n, .int .u64 b.u, .string b.s] 27)) 27 #[.int .i64 0, .int .i64 0, .int .u64 0, .string ⟨#[]⟩])
  have b0 := (bl_al (bl_al (bl_al (Below.refl w.heap.size w) (.cells #[.int .i64 a.k, .int .i64 a.n, .int .u64 a.u, .string a.s] 27)) (.cells #[.int .i64 b.k, .int .i64 b.n, .int .u64 b.u, .string b.s] 27)) (.cells #[.int .i64 0, .int .i64 0, .int .u64 0, .string ⟨#[]⟩] 27))
  simp only [World.size_alloc] at hB hR
  go_enter Try.func25, Try.ntmps25
  go_wp2_with fail
  generalize (((w.alloc (.cells #[.int .i64 a.k, .int .i64 a.n, .int .u64 a.u, .string a.s] 27)).alloc (.cells #[.int .i64 b.k, .int .i64 b.n, .int .u64 b.u, .string b.s] 27)).alloc (.cells #[.int .i64 0, .int .i64 0, .int .u64 0, .string ⟨#[]⟩] 27)) = w1 at *
  refine (right_any a.k a.n a.u a.s w1).mono ?_
  rintro e w2 ⟨rfl, q2⟩
  rw [hra]
  have hA2 := hA.below q2 hA.lt
  have hB2 := hB.below q2 hB.lt
  have hR2 := hR.below q2 hR.lt
  have b2 := bl_ca b0 q2
  clear hA hB hR q2 b0
  have tA0 : w2.cell? ⟨w.heap.size, 0, none⟩ = some (.int .i64 a.k) := hA2.cell 0
  have tA1 : w2.cell? ⟨w.heap.size, 1, none⟩ = some (.int .i64 a.n) := hA2.cell 1
  have tA2 : w2.cell? ⟨w.heap.size, 2, none⟩ = some (.int .u64 a.u) := hA2.cell 2
  have tA3 : w2.cell? ⟨w.heap.size, 3, none⟩ = some (.string a.s) := hA2.cell 3
  have tB0 : w2.cell? ⟨w.heap.size + 1, 0, none⟩ = some (.int .i64 b.k) := hB2.cell 0
  have tB1 : w2.cell? ⟨w.heap.size + 1, 1, none⟩ = some (.int .i64 b.n) := hB2.cell 1
  have tB2 : w2.cell? ⟨w.heap.size + 1, 2, none⟩ = some (.int .u64 b.u) := hB2.cell 2
  have tB3 : w2.cell? ⟨w.heap.size + 1, 3, none⟩ = some (.string b.s) := hB2.cell 3
  clear hra
  go_wp2_with fail
  refine (right_any b.k b.n b.u b.s w2).mono ?_
  rintro e w3 ⟨rfl, q3⟩
  rw [hrb]
  have hA3 := hA2.below q3 hA2.lt
  have hB3 := hB2.below q3 hB2.lt
  have hR3 := hR2.below q3 hR2.lt
  have b3 := bl_ca b2 q3
  clear hA2 hB2 hR2 q3 b2
  clear hrb tA0 tA1 tA2 tA3 tB0 tB1 tB2 tB3
  have tA0 : w3.cell? ⟨w.heap.size, 0, none⟩ = some (.int .i64 a.k) := hA3.cell 0
  have tA1 : w3.cell? ⟨w.heap.size, 1, none⟩ = some (.int .i64 a.n) := hA3.cell 1
  have tA2 : w3.cell? ⟨w.heap.size, 2, none⟩ = some (.int .u64 a.u) := hA3.cell 2
  have tA3 : w3.cell? ⟨w.heap.size, 3, none⟩ = some (.string a.s) := hA3.cell 3
  have tB0 : w3.cell? ⟨w.heap.size + 1, 0, none⟩ = some (.int .i64 b.k) := hB3.cell 0
  have tB1 : w3.cell? ⟨w.heap.size + 1, 1, none⟩ = some (.int .i64 b.n) := hB3.cell 1
  have tB2 : w3.cell? ⟨w.heap.size + 1, 2, none⟩ = some (.int .u64 b.u) := hB3.cell 2
  have tB3 : w3.cell? ⟨w.heap.size + 1, 3, none⟩ = some (.string b.s) := hB3.cell 3
  go_wp2_with fail
  refine (term_any a.k a.n a.u a.s w3).mono ?_
  rintro e w4 ⟨rfl, q4⟩
  rw [hta]
  have hA4 := hA3.below q4 hA3.lt
  have hB4 := hB3.below q4 hB3.lt
  have hR4 := hR3.below q4 hR3.lt
  have b4 := bl_ca b3 q4
  clear hA3 hB3 hR3 q4 b3
  clear hta tA0 tA1 tA2 tA3 tB0 tB1 tB2 tB3
  have tA0 : w4.cell? ⟨w.heap.size, 0, none⟩ = some (.int .i64 a.k) := hA4.cell 0
  have tA1 : w4.cell? ⟨w.heap.size, 1, none⟩ = some (.int .i64 a.n) := hA4.cell 1
  have tA2 : w4.cell? ⟨w.heap.size, 2, none⟩ = some (.int .u64 a.u) := hA4.cell 2
  have tA3 : w4.cell? ⟨w.heap.size, 3, none⟩ = some (.string a.s) := hA4.cell 3
  have tB0 : w4.cell? ⟨w.heap.size + 1, 0, none⟩ = some (.int .i64 b.k) := hB4.cell 0
  have tB1 : w4.cell? ⟨w.heap.size + 1, 1, none⟩ = some (.int .i64 b.n) := hB4.cell 1
  have tB2 : w4.cell? ⟨w.heap.size + 1, 2, none⟩ = some (.int .u64 b.u) := hB4.cell 2
  have tB3 : w4.cell? ⟨w.heap.size + 1, 3, none⟩ = some (.string b.s) := hB4.cell 3
  go_wp2_with fail
  refine (term_any b.k b.n b.u b.s w4).mono ?_
  rintro e w5 ⟨rfl, q5⟩
  rw [htb]
  have hA5 := hA4.below q5 hA4.lt
  have hB5 := hB4.below q5 hB4.lt
  have hR5 := hR4.below q5 hR4.lt
  have b5 := bl_ca b4 q5
  clear hA4 hB4 hR4 q5 b4
  clear htb tA0 tA1 tA2 tA3 tB0 tB1 tB2 tB3
  have tA0 : w5.cell? ⟨w.heap.size, 0, none⟩ = some (.int .i64 a.k) := hA5.cell 0
  have tA1 : w5.cell? ⟨w.heap.size, 1, none⟩ = some (.int .i64 a.n) := hA5.cell 1
  have tA2 : w5.cell? ⟨w.heap.size, 2, none⟩ = some (.int .u64 a.u) := hA5.cell 2
  have tA3 : w5.cell? ⟨w.heap.size, 3, none⟩ = some (.string a.s) := hA5.cell 3
  have tB0 : w5.cell? ⟨w.heap.size + 1, 0, none⟩ = some (.int .i64 b.k) := hB5.cell 0
  have tB1 : w5.cell? ⟨w.heap.size + 1, 1, none⟩ = some (.int .i64 b.n) := hB5.cell 1
  have tB2 : w5.cell? ⟨w.heap.size + 1, 2, none⟩ = some (.int .u64 b.u) := hB5.cell 2
  have tB3 : w5.cell? ⟨w.heap.size + 1, 3, none⟩ = some (.string b.s) := hB5.cell 3
  go_wp2_with (refine wpList_store_blk rfl 27 (.tmp 6) (.tmp 40) rfl (w.heap.size + 1 + 1) 27 _ _ rfl rfl hR5 rfl valI (one4 _ _ _ _) ?_; intro w6 hRw6 g6)
  exact bodyPost_ret (res2 Try.results25 rfl rfl hRw6 Try.underlying27 rfl valI) rfl ⟨rfl, bl_gr b5 g6 (by omega)⟩
end Go.Proofs.Ytemakmgppafccaa
