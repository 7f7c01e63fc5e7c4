/- bowspritref04.sum, Sum, Join, End. Conditions: as each states. -/
import Derived.Test.YtemakmgppafccaaJoinV
namespace Go.Proofs.Ytemakmgppafccaa
open Go.RowKit Go.Proofs.Big
attribute [local go_sem ↓] Go.wp_at_zero Go.wp_at_succ
set_option maxRecDepth 100000 in
set_option maxHeartbeats 4000000 in
theorem rsum_any (z : Int) (w : World) (hz : z.natAbs < 4294967296 ^ 8) : Calls Try.prog 36 #[bigV z] w fun e w' => e = .returned (resT (outS z)) ∧ Below w.heap.size w w' := by
  have HF := Lib.hid (fun w => fits_any z w hz)
  have hl := Lib.hid (digs_len 8 z.natAbs)
  clear hz
  unfold bigV at *
  generalize digs 8 z.natAbs = D at *
  generalize decide (z < 0) = c at *
  have hD := ((Blk.new w 51 (bigC D c)).alloc (.cells #[.int .i64 0, .int .i64 0, .int .u64 0, .string ⟨#[]⟩] 27))
  have hR := (Blk.new (w.alloc (.cells (bigC D c) 51)) 27 #[.int .i64 0, .int .i64 0, .int .u64 0, .string ⟨#[]⟩])
  have bb := (bl_al (bl_al (Below.refl w.heap.size w) (.cells (bigC D c) 51)) (.cells #[.int .i64 0, .int .i64 0, .int .u64 0, .string ⟨#[]⟩] 27))
  simp only [World.size_alloc] at hR
  go_enter Try.func36, Try.ntmps36
  go_wp2_with (refine wpList_load_blk rfl 51 (.tmp 1) rfl w.heap.size rfl 51 _ _ hD Try.underlying51 rfl (bigI_ _ _ hl.out) ?_)
  generalize ((w.alloc (.cells (bigC D c) 51)).alloc (.cells #[.int .i64 0, .int .i64 0, .int .u64 0, .string ⟨#[]⟩] 27)) = w1 at *
  refine (HF.out w1).mono ?_
  rintro e w2 ⟨n, u, rfl, hnu, _, q2⟩
  clear hD
  replace hR := hR.ca q2
  replace bb := bl_ca bb q2
  clear q2
  by_cases hs : fitB z = true
  · obtain ⟨rfl, rfl⟩ := hnu hs
    have hres : outS z = (VS z, 0) := by unfold outS; rw [if_pos hs]
    have HS := Lib.hid hres
    rw [hs]
    clear hs hnu hres
    go_wp2_with (refine wpList_store_blk rfl 27 (.tmp 2) (.tmp 18) rfl (w.heap.size + 1) 27 _ _ rfl rfl hR rfl valI (one4 _ _ _ _) ?_; intro w3 kw3 gw3)
    replace bb := bl_gr bb gw3 (by omega)
    exact bodyPost_ret (res2 Try.results36 rfl rfl kw3 Try.underlying27 rfl valI) rfl ⟨by rw [HS.out]; rfl, bb⟩
  · have hs2 : fitB z = false := by simpa using hs
    have hres : outS z = (V0, 140) := by unfold outS; rw [if_neg hs]
    have HS := Lib.hid hres
    rw [hs2]
    clear hs hs2 hnu hres
    go_wp2_with (refine wpList_store_blk rfl 27 (.tmp 2) (.tmp 15) rfl (w.heap.size + 1) 27 _ _ rfl rfl hR rfl valI (one4 _ _ _ _) ?_; intro w3 kw3 gw3)
    replace bb := bl_gr bb gw3 (by omega)
    exact bodyPost_ret (res2 Try.results36 rfl rfl kw3 Try.underlying27 rfl valI) rfl ⟨by rw [HS.out]; rfl, bb⟩
set_option maxRecDepth 100000 in
set_option maxHeartbeats 4000000 in
theorem rsm_e1 (a b : VV) (w : World) (hra : rightB a.k a.n a.u a.s = false) : Calls Try.prog 15 #[.agg #[.int .i64 a.k, .int .i64 a.n, .int .u64 a.u, .string a.s], .agg #[.int .i64 b.k, .int .i64 b.n, .int .u64 b.u, .string b.s]] w fun e w' => e = .returned (resT (V0, 120)) ∧ Below w.heap.size w w' := by
  have hA := (((Blk.new w 27 #[.int .i64 a.k, .int .i64 a.n, .int .u64 a.u, .string a.s]).alloc (.cells #[.int .i64 b.k, .int .i64 b.n, .int .u64 b.u, .string b.s] 27)).alloc (.cells #[.int .i64 0, .int .i64 0, .int .u64 0, .string ⟨#[]⟩] 27))
  have hB := ((Blk.new (w.alloc (.cells #[.int .i64 a.k, .int .i64 a.n, .int .u64 a.u, .string a.s] 27)) 27 #[.int .i64 b.k, .int .i64 b.n, .int .u64 b.u, .string b.s]).alloc (.cells #[.int .i64 0, .int .i64 0, .int .u64 0, .string ⟨#[]⟩] 27))
  have hR := (Blk.new ((w.alloc (.cells #[.int .i64 a.k, .int .i64 a.n, .int .u64 a.u, .string a.s] 27)).alloc (.cells #[.int .i64 b.k, .int .i64 b.n, .int .u64 b.u, .string b.s] 27)) 27 #[.int .i64 0, .int .i64 0, .int .u64 0, .string ⟨#[]⟩])
  have bb := (bl_al (bl_al (bl_al (Below.refl w.heap.size w) (.cells #[.int .i64 a.k, .int .i64 a.n, .int .u64 a.u, .string a.s] 27)) (.cells #[.int .i64 b.k, .int .i64 b.n, .int .u64 b.u, .string b.s] 27)) (.cells #[.int .i64 0, .int .i64 0, .int .u64 0, .string ⟨#[]⟩] 27))
  simp only [World.size_alloc] at hB hR
  go_enter Try.func15, Try.ntmps15
  go_wp2_with fail
  generalize (((w.alloc (.cells #[.int .i64 a.k, .int .i64 a.n, .int .u64 a.u, .string a.s] 27)).alloc (.cells #[.int .i64 b.k, .int .i64 b.n, .int .u64 b.u, .string b.s] 27)).alloc (.cells #[.int .i64 0, .int .i64 0, .int .u64 0, .string ⟨#[]⟩] 27)) = w1 at *
  refine (right_any a.k a.n a.u a.s w1).mono ?_
  rintro e w2 ⟨rfl, q2⟩
  rw [hra]
  clear hra
  replace hA := hA.ca q2
  replace hB := hB.ca q2
  replace hR := hR.ca q2
  replace bb := bl_ca bb q2
  clear q2
  go_wp2_with (refine wpList_store_blk rfl 27 (.tmp 4) (.tmp 15) rfl (w.heap.size + 1 + 1) 27 _ _ rfl rfl hR rfl valI (one4 _ _ _ _) ?_; intro w3 kw3 gw3)
  replace bb := bl_gr bb gw3 (by omega)
  exact bodyPost_ret (res2 Try.results15 rfl rfl kw3 Try.underlying27 rfl valI) rfl ⟨rfl, bb⟩
set_option maxRecDepth 100000 in
set_option maxHeartbeats 4000000 in
theorem rsm_e2 (a b : VV) (w : World) (hra : rightB a.k a.n a.u a.s = true) (hrb : rightB b.k b.n b.u b.s = false) : Calls Try.prog 15 #[.agg #[.int .i64 a.k, .int .i64 a.n, .int .u64 a.u, .string a.s], .agg #[.int .i64 b.k, .int .i64 b.n, .int .u64 b.u, .string b.s]] w fun e w' => e = .returned (resT (V0, 120)) ∧ Below w.heap.size w w' := by
  have hA := (((Blk.new w 27 #[.int .i64 a.k, .int .i64 a.n, .int .u64 a.u, .string a.s]).alloc (.cells #[.int .i64 b.k, .int .i64 b.n, .int .u64 b.u, .string b.s] 27)).alloc (.cells #[.int .i64 0, .int .i64 0, .int .u64 0, .string ⟨#[]⟩] 27))
  have hB := ((Blk.new (w.alloc (.cells #[.int .i64 a.k, .int .i64 a.n, .int .u64 a.u, .string a.s] 27)) 27 #[.int .i64 b.k, .int .i64 b.n, .int .u64 b.u, .string b.s]).alloc (.cells #[.int .i64 0, .int .i64 0, .int .u64 0, .string ⟨#[]⟩] 27))
  have hR := (Blk.new ((w.alloc (.cells #[.int .i64 a.k, .int .i64 a.n, .int .u64 a.u, .string a.s] 27)).alloc (.cells #[.int .i64 b.k, .int .i64 b.n, .int .u64 b.u, .string b.s] 27)) 27 #[.int .i64 0, .int .i64 0, .int .u64 0, .string ⟨#[]⟩])
  have bb := (bl_al (bl_al (bl_al (Below.refl w.heap.size w) (.cells #[.int .i64 a.k, .int .i64 a.n, .int .u64 a.u, .string a.s] 27)) (.cells #[.int .i64 b.k, .int .i64 b.n, .int .u64 b.u, .string b.s] 27)) (.cells #[.int .i64 0, .int .i64 0, .int .u64 0, .string ⟨#[]⟩] 27))
  simp only [World.size_alloc] at hB hR
  go_enter Try.func15, Try.ntmps15
  go_wp2_with fail
  generalize (((w.alloc (.cells #[.int .i64 a.k, .int .i64 a.n, .int .u64 a.u, .string a.s] 27)).alloc (.cells #[.int .i64 b.k, .int .i64 b.n, .int .u64 b.u, .string b.s] 27)).alloc (.cells #[.int .i64 0, .int .i64 0, .int .u64 0, .string ⟨#[]⟩] 27)) = w1 at *
  refine (right_any a.k a.n a.u a.s w1).mono ?_
  rintro e w2 ⟨rfl, q2⟩
  rw [hra]
  clear hra
  replace hA := hA.ca q2
  replace hB := hB.ca q2
  replace hR := hR.ca q2
  replace bb := bl_ca bb q2
  clear q2
  have hA_0 : w2.cell? ⟨w.heap.size, 0, none⟩ = some (.int .i64 a.k) := hA.cell 0
  have hA_1 : w2.cell? ⟨w.heap.size, 1, none⟩ = some (.int .i64 a.n) := hA.cell 1
  have hA_2 : w2.cell? ⟨w.heap.size, 2, none⟩ = some (.int .u64 a.u) := hA.cell 2
  have hA_3 : w2.cell? ⟨w.heap.size, 3, none⟩ = some (.string a.s) := hA.cell 3
  have hB_0 : w2.cell? ⟨w.heap.size + 1, 0, none⟩ = some (.int .i64 b.k) := hB.cell 0
  have hB_1 : w2.cell? ⟨w.heap.size + 1, 1, none⟩ = some (.int .i64 b.n) := hB.cell 1
  have hB_2 : w2.cell? ⟨w.heap.size + 1, 2, none⟩ = some (.int .u64 b.u) := hB.cell 2
  have hB_3 : w2.cell? ⟨w.heap.size + 1, 3, none⟩ = some (.string b.s) := hB.cell 3
  go_wp2_with fail
  refine (right_any b.k b.n b.u b.s _).mono ?_
  rintro e w3 ⟨rfl, q3⟩
  rw [hrb]
  clear hrb
  clear hA_0 hA_1 hA_2 hA_3 hB_0 hB_1 hB_2 hB_3
  replace hA := hA.ca q3
  replace hB := hB.ca q3
  replace hR := hR.ca q3
  replace bb := bl_ca bb q3
  clear q3
  go_wp2_with (refine wpList_store_blk rfl 27 (.tmp 4) (.tmp 15) rfl (w.heap.size + 1 + 1) 27 _ _ rfl rfl hR rfl valI (one4 _ _ _ _) ?_; intro w4 kw4 gw4)
  replace bb := bl_gr bb gw4 (by omega)
  exact bodyPost_ret (res2 Try.results15 rfl rfl kw4 Try.underlying27 rfl valI) rfl ⟨rfl, bb⟩
set_option maxRecDepth 100000 in
set_option maxHeartbeats 4000000 in
theorem rsm_m1 (a b : VV) (w : World) (hra : rightB a.k a.n a.u a.s = true) (hrb : rightB b.k b.n b.u b.s = true) (hta : (rightB a.k a.n a.u a.s && kindB 4 a.k) = false) : Calls Try.prog 15 #[.agg #[.int .i64 a.k, .int .i64 a.n, .int .u64 a.u, .string a.s], .agg #[.int .i64 b.k, .int .i64 b.n, .int .u64 b.u, .string b.s]] w fun e w' => e = .returned (resT (V0, 2)) ∧ Below w.heap.size w w' := by
  have hA := (((Blk.new w 27 #[.int .i64 a.k, .int .i64 a.n, .int .u64 a.u, .string a.s]).alloc (.cells #[.int .i64 b.k, .int .i64 b.n, .int .u64 b.u, .string b.s] 27)).alloc (.cells #[.int .i64 0, .int .i64 0, .int .u64 0, .string ⟨#[]⟩] 27))
  have hB := ((Blk.new (w.alloc (.cells #[.int .i64 a.k, .int .i64 a.n, .int .u64 a.u, .string a.s] 27)) 27 #[.int .i64 b.k, .int .i64 b.n, .int .u64 b.u, .string b.s]).alloc (.cells #[.int .i64 0, .int .i64 0, .int .u64 0, .string ⟨#[]⟩] 27))
  have hR := (Blk.new ((w.alloc (.cells #[.int .i64 a.k, .int .i64 a.n, .int .u64 a.u, .string a.s] 27)).alloc (.cells #[.int .i64 b.k, .int .i64 b.n, .int .u64 b.u, .string b.s] 27)) 27 #[.int .i64 0, .int .i64 0, .int .u64 0, .string ⟨#[]⟩])
  have bb := (bl_al (bl_al (bl_al (Below.refl w.heap.size w) (.cells #[.int .i64 a.k, .int .i64 a.n, .int .u64 a.u, .string a.s] 27)) (.cells #[.int .i64 b.k, .int .i64 b.n, .int .u64 b.u, .string b.s] 27)) (.cells #[.int .i64 0, .int .i64 0, .int .u64 0, .string ⟨#[]⟩] 27))
  simp only [World.size_alloc] at hB hR
  go_enter Try.func15, Try.ntmps15
  go_wp2_with fail
  generalize (((w.alloc (.cells #[.int .i64 a.k, .int .i64 a.n, .int .u64 a.u, .string a.s] 27)).alloc (.cells #[.int .i64 b.k, .int .i64 b.n, .int .u64 b.u, .string b.s] 27)).alloc (.cells #[.int .i64 0, .int .i64 0, .int .u64 0, .string ⟨#[]⟩] 27)) = w1 at *
  refine (right_any a.k a.n a.u a.s w1).mono ?_
  rintro e w2 ⟨rfl, q2⟩
  rw [hra]
  clear hra
  replace hA := hA.ca q2
  replace hB := hB.ca q2
  replace hR := hR.ca q2
  replace bb := bl_ca bb q2
  clear q2
  have hA_0 : w2.cell? ⟨w.heap.size, 0, none⟩ = some (.int .i64 a.k) := hA.cell 0
  have hA_1 : w2.cell? ⟨w.heap.size, 1, none⟩ = some (.int .i64 a.n) := hA.cell 1
  have hA_2 : w2.cell? ⟨w.heap.size, 2, none⟩ = some (.int .u64 a.u) := hA.cell 2
  have hA_3 : w2.cell? ⟨w.heap.size, 3, none⟩ = some (.string a.s) := hA.cell 3
  have hB_0 : w2.cell? ⟨w.heap.size + 1, 0, none⟩ = some (.int .i64 b.k) := hB.cell 0
  have hB_1 : w2.cell? ⟨w.heap.size + 1, 1, none⟩ = some (.int .i64 b.n) := hB.cell 1
  have hB_2 : w2.cell? ⟨w.heap.size + 1, 2, none⟩ = some (.int .u64 b.u) := hB.cell 2
  have hB_3 : w2.cell? ⟨w.heap.size + 1, 3, none⟩ = some (.string b.s) := hB.cell 3
  go_wp2_with fail
  refine (right_any b.k b.n b.u b.s _).mono ?_
  rintro e w3 ⟨rfl, q3⟩
  rw [hrb]
  clear hrb
  clear hA_0 hA_1 hA_2 hA_3 hB_0 hB_1 hB_2 hB_3
  replace hA := hA.ca q3
  replace hB := hB.ca q3
  replace hR := hR.ca q3
  replace bb := bl_ca bb q3
  clear q3
  have hA_0 : w3.cell? ⟨w.heap.size, 0, none⟩ = some (.int .i64 a.k) := hA.cell 0
  have hA_1 : w3.cell? ⟨w.heap.size, 1, none⟩ = some (.int .i64 a.n) := hA.cell 1
  have hA_2 : w3.cell? ⟨w.heap.size, 2, none⟩ = some (.int .u64 a.u) := hA.cell 2
  have hA_3 : w3.cell? ⟨w.heap.size, 3, none⟩ = some (.string a.s) := hA.cell 3
  have hB_0 : w3.cell? ⟨w.heap.size + 1, 0, none⟩ = some (.int .i64 b.k) := hB.cell 0
  have hB_1 : w3.cell? ⟨w.heap.size + 1, 1, none⟩ = some (.int .i64 b.n) := hB.cell 1
  have hB_2 : w3.cell? ⟨w.heap.size + 1, 2, none⟩ = some (.int .u64 b.u) := hB.cell 2
  have hB_3 : w3.cell? ⟨w.heap.size + 1, 3, none⟩ = some (.string b.s) := hB.cell 3
  go_wp2_with fail
  refine (under_any a.k a.n a.u a.s _).mono ?_
  rintro e w4 ⟨rfl, q4⟩
  rw [hta]
  clear hta
  clear hA_0 hA_1 hA_2 hA_3 hB_0 hB_1 hB_2 hB_3
  replace hA := hA.ca q4
  replace hB := hB.ca q4
  replace hR := hR.ca q4
  replace bb := bl_ca bb q4
  clear q4
  go_wp2_with (refine wpList_store_blk rfl 27 (.tmp 4) (.tmp 25) rfl (w.heap.size + 1 + 1) 27 _ _ rfl rfl hR rfl valI (one4 _ _ _ _) ?_; intro w5 kw5 gw5)
  replace bb := bl_gr bb gw5 (by omega)
  exact bodyPost_ret (res2 Try.results15 rfl rfl kw5 Try.underlying27 rfl valI) rfl ⟨rfl, bb⟩
set_option maxRecDepth 100000 in
set_option maxHeartbeats 4000000 in
theorem rsm_m2 (a b : VV) (w : World) (hra : rightB a.k a.n a.u a.s = true) (hrb : rightB b.k b.n b.u b.s = true) (hta : (rightB a.k a.n a.u a.s && kindB 4 a.k) = true) (htb : (rightB b.k b.n b.u b.s && kindB 2 b.k) = false) : Calls Try.prog 15 #[.agg #[.int .i64 a.k, .int .i64 a.n, .int .u64 a.u, .string a.s], .agg #[.int .i64 b.k, .int .i64 b.n, .int .u64 b.u, .string b.s]] w fun e w' => e = .returned (resT (V0, 2)) ∧ Below w.heap.size w w' := by
  have hA := (((Blk.new w 27 #[.int .i64 a.k, .int .i64 a.n, .int .u64 a.u, .string a.s]).alloc (.cells #[.int .i64 b.k, .int .i64 b.n, .int .u64 b.u, .string b.s] 27)).alloc (.cells #[.int .i64 0, .int .i64 0, .int .u64 0, .string ⟨#[]⟩] 27))
  have hB := ((Blk.new (w.alloc (.cells #[.int .i64 a.k, .int .i64 a.n, .int .u64 a.u, .string a.s] 27)) 27 #[.int .i64 b.k, .int .i64 b.n, .int .u64 b.u, .string b.s]).alloc (.cells #[.int .i64 0, .int .i64 0, .int .u64 0, .string ⟨#[]⟩] 27))
  have hR := (Blk.new ((w.alloc (.cells #[.int .i64 a.k, .int .i64 a.n, .int .u64 a.u, .string a.s] 27)).alloc (.cells #[.int .i64 b.k, .int .i64 b.n, .int .u64 b.u, .string b.s] 27)) 27 #[.int .i64 0, .int .i64 0, .int .u64 0, .string ⟨#[]⟩])
  have bb := (bl_al (bl_al (bl_al (Below.refl w.heap.size w) (.cells #[.int .i64 a.k, .int .i64 a.n, .int .u64 a.u, .string a.s] 27)) (.cells #[.int .i64 b.k, .int .i64 b.n, .int .u64 b.u, .string b.s] 27)) (.cells #[.int .i64 0, .int .i64 0, .int .u64 0, .string ⟨#[]⟩] 27))
  simp only [World.size_alloc] at hB hR
  go_enter Try.func15, Try.ntmps15
  go_wp2_with fail
  generalize (((w.alloc (.cells #[.int .i64 a.k, .int .i64 a.n, .int .u64 a.u, .string a.s] 27)).alloc (.cells #[.int .i64 b.k, .int .i64 b.n, .int .u64 b.u, .string b.s] 27)).alloc (.cells #[.int .i64 0, .int .i64 0, .int .u64 0, .string ⟨#[]⟩] 27)) = w1 at *
  refine (right_any a.k a.n a.u a.s w1).mono ?_
  rintro e w2 ⟨rfl, q2⟩
  rw [hra]
  clear hra
  replace hA := hA.ca q2
  replace hB := hB.ca q2
  replace hR := hR.ca q2
  replace bb := bl_ca bb q2
  clear q2
  have hA_0 : w2.cell? ⟨w.heap.size, 0, none⟩ = some (.int .i64 a.k) := hA.cell 0
  have hA_1 : w2.cell? ⟨w.heap.size, 1, none⟩ = some (.int .i64 a.n) := hA.cell 1
  have hA_2 : w2.cell? ⟨w.heap.size, 2, none⟩ = some (.int .u64 a.u) := hA.cell 2
  have hA_3 : w2.cell? ⟨w.heap.size, 3, none⟩ = some (.string a.s) := hA.cell 3
  have hB_0 : w2.cell? ⟨w.heap.size + 1, 0, none⟩ = some (.int .i64 b.k) := hB.cell 0
  have hB_1 : w2.cell? ⟨w.heap.size + 1, 1, none⟩ = some (.int .i64 b.n) := hB.cell 1
  have hB_2 : w2.cell? ⟨w.heap.size + 1, 2, none⟩ = some (.int .u64 b.u) := hB.cell 2
  have hB_3 : w2.cell? ⟨w.heap.size + 1, 3, none⟩ = some (.string b.s) := hB.cell 3
  go_wp2_with fail
  refine (right_any b.k b.n b.u b.s _).mono ?_
  rintro e w3 ⟨rfl, q3⟩
  rw [hrb]
  clear hrb
  clear hA_0 hA_1 hA_2 hA_3 hB_0 hB_1 hB_2 hB_3
  replace hA := hA.ca q3
  replace hB := hB.ca q3
  replace hR := hR.ca q3
  replace bb := bl_ca bb q3
  clear q3
  have hA_0 : w3.cell? ⟨w.heap.size, 0, none⟩ = some (.int .i64 a.k) := hA.cell 0
  have hA_1 : w3.cell? ⟨w.heap.size, 1, none⟩ = some (.int .i64 a.n) := hA.cell 1
  have hA_2 : w3.cell? ⟨w.heap.size, 2, none⟩ = some (.int .u64 a.u) := hA.cell 2
  have hA_3 : w3.cell? ⟨w.heap.size, 3, none⟩ = some (.string a.s) := hA.cell 3
  have hB_0 : w3.cell? ⟨w.heap.size + 1, 0, none⟩ = some (.int .i64 b.k) := hB.cell 0
  have hB_1 : w3.cell? ⟨w.heap.size + 1, 1, none⟩ = some (.int .i64 b.n) := hB.cell 1
  have hB_2 : w3.cell? ⟨w.heap.size + 1, 2, none⟩ = some (.int .u64 b.u) := hB.cell 2
  have hB_3 : w3.cell? ⟨w.heap.size + 1, 3, none⟩ = some (.string b.s) := hB.cell 3
  go_wp2_with fail
  refine (under_any a.k a.n a.u a.s _).mono ?_
  rintro e w4 ⟨rfl, q4⟩
  rw [hta]
  clear hta
  clear hA_0 hA_1 hA_2 hA_3 hB_0 hB_1 hB_2 hB_3
  replace hA := hA.ca q4
  replace hB := hB.ca q4
  replace hR := hR.ca q4
  replace bb := bl_ca bb q4
  clear q4
  have hA_0 : w4.cell? ⟨w.heap.size, 0, none⟩ = some (.int .i64 a.k) := hA.cell 0
  have hA_1 : w4.cell? ⟨w.heap.size, 1, none⟩ = some (.int .i64 a.n) := hA.cell 1
  have hA_2 : w4.cell? ⟨w.heap.size, 2, none⟩ = some (.int .u64 a.u) := hA.cell 2
  have hA_3 : w4.cell? ⟨w.heap.size, 3, none⟩ = some (.string a.s) := hA.cell 3
  have hB_0 : w4.cell? ⟨w.heap.size + 1, 0, none⟩ = some (.int .i64 b.k) := hB.cell 0
  have hB_1 : w4.cell? ⟨w.heap.size + 1, 1, none⟩ = some (.int .i64 b.n) := hB.cell 1
  have hB_2 : w4.cell? ⟨w.heap.size + 1, 2, none⟩ = some (.int .u64 b.u) := hB.cell 2
  have hB_3 : w4.cell? ⟨w.heap.size + 1, 3, none⟩ = some (.string b.s) := hB.cell 3
  go_wp2_with fail
  refine (term_any b.k b.n b.u b.s _).mono ?_
  rintro e w5 ⟨rfl, q5⟩
  rw [htb]
  clear htb
  clear hA_0 hA_1 hA_2 hA_3 hB_0 hB_1 hB_2 hB_3
  replace hA := hA.ca q5
  replace hB := hB.ca q5
  replace hR := hR.ca q5
  replace bb := bl_ca bb q5
  clear q5
  go_wp2_with (refine wpList_store_blk rfl 27 (.tmp 4) (.tmp 25) rfl (w.heap.size + 1 + 1) 27 _ _ rfl rfl hR rfl valI (one4 _ _ _ _) ?_; intro w6 kw6 gw6)
  replace bb := bl_gr bb gw6 (by omega)
  exact bodyPost_ret (res2 Try.results15 rfl rfl kw6 Try.underlying27 rfl valI) rfl ⟨rfl, bb⟩
set_option maxRecDepth 100000 in
set_option maxHeartbeats 4000000 in
theorem rsm_n (a b : VV) (w : World) (hra : rightB a.k a.n a.u a.s = true) (hrb : rightB b.k b.n b.u b.s = true) (hta : (rightB a.k a.n a.u a.s && kindB 4 a.k) = true) (htb : (rightB b.k b.n b.u b.s && kindB 2 b.k) = true) (k1 : (b.k == 0) = true) : Calls Try.prog 15 #[.agg #[.int .i64 a.k, .int .i64 a.n, .int .u64 a.u, .string a.s], .agg #[.int .i64 b.k, .int .i64 b.n, .int .u64 b.u, .string b.s]] w fun e w' => e = .returned (resT (a, 0)) ∧ Below w.heap.size w w' := by
  have hA := (((Blk.new w 27 #[.int .i64 a.k, .int .i64 a.n, .int .u64 a.u, .string a.s]).alloc (.cells #[.int .i64 b.k, .int .i64 b.n, .int .u64 b.u, .string b.s] 27)).alloc (.cells #[.int .i64 0, .int .i64 0, .int .u64 0, .string ⟨#[]⟩] 27))
  have hB := ((Blk.new (w.alloc (.cells #[.int .i64 a.k, .int .i64 a.n, .int .u64 a.u, .string a.s] 27)) 27 #[.int .i64 b.k, .int .i64 b.n, .int .u64 b.u, .string b.s]).alloc (.cells #[.int .i64 0, .int .i64 0, .int .u64 0, .string ⟨#[]⟩] 27))
  have hR := (Blk.new ((w.alloc (.cells #[.int .i64 a.k, .int .i64 a.n, .int .u64 a.u, .string a.s] 27)).alloc (.cells #[.int .i64 b.k, .int .i64 b.n, .int .u64 b.u, .string b.s] 27)) 27 #[.int .i64 0, .int .i64 0, .int .u64 0, .string ⟨#[]⟩])
  have bb := (bl_al (bl_al (bl_al (Below.refl w.heap.size w) (.cells #[.int .i64 a.k, .int .i64 a.n, .int .u64 a.u, .string a.s] 27)) (.cells #[.int .i64 b.k, .int .i64 b.n, .int .u64 b.u, .string b.s] 27)) (.cells #[.int .i64 0, .int .i64 0, .int .u64 0, .string ⟨#[]⟩] 27))
  simp only [World.size_alloc] at hB hR
  go_enter Try.func15, Try.ntmps15
  go_wp2_with fail
  generalize (((w.alloc (.cells #[.int .i64 a.k, .int .i64 a.n, .int .u64 a.u, .string a.s] 27)).alloc (.cells #[.int .i64 b.k, .int .i64 b.n, .int .u64 b.u, .string b.s] 27)).alloc (.cells #[.int .i64 0, .int .i64 0, .int .u64 0, .string ⟨#[]⟩] 27)) = w1 at *
  refine (right_any a.k a.n a.u a.s w1).mono ?_
  rintro e w2 ⟨rfl, q2⟩
  rw [hra]
  clear hra
  replace hA := hA.ca q2
  replace hB := hB.ca q2
  replace hR := hR.ca q2
  replace bb := bl_ca bb q2
  clear q2
  have hA_0 : w2.cell? ⟨w.heap.size, 0, none⟩ = some (.int .i64 a.k) := hA.cell 0
  have hA_1 : w2.cell? ⟨w.heap.size, 1, none⟩ = some (.int .i64 a.n) := hA.cell 1
  have hA_2 : w2.cell? ⟨w.heap.size, 2, none⟩ = some (.int .u64 a.u) := hA.cell 2
  have hA_3 : w2.cell? ⟨w.heap.size, 3, none⟩ = some (.string a.s) := hA.cell 3
  have hB_0 : w2.cell? ⟨w.heap.size + 1, 0, none⟩ = some (.int .i64 b.k) := hB.cell 0
  have hB_1 : w2.cell? ⟨w.heap.size + 1, 1, none⟩ = some (.int .i64 b.n) := hB.cell 1
  have hB_2 : w2.cell? ⟨w.heap.size + 1, 2, none⟩ = some (.int .u64 b.u) := hB.cell 2
  have hB_3 : w2.cell? ⟨w.heap.size + 1, 3, none⟩ = some (.string b.s) := hB.cell 3
  go_wp2_with fail
  refine (right_any b.k b.n b.u b.s _).mono ?_
  rintro e w3 ⟨rfl, q3⟩
  rw [hrb]
  clear hrb
  clear hA_0 hA_1 hA_2 hA_3 hB_0 hB_1 hB_2 hB_3
  replace hA := hA.ca q3
  replace hB := hB.ca q3
  replace hR := hR.ca q3
  replace bb := bl_ca bb q3
  clear q3
  have hA_0 : w3.cell? ⟨w.heap.size, 0, none⟩ = some (.int .i64 a.k) := hA.cell 0
  have hA_1 : w3.cell? ⟨w.heap.size, 1, none⟩ = some (.int .i64 a.n) := hA.cell 1
  have hA_2 : w3.cell? ⟨w.heap.size, 2, none⟩ = some (.int .u64 a.u) := hA.cell 2
  have hA_3 : w3.cell? ⟨w.heap.size, 3, none⟩ = some (.string a.s) := hA.cell 3
  have hB_0 : w3.cell? ⟨w.heap.size + 1, 0, none⟩ = some (.int .i64 b.k) := hB.cell 0
  have hB_1 : w3.cell? ⟨w.heap.size + 1, 1, none⟩ = some (.int .i64 b.n) := hB.cell 1
  have hB_2 : w3.cell? ⟨w.heap.size + 1, 2, none⟩ = some (.int .u64 b.u) := hB.cell 2
  have hB_3 : w3.cell? ⟨w.heap.size + 1, 3, none⟩ = some (.string b.s) := hB.cell 3
  go_wp2_with fail
  refine (under_any a.k a.n a.u a.s _).mono ?_
  rintro e w4 ⟨rfl, q4⟩
  rw [hta]
  clear hta
  clear hA_0 hA_1 hA_2 hA_3 hB_0 hB_1 hB_2 hB_3
  replace hA := hA.ca q4
  replace hB := hB.ca q4
  replace hR := hR.ca q4
  replace bb := bl_ca bb q4
  clear q4
  have hA_0 : w4.cell? ⟨w.heap.size, 0, none⟩ = some (.int .i64 a.k) := hA.cell 0
  have hA_1 : w4.cell? ⟨w.heap.size, 1, none⟩ = some (.int .i64 a.n) := hA.cell 1
  have hA_2 : w4.cell? ⟨w.heap.size, 2, none⟩ = some (.int .u64 a.u) := hA.cell 2
  have hA_3 : w4.cell? ⟨w.heap.size, 3, none⟩ = some (.string a.s) := hA.cell 3
  have hB_0 : w4.cell? ⟨w.heap.size + 1, 0, none⟩ = some (.int .i64 b.k) := hB.cell 0
  have hB_1 : w4.cell? ⟨w.heap.size + 1, 1, none⟩ = some (.int .i64 b.n) := hB.cell 1
  have hB_2 : w4.cell? ⟨w.heap.size + 1, 2, none⟩ = some (.int .u64 b.u) := hB.cell 2
  have hB_3 : w4.cell? ⟨w.heap.size + 1, 3, none⟩ = some (.string b.s) := hB.cell 3
  go_wp2_with fail
  refine (term_any b.k b.n b.u b.s _).mono ?_
  rintro e w5 ⟨rfl, q5⟩
  rw [htb]
  clear htb
  clear hA_0 hA_1 hA_2 hA_3 hB_0 hB_1 hB_2 hB_3
  replace hA := hA.ca q5
  replace hB := hB.ca q5
  replace hR := hR.ca q5
  replace bb := bl_ca bb q5
  clear q5
  have hA_0 : w5.cell? ⟨w.heap.size, 0, none⟩ = some (.int .i64 a.k) := hA.cell 0
  have hA_1 : w5.cell? ⟨w.heap.size, 1, none⟩ = some (.int .i64 a.n) := hA.cell 1
  have hA_2 : w5.cell? ⟨w.heap.size, 2, none⟩ = some (.int .u64 a.u) := hA.cell 2
  have hA_3 : w5.cell? ⟨w.heap.size, 3, none⟩ = some (.string a.s) := hA.cell 3
  have hB_0 : w5.cell? ⟨w.heap.size + 1, 0, none⟩ = some (.int .i64 b.k) := hB.cell 0
  have hB_1 : w5.cell? ⟨w.heap.size + 1, 1, none⟩ = some (.int .i64 b.n) := hB.cell 1
  have hB_2 : w5.cell? ⟨w.heap.size + 1, 2, none⟩ = some (.int .u64 b.u) := hB.cell 2
  have hB_3 : w5.cell? ⟨w.heap.size + 1, 3, none⟩ = some (.string b.s) := hB.cell 3
  go_wp2_with (refine wpList_store_blk rfl 27 (.tmp 4) (.tmp 30) rfl (w.heap.size + 1 + 1) 27 _ _ rfl rfl hR rfl valI (one4 _ _ _ _) ?_; intro w6 kw6 gw6)
  replace bb := bl_gr bb gw6 (by omega)
  exact bodyPost_ret (res2 Try.results15 rfl rfl kw6 Try.underlying27 rfl valI) rfl ⟨rfl, bb⟩
set_option maxRecDepth 100000 in
set_option maxHeartbeats 4000000 in
theorem rsm_w (a b : VV) (w : World) (hra : rightB a.k a.n a.u a.s = true) (hrb : rightB b.k b.n b.u b.s = true) (hta : (rightB a.k a.n a.u a.s && kindB 4 a.k) = true) (htb : (rightB b.k b.n b.u b.s && kindB 2 b.k) = true) (k1 : (b.k == 0) = false) (k2 : (a.k == 0) = true) (R : VV × Int) (x : Value) (hi : ∀ w, Calls Try.prog 37 #[.int .i64 b.n] w fun e w' => e = .returned (x) ∧ Below w.heap.size w w') (hs : ∀ w, Calls Try.prog 36 #[x] w fun e w' => e = .returned (resT R) ∧ Below w.heap.size w w') : Calls Try.prog 15 #[.agg #[.int .i64 a.k, .int .i64 a.n, .int .u64 a.u, .string a.s], .agg #[.int .i64 b.k, .int .i64 b.n, .int .u64 b.u, .string b.s]] w fun e w' => e = .returned (resT R) ∧ Below w.heap.size w w' := by
  have HI := Lib.hid hi
  have HS := Lib.hid hs
  clear hi hs
  have hA := (((Blk.new w 27 #[.int .i64 a.k, .int .i64 a.n, .int .u64 a.u, .string a.s]).alloc (.cells #[.int .i64 b.k, .int .i64 b.n, .int .u64 b.u, .string b.s] 27)).alloc (.cells #[.int .i64 0, .int .i64 0, .int .u64 0, .string ⟨#[]⟩] 27))
  have hB := ((Blk.new (w.alloc (.cells #[.int .i64 a.k, .int .i64 a.n, .int .u64 a.u, .string a.s] 27)) 27 #[.int .i64 b.k, .int .i64 b.n, .int .u64 b.u, .string b.s]).alloc (.cells #[.int .i64 0, .int .i64 0, .int .u64 0, .string ⟨#[]⟩] 27))
  have hR := (Blk.new ((w.alloc (.cells #[.int .i64 a.k, .int .i64 a.n, .int .u64 a.u, .string a.s] 27)).alloc (.cells #[.int .i64 b.k, .int .i64 b.n, .int .u64 b.u, .string b.s] 27)) 27 #[.int .i64 0, .int .i64 0, .int .u64 0, .string ⟨#[]⟩])
  have bb := (bl_al (bl_al (bl_al (Below.refl w.heap.size w) (.cells #[.int .i64 a.k, .int .i64 a.n, .int .u64 a.u, .string a.s] 27)) (.cells #[.int .i64 b.k, .int .i64 b.n, .int .u64 b.u, .string b.s] 27)) (.cells #[.int .i64 0, .int .i64 0, .int .u64 0, .string ⟨#[]⟩] 27))
  simp only [World.size_alloc] at hB hR
  go_enter Try.func15, Try.ntmps15
  go_wp2_with fail
  generalize (((w.alloc (.cells #[.int .i64 a.k, .int .i64 a.n, .int .u64 a.u, .string a.s] 27)).alloc (.cells #[.int .i64 b.k, .int .i64 b.n, .int .u64 b.u, .string b.s] 27)).alloc (.cells #[.int .i64 0, .int .i64 0, .int .u64 0, .string ⟨#[]⟩] 27)) = w1 at *
  refine (right_any a.k a.n a.u a.s w1).mono ?_
  rintro e w2 ⟨rfl, q2⟩
  rw [hra]
  clear hra
  replace hA := hA.ca q2
  replace hB := hB.ca q2
  replace hR := hR.ca q2
  replace bb := bl_ca bb q2
  clear q2
  have hA_0 : w2.cell? ⟨w.heap.size, 0, none⟩ = some (.int .i64 a.k) := hA.cell 0
  have hA_1 : w2.cell? ⟨w.heap.size, 1, none⟩ = some (.int .i64 a.n) := hA.cell 1
  have hA_2 : w2.cell? ⟨w.heap.size, 2, none⟩ = some (.int .u64 a.u) := hA.cell 2
  have hA_3 : w2.cell? ⟨w.heap.size, 3, none⟩ = some (.string a.s) := hA.cell 3
  have hB_0 : w2.cell? ⟨w.heap.size + 1, 0, none⟩ = some (.int .i64 b.k) := hB.cell 0
  have hB_1 : w2.cell? ⟨w.heap.size + 1, 1, none⟩ = some (.int .i64 b.n) := hB.cell 1
  have hB_2 : w2.cell? ⟨w.heap.size + 1, 2, none⟩ = some (.int .u64 b.u) := hB.cell 2
  have hB_3 : w2.cell? ⟨w.heap.size + 1, 3, none⟩ = some (.string b.s) := hB.cell 3
  go_wp2_with fail
  refine (right_any b.k b.n b.u b.s _).mono ?_
  rintro e w3 ⟨rfl, q3⟩
  rw [hrb]
  clear hrb
  clear hA_0 hA_1 hA_2 hA_3 hB_0 hB_1 hB_2 hB_3
  replace hA := hA.ca q3
  replace hB := hB.ca q3
  replace hR := hR.ca q3
  replace bb := bl_ca bb q3
  clear q3
  have hA_0 : w3.cell? ⟨w.heap.size, 0, none⟩ = some (.int .i64 a.k) := hA.cell 0
  have hA_1 : w3.cell? ⟨w.heap.size, 1, none⟩ = some (.int .i64 a.n) := hA.cell 1
  have hA_2 : w3.cell? ⟨w.heap.size, 2, none⟩ = some (.int .u64 a.u) := hA.cell 2
  have hA_3 : w3.cell? ⟨w.heap.size, 3, none⟩ = some (.string a.s) := hA.cell 3
  have hB_0 : w3.cell? ⟨w.heap.size + 1, 0, none⟩ = some (.int .i64 b.k) := hB.cell 0
  have hB_1 : w3.cell? ⟨w.heap.size + 1, 1, none⟩ = some (.int .i64 b.n) := hB.cell 1
  have hB_2 : w3.cell? ⟨w.heap.size + 1, 2, none⟩ = some (.int .u64 b.u) := hB.cell 2
  have hB_3 : w3.cell? ⟨w.heap.size + 1, 3, none⟩ = some (.string b.s) := hB.cell 3
  go_wp2_with fail
  refine (under_any a.k a.n a.u a.s _).mono ?_
  rintro e w4 ⟨rfl, q4⟩
  rw [hta]
  clear hta
  clear hA_0 hA_1 hA_2 hA_3 hB_0 hB_1 hB_2 hB_3
  replace hA := hA.ca q4
  replace hB := hB.ca q4
  replace hR := hR.ca q4
  replace bb := bl_ca bb q4
  clear q4
  have hA_0 : w4.cell? ⟨w.heap.size, 0, none⟩ = some (.int .i64 a.k) := hA.cell 0
  have hA_1 : w4.cell? ⟨w.heap.size, 1, none⟩ = some (.int .i64 a.n) := hA.cell 1
  have hA_2 : w4.cell? ⟨w.heap.size, 2, none⟩ = some (.int .u64 a.u) := hA.cell 2
  have hA_3 : w4.cell? ⟨w.heap.size, 3, none⟩ = some (.string a.s) := hA.cell 3
  have hB_0 : w4.cell? ⟨w.heap.size + 1, 0, none⟩ = some (.int .i64 b.k) := hB.cell 0
  have hB_1 : w4.cell? ⟨w.heap.size + 1, 1, none⟩ = some (.int .i64 b.n) := hB.cell 1
  have hB_2 : w4.cell? ⟨w.heap.size + 1, 2, none⟩ = some (.int .u64 b.u) := hB.cell 2
  have hB_3 : w4.cell? ⟨w.heap.size + 1, 3, none⟩ = some (.string b.s) := hB.cell 3
  go_wp2_with fail
  refine (term_any b.k b.n b.u b.s _).mono ?_
  rintro e w5 ⟨rfl, q5⟩
  rw [htb]
  clear htb
  clear hA_0 hA_1 hA_2 hA_3 hB_0 hB_1 hB_2 hB_3
  replace hA := hA.ca q5
  replace hB := hB.ca q5
  replace hR := hR.ca q5
  replace bb := bl_ca bb q5
  clear q5
  have hA_0 : w5.cell? ⟨w.heap.size, 0, none⟩ = some (.int .i64 a.k) := hA.cell 0
  have hA_1 : w5.cell? ⟨w.heap.size, 1, none⟩ = some (.int .i64 a.n) := hA.cell 1
  have hA_2 : w5.cell? ⟨w.heap.size, 2, none⟩ = some (.int .u64 a.u) := hA.cell 2
  have hA_3 : w5.cell? ⟨w.heap.size, 3, none⟩ = some (.string a.s) := hA.cell 3
  have hB_0 : w5.cell? ⟨w.heap.size + 1, 0, none⟩ = some (.int .i64 b.k) := hB.cell 0
  have hB_1 : w5.cell? ⟨w.heap.size + 1, 1, none⟩ = some (.int .i64 b.n) := hB.cell 1
  have hB_2 : w5.cell? ⟨w.heap.size + 1, 2, none⟩ = some (.int .u64 b.u) := hB.cell 2
  have hB_3 : w5.cell? ⟨w.heap.size + 1, 3, none⟩ = some (.string b.s) := hB.cell 3
  go_wp2_with fail
  refine (HI.out _).mono ?_
  rintro e w6 ⟨rfl, q6⟩
  clear hA_0 hA_1 hA_2 hA_3 hB_0 hB_1 hB_2 hB_3
  replace hA := hA.ca q6
  replace hB := hB.ca q6
  replace hR := hR.ca q6
  replace bb := bl_ca bb q6
  clear q6
  go_wp2_with fail
  refine (HS.out _).mono ?_
  rintro e w7 ⟨rfl, q7⟩
  simp only [resT]
  replace hA := hA.ca q7
  replace hB := hB.ca q7
  replace hR := hR.ca q7
  replace bb := bl_ca bb q7
  clear q7
  go_wp2_with (refine wpList_store_blk rfl 27 (.tmp 4) (.tmp 39) rfl (w.heap.size + 1 + 1) 27 _ _ rfl rfl hR rfl valI (one4 _ _ _ _) ?_; intro w8 kw8 gw8)
  replace bb := bl_gr bb gw8 (by omega)
  exact bodyPost_ret (res2 Try.results15 rfl rfl kw8 Try.underlying27 rfl valI) rfl ⟨rfl, bb⟩
set_option maxRecDepth 100000 in
set_option maxHeartbeats 4000000 in
theorem rsm_p (a b : VV) (w : World) (hra : rightB a.k a.n a.u a.s = true) (hrb : rightB b.k b.n b.u b.s = true) (hta : (rightB a.k a.n a.u a.s && kindB 4 a.k) = true) (htb : (rightB b.k b.n b.u b.s && kindB 2 b.k) = true) (k1 : (b.k == 0) = false) (k2 : (a.k == 0) = false) (R : VV × Int) (x y z : Value) (ho : ∀ w, Calls Try.prog 32 #[.int .i64 a.n, .int .u64 a.u] w fun e w' => e = .returned (x) ∧ Below w.heap.size w w') (hi : ∀ w, Calls Try.prog 37 #[.int .i64 b.n] w fun e w' => e = .returned (y) ∧ Below w.heap.size w w') (hp : ∀ w, Calls Try.prog 38 #[x, y] w fun e w' => e = .returned (z) ∧ Below w.heap.size w w') (hs : ∀ w, Calls Try.prog 36 #[z] w fun e w' => e = .returned (resT R) ∧ Below w.heap.size w w') : Calls Try.prog 15 #[.agg #[.int .i64 a.k, .int .i64 a.n, .int .u64 a.u, .string a.s], .agg #[.int .i64 b.k, .int .i64 b.n, .int .u64 b.u, .string b.s]] w fun e w' => e = .returned (resT R) ∧ Below w.heap.size w w' := by
  have HO := Lib.hid ho
  have HI := Lib.hid hi
  have HP := Lib.hid hp
  have HS := Lib.hid hs
  clear ho hi hp hs
  have hA := (((Blk.new w 27 #[.int .i64 a.k, .int .i64 a.n, .int .u64 a.u, .string a.s]).alloc (.cells #[.int .i64 b.k, .int .i64 b.n, .int .u64 b.u, .string b.s] 27)).alloc (.cells #[.int .i64 0, .int .i64 0, .int .u64 0, .string ⟨#[]⟩] 27))
  have hB := ((Blk.new (w.alloc (.cells #[.int .i64 a.k, .int .i64 a.n, .int .u64 a.u, .string a.s] 27)) 27 #[.int .i64 b.k, .int .i64 b.n, .int .u64 b.u, .string b.s]).alloc (.cells #[.int .i64 0, .int .i64 0, .int .u64 0, .string ⟨#[]⟩] 27))
  have hR := (Blk.new ((w.alloc (.cells #[.int .i64 a.k, .int .i64 a.n, .int .u64 a.u, .string a.s] 27)).alloc (.cells #[.int .i64 b.k, .int .i64 b.n, .int .u64 b.u, .string b.s] 27)) 27 #[.int .i64 0, .int .i64 0, .int .u64 0, .string ⟨#[]⟩])
  have bb := (bl_al (bl_al (bl_al (Below.refl w.heap.size w) (.cells #[.int .i64 a.k, .int .i64 a.n, .int .u64 a.u, .string a.s] 27)) (.cells #[.int .i64 b.k, .int .i64 b.n, .int .u64 b.u, .string b.s] 27)) (.cells #[.int .i64 0, .int .i64 0, .int .u64 0, .string ⟨#[]⟩] 27))
  simp only [World.size_alloc] at hB hR
  go_enter Try.func15, Try.ntmps15
  go_wp2_with fail
  generalize (((w.alloc (.cells #[.int .i64 a.k, .int .i64 a.n, .int .u64 a.u, .string a.s] 27)).alloc (.cells #[.int .i64 b.k, .int .i64 b.n, .int .u64 b.u, .string b.s] 27)).alloc (.cells #[.int .i64 0, .int .i64 0, .int .u64 0, .string ⟨#[]⟩] 27)) = w1 at *
  refine (right_any a.k a.n a.u a.s w1).mono ?_
  rintro e w2 ⟨rfl, q2⟩
  rw [hra]
  clear hra
  replace hA := hA.ca q2
  replace hB := hB.ca q2
  replace hR := hR.ca q2
  replace bb := bl_ca bb q2
  clear q2
  have hA_0 : w2.cell? ⟨w.heap.size, 0, none⟩ = some (.int .i64 a.k) := hA.cell 0
  have hA_1 : w2.cell? ⟨w.heap.size, 1, none⟩ = some (.int .i64 a.n) := hA.cell 1
  have hA_2 : w2.cell? ⟨w.heap.size, 2, none⟩ = some (.int .u64 a.u) := hA.cell 2
  have hA_3 : w2.cell? ⟨w.heap.size, 3, none⟩ = some (.string a.s) := hA.cell 3
  have hB_0 : w2.cell? ⟨w.heap.size + 1, 0, none⟩ = some (.int .i64 b.k) := hB.cell 0
  have hB_1 : w2.cell? ⟨w.heap.size + 1, 1, none⟩ = some (.int .i64 b.n) := hB.cell 1
  have hB_2 : w2.cell? ⟨w.heap.size + 1, 2, none⟩ = some (.int .u64 b.u) := hB.cell 2
  have hB_3 : w2.cell? ⟨w.heap.size + 1, 3, none⟩ = some (.string b.s) := hB.cell 3
  go_wp2_with fail
  refine (right_any b.k b.n b.u b.s _).mono ?_
  rintro e w3 ⟨rfl, q3⟩
  rw [hrb]
  clear hrb
  clear hA_0 hA_1 hA_2 hA_3 hB_0 hB_1 hB_2 hB_3
  replace hA := hA.ca q3
  replace hB := hB.ca q3
  replace hR := hR.ca q3
  replace bb := bl_ca bb q3
  clear q3
  have hA_0 : w3.cell? ⟨w.heap.size, 0, none⟩ = some (.int .i64 a.k) := hA.cell 0
  have hA_1 : w3.cell? ⟨w.heap.size, 1, none⟩ = some (.int .i64 a.n) := hA.cell 1
  have hA_2 : w3.cell? ⟨w.heap.size, 2, none⟩ = some (.int .u64 a.u) := hA.cell 2
  have hA_3 : w3.cell? ⟨w.heap.size, 3, none⟩ = some (.string a.s) := hA.cell 3
  have hB_0 : w3.cell? ⟨w.heap.size + 1, 0, none⟩ = some (.int .i64 b.k) := hB.cell 0
  have hB_1 : w3.cell? ⟨w.heap.size + 1, 1, none⟩ = some (.int .i64 b.n) := hB.cell 1
  have hB_2 : w3.cell? ⟨w.heap.size + 1, 2, none⟩ = some (.int .u64 b.u) := hB.cell 2
  have hB_3 : w3.cell? ⟨w.heap.size + 1, 3, none⟩ = some (.string b.s) := hB.cell 3
  go_wp2_with fail
  refine (under_any a.k a.n a.u a.s _).mono ?_
  rintro e w4 ⟨rfl, q4⟩
  rw [hta]
  clear hta
  clear hA_0 hA_1 hA_2 hA_3 hB_0 hB_1 hB_2 hB_3
  replace hA := hA.ca q4
  replace hB := hB.ca q4
  replace hR := hR.ca q4
  replace bb := bl_ca bb q4
  clear q4
  have hA_0 : w4.cell? ⟨w.heap.size, 0, none⟩ = some (.int .i64 a.k) := hA.cell 0
  have hA_1 : w4.cell? ⟨w.heap.size, 1, none⟩ = some (.int .i64 a.n) := hA.cell 1
  have hA_2 : w4.cell? ⟨w.heap.size, 2, none⟩ = some (.int .u64 a.u) := hA.cell 2
  have hA_3 : w4.cell? ⟨w.heap.size, 3, none⟩ = some (.string a.s) := hA.cell 3
  have hB_0 : w4.cell? ⟨w.heap.size + 1, 0, none⟩ = some (.int .i64 b.k) := hB.cell 0
  have hB_1 : w4.cell? ⟨w.heap.size + 1, 1, none⟩ = some (.int .i64 b.n) := hB.cell 1
  have hB_2 : w4.cell? ⟨w.heap.size + 1, 2, none⟩ = some (.int .u64 b.u) := hB.cell 2
  have hB_3 : w4.cell? ⟨w.heap.size + 1, 3, none⟩ = some (.string b.s) := hB.cell 3
  go_wp2_with fail
  refine (term_any b.k b.n b.u b.s _).mono ?_
  rintro e w5 ⟨rfl, q5⟩
  rw [htb]
  clear htb
  clear hA_0 hA_1 hA_2 hA_3 hB_0 hB_1 hB_2 hB_3
  replace hA := hA.ca q5
  replace hB := hB.ca q5
  replace hR := hR.ca q5
  replace bb := bl_ca bb q5
  clear q5
  have hA_0 : w5.cell? ⟨w.heap.size, 0, none⟩ = some (.int .i64 a.k) := hA.cell 0
  have hA_1 : w5.cell? ⟨w.heap.size, 1, none⟩ = some (.int .i64 a.n) := hA.cell 1
  have hA_2 : w5.cell? ⟨w.heap.size, 2, none⟩ = some (.int .u64 a.u) := hA.cell 2
  have hA_3 : w5.cell? ⟨w.heap.size, 3, none⟩ = some (.string a.s) := hA.cell 3
  have hB_0 : w5.cell? ⟨w.heap.size + 1, 0, none⟩ = some (.int .i64 b.k) := hB.cell 0
  have hB_1 : w5.cell? ⟨w.heap.size + 1, 1, none⟩ = some (.int .i64 b.n) := hB.cell 1
  have hB_2 : w5.cell? ⟨w.heap.size + 1, 2, none⟩ = some (.int .u64 b.u) := hB.cell 2
  have hB_3 : w5.cell? ⟨w.heap.size + 1, 3, none⟩ = some (.string b.s) := hB.cell 3
  go_wp2
  clear hA_0 hA_1 hA_2 hA_3 hB_0 hB_1 hB_2 hB_3
  go_region_held3 (fun w' => (w'.cell? ⟨w.heap.size, 0, none⟩ = some (.int .i64 a.k) ∧ w'.cell? ⟨w.heap.size, 1, none⟩ = some (.int .i64 a.n) ∧ w'.cell? ⟨w.heap.size, 2, none⟩ = some (.int .u64 a.u) ∧ w'.cell? ⟨w.heap.size, 3, none⟩ = some (.string a.s)) ∧ (w'.cell? ⟨w.heap.size + 1, 0, none⟩ = some (.int .i64 b.k) ∧ w'.cell? ⟨w.heap.size + 1, 1, none⟩ = some (.int .i64 b.n) ∧ w'.cell? ⟨w.heap.size + 1, 2, none⟩ = some (.int .u64 b.u) ∧ w'.cell? ⟨w.heap.size + 1, 3, none⟩ = some (.string b.s))) (first | with_reducible exact ⟨vS (hA), vS (hB)⟩ | with_reducible exact ⟨vS (hA.drew), vS (hB.drew)⟩ | with_reducible exact ⟨vS ((hA.alloc _).drew), vS ((hB.alloc _).drew)⟩ | with_reducible exact ⟨vS (((hA.alloc _).alloc _).drew), vS (((hB.alloc _).alloc _).drew)⟩ | with_reducible exact ⟨vS ((hA.alloc _)), vS ((hB.alloc _))⟩ | with_reducible exact ⟨vS (blk_far4 hA (by omega) _ _ _ _), vS (blk_far4 hB (by omega) _ _ _ _)⟩)
    (first
      | (go_at_call 32; (with_reducible refine (HO.out _).mono ?_); rintro e w6 ⟨rfl, q6⟩; replace hA : Blk w6 (w.heap.size) 27 #[.int .i64 a.k, .int .i64 a.n, .int .u64 a.u, .string a.s] := (by first | with_reducible exact (hA).ca q6 | with_reducible exact (hA.drew).ca q6 | with_reducible exact ((hA.alloc _).drew).ca q6 | with_reducible exact (((hA.alloc _).alloc _).drew).ca q6 | with_reducible exact ((hA.alloc _)).ca q6); replace hB : Blk w6 (w.heap.size + 1) 27 #[.int .i64 b.k, .int .i64 b.n, .int .u64 b.u, .string b.s] := (by first | with_reducible exact (hB).ca q6 | with_reducible exact (hB.drew).ca q6 | with_reducible exact ((hB.alloc _).drew).ca q6 | with_reducible exact (((hB.alloc _).alloc _).drew).ca q6 | with_reducible exact ((hB.alloc _)).ca q6); replace hR : Blk w6 (w.heap.size + 1 + 1) 27 #[.int .i64 0, .int .i64 0, .int .u64 0, .string ⟨#[]⟩] := (by first | with_reducible exact (hR).ca q6 | with_reducible exact (hR.drew).ca q6 | with_reducible exact ((hR.alloc _).drew).ca q6 | with_reducible exact (((hR.alloc _).alloc _).drew).ca q6 | with_reducible exact ((hR.alloc _)).ca q6); replace bb : Below w.heap.size w w6 := (by first | with_reducible exact bl_ca bb q6 | with_reducible exact bl_ca (bl_d1 bb) q6 | with_reducible exact bl_ca (bl_d1 (bl_al bb _)) q6 | with_reducible exact bl_ca (bl_d1 (bl_al (bl_al bb _) _)) q6 | with_reducible exact bl_ca (bl_al bb _) q6))
      | (go_at_call 37; (with_reducible refine (HI.out _).mono ?_); rintro e w7 ⟨rfl, q7⟩; replace hA : Blk w7 (w.heap.size) 27 #[.int .i64 a.k, .int .i64 a.n, .int .u64 a.u, .string a.s] := (by first | with_reducible exact (hA).ca q7 | with_reducible exact (hA.drew).ca q7 | with_reducible exact ((hA.alloc _).drew).ca q7 | with_reducible exact (((hA.alloc _).alloc _).drew).ca q7 | with_reducible exact ((hA.alloc _)).ca q7); replace hB : Blk w7 (w.heap.size + 1) 27 #[.int .i64 b.k, .int .i64 b.n, .int .u64 b.u, .string b.s] := (by first | with_reducible exact (hB).ca q7 | with_reducible exact (hB.drew).ca q7 | with_reducible exact ((hB.alloc _).drew).ca q7 | with_reducible exact (((hB.alloc _).alloc _).drew).ca q7 | with_reducible exact ((hB.alloc _)).ca q7); replace hR : Blk w7 (w.heap.size + 1 + 1) 27 #[.int .i64 0, .int .i64 0, .int .u64 0, .string ⟨#[]⟩] := (by first | with_reducible exact (hR).ca q7 | with_reducible exact (hR.drew).ca q7 | with_reducible exact ((hR.alloc _).drew).ca q7 | with_reducible exact (((hR.alloc _).alloc _).drew).ca q7 | with_reducible exact ((hR.alloc _)).ca q7); replace bb : Below w.heap.size w w7 := (by first | with_reducible exact bl_ca bb q7 | with_reducible exact bl_ca (bl_d1 bb) q7 | with_reducible exact bl_ca (bl_d1 (bl_al bb _)) q7 | with_reducible exact bl_ca (bl_d1 (bl_al (bl_al bb _) _)) q7 | with_reducible exact bl_ca (bl_al bb _) q7))
      | (go_at_call 38; (with_reducible refine (HP.out _).mono ?_); rintro e w8 ⟨rfl, q8⟩; replace hA : Blk w8 (w.heap.size) 27 #[.int .i64 a.k, .int .i64 a.n, .int .u64 a.u, .string a.s] := (by first | with_reducible exact (hA).ca q8 | with_reducible exact (hA.drew).ca q8 | with_reducible exact ((hA.alloc _).drew).ca q8 | with_reducible exact (((hA.alloc _).alloc _).drew).ca q8 | with_reducible exact ((hA.alloc _)).ca q8); replace hB : Blk w8 (w.heap.size + 1) 27 #[.int .i64 b.k, .int .i64 b.n, .int .u64 b.u, .string b.s] := (by first | with_reducible exact (hB).ca q8 | with_reducible exact (hB.drew).ca q8 | with_reducible exact ((hB.alloc _).drew).ca q8 | with_reducible exact (((hB.alloc _).alloc _).drew).ca q8 | with_reducible exact ((hB.alloc _)).ca q8); replace hR : Blk w8 (w.heap.size + 1 + 1) 27 #[.int .i64 0, .int .i64 0, .int .u64 0, .string ⟨#[]⟩] := (by first | with_reducible exact (hR).ca q8 | with_reducible exact (hR.drew).ca q8 | with_reducible exact ((hR.alloc _).drew).ca q8 | with_reducible exact (((hR.alloc _).alloc _).drew).ca q8 | with_reducible exact ((hR.alloc _)).ca q8); replace bb : Below w.heap.size w w8 := (by first | with_reducible exact bl_ca bb q8 | with_reducible exact bl_ca (bl_d1 bb) q8 | with_reducible exact bl_ca (bl_d1 (bl_al bb _)) q8 | with_reducible exact bl_ca (bl_d1 (bl_al (bl_al bb _) _)) q8 | with_reducible exact bl_ca (bl_al bb _) q8))
      | (go_at_call 36; (with_reducible refine (HS.out _).mono ?_); rintro e w9 ⟨rfl, q9⟩; replace hA : Blk w9 (w.heap.size) 27 #[.int .i64 a.k, .int .i64 a.n, .int .u64 a.u, .string a.s] := (by first | with_reducible exact (hA).ca q9 | with_reducible exact (hA.drew).ca q9 | with_reducible exact ((hA.alloc _).drew).ca q9 | with_reducible exact (((hA.alloc _).alloc _).drew).ca q9 | with_reducible exact ((hA.alloc _)).ca q9); replace hB : Blk w9 (w.heap.size + 1) 27 #[.int .i64 b.k, .int .i64 b.n, .int .u64 b.u, .string b.s] := (by first | with_reducible exact (hB).ca q9 | with_reducible exact (hB.drew).ca q9 | with_reducible exact ((hB.alloc _).drew).ca q9 | with_reducible exact (((hB.alloc _).alloc _).drew).ca q9 | with_reducible exact ((hB.alloc _)).ca q9); replace hR : Blk w9 (w.heap.size + 1 + 1) 27 #[.int .i64 0, .int .i64 0, .int .u64 0, .string ⟨#[]⟩] := (by first | with_reducible exact (hR).ca q9 | with_reducible exact (hR.drew).ca q9 | with_reducible exact ((hR.alloc _).drew).ca q9 | with_reducible exact (((hR.alloc _).alloc _).drew).ca q9 | with_reducible exact ((hR.alloc _)).ca q9); replace bb : Below w.heap.size w w9 := (by first | with_reducible exact bl_ca bb q9 | with_reducible exact bl_ca (bl_d1 bb) q9 | with_reducible exact bl_ca (bl_d1 (bl_al bb _)) q9 | with_reducible exact bl_ca (bl_d1 (bl_al (bl_al bb _) _)) q9 | with_reducible exact bl_ca (bl_al bb _) q9); simp only [resT]; have r0 : w9.cell? ⟨w.heap.size + 1 + 1, 0, none⟩ = some (.int .i64 0) := hR.cell 0; have r1 : w9.cell? ⟨w.heap.size + 1 + 1, 1, none⟩ = some (.int .i64 0) := hR.cell 1; have r2 : w9.cell? ⟨w.heap.size + 1 + 1, 2, none⟩ = some (.int .u64 0) := hR.cell 2; have r3 : w9.cell? ⟨w.heap.size + 1 + 1, 3, none⟩ = some (.string ⟨#[]⟩) := hR.cell 3; have f0 : w9.frozen? ⟨w.heap.size + 1 + 1, 0, none⟩ = false := hR.frozen 0; have f1 : w9.frozen? ⟨w.heap.size + 1 + 1, 1, none⟩ = false := hR.frozen 1; have f2 : w9.frozen? ⟨w.heap.size + 1 + 1, 2, none⟩ = false := hR.frozen 2; have f3 : w9.frozen? ⟨w.heap.size + 1 + 1, 3, none⟩ = false := hR.frozen 3))
  go_wp2
  replace bb := bl_set4 bb (g := w.heap.size + 1 + 1) (by omega) (.int .i64 R.1.k) (.int .i64 R.1.n) (.int .u64 R.1.u) (.string R.1.s)
  exact bodyPost_ret (res2 Try.results15 rfl rfl (blk_set4 hR _ _ _ _) Try.underlying27 rfl valI) rfl ⟨rfl, bb⟩
set_option maxRecDepth 100000 in
set_option maxHeartbeats 4000000 in
theorem rjn_e1 (a b : VV) (w : World) (hra : rightB a.k a.n a.u a.s = false) : Calls Try.prog 16 #[.agg #[.int .i64 a.k, .int .i64 a.n, .int .u64 a.u, .string a.s], .agg #[.int .i64 b.k, .int .i64 b.n, .int .u64 b.u, .string b.s]] w fun e w' => e = .returned (resT (V0, 120)) ∧ Below w.heap.size w w' := by
  have hA := (((Blk.new w 27 #[.int .i64 a.k, .int .i64 a.n, .int .u64 a.u, .string a.s]).alloc (.cells #[.int .i64 b.k, .int .i64 b.n, .int .u64 b.u, .string b.s] 27)).alloc (.cells #[.int .i64 0, .int .i64 0, .int .u64 0, .string ⟨#[]⟩] 27))
  have hB := ((Blk.new (w.alloc (.cells #[.int .i64 a.k, .int .i64 a.n, .int .u64 a.u, .string a.s] 27)) 27 #[.int .i64 b.k, .int .i64 b.n, .int .u64 b.u, .string b.s]).alloc (.cells #[.int .i64 0, .int .i64 0, .int .u64 0, .string ⟨#[]⟩] 27))
  have hR := (Blk.new ((w.alloc (.cells #[.int .i64 a.k, .int .i64 a.n, .int .u64 a.u, .string a.s] 27)).alloc (.cells #[.int .i64 b.k, .int .i64 b.n, .int .u64 b.u, .string b.s] 27)) 27 #[.int .i64 0, .int .i64 0, .int .u64 0, .string ⟨#[]⟩])
  have bb := (bl_al (bl_al (bl_al (Below.refl w.heap.size w) (.cells #[.int .i64 a.k, .int .i64 a.n, .int .u64 a.u, .string a.s] 27)) (.cells #[.int .i64 b.k, .int .i64 b.n, .int .u64 b.u, .string b.s] 27)) (.cells #[.int .i64 0, .int .i64 0, .int .u64 0, .string ⟨#[]⟩] 27))
  simp only [World.size_alloc] at hB hR
  go_enter Try.func16, Try.ntmps16
  go_wp2_with fail
  generalize (((w.alloc (.cells #[.int .i64 a.k, .int .i64 a.n, .int .u64 a.u, .string a.s] 27)).alloc (.cells #[.int .i64 b.k, .int .i64 b.n, .int .u64 b.u, .string b.s] 27)).alloc (.cells #[.int .i64 0, .int .i64 0, .int .u64 0, .string ⟨#[]⟩] 27)) = w1 at *
  refine (right_any a.k a.n a.u a.s w1).mono ?_
  rintro e w2 ⟨rfl, q2⟩
  rw [hra]
  clear hra
  replace hA := hA.ca q2
  replace hB := hB.ca q2
  replace hR := hR.ca q2
  replace bb := bl_ca bb q2
  clear q2
  go_wp2_with (refine wpList_store_blk rfl 27 (.tmp 4) (.tmp 15) rfl (w.heap.size + 1 + 1) 27 _ _ rfl rfl hR rfl valI (one4 _ _ _ _) ?_; intro w3 kw3 gw3)
  replace bb := bl_gr bb gw3 (by omega)
  exact bodyPost_ret (res2 Try.results16 rfl rfl kw3 Try.underlying27 rfl valI) rfl ⟨rfl, bb⟩
set_option maxRecDepth 100000 in
set_option maxHeartbeats 4000000 in
theorem rjn_e2 (a b : VV) (w : World) (hra : rightB a.k a.n a.u a.s = true) (hrb : rightB b.k b.n b.u b.s = false) : Calls Try.prog 16 #[.agg #[.int .i64 a.k, .int .i64 a.n, .int .u64 a.u, .string a.s], .agg #[.int .i64 b.k, .int .i64 b.n, .int .u64 b.u, .string b.s]] w fun e w' => e = .returned (resT (V0, 120)) ∧ Below w.heap.size w w' := by
  have hA := (((Blk.new w 27 #[.int .i64 a.k, .int .i64 a.n, .int .u64 a.u, .string a.s]).alloc (.cells #[.int .i64 b.k, .int .i64 b.n, .int .u64 b.u, .string b.s] 27)).alloc (.cells #[.int .i64 0, .int .i64 0, .int .u64 0, .string ⟨#[]⟩] 27))
  have hB := ((Blk.new (w.alloc (.cells #[.int .i64 a.k, .int .i64 a.n, .int .u64 a.u, .string a.s] 27)) 27 #[.int .i64 b.k, .int .i64 b.n, .int .u64 b.u, .string b.s]).alloc (.cells #[.int .i64 0, .int .i64 0, .int .u64 0, .string ⟨#[]⟩] 27))
  have hR := (Blk.new ((w.alloc (.cells #[.int .i64 a.k, .int .i64 a.n, .int .u64 a.u, .string a.s] 27)).alloc (.cells #[.int .i64 b.k, .int .i64 b.n, .int .u64 b.u, .string b.s] 27)) 27 #[.int .i64 0, .int .i64 0, .int .u64 0, .string ⟨#[]⟩])
  have bb := (bl_al (bl_al (bl_al (Below.refl w.heap.size w) (.cells #[.int .i64 a.k, .int .i64 a.n, .int .u64 a.u, .string a.s] 27)) (.cells #[.int .i64 b.k, .int .i64 b.n, .int .u64 b.u, .string b.s] 27)) (.cells #[.int .i64 0, .int .i64 0, .int .u64 0, .string ⟨#[]⟩] 27))
  simp only [World.size_alloc] at hB hR
  go_enter Try.func16, Try.ntmps16
  go_wp2_with fail
  generalize (((w.alloc (.cells #[.int .i64 a.k, .int .i64 a.n, .int .u64 a.u, .string a.s] 27)).alloc (.cells #[.int .i64 b.k, .int .i64 b.n, .int .u64 b.u, .string b.s] 27)).alloc (.cells #[.int .i64 0, .int .i64 0, .int .u64 0, .string ⟨#[]⟩] 27)) = w1 at *
  refine (right_any a.k a.n a.u a.s w1).mono ?_
  rintro e w2 ⟨rfl, q2⟩
  rw [hra]
  clear hra
  replace hA := hA.ca q2
  replace hB := hB.ca q2
  replace hR := hR.ca q2
  replace bb := bl_ca bb q2
  clear q2
  have hA_0 : w2.cell? ⟨w.heap.size, 0, none⟩ = some (.int .i64 a.k) := hA.cell 0
  have hA_1 : w2.cell? ⟨w.heap.size, 1, none⟩ = some (.int .i64 a.n) := hA.cell 1
  have hA_2 : w2.cell? ⟨w.heap.size, 2, none⟩ = some (.int .u64 a.u) := hA.cell 2
  have hA_3 : w2.cell? ⟨w.heap.size, 3, none⟩ = some (.string a.s) := hA.cell 3
  have hB_0 : w2.cell? ⟨w.heap.size + 1, 0, none⟩ = some (.int .i64 b.k) := hB.cell 0
  have hB_1 : w2.cell? ⟨w.heap.size + 1, 1, none⟩ = some (.int .i64 b.n) := hB.cell 1
  have hB_2 : w2.cell? ⟨w.heap.size + 1, 2, none⟩ = some (.int .u64 b.u) := hB.cell 2
  have hB_3 : w2.cell? ⟨w.heap.size + 1, 3, none⟩ = some (.string b.s) := hB.cell 3
  go_wp2_with fail
  refine (right_any b.k b.n b.u b.s _).mono ?_
  rintro e w3 ⟨rfl, q3⟩
  rw [hrb]
  clear hrb
  clear hA_0 hA_1 hA_2 hA_3 hB_0 hB_1 hB_2 hB_3
  replace hA := hA.ca q3
  replace hB := hB.ca q3
  replace hR := hR.ca q3
  replace bb := bl_ca bb q3
  clear q3
  go_wp2_with (refine wpList_store_blk rfl 27 (.tmp 4) (.tmp 15) rfl (w.heap.size + 1 + 1) 27 _ _ rfl rfl hR rfl valI (one4 _ _ _ _) ?_; intro w4 kw4 gw4)
  replace bb := bl_gr bb gw4 (by omega)
  exact bodyPost_ret (res2 Try.results16 rfl rfl kw4 Try.underlying27 rfl valI) rfl ⟨rfl, bb⟩
set_option maxRecDepth 100000 in
set_option maxHeartbeats 4000000 in
theorem rjn_m1 (a b : VV) (w : World) (hra : rightB a.k a.n a.u a.s = true) (hrb : rightB b.k b.n b.u b.s = true) (hta : (rightB a.k a.n a.u a.s && kindB 4 a.k) = false) : Calls Try.prog 16 #[.agg #[.int .i64 a.k, .int .i64 a.n, .int .u64 a.u, .string a.s], .agg #[.int .i64 b.k, .int .i64 b.n, .int .u64 b.u, .string b.s]] w fun e w' => e = .returned (resT (V0, 2)) ∧ Below w.heap.size w w' := by
  have hA := (((Blk.new w 27 #[.int .i64 a.k, .int .i64 a.n, .int .u64 a.u, .string a.s]).alloc (.cells #[.int .i64 b.k, .int .i64 b.n, .int .u64 b.u, .string b.s] 27)).alloc (.cells #[.int .i64 0, .int .i64 0, .int .u64 0, .string ⟨#[]⟩] 27))
  have hB := ((Blk.new (w.alloc (.cells #[.int .i64 a.k, .int .i64 a.n, .int .u64 a.u, .string a.s] 27)) 27 #[.int .i64 b.k, .int .i64 b.n, .int .u64 b.u, .string b.s]).alloc (.cells #[.int .i64 0, .int .i64 0, .int .u64 0, .string ⟨#[]⟩] 27))
  have hR := (Blk.new ((w.alloc (.cells #[.int .i64 a.k, .int .i64 a.n, .int .u64 a.u, .string a.s] 27)).alloc (.cells #[.int .i64 b.k, .int .i64 b.n, .int .u64 b.u, .string b.s] 27)) 27 #[.int .i64 0, .int .i64 0, .int .u64 0, .string ⟨#[]⟩])
  have bb := (bl_al (bl_al (bl_al (Below.refl w.heap.size w) (.cells #[.int .i64 a.k, .int .i64 a.n, .int .u64 a.u, .string a.s] 27)) (.cells #[.int .i64 b.k, .int .i64 b.n, .int .u64 b.u, .string b.s] 27)) (.cells #[.int .i64 0, .int .i64 0, .int .u64 0, .string ⟨#[]⟩] 27))
  simp only [World.size_alloc] at hB hR
  go_enter Try.func16, Try.ntmps16
  go_wp2_with fail
  generalize (((w.alloc (.cells #[.int .i64 a.k, .int .i64 a.n, .int .u64 a.u, .string a.s] 27)).alloc (.cells #[.int .i64 b.k, .int .i64 b.n, .int .u64 b.u, .string b.s] 27)).alloc (.cells #[.int .i64 0, .int .i64 0, .int .u64 0, .string ⟨#[]⟩] 27)) = w1 at *
  refine (right_any a.k a.n a.u a.s w1).mono ?_
  rintro e w2 ⟨rfl, q2⟩
  rw [hra]
  clear hra
  replace hA := hA.ca q2
  replace hB := hB.ca q2
  replace hR := hR.ca q2
  replace bb := bl_ca bb q2
  clear q2
  have hA_0 : w2.cell? ⟨w.heap.size, 0, none⟩ = some (.int .i64 a.k) := hA.cell 0
  have hA_1 : w2.cell? ⟨w.heap.size, 1, none⟩ = some (.int .i64 a.n) := hA.cell 1
  have hA_2 : w2.cell? ⟨w.heap.size, 2, none⟩ = some (.int .u64 a.u) := hA.cell 2
  have hA_3 : w2.cell? ⟨w.heap.size, 3, none⟩ = some (.string a.s) := hA.cell 3
  have hB_0 : w2.cell? ⟨w.heap.size + 1, 0, none⟩ = some (.int .i64 b.k) := hB.cell 0
  have hB_1 : w2.cell? ⟨w.heap.size + 1, 1, none⟩ = some (.int .i64 b.n) := hB.cell 1
  have hB_2 : w2.cell? ⟨w.heap.size + 1, 2, none⟩ = some (.int .u64 b.u) := hB.cell 2
  have hB_3 : w2.cell? ⟨w.heap.size + 1, 3, none⟩ = some (.string b.s) := hB.cell 3
  go_wp2_with fail
  refine (right_any b.k b.n b.u b.s _).mono ?_
  rintro e w3 ⟨rfl, q3⟩
  rw [hrb]
  clear hrb
  clear hA_0 hA_1 hA_2 hA_3 hB_0 hB_1 hB_2 hB_3
  replace hA := hA.ca q3
  replace hB := hB.ca q3
  replace hR := hR.ca q3
  replace bb := bl_ca bb q3
  clear q3
  have hA_0 : w3.cell? ⟨w.heap.size, 0, none⟩ = some (.int .i64 a.k) := hA.cell 0
  have hA_1 : w3.cell? ⟨w.heap.size, 1, none⟩ = some (.int .i64 a.n) := hA.cell 1
  have hA_2 : w3.cell? ⟨w.heap.size, 2, none⟩ = some (.int .u64 a.u) := hA.cell 2
  have hA_3 : w3.cell? ⟨w.heap.size, 3, none⟩ = some (.string a.s) := hA.cell 3
  have hB_0 : w3.cell? ⟨w.heap.size + 1, 0, none⟩ = some (.int .i64 b.k) := hB.cell 0
  have hB_1 : w3.cell? ⟨w.heap.size + 1, 1, none⟩ = some (.int .i64 b.n) := hB.cell 1
  have hB_2 : w3.cell? ⟨w.heap.size + 1, 2, none⟩ = some (.int .u64 b.u) := hB.cell 2
  have hB_3 : w3.cell? ⟨w.heap.size + 1, 3, none⟩ = some (.string b.s) := hB.cell 3
  go_wp2_with fail
  refine (under_any a.k a.n a.u a.s _).mono ?_
  rintro e w4 ⟨rfl, q4⟩
  rw [hta]
  clear hta
  clear hA_0 hA_1 hA_2 hA_3 hB_0 hB_1 hB_2 hB_3
  replace hA := hA.ca q4
  replace hB := hB.ca q4
  replace hR := hR.ca q4
  replace bb := bl_ca bb q4
  clear q4
  go_wp2_with (refine wpList_store_blk rfl 27 (.tmp 4) (.tmp 25) rfl (w.heap.size + 1 + 1) 27 _ _ rfl rfl hR rfl valI (one4 _ _ _ _) ?_; intro w5 kw5 gw5)
  replace bb := bl_gr bb gw5 (by omega)
  exact bodyPost_ret (res2 Try.results16 rfl rfl kw5 Try.underlying27 rfl valI) rfl ⟨rfl, bb⟩
set_option maxRecDepth 100000 in
set_option maxHeartbeats 4000000 in
theorem rjn_m2 (a b : VV) (w : World) (hra : rightB a.k a.n a.u a.s = true) (hrb : rightB b.k b.n b.u b.s = true) (hta : (rightB a.k a.n a.u a.s && kindB 4 a.k) = true) (htb : (rightB b.k b.n b.u b.s && kindB 4 b.k) = false) : Calls Try.prog 16 #[.agg #[.int .i64 a.k, .int .i64 a.n, .int .u64 a.u, .string a.s], .agg #[.int .i64 b.k, .int .i64 b.n, .int .u64 b.u, .string b.s]] w fun e w' => e = .returned (resT (V0, 2)) ∧ Below w.heap.size w w' := by
  have hA := (((Blk.new w 27 #[.int .i64 a.k, .int .i64 a.n, .int .u64 a.u, .string a.s]).alloc (.cells #[.int .i64 b.k, .int .i64 b.n, .int .u64 b.u, .string b.s] 27)).alloc (.cells #[.int .i64 0, .int .i64 0, .int .u64 0, .string ⟨#[]⟩] 27))
  have hB := ((Blk.new (w.alloc (.cells #[.int .i64 a.k, .int .i64 a.n, .int .u64 a.u, .string a.s] 27)) 27 #[.int .i64 b.k, .int .i64 b.n, .int .u64 b.u, .string b.s]).alloc (.cells #[.int .i64 0, .int .i64 0, .int .u64 0, .string ⟨#[]⟩] 27))
  have hR := (Blk.new ((w.alloc (.cells #[.int .i64 a.k, .int .i64 a.n, .int .u64 a.u, .string a.s] 27)).alloc (.cells #[.int .i64 b.k, .int .i64 b.n, .int .u64 b.u, .string b.s] 27)) 27 #[.int .i64 0, .int .i64 0, .int .u64 0, .string ⟨#[]⟩])
  have bb := (bl_al (bl_al (bl_al (Below.refl w.heap.size w) (.cells #[.int .i64 a.k, .int .i64 a.n, .int .u64 a.u, .string a.s] 27)) (.cells #[.int .i64 b.k, .int .i64 b.n, .int .u64 b.u, .string b.s] 27)) (.cells #[.int .i64 0, .int .i64 0, .int .u64 0, .string ⟨#[]⟩] 27))
  simp only [World.size_alloc] at hB hR
  go_enter Try.func16, Try.ntmps16
  go_wp2_with fail
  generalize (((w.alloc (.cells #[.int .i64 a.k, .int .i64 a.n, .int .u64 a.u, .string a.s] 27)).alloc (.cells #[.int .i64 b.k, .int .i64 b.n, .int .u64 b.u, .string b.s] 27)).alloc (.cells #[.int .i64 0, .int .i64 0, .int .u64 0, .string ⟨#[]⟩] 27)) = w1 at *
  refine (right_any a.k a.n a.u a.s w1).mono ?_
  rintro e w2 ⟨rfl, q2⟩
  rw [hra]
  clear hra
  replace hA := hA.ca q2
  replace hB := hB.ca q2
  replace hR := hR.ca q2
  replace bb := bl_ca bb q2
  clear q2
  have hA_0 : w2.cell? ⟨w.heap.size, 0, none⟩ = some (.int .i64 a.k) := hA.cell 0
  have hA_1 : w2.cell? ⟨w.heap.size, 1, none⟩ = some (.int .i64 a.n) := hA.cell 1
  have hA_2 : w2.cell? ⟨w.heap.size, 2, none⟩ = some (.int .u64 a.u) := hA.cell 2
  have hA_3 : w2.cell? ⟨w.heap.size, 3, none⟩ = some (.string a.s) := hA.cell 3
  have hB_0 : w2.cell? ⟨w.heap.size + 1, 0, none⟩ = some (.int .i64 b.k) := hB.cell 0
  have hB_1 : w2.cell? ⟨w.heap.size + 1, 1, none⟩ = some (.int .i64 b.n) := hB.cell 1
  have hB_2 : w2.cell? ⟨w.heap.size + 1, 2, none⟩ = some (.int .u64 b.u) := hB.cell 2
  have hB_3 : w2.cell? ⟨w.heap.size + 1, 3, none⟩ = some (.string b.s) := hB.cell 3
  go_wp2_with fail
  refine (right_any b.k b.n b.u b.s _).mono ?_
  rintro e w3 ⟨rfl, q3⟩
  rw [hrb]
  clear hrb
  clear hA_0 hA_1 hA_2 hA_3 hB_0 hB_1 hB_2 hB_3
  replace hA := hA.ca q3
  replace hB := hB.ca q3
  replace hR := hR.ca q3
  replace bb := bl_ca bb q3
  clear q3
  have hA_0 : w3.cell? ⟨w.heap.size, 0, none⟩ = some (.int .i64 a.k) := hA.cell 0
  have hA_1 : w3.cell? ⟨w.heap.size, 1, none⟩ = some (.int .i64 a.n) := hA.cell 1
  have hA_2 : w3.cell? ⟨w.heap.size, 2, none⟩ = some (.int .u64 a.u) := hA.cell 2
  have hA_3 : w3.cell? ⟨w.heap.size, 3, none⟩ = some (.string a.s) := hA.cell 3
  have hB_0 : w3.cell? ⟨w.heap.size + 1, 0, none⟩ = some (.int .i64 b.k) := hB.cell 0
  have hB_1 : w3.cell? ⟨w.heap.size + 1, 1, none⟩ = some (.int .i64 b.n) := hB.cell 1
  have hB_2 : w3.cell? ⟨w.heap.size + 1, 2, none⟩ = some (.int .u64 b.u) := hB.cell 2
  have hB_3 : w3.cell? ⟨w.heap.size + 1, 3, none⟩ = some (.string b.s) := hB.cell 3
  go_wp2_with fail
  refine (under_any a.k a.n a.u a.s _).mono ?_
  rintro e w4 ⟨rfl, q4⟩
  rw [hta]
  clear hta
  clear hA_0 hA_1 hA_2 hA_3 hB_0 hB_1 hB_2 hB_3
  replace hA := hA.ca q4
  replace hB := hB.ca q4
  replace hR := hR.ca q4
  replace bb := bl_ca bb q4
  clear q4
  have hA_0 : w4.cell? ⟨w.heap.size, 0, none⟩ = some (.int .i64 a.k) := hA.cell 0
  have hA_1 : w4.cell? ⟨w.heap.size, 1, none⟩ = some (.int .i64 a.n) := hA.cell 1
  have hA_2 : w4.cell? ⟨w.heap.size, 2, none⟩ = some (.int .u64 a.u) := hA.cell 2
  have hA_3 : w4.cell? ⟨w.heap.size, 3, none⟩ = some (.string a.s) := hA.cell 3
  have hB_0 : w4.cell? ⟨w.heap.size + 1, 0, none⟩ = some (.int .i64 b.k) := hB.cell 0
  have hB_1 : w4.cell? ⟨w.heap.size + 1, 1, none⟩ = some (.int .i64 b.n) := hB.cell 1
  have hB_2 : w4.cell? ⟨w.heap.size + 1, 2, none⟩ = some (.int .u64 b.u) := hB.cell 2
  have hB_3 : w4.cell? ⟨w.heap.size + 1, 3, none⟩ = some (.string b.s) := hB.cell 3
  go_wp2_with fail
  refine (under_any b.k b.n b.u b.s _).mono ?_
  rintro e w5 ⟨rfl, q5⟩
  rw [htb]
  clear htb
  clear hA_0 hA_1 hA_2 hA_3 hB_0 hB_1 hB_2 hB_3
  replace hA := hA.ca q5
  replace hB := hB.ca q5
  replace hR := hR.ca q5
  replace bb := bl_ca bb q5
  clear q5
  go_wp2_with (refine wpList_store_blk rfl 27 (.tmp 4) (.tmp 25) rfl (w.heap.size + 1 + 1) 27 _ _ rfl rfl hR rfl valI (one4 _ _ _ _) ?_; intro w6 kw6 gw6)
  replace bb := bl_gr bb gw6 (by omega)
  exact bodyPost_ret (res2 Try.results16 rfl rfl kw6 Try.underlying27 rfl valI) rfl ⟨rfl, bb⟩
set_option maxRecDepth 100000 in
set_option maxHeartbeats 4000000 in
theorem rjn_n1 (a b : VV) (w : World) (hra : rightB a.k a.n a.u a.s = true) (hrb : rightB b.k b.n b.u b.s = true) (hta : (rightB a.k a.n a.u a.s && kindB 4 a.k) = true) (htb : (rightB b.k b.n b.u b.s && kindB 4 b.k) = true) (k1 : (a.k == 0) = true) : Calls Try.prog 16 #[.agg #[.int .i64 a.k, .int .i64 a.n, .int .u64 a.u, .string a.s], .agg #[.int .i64 b.k, .int .i64 b.n, .int .u64 b.u, .string b.s]] w fun e w' => e = .returned (resT (b, 0)) ∧ Below w.heap.size w w' := by
  have hA := (((Blk.new w 27 #[.int .i64 a.k, .int .i64 a.n, .int .u64 a.u, .string a.s]).alloc (.cells #[.int .i64 b.k, .int .i64 b.n, .int .u64 b.u, .string b.s] 27)).alloc (.cells #[.int .i64 0, .int .i64 0, .int .u64 0, .string ⟨#[]⟩] 27))
  have hB := ((Blk.new (w.alloc (.cells #[.int .i64 a.k, .int .i64 a.n, .int .u64 a.u, .string a.s] 27)) 27 #[.int .i64 b.k, .int .i64 b.n, .int .u64 b.u, .string b.s]).alloc (.cells #[.int .i64 0, .int .i64 0, .int .u64 0, .string ⟨#[]⟩] 27))
  have hR := (Blk.new ((w.alloc (.cells #[.int .i64 a.k, .int .i64 a.n, .int .u64 a.u, .string a.s] 27)).alloc (.cells #[.int .i64 b.k, .int .i64 b.n, .int .u64 b.u, .string b.s] 27)) 27 #[.int .i64 0, .int .i64 0, .int .u64 0, .string ⟨#[]⟩])
  have bb := (bl_al (bl_al (bl_al (Below.refl w.heap.size w) (.cells #[.int .i64 a.k, .int .i64 a.n, .int .u64 a.u, .string a.s] 27)) (.cells #[.int .i64 b.k, .int .i64 b.n, .int .u64 b.u, .string b.s] 27)) (.cells #[.int .i64 0, .int .i64 0, .int .u64 0, .string ⟨#[]⟩] 27))
  simp only [World.size_alloc] at hB hR
  go_enter Try.func16, Try.ntmps16
  go_wp2_with fail
  generalize (((w.alloc (.cells #[.int .i64 a.k, .int .i64 a.n, .int .u64 a.u, .string a.s] 27)).alloc (.cells #[.int .i64 b.k, .int .i64 b.n, .int .u64 b.u, .string b.s] 27)).alloc (.cells #[.int .i64 0, .int .i64 0, .int .u64 0, .string ⟨#[]⟩] 27)) = w1 at *
  refine (right_any a.k a.n a.u a.s w1).mono ?_
  rintro e w2 ⟨rfl, q2⟩
  rw [hra]
  clear hra
  replace hA := hA.ca q2
  replace hB := hB.ca q2
  replace hR := hR.ca q2
  replace bb := bl_ca bb q2
  clear q2
  have hA_0 : w2.cell? ⟨w.heap.size, 0, none⟩ = some (.int .i64 a.k) := hA.cell 0
  have hA_1 : w2.cell? ⟨w.heap.size, 1, none⟩ = some (.int .i64 a.n) := hA.cell 1
  have hA_2 : w2.cell? ⟨w.heap.size, 2, none⟩ = some (.int .u64 a.u) := hA.cell 2
  have hA_3 : w2.cell? ⟨w.heap.size, 3, none⟩ = some (.string a.s) := hA.cell 3
  have hB_0 : w2.cell? ⟨w.heap.size + 1, 0, none⟩ = some (.int .i64 b.k) := hB.cell 0
  have hB_1 : w2.cell? ⟨w.heap.size + 1, 1, none⟩ = some (.int .i64 b.n) := hB.cell 1
  have hB_2 : w2.cell? ⟨w.heap.size + 1, 2, none⟩ = some (.int .u64 b.u) := hB.cell 2
  have hB_3 : w2.cell? ⟨w.heap.size + 1, 3, none⟩ = some (.string b.s) := hB.cell 3
  go_wp2_with fail
  refine (right_any b.k b.n b.u b.s _).mono ?_
  rintro e w3 ⟨rfl, q3⟩
  rw [hrb]
  clear hrb
  clear hA_0 hA_1 hA_2 hA_3 hB_0 hB_1 hB_2 hB_3
  replace hA := hA.ca q3
  replace hB := hB.ca q3
  replace hR := hR.ca q3
  replace bb := bl_ca bb q3
  clear q3
  have hA_0 : w3.cell? ⟨w.heap.size, 0, none⟩ = some (.int .i64 a.k) := hA.cell 0
  have hA_1 : w3.cell? ⟨w.heap.size, 1, none⟩ = some (.int .i64 a.n) := hA.cell 1
  have hA_2 : w3.cell? ⟨w.heap.size, 2, none⟩ = some (.int .u64 a.u) := hA.cell 2
  have hA_3 : w3.cell? ⟨w.heap.size, 3, none⟩ = some (.string a.s) := hA.cell 3
  have hB_0 : w3.cell? ⟨w.heap.size + 1, 0, none⟩ = some (.int .i64 b.k) := hB.cell 0
  have hB_1 : w3.cell? ⟨w.heap.size + 1, 1, none⟩ = some (.int .i64 b.n) := hB.cell 1
  have hB_2 : w3.cell? ⟨w.heap.size + 1, 2, none⟩ = some (.int .u64 b.u) := hB.cell 2
  have hB_3 : w3.cell? ⟨w.heap.size + 1, 3, none⟩ = some (.string b.s) := hB.cell 3
  go_wp2_with fail
  refine (under_any a.k a.n a.u a.s _).mono ?_
  rintro e w4 ⟨rfl, q4⟩
  rw [hta]
  clear hta
  clear hA_0 hA_1 hA_2 hA_3 hB_0 hB_1 hB_2 hB_3
  replace hA := hA.ca q4
  replace hB := hB.ca q4
  replace hR := hR.ca q4
  replace bb := bl_ca bb q4
  clear q4
  have hA_0 : w4.cell? ⟨w.heap.size, 0, none⟩ = some (.int .i64 a.k) := hA.cell 0
  have hA_1 : w4.cell? ⟨w.heap.size, 1, none⟩ = some (.int .i64 a.n) := hA.cell 1
  have hA_2 : w4.cell? ⟨w.heap.size, 2, none⟩ = some (.int .u64 a.u) := hA.cell 2
  have hA_3 : w4.cell? ⟨w.heap.size, 3, none⟩ = some (.string a.s) := hA.cell 3
  have hB_0 : w4.cell? ⟨w.heap.size + 1, 0, none⟩ = some (.int .i64 b.k) := hB.cell 0
  have hB_1 : w4.cell? ⟨w.heap.size + 1, 1, none⟩ = some (.int .i64 b.n) := hB.cell 1
  have hB_2 : w4.cell? ⟨w.heap.size + 1, 2, none⟩ = some (.int .u64 b.u) := hB.cell 2
  have hB_3 : w4.cell? ⟨w.heap.size + 1, 3, none⟩ = some (.string b.s) := hB.cell 3
  go_wp2_with fail
  refine (under_any b.k b.n b.u b.s _).mono ?_
  rintro e w5 ⟨rfl, q5⟩
  rw [htb]
  clear htb
  clear hA_0 hA_1 hA_2 hA_3 hB_0 hB_1 hB_2 hB_3
  replace hA := hA.ca q5
  replace hB := hB.ca q5
  replace hR := hR.ca q5
  replace bb := bl_ca bb q5
  clear q5
  have hA_0 : w5.cell? ⟨w.heap.size, 0, none⟩ = some (.int .i64 a.k) := hA.cell 0
  have hA_1 : w5.cell? ⟨w.heap.size, 1, none⟩ = some (.int .i64 a.n) := hA.cell 1
  have hA_2 : w5.cell? ⟨w.heap.size, 2, none⟩ = some (.int .u64 a.u) := hA.cell 2
  have hA_3 : w5.cell? ⟨w.heap.size, 3, none⟩ = some (.string a.s) := hA.cell 3
  have hB_0 : w5.cell? ⟨w.heap.size + 1, 0, none⟩ = some (.int .i64 b.k) := hB.cell 0
  have hB_1 : w5.cell? ⟨w.heap.size + 1, 1, none⟩ = some (.int .i64 b.n) := hB.cell 1
  have hB_2 : w5.cell? ⟨w.heap.size + 1, 2, none⟩ = some (.int .u64 b.u) := hB.cell 2
  have hB_3 : w5.cell? ⟨w.heap.size + 1, 3, none⟩ = some (.string b.s) := hB.cell 3
  go_wp2_with (refine wpList_store_blk rfl 27 (.tmp 4) (.tmp 30) rfl (w.heap.size + 1 + 1) 27 _ _ rfl rfl hR rfl valI (one4 _ _ _ _) ?_; intro w6 kw6 gw6)
  replace bb := bl_gr bb gw6 (by omega)
  exact bodyPost_ret (res2 Try.results16 rfl rfl kw6 Try.underlying27 rfl valI) rfl ⟨rfl, bb⟩
set_option maxRecDepth 100000 in
set_option maxHeartbeats 4000000 in
theorem rjn_n2 (a b : VV) (w : World) (hra : rightB a.k a.n a.u a.s = true) (hrb : rightB b.k b.n b.u b.s = true) (hta : (rightB a.k a.n a.u a.s && kindB 4 a.k) = true) (htb : (rightB b.k b.n b.u b.s && kindB 4 b.k) = true) (k1 : (a.k == 0) = false) (k2 : (b.k == 0) = true) : Calls Try.prog 16 #[.agg #[.int .i64 a.k, .int .i64 a.n, .int .u64 a.u, .string a.s], .agg #[.int .i64 b.k, .int .i64 b.n, .int .u64 b.u, .string b.s]] w fun e w' => e = .returned (resT (a, 0)) ∧ Below w.heap.size w w' := by
  have hA := (((Blk.new w 27 #[.int .i64 a.k, .int .i64 a.n, .int .u64 a.u, .string a.s]).alloc (.cells #[.int .i64 b.k, .int .i64 b.n, .int .u64 b.u, .string b.s] 27)).alloc (.cells #[.int .i64 0, .int .i64 0, .int .u64 0, .string ⟨#[]⟩] 27))
  have hB := ((Blk.new (w.alloc (.cells #[.int .i64 a.k, .int .i64 a.n, .int .u64 a.u, .string a.s] 27)) 27 #[.int .i64 b.k, .int .i64 b.n, .int .u64 b.u, .string b.s]).alloc (.cells #[.int .i64 0, .int .i64 0, .int .u64 0, .string ⟨#[]⟩] 27))
  have hR := (Blk.new ((w.alloc (.cells #[.int .i64 a.k, .int .i64 a.n, .int .u64 a.u, .string a.s] 27)).alloc (.cells #[.int .i64 b.k, .int .i64 b.n, .int .u64 b.u, .string b.s] 27)) 27 #[.int .i64 0, .int .i64 0, .int .u64 0, .string ⟨#[]⟩])
  have bb := (bl_al (bl_al (bl_al (Below.refl w.heap.size w) (.cells #[.int .i64 a.k, .int .i64 a.n, .int .u64 a.u, .string a.s] 27)) (.cells #[.int .i64 b.k, .int .i64 b.n, .int .u64 b.u, .string b.s] 27)) (.cells #[.int .i64 0, .int .i64 0, .int .u64 0, .string ⟨#[]⟩] 27))
  simp only [World.size_alloc] at hB hR
  go_enter Try.func16, Try.ntmps16
  go_wp2_with fail
  generalize (((w.alloc (.cells #[.int .i64 a.k, .int .i64 a.n, .int .u64 a.u, .string a.s] 27)).alloc (.cells #[.int .i64 b.k, .int .i64 b.n, .int .u64 b.u, .string b.s] 27)).alloc (.cells #[.int .i64 0, .int .i64 0, .int .u64 0, .string ⟨#[]⟩] 27)) = w1 at *
  refine (right_any a.k a.n a.u a.s w1).mono ?_
  rintro e w2 ⟨rfl, q2⟩
  rw [hra]
  clear hra
  replace hA := hA.ca q2
  replace hB := hB.ca q2
  replace hR := hR.ca q2
  replace bb := bl_ca bb q2
  clear q2
  have hA_0 : w2.cell? ⟨w.heap.size, 0, none⟩ = some (.int .i64 a.k) := hA.cell 0
  have hA_1 : w2.cell? ⟨w.heap.size, 1, none⟩ = some (.int .i64 a.n) := hA.cell 1
  have hA_2 : w2.cell? ⟨w.heap.size, 2, none⟩ = some (.int .u64 a.u) := hA.cell 2
  have hA_3 : w2.cell? ⟨w.heap.size, 3, none⟩ = some (.string a.s) := hA.cell 3
  have hB_0 : w2.cell? ⟨w.heap.size + 1, 0, none⟩ = some (.int .i64 b.k) := hB.cell 0
  have hB_1 : w2.cell? ⟨w.heap.size + 1, 1, none⟩ = some (.int .i64 b.n) := hB.cell 1
  have hB_2 : w2.cell? ⟨w.heap.size + 1, 2, none⟩ = some (.int .u64 b.u) := hB.cell 2
  have hB_3 : w2.cell? ⟨w.heap.size + 1, 3, none⟩ = some (.string b.s) := hB.cell 3
  go_wp2_with fail
  refine (right_any b.k b.n b.u b.s _).mono ?_
  rintro e w3 ⟨rfl, q3⟩
  rw [hrb]
  clear hrb
  clear hA_0 hA_1 hA_2 hA_3 hB_0 hB_1 hB_2 hB_3
  replace hA := hA.ca q3
  replace hB := hB.ca q3
  replace hR := hR.ca q3
  replace bb := bl_ca bb q3
  clear q3
  have hA_0 : w3.cell? ⟨w.heap.size, 0, none⟩ = some (.int .i64 a.k) := hA.cell 0
  have hA_1 : w3.cell? ⟨w.heap.size, 1, none⟩ = some (.int .i64 a.n) := hA.cell 1
  have hA_2 : w3.cell? ⟨w.heap.size, 2, none⟩ = some (.int .u64 a.u) := hA.cell 2
  have hA_3 : w3.cell? ⟨w.heap.size, 3, none⟩ = some (.string a.s) := hA.cell 3
  have hB_0 : w3.cell? ⟨w.heap.size + 1, 0, none⟩ = some (.int .i64 b.k) := hB.cell 0
  have hB_1 : w3.cell? ⟨w.heap.size + 1, 1, none⟩ = some (.int .i64 b.n) := hB.cell 1
  have hB_2 : w3.cell? ⟨w.heap.size + 1, 2, none⟩ = some (.int .u64 b.u) := hB.cell 2
  have hB_3 : w3.cell? ⟨w.heap.size + 1, 3, none⟩ = some (.string b.s) := hB.cell 3
  go_wp2_with fail
  refine (under_any a.k a.n a.u a.s _).mono ?_
  rintro e w4 ⟨rfl, q4⟩
  rw [hta]
  clear hta
  clear hA_0 hA_1 hA_2 hA_3 hB_0 hB_1 hB_2 hB_3
  replace hA := hA.ca q4
  replace hB := hB.ca q4
  replace hR := hR.ca q4
  replace bb := bl_ca bb q4
  clear q4
  have hA_0 : w4.cell? ⟨w.heap.size, 0, none⟩ = some (.int .i64 a.k) := hA.cell 0
  have hA_1 : w4.cell? ⟨w.heap.size, 1, none⟩ = some (.int .i64 a.n) := hA.cell 1
  have hA_2 : w4.cell? ⟨w.heap.size, 2, none⟩ = some (.int .u64 a.u) := hA.cell 2
  have hA_3 : w4.cell? ⟨w.heap.size, 3, none⟩ = some (.string a.s) := hA.cell 3
  have hB_0 : w4.cell? ⟨w.heap.size + 1, 0, none⟩ = some (.int .i64 b.k) := hB.cell 0
  have hB_1 : w4.cell? ⟨w.heap.size + 1, 1, none⟩ = some (.int .i64 b.n) := hB.cell 1
  have hB_2 : w4.cell? ⟨w.heap.size + 1, 2, none⟩ = some (.int .u64 b.u) := hB.cell 2
  have hB_3 : w4.cell? ⟨w.heap.size + 1, 3, none⟩ = some (.string b.s) := hB.cell 3
  go_wp2_with fail
  refine (under_any b.k b.n b.u b.s _).mono ?_
  rintro e w5 ⟨rfl, q5⟩
  rw [htb]
  clear htb
  clear hA_0 hA_1 hA_2 hA_3 hB_0 hB_1 hB_2 hB_3
  replace hA := hA.ca q5
  replace hB := hB.ca q5
  replace hR := hR.ca q5
  replace bb := bl_ca bb q5
  clear q5
  have hA_0 : w5.cell? ⟨w.heap.size, 0, none⟩ = some (.int .i64 a.k) := hA.cell 0
  have hA_1 : w5.cell? ⟨w.heap.size, 1, none⟩ = some (.int .i64 a.n) := hA.cell 1
  have hA_2 : w5.cell? ⟨w.heap.size, 2, none⟩ = some (.int .u64 a.u) := hA.cell 2
  have hA_3 : w5.cell? ⟨w.heap.size, 3, none⟩ = some (.string a.s) := hA.cell 3
  have hB_0 : w5.cell? ⟨w.heap.size + 1, 0, none⟩ = some (.int .i64 b.k) := hB.cell 0
  have hB_1 : w5.cell? ⟨w.heap.size + 1, 1, none⟩ = some (.int .i64 b.n) := hB.cell 1
  have hB_2 : w5.cell? ⟨w.heap.size + 1, 2, none⟩ = some (.int .u64 b.u) := hB.cell 2
  have hB_3 : w5.cell? ⟨w.heap.size + 1, 3, none⟩ = some (.string b.s) := hB.cell 3
  go_wp2_with (refine wpList_store_blk rfl 27 (.tmp 4) (.tmp 35) rfl (w.heap.size + 1 + 1) 27 _ _ rfl rfl hR rfl valI (one4 _ _ _ _) ?_; intro w6 kw6 gw6)
  replace bb := bl_gr bb gw6 (by omega)
  exact bodyPost_ret (res2 Try.results16 rfl rfl kw6 Try.underlying27 rfl valI) rfl ⟨rfl, bb⟩
set_option maxRecDepth 100000 in
set_option maxHeartbeats 4000000 in
theorem rjn_p (a b : VV) (w : World) (hra : rightB a.k a.n a.u a.s = true) (hrb : rightB b.k b.n b.u b.s = true) (hta : (rightB a.k a.n a.u a.s && kindB 4 a.k) = true) (htb : (rightB b.k b.n b.u b.s && kindB 4 b.k) = true) (k1 : (a.k == 0) = false) (k2 : (b.k == 0) = false) (R : VV × Int) (X : Int → Int → Value) (z : Value) (ho : ∀ n u, (n = a.n ∧ u = a.u ∨ n = b.n ∧ u = b.u) → ∀ w, Calls Try.prog 32 #[.int .i64 n, .int .u64 u] w fun e w' => e = .returned (X n u) ∧ Below w.heap.size w w') (hp : ∀ w, Calls Try.prog 38 #[X a.n a.u, X b.n b.u] w fun e w' => e = .returned (z) ∧ Below w.heap.size w w') (hs : ∀ w, Calls Try.prog 36 #[z] w fun e w' => e = .returned (resT R) ∧ Below w.heap.size w w') : Calls Try.prog 16 #[.agg #[.int .i64 a.k, .int .i64 a.n, .int .u64 a.u, .string a.s], .agg #[.int .i64 b.k, .int .i64 b.n, .int .u64 b.u, .string b.s]] w fun e w' => e = .returned (resT R) ∧ Below w.heap.size w w' := by
  have HO := Lib.hid ho
  have HP := Lib.hid hp
  have HS := Lib.hid hs
  clear ho hp hs
  have hA := (((Blk.new w 27 #[.int .i64 a.k, .int .i64 a.n, .int .u64 a.u, .string a.s]).alloc (.cells #[.int .i64 b.k, .int .i64 b.n, .int .u64 b.u, .string b.s] 27)).alloc (.cells #[.int .i64 0, .int .i64 0, .int .u64 0, .string ⟨#[]⟩] 27))
  have hB := ((Blk.new (w.alloc (.cells #[.int .i64 a.k, .int .i64 a.n, .int .u64 a.u, .string a.s] 27)) 27 #[.int .i64 b.k, .int .i64 b.n, .int .u64 b.u, .string b.s]).alloc (.cells #[.int .i64 0, .int .i64 0, .int .u64 0, .string ⟨#[]⟩] 27))
  have hR := (Blk.new ((w.alloc (.cells #[.int .i64 a.k, .int .i64 a.n, .int .u64 a.u, .string a.s] 27)).alloc (.cells #[.int .i64 b.k, .int .i64 b.n, .int .u64 b.u, .string b.s] 27)) 27 #[.int .i64 0, .int .i64 0, .int .u64 0, .string ⟨#[]⟩])
  have bb := (bl_al (bl_al (bl_al (Below.refl w.heap.size w) (.cells #[.int .i64 a.k, .int .i64 a.n, .int .u64 a.u, .string a.s] 27)) (.cells #[.int .i64 b.k, .int .i64 b.n, .int .u64 b.u, .string b.s] 27)) (.cells #[.int .i64 0, .int .i64 0, .int .u64 0, .string ⟨#[]⟩] 27))
  simp only [World.size_alloc] at hB hR
  go_enter Try.func16, Try.ntmps16
  go_wp2_with fail
  generalize (((w.alloc (.cells #[.int .i64 a.k, .int .i64 a.n, .int .u64 a.u, .string a.s] 27)).alloc (.cells #[.int .i64 b.k, .int .i64 b.n, .int .u64 b.u, .string b.s] 27)).alloc (.cells #[.int .i64 0, .int .i64 0, .int .u64 0, .string ⟨#[]⟩] 27)) = w1 at *
  refine (right_any a.k a.n a.u a.s w1).mono ?_
  rintro e w2 ⟨rfl, q2⟩
  rw [hra]
  clear hra
  replace hA := hA.ca q2
  replace hB := hB.ca q2
  replace hR := hR.ca q2
  replace bb := bl_ca bb q2
  clear q2
  have hA_0 : w2.cell? ⟨w.heap.size, 0, none⟩ = some (.int .i64 a.k) := hA.cell 0
  have hA_1 : w2.cell? ⟨w.heap.size, 1, none⟩ = some (.int .i64 a.n) := hA.cell 1
  have hA_2 : w2.cell? ⟨w.heap.size, 2, none⟩ = some (.int .u64 a.u) := hA.cell 2
  have hA_3 : w2.cell? ⟨w.heap.size, 3, none⟩ = some (.string a.s) := hA.cell 3
  have hB_0 : w2.cell? ⟨w.heap.size + 1, 0, none⟩ = some (.int .i64 b.k) := hB.cell 0
  have hB_1 : w2.cell? ⟨w.heap.size + 1, 1, none⟩ = some (.int .i64 b.n) := hB.cell 1
  have hB_2 : w2.cell? ⟨w.heap.size + 1, 2, none⟩ = some (.int .u64 b.u) := hB.cell 2
  have hB_3 : w2.cell? ⟨w.heap.size + 1, 3, none⟩ = some (.string b.s) := hB.cell 3
  go_wp2_with fail
  refine (right_any b.k b.n b.u b.s _).mono ?_
  rintro e w3 ⟨rfl, q3⟩
  rw [hrb]
  clear hrb
  clear hA_0 hA_1 hA_2 hA_3 hB_0 hB_1 hB_2 hB_3
  replace hA := hA.ca q3
  replace hB := hB.ca q3
  replace hR := hR.ca q3
  replace bb := bl_ca bb q3
  clear q3
  have hA_0 : w3.cell? ⟨w.heap.size, 0, none⟩ = some (.int .i64 a.k) := hA.cell 0
  have hA_1 : w3.cell? ⟨w.heap.size, 1, none⟩ = some (.int .i64 a.n) := hA.cell 1
  have hA_2 : w3.cell? ⟨w.heap.size, 2, none⟩ = some (.int .u64 a.u) := hA.cell 2
  have hA_3 : w3.cell? ⟨w.heap.size, 3, none⟩ = some (.string a.s) := hA.cell 3
  have hB_0 : w3.cell? ⟨w.heap.size + 1, 0, none⟩ = some (.int .i64 b.k) := hB.cell 0
  have hB_1 : w3.cell? ⟨w.heap.size + 1, 1, none⟩ = some (.int .i64 b.n) := hB.cell 1
  have hB_2 : w3.cell? ⟨w.heap.size + 1, 2, none⟩ = some (.int .u64 b.u) := hB.cell 2
  have hB_3 : w3.cell? ⟨w.heap.size + 1, 3, none⟩ = some (.string b.s) := hB.cell 3
  go_wp2_with fail
  refine (under_any a.k a.n a.u a.s _).mono ?_
  rintro e w4 ⟨rfl, q4⟩
  rw [hta]
  clear hta
  clear hA_0 hA_1 hA_2 hA_3 hB_0 hB_1 hB_2 hB_3
  replace hA := hA.ca q4
  replace hB := hB.ca q4
  replace hR := hR.ca q4
  replace bb := bl_ca bb q4
  clear q4
  have hA_0 : w4.cell? ⟨w.heap.size, 0, none⟩ = some (.int .i64 a.k) := hA.cell 0
  have hA_1 : w4.cell? ⟨w.heap.size, 1, none⟩ = some (.int .i64 a.n) := hA.cell 1
  have hA_2 : w4.cell? ⟨w.heap.size, 2, none⟩ = some (.int .u64 a.u) := hA.cell 2
  have hA_3 : w4.cell? ⟨w.heap.size, 3, none⟩ = some (.string a.s) := hA.cell 3
  have hB_0 : w4.cell? ⟨w.heap.size + 1, 0, none⟩ = some (.int .i64 b.k) := hB.cell 0
  have hB_1 : w4.cell? ⟨w.heap.size + 1, 1, none⟩ = some (.int .i64 b.n) := hB.cell 1
  have hB_2 : w4.cell? ⟨w.heap.size + 1, 2, none⟩ = some (.int .u64 b.u) := hB.cell 2
  have hB_3 : w4.cell? ⟨w.heap.size + 1, 3, none⟩ = some (.string b.s) := hB.cell 3
  go_wp2_with fail
  refine (under_any b.k b.n b.u b.s _).mono ?_
  rintro e w5 ⟨rfl, q5⟩
  rw [htb]
  clear htb
  clear hA_0 hA_1 hA_2 hA_3 hB_0 hB_1 hB_2 hB_3
  replace hA := hA.ca q5
  replace hB := hB.ca q5
  replace hR := hR.ca q5
  replace bb := bl_ca bb q5
  clear q5
  have hA_0 : w5.cell? ⟨w.heap.size, 0, none⟩ = some (.int .i64 a.k) := hA.cell 0
  have hA_1 : w5.cell? ⟨w.heap.size, 1, none⟩ = some (.int .i64 a.n) := hA.cell 1
  have hA_2 : w5.cell? ⟨w.heap.size, 2, none⟩ = some (.int .u64 a.u) := hA.cell 2
  have hA_3 : w5.cell? ⟨w.heap.size, 3, none⟩ = some (.string a.s) := hA.cell 3
  have hB_0 : w5.cell? ⟨w.heap.size + 1, 0, none⟩ = some (.int .i64 b.k) := hB.cell 0
  have hB_1 : w5.cell? ⟨w.heap.size + 1, 1, none⟩ = some (.int .i64 b.n) := hB.cell 1
  have hB_2 : w5.cell? ⟨w.heap.size + 1, 2, none⟩ = some (.int .u64 b.u) := hB.cell 2
  have hB_3 : w5.cell? ⟨w.heap.size + 1, 3, none⟩ = some (.string b.s) := hB.cell 3
  go_wp2
  clear hA_0 hA_1 hA_2 hA_3 hB_0 hB_1 hB_2 hB_3
  go_region_held3 (fun w' => (w'.cell? ⟨w.heap.size, 0, none⟩ = some (.int .i64 a.k) ∧ w'.cell? ⟨w.heap.size, 1, none⟩ = some (.int .i64 a.n) ∧ w'.cell? ⟨w.heap.size, 2, none⟩ = some (.int .u64 a.u) ∧ w'.cell? ⟨w.heap.size, 3, none⟩ = some (.string a.s)) ∧ (w'.cell? ⟨w.heap.size + 1, 0, none⟩ = some (.int .i64 b.k) ∧ w'.cell? ⟨w.heap.size + 1, 1, none⟩ = some (.int .i64 b.n) ∧ w'.cell? ⟨w.heap.size + 1, 2, none⟩ = some (.int .u64 b.u) ∧ w'.cell? ⟨w.heap.size + 1, 3, none⟩ = some (.string b.s))) (first | with_reducible exact ⟨vS (hA), vS (hB)⟩ | with_reducible exact ⟨vS (hA.drew), vS (hB.drew)⟩ | with_reducible exact ⟨vS ((hA.alloc _).drew), vS ((hB.alloc _).drew)⟩ | with_reducible exact ⟨vS (((hA.alloc _).alloc _).drew), vS (((hB.alloc _).alloc _).drew)⟩ | with_reducible exact ⟨vS ((hA.alloc _)), vS ((hB.alloc _))⟩ | with_reducible exact ⟨vS (blk_far4 hA (by omega) _ _ _ _), vS (blk_far4 hB (by omega) _ _ _ _)⟩)
    (first
      | (go_at_call 32; (with_reducible refine (HO.out _ _ (by first | exact .inl ⟨rfl, rfl⟩ | exact .inr ⟨rfl, rfl⟩) _).mono ?_); rintro e w6 ⟨rfl, q6⟩; replace hA : Blk w6 (w.heap.size) 27 #[.int .i64 a.k, .int .i64 a.n, .int .u64 a.u, .string a.s] := (by first | with_reducible exact (hA).ca q6 | with_reducible exact (hA.drew).ca q6 | with_reducible exact ((hA.alloc _).drew).ca q6 | with_reducible exact (((hA.alloc _).alloc _).drew).ca q6 | with_reducible exact ((hA.alloc _)).ca q6); replace hB : Blk w6 (w.heap.size + 1) 27 #[.int .i64 b.k, .int .i64 b.n, .int .u64 b.u, .string b.s] := (by first | with_reducible exact (hB).ca q6 | with_reducible exact (hB.drew).ca q6 | with_reducible exact ((hB.alloc _).drew).ca q6 | with_reducible exact (((hB.alloc _).alloc _).drew).ca q6 | with_reducible exact ((hB.alloc _)).ca q6); replace hR : Blk w6 (w.heap.size + 1 + 1) 27 #[.int .i64 0, .int .i64 0, .int .u64 0, .string ⟨#[]⟩] := (by first | with_reducible exact (hR).ca q6 | with_reducible exact (hR.drew).ca q6 | with_reducible exact ((hR.alloc _).drew).ca q6 | with_reducible exact (((hR.alloc _).alloc _).drew).ca q6 | with_reducible exact ((hR.alloc _)).ca q6); replace bb : Below w.heap.size w w6 := (by first | with_reducible exact bl_ca bb q6 | with_reducible exact bl_ca (bl_d1 bb) q6 | with_reducible exact bl_ca (bl_d1 (bl_al bb _)) q6 | with_reducible exact bl_ca (bl_d1 (bl_al (bl_al bb _) _)) q6 | with_reducible exact bl_ca (bl_al bb _) q6))
      | (go_at_call 38; (with_reducible refine (HP.out _).mono ?_); rintro e w7 ⟨rfl, q7⟩; replace hA : Blk w7 (w.heap.size) 27 #[.int .i64 a.k, .int .i64 a.n, .int .u64 a.u, .string a.s] := (by first | with_reducible exact (hA).ca q7 | with_reducible exact (hA.drew).ca q7 | with_reducible exact ((hA.alloc _).drew).ca q7 | with_reducible exact (((hA.alloc _).alloc _).drew).ca q7 | with_reducible exact ((hA.alloc _)).ca q7); replace hB : Blk w7 (w.heap.size + 1) 27 #[.int .i64 b.k, .int .i64 b.n, .int .u64 b.u, .string b.s] := (by first | with_reducible exact (hB).ca q7 | with_reducible exact (hB.drew).ca q7 | with_reducible exact ((hB.alloc _).drew).ca q7 | with_reducible exact (((hB.alloc _).alloc _).drew).ca q7 | with_reducible exact ((hB.alloc _)).ca q7); replace hR : Blk w7 (w.heap.size + 1 + 1) 27 #[.int .i64 0, .int .i64 0, .int .u64 0, .string ⟨#[]⟩] := (by first | with_reducible exact (hR).ca q7 | with_reducible exact (hR.drew).ca q7 | with_reducible exact ((hR.alloc _).drew).ca q7 | with_reducible exact (((hR.alloc _).alloc _).drew).ca q7 | with_reducible exact ((hR.alloc _)).ca q7); replace bb : Below w.heap.size w w7 := (by first | with_reducible exact bl_ca bb q7 | with_reducible exact bl_ca (bl_d1 bb) q7 | with_reducible exact bl_ca (bl_d1 (bl_al bb _)) q7 | with_reducible exact bl_ca (bl_d1 (bl_al (bl_al bb _) _)) q7 | with_reducible exact bl_ca (bl_al bb _) q7))
      | (go_at_call 36; (with_reducible refine (HS.out _).mono ?_); rintro e w8 ⟨rfl, q8⟩; replace hA : Blk w8 (w.heap.size) 27 #[.int .i64 a.k, .int .i64 a.n, .int .u64 a.u, .string a.s] := (by first | with_reducible exact (hA).ca q8 | with_reducible exact (hA.drew).ca q8 | with_reducible exact ((hA.alloc _).drew).ca q8 | with_reducible exact (((hA.alloc _).alloc _).drew).ca q8 | with_reducible exact ((hA.alloc _)).ca q8); replace hB : Blk w8 (w.heap.size + 1) 27 #[.int .i64 b.k, .int .i64 b.n, .int .u64 b.u, .string b.s] := (by first | with_reducible exact (hB).ca q8 | with_reducible exact (hB.drew).ca q8 | with_reducible exact ((hB.alloc _).drew).ca q8 | with_reducible exact (((hB.alloc _).alloc _).drew).ca q8 | with_reducible exact ((hB.alloc _)).ca q8); replace hR : Blk w8 (w.heap.size + 1 + 1) 27 #[.int .i64 0, .int .i64 0, .int .u64 0, .string ⟨#[]⟩] := (by first | with_reducible exact (hR).ca q8 | with_reducible exact (hR.drew).ca q8 | with_reducible exact ((hR.alloc _).drew).ca q8 | with_reducible exact (((hR.alloc _).alloc _).drew).ca q8 | with_reducible exact ((hR.alloc _)).ca q8); replace bb : Below w.heap.size w w8 := (by first | with_reducible exact bl_ca bb q8 | with_reducible exact bl_ca (bl_d1 bb) q8 | with_reducible exact bl_ca (bl_d1 (bl_al bb _)) q8 | with_reducible exact bl_ca (bl_d1 (bl_al (bl_al bb _) _)) q8 | with_reducible exact bl_ca (bl_al bb _) q8); simp only [resT]; have r0 : w8.cell? ⟨w.heap.size + 1 + 1, 0, none⟩ = some (.int .i64 0) := hR.cell 0; have r1 : w8.cell? ⟨w.heap.size + 1 + 1, 1, none⟩ = some (.int .i64 0) := hR.cell 1; have r2 : w8.cell? ⟨w.heap.size + 1 + 1, 2, none⟩ = some (.int .u64 0) := hR.cell 2; have r3 : w8.cell? ⟨w.heap.size + 1 + 1, 3, none⟩ = some (.string ⟨#[]⟩) := hR.cell 3; have f0 : w8.frozen? ⟨w.heap.size + 1 + 1, 0, none⟩ = false := hR.frozen 0; have f1 : w8.frozen? ⟨w.heap.size + 1 + 1, 1, none⟩ = false := hR.frozen 1; have f2 : w8.frozen? ⟨w.heap.size + 1 + 1, 2, none⟩ = false := hR.frozen 2; have f3 : w8.frozen? ⟨w.heap.size + 1 + 1, 3, none⟩ = false := hR.frozen 3))
  go_wp2
  replace bb := bl_set4 bb (g := w.heap.size + 1 + 1) (by omega) (.int .i64 R.1.k) (.int .i64 R.1.n) (.int .u64 R.1.u) (.string R.1.s)
  exact bodyPost_ret (res2 Try.results16 rfl rfl (blk_set4 hR _ _ _ _) Try.underlying27 rfl valI) rfl ⟨rfl, bb⟩
set_option maxRecDepth 100000 in
set_option maxHeartbeats 4000000 in
theorem rend_e1 (a : VV) (w : World) (hra : rightB a.k a.n a.u a.s = false) : Calls Try.prog 11 #[.agg #[.int .i64 a.k, .int .i64 a.n, .int .u64 a.u, .string a.s]] w fun e w' => e = .returned (resT (V0, 120)) ∧ Below w.heap.size w w' := by
  have hA := ((Blk.new w 27 #[.int .i64 a.k, .int .i64 a.n, .int .u64 a.u, .string a.s]).alloc (.cells #[.int .i64 0, .int .i64 0, .int .u64 0, .string ⟨#[]⟩] 27))
  have hR := (Blk.new (w.alloc (.cells #[.int .i64 a.k, .int .i64 a.n, .int .u64 a.u, .string a.s] 27)) 27 #[.int .i64 0, .int .i64 0, .int .u64 0, .string ⟨#[]⟩])
  have bb := (bl_al (bl_al (Below.refl w.heap.size w) (.cells #[.int .i64 a.k, .int .i64 a.n, .int .u64 a.u, .string a.s] 27)) (.cells #[.int .i64 0, .int .i64 0, .int .u64 0, .string ⟨#[]⟩] 27))
  simp only [World.size_alloc] at hR
  go_enter Try.func11, Try.ntmps11
  go_wp2_with fail
  generalize ((w.alloc (.cells #[.int .i64 a.k, .int .i64 a.n, .int .u64 a.u, .string a.s] 27)).alloc (.cells #[.int .i64 0, .int .i64 0, .int .u64 0, .string ⟨#[]⟩] 27)) = w1 at *
  refine (right_any a.k a.n a.u a.s w1).mono ?_
  rintro e w2 ⟨rfl, q2⟩
  rw [hra]
  clear hra
  replace hA := hA.ca q2
  replace hR := hR.ca q2
  replace bb := bl_ca bb q2
  clear q2
  go_wp2_with (refine wpList_store_blk rfl 27 (.tmp 2) (.tmp 10) rfl (w.heap.size + 1) 27 _ _ rfl rfl hR rfl valI (one4 _ _ _ _) ?_; intro w3 kw3 gw3)
  replace bb := bl_gr bb gw3 (by omega)
  exact bodyPost_ret (res2 Try.results11 rfl rfl kw3 Try.underlying27 rfl valI) rfl ⟨rfl, bb⟩
set_option maxRecDepth 100000 in
set_option maxHeartbeats 4000000 in
theorem rend_m1 (a : VV) (w : World) (hra : rightB a.k a.n a.u a.s = true) (hta : (rightB a.k a.n a.u a.s && kindB 4 a.k) = false) : Calls Try.prog 11 #[.agg #[.int .i64 a.k, .int .i64 a.n, .int .u64 a.u, .string a.s]] w fun e w' => e = .returned (resT (V0, 2)) ∧ Below w.heap.size w w' := by
  have hA := ((Blk.new w 27 #[.int .i64 a.k, .int .i64 a.n, .int .u64 a.u, .string a.s]).alloc (.cells #[.int .i64 0, .int .i64 0, .int .u64 0, .string ⟨#[]⟩] 27))
  have hR := (Blk.new (w.alloc (.cells #[.int .i64 a.k, .int .i64 a.n, .int .u64 a.u, .string a.s] 27)) 27 #[.int .i64 0, .int .i64 0, .int .u64 0, .string ⟨#[]⟩])
  have bb := (bl_al (bl_al (Below.refl w.heap.size w) (.cells #[.int .i64 a.k, .int .i64 a.n, .int .u64 a.u, .string a.s] 27)) (.cells #[.int .i64 0, .int .i64 0, .int .u64 0, .string ⟨#[]⟩] 27))
  simp only [World.size_alloc] at hR
  go_enter Try.func11, Try.ntmps11
  go_wp2_with fail
  generalize ((w.alloc (.cells #[.int .i64 a.k, .int .i64 a.n, .int .u64 a.u, .string a.s] 27)).alloc (.cells #[.int .i64 0, .int .i64 0, .int .u64 0, .string ⟨#[]⟩] 27)) = w1 at *
  refine (right_any a.k a.n a.u a.s w1).mono ?_
  rintro e w2 ⟨rfl, q2⟩
  rw [hra]
  clear hra
  replace hA := hA.ca q2
  replace hR := hR.ca q2
  replace bb := bl_ca bb q2
  clear q2
  have hA_0 : w2.cell? ⟨w.heap.size, 0, none⟩ = some (.int .i64 a.k) := hA.cell 0
  have hA_1 : w2.cell? ⟨w.heap.size, 1, none⟩ = some (.int .i64 a.n) := hA.cell 1
  have hA_2 : w2.cell? ⟨w.heap.size, 2, none⟩ = some (.int .u64 a.u) := hA.cell 2
  have hA_3 : w2.cell? ⟨w.heap.size, 3, none⟩ = some (.string a.s) := hA.cell 3
  go_wp2_with fail
  refine (under_any a.k a.n a.u a.s _).mono ?_
  rintro e w3 ⟨rfl, q3⟩
  rw [hta]
  clear hta
  clear hA_0 hA_1 hA_2 hA_3
  replace hA := hA.ca q3
  replace hR := hR.ca q3
  replace bb := bl_ca bb q3
  clear q3
  go_wp2_with (refine wpList_store_blk rfl 27 (.tmp 2) (.tmp 15) rfl (w.heap.size + 1) 27 _ _ rfl rfl hR rfl valI (one4 _ _ _ _) ?_; intro w4 kw4 gw4)
  replace bb := bl_gr bb gw4 (by omega)
  exact bodyPost_ret (res2 Try.results11 rfl rfl kw4 Try.underlying27 rfl valI) rfl ⟨rfl, bb⟩
set_option maxRecDepth 100000 in
set_option maxHeartbeats 4000000 in
theorem rend_n (a : VV) (w : World) (hra : rightB a.k a.n a.u a.s = true) (hta : (rightB a.k a.n a.u a.s && kindB 4 a.k) = true) (k1 : (a.k == 0) = true) : Calls Try.prog 11 #[.agg #[.int .i64 a.k, .int .i64 a.n, .int .u64 a.u, .string a.s]] w fun e w' => e = .returned (resT (a, 0)) ∧ Below w.heap.size w w' := by
  have hA := ((Blk.new w 27 #[.int .i64 a.k, .int .i64 a.n, .int .u64 a.u, .string a.s]).alloc (.cells #[.int .i64 0, .int .i64 0, .int .u64 0, .string ⟨#[]⟩] 27))
  have hR := (Blk.new (w.alloc (.cells #[.int .i64 a.k, .int .i64 a.n, .int .u64 a.u, .string a.s] 27)) 27 #[.int .i64 0, .int .i64 0, .int .u64 0, .string ⟨#[]⟩])
  have bb := (bl_al (bl_al (Below.refl w.heap.size w) (.cells #[.int .i64 a.k, .int .i64 a.n, .int .u64 a.u, .string a.s] 27)) (.cells #[.int .i64 0, .int .i64 0, .int .u64 0, .string ⟨#[]⟩] 27))
  simp only [World.size_alloc] at hR
  go_enter Try.func11, Try.ntmps11
  go_wp2_with fail
  generalize ((w.alloc (.cells #[.int .i64 a.k, .int .i64 a.n, .int .u64 a.u, .string a.s] 27)).alloc (.cells #[.int .i64 0, .int .i64 0, .int .u64 0, .string ⟨#[]⟩] 27)) = w1 at *
  refine (right_any a.k a.n a.u a.s w1).mono ?_
  rintro e w2 ⟨rfl, q2⟩
  rw [hra]
  clear hra
  replace hA := hA.ca q2
  replace hR := hR.ca q2
  replace bb := bl_ca bb q2
  clear q2
  have hA_0 : w2.cell? ⟨w.heap.size, 0, none⟩ = some (.int .i64 a.k) := hA.cell 0
  have hA_1 : w2.cell? ⟨w.heap.size, 1, none⟩ = some (.int .i64 a.n) := hA.cell 1
  have hA_2 : w2.cell? ⟨w.heap.size, 2, none⟩ = some (.int .u64 a.u) := hA.cell 2
  have hA_3 : w2.cell? ⟨w.heap.size, 3, none⟩ = some (.string a.s) := hA.cell 3
  go_wp2_with fail
  refine (under_any a.k a.n a.u a.s _).mono ?_
  rintro e w3 ⟨rfl, q3⟩
  rw [hta]
  clear hta
  clear hA_0 hA_1 hA_2 hA_3
  replace hA := hA.ca q3
  replace hR := hR.ca q3
  replace bb := bl_ca bb q3
  clear q3
  have hA_0 : w3.cell? ⟨w.heap.size, 0, none⟩ = some (.int .i64 a.k) := hA.cell 0
  have hA_1 : w3.cell? ⟨w.heap.size, 1, none⟩ = some (.int .i64 a.n) := hA.cell 1
  have hA_2 : w3.cell? ⟨w.heap.size, 2, none⟩ = some (.int .u64 a.u) := hA.cell 2
  have hA_3 : w3.cell? ⟨w.heap.size, 3, none⟩ = some (.string a.s) := hA.cell 3
  go_wp2_with (refine wpList_store_blk rfl 27 (.tmp 2) (.tmp 20) rfl (w.heap.size + 1) 27 _ _ rfl rfl hR rfl valI (one4 _ _ _ _) ?_; intro w4 kw4 gw4)
  replace bb := bl_gr bb gw4 (by omega)
  exact bodyPost_ret (res2 Try.results11 rfl rfl kw4 Try.underlying27 rfl valI) rfl ⟨rfl, bb⟩
set_option maxRecDepth 100000 in
set_option maxHeartbeats 4000000 in
theorem rend_y (a : VV) (w : World) (hra : rightB a.k a.n a.u a.s = true) (hta : (rightB a.k a.n a.u a.s && kindB 4 a.k) = true) (k1 : (a.k == 0) = false) (z : Int) (x : Value) (ho : ∀ w, Calls Try.prog 32 #[.int .i64 a.n, .int .u64 a.u] w fun e w' => e = .returned (x) ∧ Below w.heap.size w w') (hm : ∀ w, Calls Try.prog 31 #[x] w (SmallP z w)) (hs : smallB z = true) : Calls Try.prog 11 #[.agg #[.int .i64 a.k, .int .i64 a.n, .int .u64 a.u, .string a.s]] w fun e w' => e = .returned (resT (VI z, 0)) ∧ Below w.heap.size w w' := by
  have HO := Lib.hid ho
  have HM := Lib.hid hm
  clear ho hm
  have hA := ((Blk.new w 27 #[.int .i64 a.k, .int .i64 a.n, .int .u64 a.u, .string a.s]).alloc (.cells #[.int .i64 0, .int .i64 0, .int .u64 0, .string ⟨#[]⟩] 27))
  have hR := (Blk.new (w.alloc (.cells #[.int .i64 a.k, .int .i64 a.n, .int .u64 a.u, .string a.s] 27)) 27 #[.int .i64 0, .int .i64 0, .int .u64 0, .string ⟨#[]⟩])
  have bb := (bl_al (bl_al (Below.refl w.heap.size w) (.cells #[.int .i64 a.k, .int .i64 a.n, .int .u64 a.u, .string a.s] 27)) (.cells #[.int .i64 0, .int .i64 0, .int .u64 0, .string ⟨#[]⟩] 27))
  simp only [World.size_alloc] at hR
  go_enter Try.func11, Try.ntmps11
  go_wp2_with fail
  generalize ((w.alloc (.cells #[.int .i64 a.k, .int .i64 a.n, .int .u64 a.u, .string a.s] 27)).alloc (.cells #[.int .i64 0, .int .i64 0, .int .u64 0, .string ⟨#[]⟩] 27)) = w1 at *
  refine (right_any a.k a.n a.u a.s w1).mono ?_
  rintro e w2 ⟨rfl, q2⟩
  rw [hra]
  clear hra
  replace hA := hA.ca q2
  replace hR := hR.ca q2
  replace bb := bl_ca bb q2
  clear q2
  have hA_0 : w2.cell? ⟨w.heap.size, 0, none⟩ = some (.int .i64 a.k) := hA.cell 0
  have hA_1 : w2.cell? ⟨w.heap.size, 1, none⟩ = some (.int .i64 a.n) := hA.cell 1
  have hA_2 : w2.cell? ⟨w.heap.size, 2, none⟩ = some (.int .u64 a.u) := hA.cell 2
  have hA_3 : w2.cell? ⟨w.heap.size, 3, none⟩ = some (.string a.s) := hA.cell 3
  go_wp2_with fail
  refine (under_any a.k a.n a.u a.s _).mono ?_
  rintro e w3 ⟨rfl, q3⟩
  rw [hta]
  clear hta
  clear hA_0 hA_1 hA_2 hA_3
  replace hA := hA.ca q3
  replace hR := hR.ca q3
  replace bb := bl_ca bb q3
  clear q3
  have hA_0 : w3.cell? ⟨w.heap.size, 0, none⟩ = some (.int .i64 a.k) := hA.cell 0
  have hA_1 : w3.cell? ⟨w.heap.size, 1, none⟩ = some (.int .i64 a.n) := hA.cell 1
  have hA_2 : w3.cell? ⟨w.heap.size, 2, none⟩ = some (.int .u64 a.u) := hA.cell 2
  have hA_3 : w3.cell? ⟨w.heap.size, 3, none⟩ = some (.string a.s) := hA.cell 3
  go_wp2_with fail
  refine (HO.out _).mono ?_
  rintro e w4 ⟨rfl, q4⟩
  clear hA_0 hA_1 hA_2 hA_3
  replace hA := hA.ca q4
  replace hR := hR.ca q4
  replace bb := bl_ca bb q4
  clear q4
  go_wp2_with fail
  refine (HM.out _).mono ?_
  rintro e w5 ⟨n, rfl, hn, q5⟩
  replace hA := hA.ca q5
  replace hR := hR.ca q5
  replace bb := bl_ca bb q5
  clear q5
  obtain rfl := hn hs
  rw [hs]
  clear hs hn
  go_wp2_with fail
  refine (rint_any n _).mono ?_
  rintro e w6 ⟨rfl, q6⟩
  replace hA := hA.ca q6
  replace hR := hR.ca q6
  replace bb := bl_ca bb q6
  clear q6
  go_wp2_with (refine wpList_store_blk rfl 27 (.tmp 2) (.tmp 34) rfl (w.heap.size + 1) 27 _ _ rfl rfl hR rfl valI (one4 _ _ _ _) ?_; intro w7 kw7 gw7)
  replace bb := bl_gr bb gw7 (by omega)
  exact bodyPost_ret (res2 Try.results11 rfl rfl kw7 Try.underlying27 rfl valI) rfl ⟨rfl, bb⟩
set_option maxRecDepth 100000 in
set_option maxHeartbeats 4000000 in
theorem rend_f (a : VV) (w : World) (hra : rightB a.k a.n a.u a.s = true) (hta : (rightB a.k a.n a.u a.s && kindB 4 a.k) = true) (k1 : (a.k == 0) = false) (z : Int) (x : Value) (ho : ∀ w, Calls Try.prog 32 #[.int .i64 a.n, .int .u64 a.u] w fun e w' => e = .returned (x) ∧ Below w.heap.size w w') (hm : ∀ w, Calls Try.prog 31 #[x] w (SmallP z w)) (hs : smallB z = false) : Calls Try.prog 11 #[.agg #[.int .i64 a.k, .int .i64 a.n, .int .u64 a.u, .string a.s]] w fun e w' => e = .returned (resT (V0, 140)) ∧ Below w.heap.size w w' := by
  have HO := Lib.hid ho
  have HM := Lib.hid hm
  clear ho hm
  have hA := ((Blk.new w 27 #[.int .i64 a.k, .int .i64 a.n, .int .u64 a.u, .string a.s]).alloc (.cells #[.int .i64 0, .int .i64 0, .int .u64 0, .string ⟨#[]⟩] 27))
  have hR := (Blk.new (w.alloc (.cells #[.int .i64 a.k, .int .i64 a.n, .int .u64 a.u, .string a.s] 27)) 27 #[.int .i64 0, .int .i64 0, .int .u64 0, .string ⟨#[]⟩])
  have bb := (bl_al (bl_al (Below.refl w.heap.size w) (.cells #[.int .i64 a.k, .int .i64 a.n, .int .u64 a.u, .string a.s] 27)) (.cells #[.int .i64 0, .int .i64 0, .int .u64 0, .string ⟨#[]⟩] 27))
  simp only [World.size_alloc] at hR
  go_enter Try.func11, Try.ntmps11
  go_wp2_with fail
  generalize ((w.alloc (.cells #[.int .i64 a.k, .int .i64 a.n, .int .u64 a.u, .string a.s] 27)).alloc (.cells #[.int .i64 0, .int .i64 0, .int .u64 0, .string ⟨#[]⟩] 27)) = w1 at *
  refine (right_any a.k a.n a.u a.s w1).mono ?_
  rintro e w2 ⟨rfl, q2⟩
  rw [hra]
  clear hra
  replace hA := hA.ca q2
  replace hR := hR.ca q2
  replace bb := bl_ca bb q2
  clear q2
  have hA_0 : w2.cell? ⟨w.heap.size, 0, none⟩ = some (.int .i64 a.k) := hA.cell 0
  have hA_1 : w2.cell? ⟨w.heap.size, 1, none⟩ = some (.int .i64 a.n) := hA.cell 1
  have hA_2 : w2.cell? ⟨w.heap.size, 2, none⟩ = some (.int .u64 a.u) := hA.cell 2
  have hA_3 : w2.cell? ⟨w.heap.size, 3, none⟩ = some (.string a.s) := hA.cell 3
  go_wp2_with fail
  refine (under_any a.k a.n a.u a.s _).mono ?_
  rintro e w3 ⟨rfl, q3⟩
  rw [hta]
  clear hta
  clear hA_0 hA_1 hA_2 hA_3
  replace hA := hA.ca q3
  replace hR := hR.ca q3
  replace bb := bl_ca bb q3
  clear q3
  have hA_0 : w3.cell? ⟨w.heap.size, 0, none⟩ = some (.int .i64 a.k) := hA.cell 0
  have hA_1 : w3.cell? ⟨w.heap.size, 1, none⟩ = some (.int .i64 a.n) := hA.cell 1
  have hA_2 : w3.cell? ⟨w.heap.size, 2, none⟩ = some (.int .u64 a.u) := hA.cell 2
  have hA_3 : w3.cell? ⟨w.heap.size, 3, none⟩ = some (.string a.s) := hA.cell 3
  go_wp2_with fail
  refine (HO.out _).mono ?_
  rintro e w4 ⟨rfl, q4⟩
  clear hA_0 hA_1 hA_2 hA_3
  replace hA := hA.ca q4
  replace hR := hR.ca q4
  replace bb := bl_ca bb q4
  clear q4
  go_wp2_with fail
  refine (HM.out _).mono ?_
  rintro e w5 ⟨n, rfl, hn, q5⟩
  replace hA := hA.ca q5
  replace hR := hR.ca q5
  replace bb := bl_ca bb q5
  clear q5
  rw [hs]
  clear hs hn
  go_wp2_with (refine wpList_store_blk rfl 27 (.tmp 2) (.tmp 32) rfl (w.heap.size + 1) 27 _ _ rfl rfl hR rfl valI (one4 _ _ _ _) ?_; intro w6 kw6 gw6)
  replace bb := bl_gr bb gw6 (by omega)
  exact bodyPost_ret (res2 Try.results11 rfl rfl kw6 Try.underlying27 rfl valI) rfl ⟨rfl, bb⟩
end Go.Proofs.Ytemakmgppafccaa
