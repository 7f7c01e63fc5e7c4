/- bowspritref02.Not, Or. Conditions: none. -/
import Derived.Test.YtabbiepafibmmaaDoorRand
namespace Go.Proofs.YtabbiepafibmmaaDoor
open Go.RowKit
set_option maxRecDepth 100000 in
set_option maxHeartbeats 4000000 in
theorem rnot_V0 (w : World) : Calls Tryd.prog 29 #[.agg #[.int .i64 0, .int .i64 0, .int .u64 0, .string ⟨#[]⟩]] w fun e w' => e = .returned (.tuple #[.agg #[.int .i64 0, .int .i64 0, .int .u64 0, .string ⟨#[]⟩], .int .i64 0]) ∧ Below w.heap.size w w' := by
  have hA := ((Blk.new w 28 #[.int .i64 0, .int .i64 0, .int .u64 0, .string ⟨#[]⟩]).alloc (.cells #[.int .i64 0, .int .i64 0, .int .u64 0, .string ⟨#[]⟩] 28))
  have hR := (Blk.new (w.alloc (.cells #[.int .i64 0, .int .i64 0, .int .u64 0, .string ⟨#[]⟩] 28)) 28 #[.int .i64 0, .int .i64 0, .int .u64 0, .string ⟨#[]⟩])
  have bb := (bl_al (bl_al (Below.refl w.heap.size w) (.cells #[.int .i64 0, .int .i64 0, .int .u64 0, .string ⟨#[]⟩] 28)) (.cells #[.int .i64 0, .int .i64 0, .int .u64 0, .string ⟨#[]⟩] 28))
  simp only [World.size_alloc] at hR
  go_enter Tryd.func29, Tryd.ntmps29
  go_wp2_with fail
  generalize ((w.alloc (.cells #[.int .i64 0, .int .i64 0, .int .u64 0, .string ⟨#[]⟩] 28)).alloc (.cells #[.int .i64 0, .int .i64 0, .int .u64 0, .string ⟨#[]⟩] 28)) = w1 at *
  have hA_0 : w1.cell? ⟨w.heap.size, 0, none⟩ = some (.int .i64 0) := hA.cell 0
  have hA_1 : w1.cell? ⟨w.heap.size, 1, none⟩ = some (.int .i64 0) := hA.cell 1
  have hA_2 : w1.cell? ⟨w.heap.size, 2, none⟩ = some (.int .u64 0) := hA.cell 2
  have hA_3 : w1.cell? ⟨w.heap.size, 3, none⟩ = some (.string ⟨#[]⟩) := hA.cell 3
  go_wp2_with fail
  refine (rtr_V0_V0 _).mono ?_
  rintro e w2 ⟨rfl, q2⟩
  clear hA_0 hA_1 hA_2 hA_3
  replace hA := hA.ca q2
  replace hR := hR.ca q2
  replace bb := bl_ca bb q2
  clear q2
  have lb := bb.size
  have hA_0 : w2.cell? ⟨w.heap.size, 0, none⟩ = some (.int .i64 0) := hA.cell 0
  have hA_1 : w2.cell? ⟨w.heap.size, 1, none⟩ = some (.int .i64 0) := hA.cell 1
  have hA_2 : w2.cell? ⟨w.heap.size, 2, none⟩ = some (.int .u64 0) := hA.cell 2
  have hA_3 : w2.cell? ⟨w.heap.size, 3, none⟩ = some (.string ⟨#[]⟩) := hA.cell 3
  have KR := Lib.hid hR
  clear hR
  go_wp2_with (refine wpList_store_blk rfl 28 (.tmp 2) (.tmp 15) rfl (w.heap.size + 1) 28 _ _ rfl rfl KR.out rfl valI (one4 _ _ _ _) ?_; intro wz hZ gz)
  exact bodyPost_ret (res2 Tryd.results29 rfl rfl hZ Tryd.underlying28 rfl valI) rfl ⟨rfl, bl_gr bb gz (by omega)⟩
set_option maxRecDepth 100000 in
set_option maxHeartbeats 4000000 in
theorem rnot_VB0 (w : World) : Calls Tryd.prog 29 #[.agg #[.int .i64 1, .int .i64 0, .int .u64 0, .string ⟨#[]⟩]] w fun e w' => e = .returned (.tuple #[.agg #[.int .i64 1, .int .i64 1, .int .u64 0, .string ⟨#[]⟩], .int .i64 0]) ∧ Below w.heap.size w w' := by
  have hA := ((Blk.new w 28 #[.int .i64 1, .int .i64 0, .int .u64 0, .string ⟨#[]⟩]).alloc (.cells #[.int .i64 0, .int .i64 0, .int .u64 0, .string ⟨#[]⟩] 28))
  have hR := (Blk.new (w.alloc (.cells #[.int .i64 1, .int .i64 0, .int .u64 0, .string ⟨#[]⟩] 28)) 28 #[.int .i64 0, .int .i64 0, .int .u64 0, .string ⟨#[]⟩])
  have bb := (bl_al (bl_al (Below.refl w.heap.size w) (.cells #[.int .i64 1, .int .i64 0, .int .u64 0, .string ⟨#[]⟩] 28)) (.cells #[.int .i64 0, .int .i64 0, .int .u64 0, .string ⟨#[]⟩] 28))
  simp only [World.size_alloc] at hR
  go_enter Tryd.func29, Tryd.ntmps29
  go_wp2_with fail
  generalize ((w.alloc (.cells #[.int .i64 1, .int .i64 0, .int .u64 0, .string ⟨#[]⟩] 28)).alloc (.cells #[.int .i64 0, .int .i64 0, .int .u64 0, .string ⟨#[]⟩] 28)) = w1 at *
  have hA_0 : w1.cell? ⟨w.heap.size, 0, none⟩ = some (.int .i64 1) := hA.cell 0
  have hA_1 : w1.cell? ⟨w.heap.size, 1, none⟩ = some (.int .i64 0) := hA.cell 1
  have hA_2 : w1.cell? ⟨w.heap.size, 2, none⟩ = some (.int .u64 0) := hA.cell 2
  have hA_3 : w1.cell? ⟨w.heap.size, 3, none⟩ = some (.string ⟨#[]⟩) := hA.cell 3
  go_wp2_with fail
  refine (rtr_VB0_VB0 _).mono ?_
  rintro e w2 ⟨rfl, q2⟩
  clear hA_0 hA_1 hA_2 hA_3
  replace hA := hA.ca q2
  replace hR := hR.ca q2
  replace bb := bl_ca bb q2
  clear q2
  have lb := bb.size
  have hA_0 : w2.cell? ⟨w.heap.size, 0, none⟩ = some (.int .i64 1) := hA.cell 0
  have hA_1 : w2.cell? ⟨w.heap.size, 1, none⟩ = some (.int .i64 0) := hA.cell 1
  have hA_2 : w2.cell? ⟨w.heap.size, 2, none⟩ = some (.int .u64 0) := hA.cell 2
  have hA_3 : w2.cell? ⟨w.heap.size, 3, none⟩ = some (.string ⟨#[]⟩) := hA.cell 3
  go_wp2_with fail
  refine (rbool_true _).mono ?_
  rintro e w3 ⟨rfl, q3⟩
  clear hA_0 hA_1 hA_2 hA_3
  replace hA := hA.ca q3
  replace hR := hR.ca q3
  replace bb := bl_ca bb q3
  clear q3
  have KR := Lib.hid hR
  clear hR
  go_wp2_with (refine wpList_store_blk rfl 28 (.tmp 2) (.tmp 20) rfl (w.heap.size + 1) 28 _ _ rfl rfl KR.out rfl valI (one4 _ _ _ _) ?_; intro wz hZ gz)
  exact bodyPost_ret (res2 Tryd.results29 rfl rfl hZ Tryd.underlying28 rfl valI) rfl ⟨rfl, bl_gr bb gz (by omega)⟩
set_option maxRecDepth 100000 in
set_option maxHeartbeats 4000000 in
theorem rnot_VB1 (w : World) : Calls Tryd.prog 29 #[.agg #[.int .i64 1, .int .i64 1, .int .u64 0, .string ⟨#[]⟩]] w fun e w' => e = .returned (.tuple #[.agg #[.int .i64 1, .int .i64 0, .int .u64 0, .string ⟨#[]⟩], .int .i64 0]) ∧ Below w.heap.size w w' := by
  have hA := ((Blk.new w 28 #[.int .i64 1, .int .i64 1, .int .u64 0, .string ⟨#[]⟩]).alloc (.cells #[.int .i64 0, .int .i64 0, .int .u64 0, .string ⟨#[]⟩] 28))
  have hR := (Blk.new (w.alloc (.cells #[.int .i64 1, .int .i64 1, .int .u64 0, .string ⟨#[]⟩] 28)) 28 #[.int .i64 0, .int .i64 0, .int .u64 0, .string ⟨#[]⟩])
  have bb := (bl_al (bl_al (Below.refl w.heap.size w) (.cells #[.int .i64 1, .int .i64 1, .int .u64 0, .string ⟨#[]⟩] 28)) (.cells #[.int .i64 0, .int .i64 0, .int .u64 0, .string ⟨#[]⟩] 28))
  simp only [World.size_alloc] at hR
  go_enter Tryd.func29, Tryd.ntmps29
  go_wp2_with fail
  generalize ((w.alloc (.cells #[.int .i64 1, .int .i64 1, .int .u64 0, .string ⟨#[]⟩] 28)).alloc (.cells #[.int .i64 0, .int .i64 0, .int .u64 0, .string ⟨#[]⟩] 28)) = w1 at *
  have hA_0 : w1.cell? ⟨w.heap.size, 0, none⟩ = some (.int .i64 1) := hA.cell 0
  have hA_1 : w1.cell? ⟨w.heap.size, 1, none⟩ = some (.int .i64 1) := hA.cell 1
  have hA_2 : w1.cell? ⟨w.heap.size, 2, none⟩ = some (.int .u64 0) := hA.cell 2
  have hA_3 : w1.cell? ⟨w.heap.size, 3, none⟩ = some (.string ⟨#[]⟩) := hA.cell 3
  go_wp2_with fail
  refine (rtr_VB1_VB1 _).mono ?_
  rintro e w2 ⟨rfl, q2⟩
  clear hA_0 hA_1 hA_2 hA_3
  replace hA := hA.ca q2
  replace hR := hR.ca q2
  replace bb := bl_ca bb q2
  clear q2
  have lb := bb.size
  have hA_0 : w2.cell? ⟨w.heap.size, 0, none⟩ = some (.int .i64 1) := hA.cell 0
  have hA_1 : w2.cell? ⟨w.heap.size, 1, none⟩ = some (.int .i64 1) := hA.cell 1
  have hA_2 : w2.cell? ⟨w.heap.size, 2, none⟩ = some (.int .u64 0) := hA.cell 2
  have hA_3 : w2.cell? ⟨w.heap.size, 3, none⟩ = some (.string ⟨#[]⟩) := hA.cell 3
  go_wp2_with fail
  refine (rbool_false _).mono ?_
  rintro e w3 ⟨rfl, q3⟩
  clear hA_0 hA_1 hA_2 hA_3
  replace hA := hA.ca q3
  replace hR := hR.ca q3
  replace bb := bl_ca bb q3
  clear q3
  have KR := Lib.hid hR
  clear hR
  go_wp2_with (refine wpList_store_blk rfl 28 (.tmp 2) (.tmp 20) rfl (w.heap.size + 1) 28 _ _ rfl rfl KR.out rfl valI (one4 _ _ _ _) ?_; intro wz hZ gz)
  exact bodyPost_ret (res2 Tryd.results29 rfl rfl hZ Tryd.underlying28 rfl valI) rfl ⟨rfl, bl_gr bb gz (by omega)⟩
theorem kind11 (a : VV) : kindE [a, a] = kindE [a] := by simp [kindE]
set_option maxRecDepth 100000 in
set_option maxHeartbeats 4000000 in
theorem rnot_err (w : World) (a : VV) (h : kindE [a] ≠ 0) : Calls Tryd.prog 29 #[.agg #[.int .i64 a.k, .int .i64 a.n, .int .u64 a.u, .string a.s]] w fun e w' => e = .returned (.tuple #[.agg #[.int .i64 0, .int .i64 0, .int .u64 0, .string ⟨#[]⟩], .int .i64 (kindE [a])]) ∧ Below w.heap.size w w' := by
  have HT := Lib.hid (fun w => rtruths_any a a w)
  rw [kind11] at HT
  generalize kindE [a] = r at *
  have hr0 : (r != 0) = true := ibne_t h
  clear h
  have hA := ((Blk.new w 28 #[.int .i64 a.k, .int .i64 a.n, .int .u64 a.u, .string a.s]).alloc (.cells #[.int .i64 0, .int .i64 0, .int .u64 0, .string ⟨#[]⟩] 28))
  have hR := (Blk.new (w.alloc (.cells #[.int .i64 a.k, .int .i64 a.n, .int .u64 a.u, .string a.s] 28)) 28 #[.int .i64 0, .int .i64 0, .int .u64 0, .string ⟨#[]⟩])
  have bb := (bl_al (bl_al (Below.refl w.heap.size w) (.cells #[.int .i64 a.k, .int .i64 a.n, .int .u64 a.u, .string a.s] 28)) (.cells #[.int .i64 0, .int .i64 0, .int .u64 0, .string ⟨#[]⟩] 28))
  simp only [World.size_alloc] at hR
  go_enter Tryd.func29, Tryd.ntmps29
  go_wp2_with fail
  generalize ((w.alloc (.cells #[.int .i64 a.k, .int .i64 a.n, .int .u64 a.u, .string a.s] 28)).alloc (.cells #[.int .i64 0, .int .i64 0, .int .u64 0, .string ⟨#[]⟩] 28)) = w1 at *
  have hA_0 : w1.cell? ⟨w.heap.size, 0, none⟩ = some (.int .i64 a.k) := hA.cell 0
  have hA_1 : w1.cell? ⟨w.heap.size, 1, none⟩ = some (.int .i64 a.n) := hA.cell 1
  have hA_2 : w1.cell? ⟨w.heap.size, 2, none⟩ = some (.int .u64 a.u) := hA.cell 2
  have hA_3 : w1.cell? ⟨w.heap.size, 3, none⟩ = some (.string a.s) := hA.cell 3
  go_wp2_with fail
  refine (HT.out _).mono ?_
  rintro e w2 ⟨rfl, q2⟩
  clear hA_0 hA_1 hA_2 hA_3
  replace hA := hA.ca q2
  replace hR := hR.ca q2
  replace bb := bl_ca bb q2
  clear q2
  have lb := bb.size
  have hA_0 : w2.cell? ⟨w.heap.size, 0, none⟩ = some (.int .i64 a.k) := hA.cell 0
  have hA_1 : w2.cell? ⟨w.heap.size, 1, none⟩ = some (.int .i64 a.n) := hA.cell 1
  have hA_2 : w2.cell? ⟨w.heap.size, 2, none⟩ = some (.int .u64 a.u) := hA.cell 2
  have hA_3 : w2.cell? ⟨w.heap.size, 3, none⟩ = some (.string a.s) := hA.cell 3
  have KR := Lib.hid hR
  clear hR
  go_wp2_with (refine wpList_store_blk rfl 28 (.tmp 2) (.tmp 15) rfl (w.heap.size + 1) 28 _ _ rfl rfl KR.out rfl valI (one4 _ _ _ _) ?_; intro wz hZ gz)
  exact bodyPost_ret (res2 Tryd.results29 rfl rfl hZ Tryd.underlying28 rfl valI) rfl ⟨rfl, bl_gr bb gz (by omega)⟩
theorem rnot_any (a : VV) (w : World) : Calls Tryd.prog 29 #[.agg #[.int .i64 a.k, .int .i64 a.n, .int .u64 a.u, .string a.s]] w fun e w' => e = .returned (resT (notV a)) ∧ Below w.heap.size w w' := by
  by_cases h : kindE [a] = 0
  · have ha := kind0_tv h a (by simp)
    have e : ∀ r, notV a = (r, 0) → resT (notV a) = resT (r, 0) := fun r h => by rw [h]
    rcases ha with rfl | rfl | rfl
    · rw [e V0 (by unfold notV logV; rw [if_pos h]; rfl)]; exact rnot_V0 w
    · rw [e VB1 (by unfold notV logV; rw [if_pos h]; rfl)]; exact rnot_VB0 w
    · rw [e VB0 (by unfold notV logV; rw [if_pos h]; rfl)]; exact rnot_VB1 w
  · rw [show notV a = (V0, kindE [a]) from by unfold notV logV; rw [if_neg h]]
    exact rnot_err w a h
set_option maxRecDepth 100000 in
set_option maxHeartbeats 4000000 in
theorem ror_V0_V0 (w : World) : Calls Tryd.prog 33 #[.agg #[.int .i64 0, .int .i64 0, .int .u64 0, .string ⟨#[]⟩], .agg #[.int .i64 0, .int .i64 0, .int .u64 0, .string ⟨#[]⟩]] w fun e w' => e = .returned (.tuple #[.agg #[.int .i64 0, .int .i64 0, .int .u64 0, .string ⟨#[]⟩], .int .i64 0]) ∧ Below w.heap.size w w' := by
  have hA := (((Blk.new w 28 #[.int .i64 0, .int .i64 0, .int .u64 0, .string ⟨#[]⟩]).alloc (.cells #[.int .i64 0, .int .i64 0, .int .u64 0, .string ⟨#[]⟩] 28)).alloc (.cells #[.int .i64 0, .int .i64 0, .int .u64 0, .string ⟨#[]⟩] 28))
  have hB := ((Blk.new (w.alloc (.cells #[.int .i64 0, .int .i64 0, .int .u64 0, .string ⟨#[]⟩] 28)) 28 #[.int .i64 0, .int .i64 0, .int .u64 0, .string ⟨#[]⟩]).alloc (.cells #[.int .i64 0, .int .i64 0, .int .u64 0, .string ⟨#[]⟩] 28))
  have hR := (Blk.new ((w.alloc (.cells #[.int .i64 0, .int .i64 0, .int .u64 0, .string ⟨#[]⟩] 28)).alloc (.cells #[.int .i64 0, .int .i64 0, .int .u64 0, .string ⟨#[]⟩] 28)) 28 #[.int .i64 0, .int .i64 0, .int .u64 0, .string ⟨#[]⟩])
  have bb := (bl_al (bl_al (bl_al (Below.refl w.heap.size w) (.cells #[.int .i64 0, .int .i64 0, .int .u64 0, .string ⟨#[]⟩] 28)) (.cells #[.int .i64 0, .int .i64 0, .int .u64 0, .string ⟨#[]⟩] 28)) (.cells #[.int .i64 0, .int .i64 0, .int .u64 0, .string ⟨#[]⟩] 28))
  simp only [World.size_alloc] at hB hR
  go_enter Tryd.func33, Tryd.ntmps33
  go_wp2_with fail
  generalize (((w.alloc (.cells #[.int .i64 0, .int .i64 0, .int .u64 0, .string ⟨#[]⟩] 28)).alloc (.cells #[.int .i64 0, .int .i64 0, .int .u64 0, .string ⟨#[]⟩] 28)).alloc (.cells #[.int .i64 0, .int .i64 0, .int .u64 0, .string ⟨#[]⟩] 28)) = w1 at *
  have hA_0 : w1.cell? ⟨w.heap.size, 0, none⟩ = some (.int .i64 0) := hA.cell 0
  have hA_1 : w1.cell? ⟨w.heap.size, 1, none⟩ = some (.int .i64 0) := hA.cell 1
  have hA_2 : w1.cell? ⟨w.heap.size, 2, none⟩ = some (.int .u64 0) := hA.cell 2
  have hA_3 : w1.cell? ⟨w.heap.size, 3, none⟩ = some (.string ⟨#[]⟩) := hA.cell 3
  have hB_0 : w1.cell? ⟨w.heap.size + 1, 0, none⟩ = some (.int .i64 0) := hB.cell 0
  have hB_1 : w1.cell? ⟨w.heap.size + 1, 1, none⟩ = some (.int .i64 0) := hB.cell 1
  have hB_2 : w1.cell? ⟨w.heap.size + 1, 2, none⟩ = some (.int .u64 0) := hB.cell 2
  have hB_3 : w1.cell? ⟨w.heap.size + 1, 3, none⟩ = some (.string ⟨#[]⟩) := hB.cell 3
  go_wp2_with fail
  refine (rtr_V0_V0 _).mono ?_
  rintro e w2 ⟨rfl, q2⟩
  clear hA_0 hA_1 hA_2 hA_3 hB_0 hB_1 hB_2 hB_3
  replace hA := hA.ca q2
  replace hB := hB.ca q2
  replace hR := hR.ca q2
  replace bb := bl_ca bb q2
  clear q2
  have lb := bb.size
  have hA_0 : w2.cell? ⟨w.heap.size, 0, none⟩ = some (.int .i64 0) := hA.cell 0
  have hA_1 : w2.cell? ⟨w.heap.size, 1, none⟩ = some (.int .i64 0) := hA.cell 1
  have hA_2 : w2.cell? ⟨w.heap.size, 2, none⟩ = some (.int .u64 0) := hA.cell 2
  have hA_3 : w2.cell? ⟨w.heap.size, 3, none⟩ = some (.string ⟨#[]⟩) := hA.cell 3
  go_wp2_with fail
  refine (rnot_V0 _).mono ?_
  rintro e w3 ⟨rfl, q3⟩
  clear hA_0 hA_1 hA_2 hA_3
  replace hA := hA.ca q3
  replace hB := hB.ca q3
  replace hR := hR.ca q3
  replace bb := bl_ca bb q3
  clear q3
  have lhX_hA := hA.lt
  have lhX_hB := hB.lt
  have lhX_hR := hR.lt
  replace hA := hA.alloc (.cells #[.int .i64 0, .int .i64 0, .int .u64 0, .string ⟨#[]⟩] 28)
  replace hB := hB.alloc (.cells #[.int .i64 0, .int .i64 0, .int .u64 0, .string ⟨#[]⟩] 28)
  replace hR := hR.alloc (.cells #[.int .i64 0, .int .i64 0, .int .u64 0, .string ⟨#[]⟩] 28)
  have hX := Blk.new w3 28 #[.int .i64 0, .int .i64 0, .int .u64 0, .string ⟨#[]⟩]
  have bz := bb.size
  replace bb := bl_al bb (.cells #[.int .i64 0, .int .i64 0, .int .u64 0, .string ⟨#[]⟩] 28)
  have hB_0 : (w3.alloc (.cells #[.int .i64 0, .int .i64 0, .int .u64 0, .string ⟨#[]⟩] 28)).cell? ⟨w.heap.size + 1, 0, none⟩ = some (.int .i64 0) := hB.cell 0
  have hB_1 : (w3.alloc (.cells #[.int .i64 0, .int .i64 0, .int .u64 0, .string ⟨#[]⟩] 28)).cell? ⟨w.heap.size + 1, 1, none⟩ = some (.int .i64 0) := hB.cell 1
  have hB_2 : (w3.alloc (.cells #[.int .i64 0, .int .i64 0, .int .u64 0, .string ⟨#[]⟩] 28)).cell? ⟨w.heap.size + 1, 2, none⟩ = some (.int .u64 0) := hB.cell 2
  have hB_3 : (w3.alloc (.cells #[.int .i64 0, .int .i64 0, .int .u64 0, .string ⟨#[]⟩] 28)).cell? ⟨w.heap.size + 1, 3, none⟩ = some (.string ⟨#[]⟩) := hB.cell 3
  go_wp2_with fail
  clear hB_0 hB_1 hB_2 hB_3
  generalize w3.alloc (.cells #[.int .i64 0, .int .i64 0, .int .u64 0, .string ⟨#[]⟩] 28) = w4 at *
  generalize w3.heap.size = G4 at *
  refine (rnot_V0 _).mono ?_
  rintro e w5 ⟨rfl, q5⟩
  replace hA := hA.ca q5
  replace hB := hB.ca q5
  replace hR := hR.ca q5
  replace hX := hX.ca q5
  replace bb := bl_ca bb q5
  clear q5
  have lhY_hA := hA.lt
  have lhY_hB := hB.lt
  have lhY_hR := hR.lt
  have lhY_hX := hX.lt
  replace hA := hA.alloc (.cells #[.int .i64 0, .int .i64 0, .int .u64 0, .string ⟨#[]⟩] 28)
  replace hB := hB.alloc (.cells #[.int .i64 0, .int .i64 0, .int .u64 0, .string ⟨#[]⟩] 28)
  replace hR := hR.alloc (.cells #[.int .i64 0, .int .i64 0, .int .u64 0, .string ⟨#[]⟩] 28)
  replace hX := hX.alloc (.cells #[.int .i64 0, .int .i64 0, .int .u64 0, .string ⟨#[]⟩] 28)
  have hY := Blk.new w5 28 #[.int .i64 0, .int .i64 0, .int .u64 0, .string ⟨#[]⟩]
  have bz := bb.size
  replace bb := bl_al bb (.cells #[.int .i64 0, .int .i64 0, .int .u64 0, .string ⟨#[]⟩] 28)
  have hX_0 : (w5.alloc (.cells #[.int .i64 0, .int .i64 0, .int .u64 0, .string ⟨#[]⟩] 28)).cell? ⟨G4, 0, none⟩ = some (.int .i64 0) := hX.cell 0
  have hX_1 : (w5.alloc (.cells #[.int .i64 0, .int .i64 0, .int .u64 0, .string ⟨#[]⟩] 28)).cell? ⟨G4, 1, none⟩ = some (.int .i64 0) := hX.cell 1
  have hX_2 : (w5.alloc (.cells #[.int .i64 0, .int .i64 0, .int .u64 0, .string ⟨#[]⟩] 28)).cell? ⟨G4, 2, none⟩ = some (.int .u64 0) := hX.cell 2
  have hX_3 : (w5.alloc (.cells #[.int .i64 0, .int .i64 0, .int .u64 0, .string ⟨#[]⟩] 28)).cell? ⟨G4, 3, none⟩ = some (.string ⟨#[]⟩) := hX.cell 3
  go_wp2_with fail
  clear hX_0 hX_1 hX_2 hX_3
  generalize w5.alloc (.cells #[.int .i64 0, .int .i64 0, .int .u64 0, .string ⟨#[]⟩] 28) = w6 at *
  generalize w5.heap.size = G6 at *
  refine (rand_V0_V0 _).mono ?_
  rintro e w7 ⟨rfl, q7⟩
  replace hA := hA.ca q7
  replace hB := hB.ca q7
  replace hR := hR.ca q7
  replace hX := hX.ca q7
  replace hY := hY.ca q7
  replace bb := bl_ca bb q7
  clear q7
  have lhN_hA := hA.lt
  have lhN_hB := hB.lt
  have lhN_hR := hR.lt
  have lhN_hX := hX.lt
  have lhN_hY := hY.lt
  replace hA := hA.alloc (.cells #[.int .i64 0, .int .i64 0, .int .u64 0, .string ⟨#[]⟩] 28)
  replace hB := hB.alloc (.cells #[.int .i64 0, .int .i64 0, .int .u64 0, .string ⟨#[]⟩] 28)
  replace hR := hR.alloc (.cells #[.int .i64 0, .int .i64 0, .int .u64 0, .string ⟨#[]⟩] 28)
  replace hX := hX.alloc (.cells #[.int .i64 0, .int .i64 0, .int .u64 0, .string ⟨#[]⟩] 28)
  replace hY := hY.alloc (.cells #[.int .i64 0, .int .i64 0, .int .u64 0, .string ⟨#[]⟩] 28)
  have hN := Blk.new w7 28 #[.int .i64 0, .int .i64 0, .int .u64 0, .string ⟨#[]⟩]
  have bz := bb.size
  replace bb := bl_al bb (.cells #[.int .i64 0, .int .i64 0, .int .u64 0, .string ⟨#[]⟩] 28)
  go_wp2_with fail
  generalize w7.alloc (.cells #[.int .i64 0, .int .i64 0, .int .u64 0, .string ⟨#[]⟩] 28) = w8 at *
  generalize w7.heap.size = G8 at *
  refine (rnot_V0 _).mono ?_
  rintro e w9 ⟨rfl, q9⟩
  replace hA := hA.ca q9
  replace hB := hB.ca q9
  replace hR := hR.ca q9
  replace hX := hX.ca q9
  replace hY := hY.ca q9
  replace hN := hN.ca q9
  replace bb := bl_ca bb q9
  clear q9
  have KR := Lib.hid hR
  clear hR
  go_wp2_with (refine wpList_store_blk rfl 28 (.tmp 4) (.tmp 38) rfl (w.heap.size + 1 + 1) 28 _ _ rfl rfl KR.out rfl valI (one4 _ _ _ _) ?_; intro wz hZ gz)
  exact bodyPost_ret (res2 Tryd.results33 rfl rfl hZ Tryd.underlying28 rfl valI) rfl ⟨rfl, bl_gr bb gz (by omega)⟩
set_option maxRecDepth 100000 in
set_option maxHeartbeats 4000000 in
theorem ror_V0_VB0 (w : World) : Calls Tryd.prog 33 #[.agg #[.int .i64 0, .int .i64 0, .int .u64 0, .string ⟨#[]⟩], .agg #[.int .i64 1, .int .i64 0, .int .u64 0, .string ⟨#[]⟩]] w fun e w' => e = .returned (.tuple #[.agg #[.int .i64 0, .int .i64 0, .int .u64 0, .string ⟨#[]⟩], .int .i64 0]) ∧ Below w.heap.size w w' := by
  have hA := (((Blk.new w 28 #[.int .i64 0, .int .i64 0, .int .u64 0, .string ⟨#[]⟩]).alloc (.cells #[.int .i64 1, .int .i64 0, .int .u64 0, .string ⟨#[]⟩] 28)).alloc (.cells #[.int .i64 0, .int .i64 0, .int .u64 0, .string ⟨#[]⟩] 28))
  have hB := ((Blk.new (w.alloc (.cells #[.int .i64 0, .int .i64 0, .int .u64 0, .string ⟨#[]⟩] 28)) 28 #[.int .i64 1, .int .i64 0, .int .u64 0, .string ⟨#[]⟩]).alloc (.cells #[.int .i64 0, .int .i64 0, .int .u64 0, .string ⟨#[]⟩] 28))
  have hR := (Blk.new ((w.alloc (.cells #[.int .i64 0, .int .i64 0, .int .u64 0, .string ⟨#[]⟩] 28)).alloc (.cells #[.int .i64 1, .int .i64 0, .int .u64 0, .string ⟨#[]⟩] 28)) 28 #[.int .i64 0, .int .i64 0, .int .u64 0, .string ⟨#[]⟩])
  have bb := (bl_al (bl_al (bl_al (Below.refl w.heap.size w) (.cells #[.int .i64 0, .int .i64 0, .int .u64 0, .string ⟨#[]⟩] 28)) (.cells #[.int .i64 1, .int .i64 0, .int .u64 0, .string ⟨#[]⟩] 28)) (.cells #[.int .i64 0, .int .i64 0, .int .u64 0, .string ⟨#[]⟩] 28))
  simp only [World.size_alloc] at hB hR
  go_enter Tryd.func33, Tryd.ntmps33
  go_wp2_with fail
  generalize (((w.alloc (.cells #[.int .i64 0, .int .i64 0, .int .u64 0, .string ⟨#[]⟩] 28)).alloc (.cells #[.int .i64 1, .int .i64 0, .int .u64 0, .string ⟨#[]⟩] 28)).alloc (.cells #[.int .i64 0, .int .i64 0, .int .u64 0, .string ⟨#[]⟩] 28)) = w1 at *
  have hA_0 : w1.cell? ⟨w.heap.size, 0, none⟩ = some (.int .i64 0) := hA.cell 0
  have hA_1 : w1.cell? ⟨w.heap.size, 1, none⟩ = some (.int .i64 0) := hA.cell 1
  have hA_2 : w1.cell? ⟨w.heap.size, 2, none⟩ = some (.int .u64 0) := hA.cell 2
  have hA_3 : w1.cell? ⟨w.heap.size, 3, none⟩ = some (.string ⟨#[]⟩) := hA.cell 3
  have hB_0 : w1.cell? ⟨w.heap.size + 1, 0, none⟩ = some (.int .i64 1) := hB.cell 0
  have hB_1 : w1.cell? ⟨w.heap.size + 1, 1, none⟩ = some (.int .i64 0) := hB.cell 1
  have hB_2 : w1.cell? ⟨w.heap.size + 1, 2, none⟩ = some (.int .u64 0) := hB.cell 2
  have hB_3 : w1.cell? ⟨w.heap.size + 1, 3, none⟩ = some (.string ⟨#[]⟩) := hB.cell 3
  go_wp2_with fail
  refine (rtr_V0_VB0 _).mono ?_
  rintro e w2 ⟨rfl, q2⟩
  clear hA_0 hA_1 hA_2 hA_3 hB_0 hB_1 hB_2 hB_3
  replace hA := hA.ca q2
  replace hB := hB.ca q2
  replace hR := hR.ca q2
  replace bb := bl_ca bb q2
  clear q2
  have lb := bb.size
  have hA_0 : w2.cell? ⟨w.heap.size, 0, none⟩ = some (.int .i64 0) := hA.cell 0
  have hA_1 : w2.cell? ⟨w.heap.size, 1, none⟩ = some (.int .i64 0) := hA.cell 1
  have hA_2 : w2.cell? ⟨w.heap.size, 2, none⟩ = some (.int .u64 0) := hA.cell 2
  have hA_3 : w2.cell? ⟨w.heap.size, 3, none⟩ = some (.string ⟨#[]⟩) := hA.cell 3
  go_wp2_with fail
  refine (rnot_V0 _).mono ?_
  rintro e w3 ⟨rfl, q3⟩
  clear hA_0 hA_1 hA_2 hA_3
  replace hA := hA.ca q3
  replace hB := hB.ca q3
  replace hR := hR.ca q3
  replace bb := bl_ca bb q3
  clear q3
  have lhX_hA := hA.lt
  have lhX_hB := hB.lt
  have lhX_hR := hR.lt
  replace hA := hA.alloc (.cells #[.int .i64 0, .int .i64 0, .int .u64 0, .string ⟨#[]⟩] 28)
  replace hB := hB.alloc (.cells #[.int .i64 0, .int .i64 0, .int .u64 0, .string ⟨#[]⟩] 28)
  replace hR := hR.alloc (.cells #[.int .i64 0, .int .i64 0, .int .u64 0, .string ⟨#[]⟩] 28)
  have hX := Blk.new w3 28 #[.int .i64 0, .int .i64 0, .int .u64 0, .string ⟨#[]⟩]
  have bz := bb.size
  replace bb := bl_al bb (.cells #[.int .i64 0, .int .i64 0, .int .u64 0, .string ⟨#[]⟩] 28)
  have hB_0 : (w3.alloc (.cells #[.int .i64 0, .int .i64 0, .int .u64 0, .string ⟨#[]⟩] 28)).cell? ⟨w.heap.size + 1, 0, none⟩ = some (.int .i64 1) := hB.cell 0
  have hB_1 : (w3.alloc (.cells #[.int .i64 0, .int .i64 0, .int .u64 0, .string ⟨#[]⟩] 28)).cell? ⟨w.heap.size + 1, 1, none⟩ = some (.int .i64 0) := hB.cell 1
  have hB_2 : (w3.alloc (.cells #[.int .i64 0, .int .i64 0, .int .u64 0, .string ⟨#[]⟩] 28)).cell? ⟨w.heap.size + 1, 2, none⟩ = some (.int .u64 0) := hB.cell 2
  have hB_3 : (w3.alloc (.cells #[.int .i64 0, .int .i64 0, .int .u64 0, .string ⟨#[]⟩] 28)).cell? ⟨w.heap.size + 1, 3, none⟩ = some (.string ⟨#[]⟩) := hB.cell 3
  go_wp2_with fail
  clear hB_0 hB_1 hB_2 hB_3
  generalize w3.alloc (.cells #[.int .i64 0, .int .i64 0, .int .u64 0, .string ⟨#[]⟩] 28) = w4 at *
  generalize w3.heap.size = G4 at *
  refine (rnot_VB0 _).mono ?_
  rintro e w5 ⟨rfl, q5⟩
  replace hA := hA.ca q5
  replace hB := hB.ca q5
  replace hR := hR.ca q5
  replace hX := hX.ca q5
  replace bb := bl_ca bb q5
  clear q5
  have lhY_hA := hA.lt
  have lhY_hB := hB.lt
  have lhY_hR := hR.lt
  have lhY_hX := hX.lt
  replace hA := hA.alloc (.cells #[.int .i64 1, .int .i64 1, .int .u64 0, .string ⟨#[]⟩] 28)
  replace hB := hB.alloc (.cells #[.int .i64 1, .int .i64 1, .int .u64 0, .string ⟨#[]⟩] 28)
  replace hR := hR.alloc (.cells #[.int .i64 1, .int .i64 1, .int .u64 0, .string ⟨#[]⟩] 28)
  replace hX := hX.alloc (.cells #[.int .i64 1, .int .i64 1, .int .u64 0, .string ⟨#[]⟩] 28)
  have hY := Blk.new w5 28 #[.int .i64 1, .int .i64 1, .int .u64 0, .string ⟨#[]⟩]
  have bz := bb.size
  replace bb := bl_al bb (.cells #[.int .i64 1, .int .i64 1, .int .u64 0, .string ⟨#[]⟩] 28)
  have hX_0 : (w5.alloc (.cells #[.int .i64 1, .int .i64 1, .int .u64 0, .string ⟨#[]⟩] 28)).cell? ⟨G4, 0, none⟩ = some (.int .i64 0) := hX.cell 0
  have hX_1 : (w5.alloc (.cells #[.int .i64 1, .int .i64 1, .int .u64 0, .string ⟨#[]⟩] 28)).cell? ⟨G4, 1, none⟩ = some (.int .i64 0) := hX.cell 1
  have hX_2 : (w5.alloc (.cells #[.int .i64 1, .int .i64 1, .int .u64 0, .string ⟨#[]⟩] 28)).cell? ⟨G4, 2, none⟩ = some (.int .u64 0) := hX.cell 2
  have hX_3 : (w5.alloc (.cells #[.int .i64 1, .int .i64 1, .int .u64 0, .string ⟨#[]⟩] 28)).cell? ⟨G4, 3, none⟩ = some (.string ⟨#[]⟩) := hX.cell 3
  go_wp2_with fail
  clear hX_0 hX_1 hX_2 hX_3
  generalize w5.alloc (.cells #[.int .i64 1, .int .i64 1, .int .u64 0, .string ⟨#[]⟩] 28) = w6 at *
  generalize w5.heap.size = G6 at *
  refine (rand_V0_VB1 _).mono ?_
  rintro e w7 ⟨rfl, q7⟩
  replace hA := hA.ca q7
  replace hB := hB.ca q7
  replace hR := hR.ca q7
  replace hX := hX.ca q7
  replace hY := hY.ca q7
  replace bb := bl_ca bb q7
  clear q7
  have lhN_hA := hA.lt
  have lhN_hB := hB.lt
  have lhN_hR := hR.lt
  have lhN_hX := hX.lt
  have lhN_hY := hY.lt
  replace hA := hA.alloc (.cells #[.int .i64 0, .int .i64 0, .int .u64 0, .string ⟨#[]⟩] 28)
  replace hB := hB.alloc (.cells #[.int .i64 0, .int .i64 0, .int .u64 0, .string ⟨#[]⟩] 28)
  replace hR := hR.alloc (.cells #[.int .i64 0, .int .i64 0, .int .u64 0, .string ⟨#[]⟩] 28)
  replace hX := hX.alloc (.cells #[.int .i64 0, .int .i64 0, .int .u64 0, .string ⟨#[]⟩] 28)
  replace hY := hY.alloc (.cells #[.int .i64 0, .int .i64 0, .int .u64 0, .string ⟨#[]⟩] 28)
  have hN := Blk.new w7 28 #[.int .i64 0, .int .i64 0, .int .u64 0, .string ⟨#[]⟩]
  have bz := bb.size
  replace bb := bl_al bb (.cells #[.int .i64 0, .int .i64 0, .int .u64 0, .string ⟨#[]⟩] 28)
  go_wp2_with fail
  generalize w7.alloc (.cells #[.int .i64 0, .int .i64 0, .int .u64 0, .string ⟨#[]⟩] 28) = w8 at *
  generalize w7.heap.size = G8 at *
  refine (rnot_V0 _).mono ?_
  rintro e w9 ⟨rfl, q9⟩
  replace hA := hA.ca q9
  replace hB := hB.ca q9
  replace hR := hR.ca q9
  replace hX := hX.ca q9
  replace hY := hY.ca q9
  replace hN := hN.ca q9
  replace bb := bl_ca bb q9
  clear q9
  have KR := Lib.hid hR
  clear hR
  go_wp2_with (refine wpList_store_blk rfl 28 (.tmp 4) (.tmp 38) rfl (w.heap.size + 1 + 1) 28 _ _ rfl rfl KR.out rfl valI (one4 _ _ _ _) ?_; intro wz hZ gz)
  exact bodyPost_ret (res2 Tryd.results33 rfl rfl hZ Tryd.underlying28 rfl valI) rfl ⟨rfl, bl_gr bb gz (by omega)⟩
set_option maxRecDepth 100000 in
set_option maxHeartbeats 4000000 in
theorem ror_V0_VB1 (w : World) : Calls Tryd.prog 33 #[.agg #[.int .i64 0, .int .i64 0, .int .u64 0, .string ⟨#[]⟩], .agg #[.int .i64 1, .int .i64 1, .int .u64 0, .string ⟨#[]⟩]] w fun e w' => e = .returned (.tuple #[.agg #[.int .i64 1, .int .i64 1, .int .u64 0, .string ⟨#[]⟩], .int .i64 0]) ∧ Below w.heap.size w w' := by
  have hA := (((Blk.new w 28 #[.int .i64 0, .int .i64 0, .int .u64 0, .string ⟨#[]⟩]).alloc (.cells #[.int .i64 1, .int .i64 1, .int .u64 0, .string ⟨#[]⟩] 28)).alloc (.cells #[.int .i64 0, .int .i64 0, .int .u64 0, .string ⟨#[]⟩] 28))
  have hB := ((Blk.new (w.alloc (.cells #[.int .i64 0, .int .i64 0, .int .u64 0, .string ⟨#[]⟩] 28)) 28 #[.int .i64 1, .int .i64 1, .int .u64 0, .string ⟨#[]⟩]).alloc (.cells #[.int .i64 0, .int .i64 0, .int .u64 0, .string ⟨#[]⟩] 28))
  have hR := (Blk.new ((w.alloc (.cells #[.int .i64 0, .int .i64 0, .int .u64 0, .string ⟨#[]⟩] 28)).alloc (.cells #[.int .i64 1, .int .i64 1, .int .u64 0, .string ⟨#[]⟩] 28)) 28 #[.int .i64 0, .int .i64 0, .int .u64 0, .string ⟨#[]⟩])
  have bb := (bl_al (bl_al (bl_al (Below.refl w.heap.size w) (.cells #[.int .i64 0, .int .i64 0, .int .u64 0, .string ⟨#[]⟩] 28)) (.cells #[.int .i64 1, .int .i64 1, .int .u64 0, .string ⟨#[]⟩] 28)) (.cells #[.int .i64 0, .int .i64 0, .int .u64 0, .string ⟨#[]⟩] 28))
  simp only [World.size_alloc] at hB hR
  go_enter Tryd.func33, Tryd.ntmps33
  go_wp2_with fail
  generalize (((w.alloc (.cells #[.int .i64 0, .int .i64 0, .int .u64 0, .string ⟨#[]⟩] 28)).alloc (.cells #[.int .i64 1, .int .i64 1, .int .u64 0, .string ⟨#[]⟩] 28)).alloc (.cells #[.int .i64 0, .int .i64 0, .int .u64 0, .string ⟨#[]⟩] 28)) = w1 at *
  have hA_0 : w1.cell? ⟨w.heap.size, 0, none⟩ = some (.int .i64 0) := hA.cell 0
  have hA_1 : w1.cell? ⟨w.heap.size, 1, none⟩ = some (.int .i64 0) := hA.cell 1
  have hA_2 : w1.cell? ⟨w.heap.size, 2, none⟩ = some (.int .u64 0) := hA.cell 2
  have hA_3 : w1.cell? ⟨w.heap.size, 3, none⟩ = some (.string ⟨#[]⟩) := hA.cell 3
  have hB_0 : w1.cell? ⟨w.heap.size + 1, 0, none⟩ = some (.int .i64 1) := hB.cell 0
  have hB_1 : w1.cell? ⟨w.heap.size + 1, 1, none⟩ = some (.int .i64 1) := hB.cell 1
  have hB_2 : w1.cell? ⟨w.heap.size + 1, 2, none⟩ = some (.int .u64 0) := hB.cell 2
  have hB_3 : w1.cell? ⟨w.heap.size + 1, 3, none⟩ = some (.string ⟨#[]⟩) := hB.cell 3
  go_wp2_with fail
  refine (rtr_V0_VB1 _).mono ?_
  rintro e w2 ⟨rfl, q2⟩
  clear hA_0 hA_1 hA_2 hA_3 hB_0 hB_1 hB_2 hB_3
  replace hA := hA.ca q2
  replace hB := hB.ca q2
  replace hR := hR.ca q2
  replace bb := bl_ca bb q2
  clear q2
  have lb := bb.size
  have hA_0 : w2.cell? ⟨w.heap.size, 0, none⟩ = some (.int .i64 0) := hA.cell 0
  have hA_1 : w2.cell? ⟨w.heap.size, 1, none⟩ = some (.int .i64 0) := hA.cell 1
  have hA_2 : w2.cell? ⟨w.heap.size, 2, none⟩ = some (.int .u64 0) := hA.cell 2
  have hA_3 : w2.cell? ⟨w.heap.size, 3, none⟩ = some (.string ⟨#[]⟩) := hA.cell 3
  go_wp2_with fail
  refine (rnot_V0 _).mono ?_
  rintro e w3 ⟨rfl, q3⟩
  clear hA_0 hA_1 hA_2 hA_3
  replace hA := hA.ca q3
  replace hB := hB.ca q3
  replace hR := hR.ca q3
  replace bb := bl_ca bb q3
  clear q3
  have lhX_hA := hA.lt
  have lhX_hB := hB.lt
  have lhX_hR := hR.lt
  replace hA := hA.alloc (.cells #[.int .i64 0, .int .i64 0, .int .u64 0, .string ⟨#[]⟩] 28)
  replace hB := hB.alloc (.cells #[.int .i64 0, .int .i64 0, .int .u64 0, .string ⟨#[]⟩] 28)
  replace hR := hR.alloc (.cells #[.int .i64 0, .int .i64 0, .int .u64 0, .string ⟨#[]⟩] 28)
  have hX := Blk.new w3 28 #[.int .i64 0, .int .i64 0, .int .u64 0, .string ⟨#[]⟩]
  have bz := bb.size
  replace bb := bl_al bb (.cells #[.int .i64 0, .int .i64 0, .int .u64 0, .string ⟨#[]⟩] 28)
  have hB_0 : (w3.alloc (.cells #[.int .i64 0, .int .i64 0, .int .u64 0, .string ⟨#[]⟩] 28)).cell? ⟨w.heap.size + 1, 0, none⟩ = some (.int .i64 1) := hB.cell 0
  have hB_1 : (w3.alloc (.cells #[.int .i64 0, .int .i64 0, .int .u64 0, .string ⟨#[]⟩] 28)).cell? ⟨w.heap.size + 1, 1, none⟩ = some (.int .i64 1) := hB.cell 1
  have hB_2 : (w3.alloc (.cells #[.int .i64 0, .int .i64 0, .int .u64 0, .string ⟨#[]⟩] 28)).cell? ⟨w.heap.size + 1, 2, none⟩ = some (.int .u64 0) := hB.cell 2
  have hB_3 : (w3.alloc (.cells #[.int .i64 0, .int .i64 0, .int .u64 0, .string ⟨#[]⟩] 28)).cell? ⟨w.heap.size + 1, 3, none⟩ = some (.string ⟨#[]⟩) := hB.cell 3
  go_wp2_with fail
  clear hB_0 hB_1 hB_2 hB_3
  generalize w3.alloc (.cells #[.int .i64 0, .int .i64 0, .int .u64 0, .string ⟨#[]⟩] 28) = w4 at *
  generalize w3.heap.size = G4 at *
  refine (rnot_VB1 _).mono ?_
  rintro e w5 ⟨rfl, q5⟩
  replace hA := hA.ca q5
  replace hB := hB.ca q5
  replace hR := hR.ca q5
  replace hX := hX.ca q5
  replace bb := bl_ca bb q5
  clear q5
  have lhY_hA := hA.lt
  have lhY_hB := hB.lt
  have lhY_hR := hR.lt
  have lhY_hX := hX.lt
  replace hA := hA.alloc (.cells #[.int .i64 1, .int .i64 0, .int .u64 0, .string ⟨#[]⟩] 28)
  replace hB := hB.alloc (.cells #[.int .i64 1, .int .i64 0, .int .u64 0, .string ⟨#[]⟩] 28)
  replace hR := hR.alloc (.cells #[.int .i64 1, .int .i64 0, .int .u64 0, .string ⟨#[]⟩] 28)
  replace hX := hX.alloc (.cells #[.int .i64 1, .int .i64 0, .int .u64 0, .string ⟨#[]⟩] 28)
  have hY := Blk.new w5 28 #[.int .i64 1, .int .i64 0, .int .u64 0, .string ⟨#[]⟩]
  have bz := bb.size
  replace bb := bl_al bb (.cells #[.int .i64 1, .int .i64 0, .int .u64 0, .string ⟨#[]⟩] 28)
  have hX_0 : (w5.alloc (.cells #[.int .i64 1, .int .i64 0, .int .u64 0, .string ⟨#[]⟩] 28)).cell? ⟨G4, 0, none⟩ = some (.int .i64 0) := hX.cell 0
  have hX_1 : (w5.alloc (.cells #[.int .i64 1, .int .i64 0, .int .u64 0, .string ⟨#[]⟩] 28)).cell? ⟨G4, 1, none⟩ = some (.int .i64 0) := hX.cell 1
  have hX_2 : (w5.alloc (.cells #[.int .i64 1, .int .i64 0, .int .u64 0, .string ⟨#[]⟩] 28)).cell? ⟨G4, 2, none⟩ = some (.int .u64 0) := hX.cell 2
  have hX_3 : (w5.alloc (.cells #[.int .i64 1, .int .i64 0, .int .u64 0, .string ⟨#[]⟩] 28)).cell? ⟨G4, 3, none⟩ = some (.string ⟨#[]⟩) := hX.cell 3
  go_wp2_with fail
  clear hX_0 hX_1 hX_2 hX_3
  generalize w5.alloc (.cells #[.int .i64 1, .int .i64 0, .int .u64 0, .string ⟨#[]⟩] 28) = w6 at *
  generalize w5.heap.size = G6 at *
  refine (rand_V0_VB0 _).mono ?_
  rintro e w7 ⟨rfl, q7⟩
  replace hA := hA.ca q7
  replace hB := hB.ca q7
  replace hR := hR.ca q7
  replace hX := hX.ca q7
  replace hY := hY.ca q7
  replace bb := bl_ca bb q7
  clear q7
  have lhN_hA := hA.lt
  have lhN_hB := hB.lt
  have lhN_hR := hR.lt
  have lhN_hX := hX.lt
  have lhN_hY := hY.lt
  replace hA := hA.alloc (.cells #[.int .i64 1, .int .i64 0, .int .u64 0, .string ⟨#[]⟩] 28)
  replace hB := hB.alloc (.cells #[.int .i64 1, .int .i64 0, .int .u64 0, .string ⟨#[]⟩] 28)
  replace hR := hR.alloc (.cells #[.int .i64 1, .int .i64 0, .int .u64 0, .string ⟨#[]⟩] 28)
  replace hX := hX.alloc (.cells #[.int .i64 1, .int .i64 0, .int .u64 0, .string ⟨#[]⟩] 28)
  replace hY := hY.alloc (.cells #[.int .i64 1, .int .i64 0, .int .u64 0, .string ⟨#[]⟩] 28)
  have hN := Blk.new w7 28 #[.int .i64 1, .int .i64 0, .int .u64 0, .string ⟨#[]⟩]
  have bz := bb.size
  replace bb := bl_al bb (.cells #[.int .i64 1, .int .i64 0, .int .u64 0, .string ⟨#[]⟩] 28)
  go_wp2_with fail
  generalize w7.alloc (.cells #[.int .i64 1, .int .i64 0, .int .u64 0, .string ⟨#[]⟩] 28) = w8 at *
  generalize w7.heap.size = G8 at *
  refine (rnot_VB0 _).mono ?_
  rintro e w9 ⟨rfl, q9⟩
  replace hA := hA.ca q9
  replace hB := hB.ca q9
  replace hR := hR.ca q9
  replace hX := hX.ca q9
  replace hY := hY.ca q9
  replace hN := hN.ca q9
  replace bb := bl_ca bb q9
  clear q9
  have KR := Lib.hid hR
  clear hR
  go_wp2_with (refine wpList_store_blk rfl 28 (.tmp 4) (.tmp 38) rfl (w.heap.size + 1 + 1) 28 _ _ rfl rfl KR.out rfl valI (one4 _ _ _ _) ?_; intro wz hZ gz)
  exact bodyPost_ret (res2 Tryd.results33 rfl rfl hZ Tryd.underlying28 rfl valI) rfl ⟨rfl, bl_gr bb gz (by omega)⟩
set_option maxRecDepth 100000 in
set_option maxHeartbeats 4000000 in
theorem ror_VB0_V0 (w : World) : Calls Tryd.prog 33 #[.agg #[.int .i64 1, .int .i64 0, .int .u64 0, .string ⟨#[]⟩], .agg #[.int .i64 0, .int .i64 0, .int .u64 0, .string ⟨#[]⟩]] w fun e w' => e = .returned (.tuple #[.agg #[.int .i64 0, .int .i64 0, .int .u64 0, .string ⟨#[]⟩], .int .i64 0]) ∧ Below w.heap.size w w' := by
  have hA := (((Blk.new w 28 #[.int .i64 1, .int .i64 0, .int .u64 0, .string ⟨#[]⟩]).alloc (.cells #[.int .i64 0, .int .i64 0, .int .u64 0, .string ⟨#[]⟩] 28)).alloc (.cells #[.int .i64 0, .int .i64 0, .int .u64 0, .string ⟨#[]⟩] 28))
  have hB := ((Blk.new (w.alloc (.cells #[.int .i64 1, .int .i64 0, .int .u64 0, .string ⟨#[]⟩] 28)) 28 #[.int .i64 0, .int .i64 0, .int .u64 0, .string ⟨#[]⟩]).alloc (.cells #[.int .i64 0, .int .i64 0, .int .u64 0, .string ⟨#[]⟩] 28))
  have hR := (Blk.new ((w.alloc (.cells #[.int .i64 1, .int .i64 0, .int .u64 0, .string ⟨#[]⟩] 28)).alloc (.cells #[.int .i64 0, .int .i64 0, .int .u64 0, .string ⟨#[]⟩] 28)) 28 #[.int .i64 0, .int .i64 0, .int .u64 0, .string ⟨#[]⟩])
  have bb := (bl_al (bl_al (bl_al (Below.refl w.heap.size w) (.cells #[.int .i64 1, .int .i64 0, .int .u64 0, .string ⟨#[]⟩] 28)) (.cells #[.int .i64 0, .int .i64 0, .int .u64 0, .string ⟨#[]⟩] 28)) (.cells #[.int .i64 0, .int .i64 0, .int .u64 0, .string ⟨#[]⟩] 28))
  simp only [World.size_alloc] at hB hR
  go_enter Tryd.func33, Tryd.ntmps33
  go_wp2_with fail
  generalize (((w.alloc (.cells #[.int .i64 1, .int .i64 0, .int .u64 0, .string ⟨#[]⟩] 28)).alloc (.cells #[.int .i64 0, .int .i64 0, .int .u64 0, .string ⟨#[]⟩] 28)).alloc (.cells #[.int .i64 0, .int .i64 0, .int .u64 0, .string ⟨#[]⟩] 28)) = w1 at *
  have hA_0 : w1.cell? ⟨w.heap.size, 0, none⟩ = some (.int .i64 1) := hA.cell 0
  have hA_1 : w1.cell? ⟨w.heap.size, 1, none⟩ = some (.int .i64 0) := hA.cell 1
  have hA_2 : w1.cell? ⟨w.heap.size, 2, none⟩ = some (.int .u64 0) := hA.cell 2
  have hA_3 : w1.cell? ⟨w.heap.size, 3, none⟩ = some (.string ⟨#[]⟩) := hA.cell 3
  have hB_0 : w1.cell? ⟨w.heap.size + 1, 0, none⟩ = some (.int .i64 0) := hB.cell 0
  have hB_1 : w1.cell? ⟨w.heap.size + 1, 1, none⟩ = some (.int .i64 0) := hB.cell 1
  have hB_2 : w1.cell? ⟨w.heap.size + 1, 2, none⟩ = some (.int .u64 0) := hB.cell 2
  have hB_3 : w1.cell? ⟨w.heap.size + 1, 3, none⟩ = some (.string ⟨#[]⟩) := hB.cell 3
  go_wp2_with fail
  refine (rtr_VB0_V0 _).mono ?_
  rintro e w2 ⟨rfl, q2⟩
  clear hA_0 hA_1 hA_2 hA_3 hB_0 hB_1 hB_2 hB_3
  replace hA := hA.ca q2
  replace hB := hB.ca q2
  replace hR := hR.ca q2
  replace bb := bl_ca bb q2
  clear q2
  have lb := bb.size
  have hA_0 : w2.cell? ⟨w.heap.size, 0, none⟩ = some (.int .i64 1) := hA.cell 0
  have hA_1 : w2.cell? ⟨w.heap.size, 1, none⟩ = some (.int .i64 0) := hA.cell 1
  have hA_2 : w2.cell? ⟨w.heap.size, 2, none⟩ = some (.int .u64 0) := hA.cell 2
  have hA_3 : w2.cell? ⟨w.heap.size, 3, none⟩ = some (.string ⟨#[]⟩) := hA.cell 3
  go_wp2_with fail
  refine (rnot_VB0 _).mono ?_
  rintro e w3 ⟨rfl, q3⟩
  clear hA_0 hA_1 hA_2 hA_3
  replace hA := hA.ca q3
  replace hB := hB.ca q3
  replace hR := hR.ca q3
  replace bb := bl_ca bb q3
  clear q3
  have lhX_hA := hA.lt
  have lhX_hB := hB.lt
  have lhX_hR := hR.lt
  replace hA := hA.alloc (.cells #[.int .i64 1, .int .i64 1, .int .u64 0, .string ⟨#[]⟩] 28)
  replace hB := hB.alloc (.cells #[.int .i64 1, .int .i64 1, .int .u64 0, .string ⟨#[]⟩] 28)
  replace hR := hR.alloc (.cells #[.int .i64 1, .int .i64 1, .int .u64 0, .string ⟨#[]⟩] 28)
  have hX := Blk.new w3 28 #[.int .i64 1, .int .i64 1, .int .u64 0, .string ⟨#[]⟩]
  have bz := bb.size
  replace bb := bl_al bb (.cells #[.int .i64 1, .int .i64 1, .int .u64 0, .string ⟨#[]⟩] 28)
  have hB_0 : (w3.alloc (.cells #[.int .i64 1, .int .i64 1, .int .u64 0, .string ⟨#[]⟩] 28)).cell? ⟨w.heap.size + 1, 0, none⟩ = some (.int .i64 0) := hB.cell 0
  have hB_1 : (w3.alloc (.cells #[.int .i64 1, .int .i64 1, .int .u64 0, .string ⟨#[]⟩] 28)).cell? ⟨w.heap.size + 1, 1, none⟩ = some (.int .i64 0) := hB.cell 1
  have hB_2 : (w3.alloc (.cells #[.int .i64 1, .int .i64 1, .int .u64 0, .string ⟨#[]⟩] 28)).cell? ⟨w.heap.size + 1, 2, none⟩ = some (.int .u64 0) := hB.cell 2
  have hB_3 : (w3.alloc (.cells #[.int .i64 1, .int .i64 1, .int .u64 0, .string ⟨#[]⟩] 28)).cell? ⟨w.heap.size + 1, 3, none⟩ = some (.string ⟨#[]⟩) := hB.cell 3
  go_wp2_with fail
  clear hB_0 hB_1 hB_2 hB_3
  generalize w3.alloc (.cells #[.int .i64 1, .int .i64 1, .int .u64 0, .string ⟨#[]⟩] 28) = w4 at *
  generalize w3.heap.size = G4 at *
  refine (rnot_V0 _).mono ?_
  rintro e w5 ⟨rfl, q5⟩
  replace hA := hA.ca q5
  replace hB := hB.ca q5
  replace hR := hR.ca q5
  replace hX := hX.ca q5
  replace bb := bl_ca bb q5
  clear q5
  have lhY_hA := hA.lt
  have lhY_hB := hB.lt
  have lhY_hR := hR.lt
  have lhY_hX := hX.lt
  replace hA := hA.alloc (.cells #[.int .i64 0, .int .i64 0, .int .u64 0, .string ⟨#[]⟩] 28)
  replace hB := hB.alloc (.cells #[.int .i64 0, .int .i64 0, .int .u64 0, .string ⟨#[]⟩] 28)
  replace hR := hR.alloc (.cells #[.int .i64 0, .int .i64 0, .int .u64 0, .string ⟨#[]⟩] 28)
  replace hX := hX.alloc (.cells #[.int .i64 0, .int .i64 0, .int .u64 0, .string ⟨#[]⟩] 28)
  have hY := Blk.new w5 28 #[.int .i64 0, .int .i64 0, .int .u64 0, .string ⟨#[]⟩]
  have bz := bb.size
  replace bb := bl_al bb (.cells #[.int .i64 0, .int .i64 0, .int .u64 0, .string ⟨#[]⟩] 28)
  have hX_0 : (w5.alloc (.cells #[.int .i64 0, .int .i64 0, .int .u64 0, .string ⟨#[]⟩] 28)).cell? ⟨G4, 0, none⟩ = some (.int .i64 1) := hX.cell 0
  have hX_1 : (w5.alloc (.cells #[.int .i64 0, .int .i64 0, .int .u64 0, .string ⟨#[]⟩] 28)).cell? ⟨G4, 1, none⟩ = some (.int .i64 1) := hX.cell 1
  have hX_2 : (w5.alloc (.cells #[.int .i64 0, .int .i64 0, .int .u64 0, .string ⟨#[]⟩] 28)).cell? ⟨G4, 2, none⟩ = some (.int .u64 0) := hX.cell 2
  have hX_3 : (w5.alloc (.cells #[.int .i64 0, .int .i64 0, .int .u64 0, .string ⟨#[]⟩] 28)).cell? ⟨G4, 3, none⟩ = some (.string ⟨#[]⟩) := hX.cell 3
  go_wp2_with fail
  clear hX_0 hX_1 hX_2 hX_3
  generalize w5.alloc (.cells #[.int .i64 0, .int .i64 0, .int .u64 0, .string ⟨#[]⟩] 28) = w6 at *
  generalize w5.heap.size = G6 at *
  refine (rand_VB1_V0 _).mono ?_
  rintro e w7 ⟨rfl, q7⟩
  replace hA := hA.ca q7
  replace hB := hB.ca q7
  replace hR := hR.ca q7
  replace hX := hX.ca q7
  replace hY := hY.ca q7
  replace bb := bl_ca bb q7
  clear q7
  have lhN_hA := hA.lt
  have lhN_hB := hB.lt
  have lhN_hR := hR.lt
  have lhN_hX := hX.lt
  have lhN_hY := hY.lt
  replace hA := hA.alloc (.cells #[.int .i64 0, .int .i64 0, .int .u64 0, .string ⟨#[]⟩] 28)
  replace hB := hB.alloc (.cells #[.int .i64 0, .int .i64 0, .int .u64 0, .string ⟨#[]⟩] 28)
  replace hR := hR.alloc (.cells #[.int .i64 0, .int .i64 0, .int .u64 0, .string ⟨#[]⟩] 28)
  replace hX := hX.alloc (.cells #[.int .i64 0, .int .i64 0, .int .u64 0, .string ⟨#[]⟩] 28)
  replace hY := hY.alloc (.cells #[.int .i64 0, .int .i64 0, .int .u64 0, .string ⟨#[]⟩] 28)
  have hN := Blk.new w7 28 #[.int .i64 0, .int .i64 0, .int .u64 0, .string ⟨#[]⟩]
  have bz := bb.size
  replace bb := bl_al bb (.cells #[.int .i64 0, .int .i64 0, .int .u64 0, .string ⟨#[]⟩] 28)
  go_wp2_with fail
  generalize w7.alloc (.cells #[.int .i64 0, .int .i64 0, .int .u64 0, .string ⟨#[]⟩] 28) = w8 at *
  generalize w7.heap.size = G8 at *
  refine (rnot_V0 _).mono ?_
  rintro e w9 ⟨rfl, q9⟩
  replace hA := hA.ca q9
  replace hB := hB.ca q9
  replace hR := hR.ca q9
  replace hX := hX.ca q9
  replace hY := hY.ca q9
  replace hN := hN.ca q9
  replace bb := bl_ca bb q9
  clear q9
  have KR := Lib.hid hR
  clear hR
  go_wp2_with (refine wpList_store_blk rfl 28 (.tmp 4) (.tmp 38) rfl (w.heap.size + 1 + 1) 28 _ _ rfl rfl KR.out rfl valI (one4 _ _ _ _) ?_; intro wz hZ gz)
  exact bodyPost_ret (res2 Tryd.results33 rfl rfl hZ Tryd.underlying28 rfl valI) rfl ⟨rfl, bl_gr bb gz (by omega)⟩
set_option maxRecDepth 100000 in
set_option maxHeartbeats 4000000 in
theorem ror_VB0_VB0 (w : World) : Calls Tryd.prog 33 #[.agg #[.int .i64 1, .int .i64 0, .int .u64 0, .string ⟨#[]⟩], .agg #[.int .i64 1, .int .i64 0, .int .u64 0, .string ⟨#[]⟩]] w fun e w' => e = .returned (.tuple #[.agg #[.int .i64 1, .int .i64 0, .int .u64 0, .string ⟨#[]⟩], .int .i64 0]) ∧ Below w.heap.size w w' := by
  have hA := (((Blk.new w 28 #[.int .i64 1, .int .i64 0, .int .u64 0, .string ⟨#[]⟩]).alloc (.cells #[.int .i64 1, .int .i64 0, .int .u64 0, .string ⟨#[]⟩] 28)).alloc (.cells #[.int .i64 0, .int .i64 0, .int .u64 0, .string ⟨#[]⟩] 28))
  have hB := ((Blk.new (w.alloc (.cells #[.int .i64 1, .int .i64 0, .int .u64 0, .string ⟨#[]⟩] 28)) 28 #[.int .i64 1, .int .i64 0, .int .u64 0, .string ⟨#[]⟩]).alloc (.cells #[.int .i64 0, .int .i64 0, .int .u64 0, .string ⟨#[]⟩] 28))
  have hR := (Blk.new ((w.alloc (.cells #[.int .i64 1, .int .i64 0, .int .u64 0, .string ⟨#[]⟩] 28)).alloc (.cells #[.int .i64 1, .int .i64 0, .int .u64 0, .string ⟨#[]⟩] 28)) 28 #[.int .i64 0, .int .i64 0, .int .u64 0, .string ⟨#[]⟩])
  have bb := (bl_al (bl_al (bl_al (Below.refl w.heap.size w) (.cells #[.int .i64 1, .int .i64 0, .int .u64 0, .string ⟨#[]⟩] 28)) (.cells #[.int .i64 1, .int .i64 0, .int .u64 0, .string ⟨#[]⟩] 28)) (.cells #[.int .i64 0, .int .i64 0, .int .u64 0, .string ⟨#[]⟩] 28))
  simp only [World.size_alloc] at hB hR
  go_enter Tryd.func33, Tryd.ntmps33
  go_wp2_with fail
  generalize (((w.alloc (.cells #[.int .i64 1, .int .i64 0, .int .u64 0, .string ⟨#[]⟩] 28)).alloc (.cells #[.int .i64 1, .int .i64 0, .int .u64 0, .string ⟨#[]⟩] 28)).alloc (.cells #[.int .i64 0, .int .i64 0, .int .u64 0, .string ⟨#[]⟩] 28)) = w1 at *
  have hA_0 : w1.cell? ⟨w.heap.size, 0, none⟩ = some (.int .i64 1) := hA.cell 0
  have hA_1 : w1.cell? ⟨w.heap.size, 1, none⟩ = some (.int .i64 0) := hA.cell 1
  have hA_2 : w1.cell? ⟨w.heap.size, 2, none⟩ = some (.int .u64 0) := hA.cell 2
  have hA_3 : w1.cell? ⟨w.heap.size, 3, none⟩ = some (.string ⟨#[]⟩) := hA.cell 3
  have hB_0 : w1.cell? ⟨w.heap.size + 1, 0, none⟩ = some (.int .i64 1) := hB.cell 0
  have hB_1 : w1.cell? ⟨w.heap.size + 1, 1, none⟩ = some (.int .i64 0) := hB.cell 1
  have hB_2 : w1.cell? ⟨w.heap.size + 1, 2, none⟩ = some (.int .u64 0) := hB.cell 2
  have hB_3 : w1.cell? ⟨w.heap.size + 1, 3, none⟩ = some (.string ⟨#[]⟩) := hB.cell 3
  go_wp2_with fail
  refine (rtr_VB0_VB0 _).mono ?_
  rintro e w2 ⟨rfl, q2⟩
  clear hA_0 hA_1 hA_2 hA_3 hB_0 hB_1 hB_2 hB_3
  replace hA := hA.ca q2
  replace hB := hB.ca q2
  replace hR := hR.ca q2
  replace bb := bl_ca bb q2
  clear q2
  have lb := bb.size
  have hA_0 : w2.cell? ⟨w.heap.size, 0, none⟩ = some (.int .i64 1) := hA.cell 0
  have hA_1 : w2.cell? ⟨w.heap.size, 1, none⟩ = some (.int .i64 0) := hA.cell 1
  have hA_2 : w2.cell? ⟨w.heap.size, 2, none⟩ = some (.int .u64 0) := hA.cell 2
  have hA_3 : w2.cell? ⟨w.heap.size, 3, none⟩ = some (.string ⟨#[]⟩) := hA.cell 3
  go_wp2_with fail
  refine (rnot_VB0 _).mono ?_
  rintro e w3 ⟨rfl, q3⟩
  clear hA_0 hA_1 hA_2 hA_3
  replace hA := hA.ca q3
  replace hB := hB.ca q3
  replace hR := hR.ca q3
  replace bb := bl_ca bb q3
  clear q3
  have lhX_hA := hA.lt
  have lhX_hB := hB.lt
  have lhX_hR := hR.lt
  replace hA := hA.alloc (.cells #[.int .i64 1, .int .i64 1, .int .u64 0, .string ⟨#[]⟩] 28)
  replace hB := hB.alloc (.cells #[.int .i64 1, .int .i64 1, .int .u64 0, .string ⟨#[]⟩] 28)
  replace hR := hR.alloc (.cells #[.int .i64 1, .int .i64 1, .int .u64 0, .string ⟨#[]⟩] 28)
  have hX := Blk.new w3 28 #[.int .i64 1, .int .i64 1, .int .u64 0, .string ⟨#[]⟩]
  have bz := bb.size
  replace bb := bl_al bb (.cells #[.int .i64 1, .int .i64 1, .int .u64 0, .string ⟨#[]⟩] 28)
  have hB_0 : (w3.alloc (.cells #[.int .i64 1, .int .i64 1, .int .u64 0, .string ⟨#[]⟩] 28)).cell? ⟨w.heap.size + 1, 0, none⟩ = some (.int .i64 1) := hB.cell 0
  have hB_1 : (w3.alloc (.cells #[.int .i64 1, .int .i64 1, .int .u64 0, .string ⟨#[]⟩] 28)).cell? ⟨w.heap.size + 1, 1, none⟩ = some (.int .i64 0) := hB.cell 1
  have hB_2 : (w3.alloc (.cells #[.int .i64 1, .int .i64 1, .int .u64 0, .string ⟨#[]⟩] 28)).cell? ⟨w.heap.size + 1, 2, none⟩ = some (.int .u64 0) := hB.cell 2
  have hB_3 : (w3.alloc (.cells #[.int .i64 1, .int .i64 1, .int .u64 0, .string ⟨#[]⟩] 28)).cell? ⟨w.heap.size + 1, 3, none⟩ = some (.string ⟨#[]⟩) := hB.cell 3
  go_wp2_with fail
  clear hB_0 hB_1 hB_2 hB_3
  generalize w3.alloc (.cells #[.int .i64 1, .int .i64 1, .int .u64 0, .string ⟨#[]⟩] 28) = w4 at *
  generalize w3.heap.size = G4 at *
  refine (rnot_VB0 _).mono ?_
  rintro e w5 ⟨rfl, q5⟩
  replace hA := hA.ca q5
  replace hB := hB.ca q5
  replace hR := hR.ca q5
  replace hX := hX.ca q5
  replace bb := bl_ca bb q5
  clear q5
  have lhY_hA := hA.lt
  have lhY_hB := hB.lt
  have lhY_hR := hR.lt
  have lhY_hX := hX.lt
  replace hA := hA.alloc (.cells #[.int .i64 1, .int .i64 1, .int .u64 0, .string ⟨#[]⟩] 28)
  replace hB := hB.alloc (.cells #[.int .i64 1, .int .i64 1, .int .u64 0, .string ⟨#[]⟩] 28)
  replace hR := hR.alloc (.cells #[.int .i64 1, .int .i64 1, .int .u64 0, .string ⟨#[]⟩] 28)
  replace hX := hX.alloc (.cells #[.int .i64 1, .int .i64 1, .int .u64 0, .string ⟨#[]⟩] 28)
  have hY := Blk.new w5 28 #[.int .i64 1, .int .i64 1, .int .u64 0, .string ⟨#[]⟩]
  have bz := bb.size
  replace bb := bl_al bb (.cells #[.int .i64 1, .int .i64 1, .int .u64 0, .string ⟨#[]⟩] 28)
  have hX_0 : (w5.alloc (.cells #[.int .i64 1, .int .i64 1, .int .u64 0, .string ⟨#[]⟩] 28)).cell? ⟨G4, 0, none⟩ = some (.int .i64 1) := hX.cell 0
  have hX_1 : (w5.alloc (.cells #[.int .i64 1, .int .i64 1, .int .u64 0, .string ⟨#[]⟩] 28)).cell? ⟨G4, 1, none⟩ = some (.int .i64 1) := hX.cell 1
  have hX_2 : (w5.alloc (.cells #[.int .i64 1, .int .i64 1, .int .u64 0, .string ⟨#[]⟩] 28)).cell? ⟨G4, 2, none⟩ = some (.int .u64 0) := hX.cell 2
  have hX_3 : (w5.alloc (.cells #[.int .i64 1, .int .i64 1, .int .u64 0, .string ⟨#[]⟩] 28)).cell? ⟨G4, 3, none⟩ = some (.string ⟨#[]⟩) := hX.cell 3
  go_wp2_with fail
  clear hX_0 hX_1 hX_2 hX_3
  generalize w5.alloc (.cells #[.int .i64 1, .int .i64 1, .int .u64 0, .string ⟨#[]⟩] 28) = w6 at *
  generalize w5.heap.size = G6 at *
  refine (rand_VB1_VB1 _).mono ?_
  rintro e w7 ⟨rfl, q7⟩
  replace hA := hA.ca q7
  replace hB := hB.ca q7
  replace hR := hR.ca q7
  replace hX := hX.ca q7
  replace hY := hY.ca q7
  replace bb := bl_ca bb q7
  clear q7
  have lhN_hA := hA.lt
  have lhN_hB := hB.lt
  have lhN_hR := hR.lt
  have lhN_hX := hX.lt
  have lhN_hY := hY.lt
  replace hA := hA.alloc (.cells #[.int .i64 1, .int .i64 1, .int .u64 0, .string ⟨#[]⟩] 28)
  replace hB := hB.alloc (.cells #[.int .i64 1, .int .i64 1, .int .u64 0, .string ⟨#[]⟩] 28)
  replace hR := hR.alloc (.cells #[.int .i64 1, .int .i64 1, .int .u64 0, .string ⟨#[]⟩] 28)
  replace hX := hX.alloc (.cells #[.int .i64 1, .int .i64 1, .int .u64 0, .string ⟨#[]⟩] 28)
  replace hY := hY.alloc (.cells #[.int .i64 1, .int .i64 1, .int .u64 0, .string ⟨#[]⟩] 28)
  have hN := Blk.new w7 28 #[.int .i64 1, .int .i64 1, .int .u64 0, .string ⟨#[]⟩]
  have bz := bb.size
  replace bb := bl_al bb (.cells #[.int .i64 1, .int .i64 1, .int .u64 0, .string ⟨#[]⟩] 28)
  go_wp2_with fail
  generalize w7.alloc (.cells #[.int .i64 1, .int .i64 1, .int .u64 0, .string ⟨#[]⟩] 28) = w8 at *
  generalize w7.heap.size = G8 at *
  refine (rnot_VB1 _).mono ?_
  rintro e w9 ⟨rfl, q9⟩
  replace hA := hA.ca q9
  replace hB := hB.ca q9
  replace hR := hR.ca q9
  replace hX := hX.ca q9
  replace hY := hY.ca q9
  replace hN := hN.ca q9
  replace bb := bl_ca bb q9
  clear q9
  have KR := Lib.hid hR
  clear hR
  go_wp2_with (refine wpList_store_blk rfl 28 (.tmp 4) (.tmp 38) rfl (w.heap.size + 1 + 1) 28 _ _ rfl rfl KR.out rfl valI (one4 _ _ _ _) ?_; intro wz hZ gz)
  exact bodyPost_ret (res2 Tryd.results33 rfl rfl hZ Tryd.underlying28 rfl valI) rfl ⟨rfl, bl_gr bb gz (by omega)⟩
set_option maxRecDepth 100000 in
set_option maxHeartbeats 4000000 in
theorem ror_VB0_VB1 (w : World) : Calls Tryd.prog 33 #[.agg #[.int .i64 1, .int .i64 0, .int .u64 0, .string ⟨#[]⟩], .agg #[.int .i64 1, .int .i64 1, .int .u64 0, .string ⟨#[]⟩]] w fun e w' => e = .returned (.tuple #[.agg #[.int .i64 1, .int .i64 1, .int .u64 0, .string ⟨#[]⟩], .int .i64 0]) ∧ Below w.heap.size w w' := by
  have hA := (((Blk.new w 28 #[.int .i64 1, .int .i64 0, .int .u64 0, .string ⟨#[]⟩]).alloc (.cells #[.int .i64 1, .int .i64 1, .int .u64 0, .string ⟨#[]⟩] 28)).alloc (.cells #[.int .i64 0, .int .i64 0, .int .u64 0, .string ⟨#[]⟩] 28))
  have hB := ((Blk.new (w.alloc (.cells #[.int .i64 1, .int .i64 0, .int .u64 0, .string ⟨#[]⟩] 28)) 28 #[.int .i64 1, .int .i64 1, .int .u64 0, .string ⟨#[]⟩]).alloc (.cells #[.int .i64 0, .int .i64 0, .int .u64 0, .string ⟨#[]⟩] 28))
  have hR := (Blk.new ((w.alloc (.cells #[.int .i64 1, .int .i64 0, .int .u64 0, .string ⟨#[]⟩] 28)).alloc (.cells #[.int .i64 1, .int .i64 1, .int .u64 0, .string ⟨#[]⟩] 28)) 28 #[.int .i64 0, .int .i64 0, .int .u64 0, .string ⟨#[]⟩])
  have bb := (bl_al (bl_al (bl_al (Below.refl w.heap.size w) (.cells #[.int .i64 1, .int .i64 0, .int .u64 0, .string ⟨#[]⟩] 28)) (.cells #[.int .i64 1, .int .i64 1, .int .u64 0, .string ⟨#[]⟩] 28)) (.cells #[.int .i64 0, .int .i64 0, .int .u64 0, .string ⟨#[]⟩] 28))
  simp only [World.size_alloc] at hB hR
  go_enter Tryd.func33, Tryd.ntmps33
  go_wp2_with fail
  generalize (((w.alloc (.cells #[.int .i64 1, .int .i64 0, .int .u64 0, .string ⟨#[]⟩] 28)).alloc (.cells #[.int .i64 1, .int .i64 1, .int .u64 0, .string ⟨#[]⟩] 28)).alloc (.cells #[.int .i64 0, .int .i64 0, .int .u64 0, .string ⟨#[]⟩] 28)) = w1 at *
  have hA_0 : w1.cell? ⟨w.heap.size, 0, none⟩ = some (.int .i64 1) := hA.cell 0
  have hA_1 : w1.cell? ⟨w.heap.size, 1, none⟩ = some (.int .i64 0) := hA.cell 1
  have hA_2 : w1.cell? ⟨w.heap.size, 2, none⟩ = some (.int .u64 0) := hA.cell 2
  have hA_3 : w1.cell? ⟨w.heap.size, 3, none⟩ = some (.string ⟨#[]⟩) := hA.cell 3
  have hB_0 : w1.cell? ⟨w.heap.size + 1, 0, none⟩ = some (.int .i64 1) := hB.cell 0
  have hB_1 : w1.cell? ⟨w.heap.size + 1, 1, none⟩ = some (.int .i64 1) := hB.cell 1
  have hB_2 : w1.cell? ⟨w.heap.size + 1, 2, none⟩ = some (.int .u64 0) := hB.cell 2
  have hB_3 : w1.cell? ⟨w.heap.size + 1, 3, none⟩ = some (.string ⟨#[]⟩) := hB.cell 3
  go_wp2_with fail
  refine (rtr_VB0_VB1 _).mono ?_
  rintro e w2 ⟨rfl, q2⟩
  clear hA_0 hA_1 hA_2 hA_3 hB_0 hB_1 hB_2 hB_3
  replace hA := hA.ca q2
  replace hB := hB.ca q2
  replace hR := hR.ca q2
  replace bb := bl_ca bb q2
  clear q2
  have lb := bb.size
  have hA_0 : w2.cell? ⟨w.heap.size, 0, none⟩ = some (.int .i64 1) := hA.cell 0
  have hA_1 : w2.cell? ⟨w.heap.size, 1, none⟩ = some (.int .i64 0) := hA.cell 1
  have hA_2 : w2.cell? ⟨w.heap.size, 2, none⟩ = some (.int .u64 0) := hA.cell 2
  have hA_3 : w2.cell? ⟨w.heap.size, 3, none⟩ = some (.string ⟨#[]⟩) := hA.cell 3
  go_wp2_with fail
  refine (rnot_VB0 _).mono ?_
  rintro e w3 ⟨rfl, q3⟩
  clear hA_0 hA_1 hA_2 hA_3
  replace hA := hA.ca q3
  replace hB := hB.ca q3
  replace hR := hR.ca q3
  replace bb := bl_ca bb q3
  clear q3
  have lhX_hA := hA.lt
  have lhX_hB := hB.lt
  have lhX_hR := hR.lt
  replace hA := hA.alloc (.cells #[.int .i64 1, .int .i64 1, .int .u64 0, .string ⟨#[]⟩] 28)
  replace hB := hB.alloc (.cells #[.int .i64 1, .int .i64 1, .int .u64 0, .string ⟨#[]⟩] 28)
  replace hR := hR.alloc (.cells #[.int .i64 1, .int .i64 1, .int .u64 0, .string ⟨#[]⟩] 28)
  have hX := Blk.new w3 28 #[.int .i64 1, .int .i64 1, .int .u64 0, .string ⟨#[]⟩]
  have bz := bb.size
  replace bb := bl_al bb (.cells #[.int .i64 1, .int .i64 1, .int .u64 0, .string ⟨#[]⟩] 28)
  have hB_0 : (w3.alloc (.cells #[.int .i64 1, .int .i64 1, .int .u64 0, .string ⟨#[]⟩] 28)).cell? ⟨w.heap.size + 1, 0, none⟩ = some (.int .i64 1) := hB.cell 0
  have hB_1 : (w3.alloc (.cells #[.int .i64 1, .int .i64 1, .int .u64 0, .string ⟨#[]⟩] 28)).cell? ⟨w.heap.size + 1, 1, none⟩ = some (.int .i64 1) := hB.cell 1
  have hB_2 : (w3.alloc (.cells #[.int .i64 1, .int .i64 1, .int .u64 0, .string ⟨#[]⟩] 28)).cell? ⟨w.heap.size + 1, 2, none⟩ = some (.int .u64 0) := hB.cell 2
  have hB_3 : (w3.alloc (.cells #[.int .i64 1, .int .i64 1, .int .u64 0, .string ⟨#[]⟩] 28)).cell? ⟨w.heap.size + 1, 3, none⟩ = some (.string ⟨#[]⟩) := hB.cell 3
  go_wp2_with fail
  clear hB_0 hB_1 hB_2 hB_3
  generalize w3.alloc (.cells #[.int .i64 1, .int .i64 1, .int .u64 0, .string ⟨#[]⟩] 28) = w4 at *
  generalize w3.heap.size = G4 at *
  refine (rnot_VB1 _).mono ?_
  rintro e w5 ⟨rfl, q5⟩
  replace hA := hA.ca q5
  replace hB := hB.ca q5
  replace hR := hR.ca q5
  replace hX := hX.ca q5
  replace bb := bl_ca bb q5
  clear q5
  have lhY_hA := hA.lt
  have lhY_hB := hB.lt
  have lhY_hR := hR.lt
  have lhY_hX := hX.lt
  replace hA := hA.alloc (.cells #[.int .i64 1, .int .i64 0, .int .u64 0, .string ⟨#[]⟩] 28)
  replace hB := hB.alloc (.cells #[.int .i64 1, .int .i64 0, .int .u64 0, .string ⟨#[]⟩] 28)
  replace hR := hR.alloc (.cells #[.int .i64 1, .int .i64 0, .int .u64 0, .string ⟨#[]⟩] 28)
  replace hX := hX.alloc (.cells #[.int .i64 1, .int .i64 0, .int .u64 0, .string ⟨#[]⟩] 28)
  have hY := Blk.new w5 28 #[.int .i64 1, .int .i64 0, .int .u64 0, .string ⟨#[]⟩]
  have bz := bb.size
  replace bb := bl_al bb (.cells #[.int .i64 1, .int .i64 0, .int .u64 0, .string ⟨#[]⟩] 28)
  have hX_0 : (w5.alloc (.cells #[.int .i64 1, .int .i64 0, .int .u64 0, .string ⟨#[]⟩] 28)).cell? ⟨G4, 0, none⟩ = some (.int .i64 1) := hX.cell 0
  have hX_1 : (w5.alloc (.cells #[.int .i64 1, .int .i64 0, .int .u64 0, .string ⟨#[]⟩] 28)).cell? ⟨G4, 1, none⟩ = some (.int .i64 1) := hX.cell 1
  have hX_2 : (w5.alloc (.cells #[.int .i64 1, .int .i64 0, .int .u64 0, .string ⟨#[]⟩] 28)).cell? ⟨G4, 2, none⟩ = some (.int .u64 0) := hX.cell 2
  have hX_3 : (w5.alloc (.cells #[.int .i64 1, .int .i64 0, .int .u64 0, .string ⟨#[]⟩] 28)).cell? ⟨G4, 3, none⟩ = some (.string ⟨#[]⟩) := hX.cell 3
  go_wp2_with fail
  clear hX_0 hX_1 hX_2 hX_3
  generalize w5.alloc (.cells #[.int .i64 1, .int .i64 0, .int .u64 0, .string ⟨#[]⟩] 28) = w6 at *
  generalize w5.heap.size = G6 at *
  refine (rand_VB1_VB0 _).mono ?_
  rintro e w7 ⟨rfl, q7⟩
  replace hA := hA.ca q7
  replace hB := hB.ca q7
  replace hR := hR.ca q7
  replace hX := hX.ca q7
  replace hY := hY.ca q7
  replace bb := bl_ca bb q7
  clear q7
  have lhN_hA := hA.lt
  have lhN_hB := hB.lt
  have lhN_hR := hR.lt
  have lhN_hX := hX.lt
  have lhN_hY := hY.lt
  replace hA := hA.alloc (.cells #[.int .i64 1, .int .i64 0, .int .u64 0, .string ⟨#[]⟩] 28)
  replace hB := hB.alloc (.cells #[.int .i64 1, .int .i64 0, .int .u64 0, .string ⟨#[]⟩] 28)
  replace hR := hR.alloc (.cells #[.int .i64 1, .int .i64 0, .int .u64 0, .string ⟨#[]⟩] 28)
  replace hX := hX.alloc (.cells #[.int .i64 1, .int .i64 0, .int .u64 0, .string ⟨#[]⟩] 28)
  replace hY := hY.alloc (.cells #[.int .i64 1, .int .i64 0, .int .u64 0, .string ⟨#[]⟩] 28)
  have hN := Blk.new w7 28 #[.int .i64 1, .int .i64 0, .int .u64 0, .string ⟨#[]⟩]
  have bz := bb.size
  replace bb := bl_al bb (.cells #[.int .i64 1, .int .i64 0, .int .u64 0, .string ⟨#[]⟩] 28)
  go_wp2_with fail
  generalize w7.alloc (.cells #[.int .i64 1, .int .i64 0, .int .u64 0, .string ⟨#[]⟩] 28) = w8 at *
  generalize w7.heap.size = G8 at *
  refine (rnot_VB0 _).mono ?_
  rintro e w9 ⟨rfl, q9⟩
  replace hA := hA.ca q9
  replace hB := hB.ca q9
  replace hR := hR.ca q9
  replace hX := hX.ca q9
  replace hY := hY.ca q9
  replace hN := hN.ca q9
  replace bb := bl_ca bb q9
  clear q9
  have KR := Lib.hid hR
  clear hR
  go_wp2_with (refine wpList_store_blk rfl 28 (.tmp 4) (.tmp 38) rfl (w.heap.size + 1 + 1) 28 _ _ rfl rfl KR.out rfl valI (one4 _ _ _ _) ?_; intro wz hZ gz)
  exact bodyPost_ret (res2 Tryd.results33 rfl rfl hZ Tryd.underlying28 rfl valI) rfl ⟨rfl, bl_gr bb gz (by omega)⟩
set_option maxRecDepth 100000 in
set_option maxHeartbeats 4000000 in
theorem ror_VB1_V0 (w : World) : Calls Tryd.prog 33 #[.agg #[.int .i64 1, .int .i64 1, .int .u64 0, .string ⟨#[]⟩], .agg #[.int .i64 0, .int .i64 0, .int .u64 0, .string ⟨#[]⟩]] w fun e w' => e = .returned (.tuple #[.agg #[.int .i64 1, .int .i64 1, .int .u64 0, .string ⟨#[]⟩], .int .i64 0]) ∧ Below w.heap.size w w' := by
  have hA := (((Blk.new w 28 #[.int .i64 1, .int .i64 1, .int .u64 0, .string ⟨#[]⟩]).alloc (.cells #[.int .i64 0, .int .i64 0, .int .u64 0, .string ⟨#[]⟩] 28)).alloc (.cells #[.int .i64 0, .int .i64 0, .int .u64 0, .string ⟨#[]⟩] 28))
  have hB := ((Blk.new (w.alloc (.cells #[.int .i64 1, .int .i64 1, .int .u64 0, .string ⟨#[]⟩] 28)) 28 #[.int .i64 0, .int .i64 0, .int .u64 0, .string ⟨#[]⟩]).alloc (.cells #[.int .i64 0, .int .i64 0, .int .u64 0, .string ⟨#[]⟩] 28))
  have hR := (Blk.new ((w.alloc (.cells #[.int .i64 1, .int .i64 1, .int .u64 0, .string ⟨#[]⟩] 28)).alloc (.cells #[.int .i64 0, .int .i64 0, .int .u64 0, .string ⟨#[]⟩] 28)) 28 #[.int .i64 0, .int .i64 0, .int .u64 0, .string ⟨#[]⟩])
  have bb := (bl_al (bl_al (bl_al (Below.refl w.heap.size w) (.cells #[.int .i64 1, .int .i64 1, .int .u64 0, .string ⟨#[]⟩] 28)) (.cells #[.int .i64 0, .int .i64 0, .int .u64 0, .string ⟨#[]⟩] 28)) (.cells #[.int .i64 0, .int .i64 0, .int .u64 0, .string ⟨#[]⟩] 28))
  simp only [World.size_alloc] at hB hR
  go_enter Tryd.func33, Tryd.ntmps33
  go_wp2_with fail
  generalize (((w.alloc (.cells #[.int .i64 1, .int .i64 1, .int .u64 0, .string ⟨#[]⟩] 28)).alloc (.cells #[.int .i64 0, .int .i64 0, .int .u64 0, .string ⟨#[]⟩] 28)).alloc (.cells #[.int .i64 0, .int .i64 0, .int .u64 0, .string ⟨#[]⟩] 28)) = w1 at *
  have hA_0 : w1.cell? ⟨w.heap.size, 0, none⟩ = some (.int .i64 1) := hA.cell 0
  have hA_1 : w1.cell? ⟨w.heap.size, 1, none⟩ = some (.int .i64 1) := hA.cell 1
  have hA_2 : w1.cell? ⟨w.heap.size, 2, none⟩ = some (.int .u64 0) := hA.cell 2
  have hA_3 : w1.cell? ⟨w.heap.size, 3, none⟩ = some (.string ⟨#[]⟩) := hA.cell 3
  have hB_0 : w1.cell? ⟨w.heap.size + 1, 0, none⟩ = some (.int .i64 0) := hB.cell 0
  have hB_1 : w1.cell? ⟨w.heap.size + 1, 1, none⟩ = some (.int .i64 0) := hB.cell 1
  have hB_2 : w1.cell? ⟨w.heap.size + 1, 2, none⟩ = some (.int .u64 0) := hB.cell 2
  have hB_3 : w1.cell? ⟨w.heap.size + 1, 3, none⟩ = some (.string ⟨#[]⟩) := hB.cell 3
  go_wp2_with fail
  refine (rtr_VB1_V0 _).mono ?_
  rintro e w2 ⟨rfl, q2⟩
  clear hA_0 hA_1 hA_2 hA_3 hB_0 hB_1 hB_2 hB_3
  replace hA := hA.ca q2
  replace hB := hB.ca q2
  replace hR := hR.ca q2
  replace bb := bl_ca bb q2
  clear q2
  have lb := bb.size
  have hA_0 : w2.cell? ⟨w.heap.size, 0, none⟩ = some (.int .i64 1) := hA.cell 0
  have hA_1 : w2.cell? ⟨w.heap.size, 1, none⟩ = some (.int .i64 1) := hA.cell 1
  have hA_2 : w2.cell? ⟨w.heap.size, 2, none⟩ = some (.int .u64 0) := hA.cell 2
  have hA_3 : w2.cell? ⟨w.heap.size, 3, none⟩ = some (.string ⟨#[]⟩) := hA.cell 3
  go_wp2_with fail
  refine (rnot_VB1 _).mono ?_
  rintro e w3 ⟨rfl, q3⟩
  clear hA_0 hA_1 hA_2 hA_3
  replace hA := hA.ca q3
  replace hB := hB.ca q3
  replace hR := hR.ca q3
  replace bb := bl_ca bb q3
  clear q3
  have lhX_hA := hA.lt
  have lhX_hB := hB.lt
  have lhX_hR := hR.lt
  replace hA := hA.alloc (.cells #[.int .i64 1, .int .i64 0, .int .u64 0, .string ⟨#[]⟩] 28)
  replace hB := hB.alloc (.cells #[.int .i64 1, .int .i64 0, .int .u64 0, .string ⟨#[]⟩] 28)
  replace hR := hR.alloc (.cells #[.int .i64 1, .int .i64 0, .int .u64 0, .string ⟨#[]⟩] 28)
  have hX := Blk.new w3 28 #[.int .i64 1, .int .i64 0, .int .u64 0, .string ⟨#[]⟩]
  have bz := bb.size
  replace bb := bl_al bb (.cells #[.int .i64 1, .int .i64 0, .int .u64 0, .string ⟨#[]⟩] 28)
  have hB_0 : (w3.alloc (.cells #[.int .i64 1, .int .i64 0, .int .u64 0, .string ⟨#[]⟩] 28)).cell? ⟨w.heap.size + 1, 0, none⟩ = some (.int .i64 0) := hB.cell 0
  have hB_1 : (w3.alloc (.cells #[.int .i64 1, .int .i64 0, .int .u64 0, .string ⟨#[]⟩] 28)).cell? ⟨w.heap.size + 1, 1, none⟩ = some (.int .i64 0) := hB.cell 1
  have hB_2 : (w3.alloc (.cells #[.int .i64 1, .int .i64 0, .int .u64 0, .string ⟨#[]⟩] 28)).cell? ⟨w.heap.size + 1, 2, none⟩ = some (.int .u64 0) := hB.cell 2
  have hB_3 : (w3.alloc (.cells #[.int .i64 1, .int .i64 0, .int .u64 0, .string ⟨#[]⟩] 28)).cell? ⟨w.heap.size + 1, 3, none⟩ = some (.string ⟨#[]⟩) := hB.cell 3
  go_wp2_with fail
  clear hB_0 hB_1 hB_2 hB_3
  generalize w3.alloc (.cells #[.int .i64 1, .int .i64 0, .int .u64 0, .string ⟨#[]⟩] 28) = w4 at *
  generalize w3.heap.size = G4 at *
  refine (rnot_V0 _).mono ?_
  rintro e w5 ⟨rfl, q5⟩
  replace hA := hA.ca q5
  replace hB := hB.ca q5
  replace hR := hR.ca q5
  replace hX := hX.ca q5
  replace bb := bl_ca bb q5
  clear q5
  have lhY_hA := hA.lt
  have lhY_hB := hB.lt
  have lhY_hR := hR.lt
  have lhY_hX := hX.lt
  replace hA := hA.alloc (.cells #[.int .i64 0, .int .i64 0, .int .u64 0, .string ⟨#[]⟩] 28)
  replace hB := hB.alloc (.cells #[.int .i64 0, .int .i64 0, .int .u64 0, .string ⟨#[]⟩] 28)
  replace hR := hR.alloc (.cells #[.int .i64 0, .int .i64 0, .int .u64 0, .string ⟨#[]⟩] 28)
  replace hX := hX.alloc (.cells #[.int .i64 0, .int .i64 0, .int .u64 0, .string ⟨#[]⟩] 28)
  have hY := Blk.new w5 28 #[.int .i64 0, .int .i64 0, .int .u64 0, .string ⟨#[]⟩]
  have bz := bb.size
  replace bb := bl_al bb (.cells #[.int .i64 0, .int .i64 0, .int .u64 0, .string ⟨#[]⟩] 28)
  have hX_0 : (w5.alloc (.cells #[.int .i64 0, .int .i64 0, .int .u64 0, .string ⟨#[]⟩] 28)).cell? ⟨G4, 0, none⟩ = some (.int .i64 1) := hX.cell 0
  have hX_1 : (w5.alloc (.cells #[.int .i64 0, .int .i64 0, .int .u64 0, .string ⟨#[]⟩] 28)).cell? ⟨G4, 1, none⟩ = some (.int .i64 0) := hX.cell 1
  have hX_2 : (w5.alloc (.cells #[.int .i64 0, .int .i64 0, .int .u64 0, .string ⟨#[]⟩] 28)).cell? ⟨G4, 2, none⟩ = some (.int .u64 0) := hX.cell 2
  have hX_3 : (w5.alloc (.cells #[.int .i64 0, .int .i64 0, .int .u64 0, .string ⟨#[]⟩] 28)).cell? ⟨G4, 3, none⟩ = some (.string ⟨#[]⟩) := hX.cell 3
  go_wp2_with fail
  clear hX_0 hX_1 hX_2 hX_3
  generalize w5.alloc (.cells #[.int .i64 0, .int .i64 0, .int .u64 0, .string ⟨#[]⟩] 28) = w6 at *
  generalize w5.heap.size = G6 at *
  refine (rand_VB0_V0 _).mono ?_
  rintro e w7 ⟨rfl, q7⟩
  replace hA := hA.ca q7
  replace hB := hB.ca q7
  replace hR := hR.ca q7
  replace hX := hX.ca q7
  replace hY := hY.ca q7
  replace bb := bl_ca bb q7
  clear q7
  have lhN_hA := hA.lt
  have lhN_hB := hB.lt
  have lhN_hR := hR.lt
  have lhN_hX := hX.lt
  have lhN_hY := hY.lt
  replace hA := hA.alloc (.cells #[.int .i64 1, .int .i64 0, .int .u64 0, .string ⟨#[]⟩] 28)
  replace hB := hB.alloc (.cells #[.int .i64 1, .int .i64 0, .int .u64 0, .string ⟨#[]⟩] 28)
  replace hR := hR.alloc (.cells #[.int .i64 1, .int .i64 0, .int .u64 0, .string ⟨#[]⟩] 28)
  replace hX := hX.alloc (.cells #[.int .i64 1, .int .i64 0, .int .u64 0, .string ⟨#[]⟩] 28)
  replace hY := hY.alloc (.cells #[.int .i64 1, .int .i64 0, .int .u64 0, .string ⟨#[]⟩] 28)
  have hN := Blk.new w7 28 #[.int .i64 1, .int .i64 0, .int .u64 0, .string ⟨#[]⟩]
  have bz := bb.size
  replace bb := bl_al bb (.cells #[.int .i64 1, .int .i64 0, .int .u64 0, .string ⟨#[]⟩] 28)
  go_wp2_with fail
  generalize w7.alloc (.cells #[.int .i64 1, .int .i64 0, .int .u64 0, .string ⟨#[]⟩] 28) = w8 at *
  generalize w7.heap.size = G8 at *
  refine (rnot_VB0 _).mono ?_
  rintro e w9 ⟨rfl, q9⟩
  replace hA := hA.ca q9
  replace hB := hB.ca q9
  replace hR := hR.ca q9
  replace hX := hX.ca q9
  replace hY := hY.ca q9
  replace hN := hN.ca q9
  replace bb := bl_ca bb q9
  clear q9
  have KR := Lib.hid hR
  clear hR
  go_wp2_with (refine wpList_store_blk rfl 28 (.tmp 4) (.tmp 38) rfl (w.heap.size + 1 + 1) 28 _ _ rfl rfl KR.out rfl valI (one4 _ _ _ _) ?_; intro wz hZ gz)
  exact bodyPost_ret (res2 Tryd.results33 rfl rfl hZ Tryd.underlying28 rfl valI) rfl ⟨rfl, bl_gr bb gz (by omega)⟩
set_option maxRecDepth 100000 in
set_option maxHeartbeats 4000000 in
theorem ror_VB1_VB0 (w : World) : Calls Tryd.prog 33 #[.agg #[.int .i64 1, .int .i64 1, .int .u64 0, .string ⟨#[]⟩], .agg #[.int .i64 1, .int .i64 0, .int .u64 0, .string ⟨#[]⟩]] w fun e w' => e = .returned (.tuple #[.agg #[.int .i64 1, .int .i64 1, .int .u64 0, .string ⟨#[]⟩], .int .i64 0]) ∧ Below w.heap.size w w' := by
  have hA := (((Blk.new w 28 #[.int .i64 1, .int .i64 1, .int .u64 0, .string ⟨#[]⟩]).alloc (.cells #[.int .i64 1, .int .i64 0, .int .u64 0, .string ⟨#[]⟩] 28)).alloc (.cells #[.int .i64 0, .int .i64 0, .int .u64 0, .string ⟨#[]⟩] 28))
  have hB := ((Blk.new (w.alloc (.cells #[.int .i64 1, .int .i64 1, .int .u64 0, .string ⟨#[]⟩] 28)) 28 #[.int .i64 1, .int .i64 0, .int .u64 0, .string ⟨#[]⟩]).alloc (.cells #[.int .i64 0, .int .i64 0, .int .u64 0, .string ⟨#[]⟩] 28))
  have hR := (Blk.new ((w.alloc (.cells #[.int .i64 1, .int .i64 1, .int .u64 0, .string ⟨#[]⟩] 28)).alloc (.cells #[.int .i64 1, .int .i64 0, .int .u64 0, .string ⟨#[]⟩] 28)) 28 #[.int .i64 0, .int .i64 0, .int .u64 0, .string ⟨#[]⟩])
  have bb := (bl_al (bl_al (bl_al (Below.refl w.heap.size w) (.cells #[.int .i64 1, .int .i64 1, .int .u64 0, .string ⟨#[]⟩] 28)) (.cells #[.int .i64 1, .int .i64 0, .int .u64 0, .string ⟨#[]⟩] 28)) (.cells #[.int .i64 0, .int .i64 0, .int .u64 0, .string ⟨#[]⟩] 28))
  simp only [World.size_alloc] at hB hR
  go_enter Tryd.func33, Tryd.ntmps33
  go_wp2_with fail
  generalize (((w.alloc (.cells #[.int .i64 1, .int .i64 1, .int .u64 0, .string ⟨#[]⟩] 28)).alloc (.cells #[.int .i64 1, .int .i64 0, .int .u64 0, .string ⟨#[]⟩] 28)).alloc (.cells #[.int .i64 0, .int .i64 0, .int .u64 0, .string ⟨#[]⟩] 28)) = w1 at *
  have hA_0 : w1.cell? ⟨w.heap.size, 0, none⟩ = some (.int .i64 1) := hA.cell 0
  have hA_1 : w1.cell? ⟨w.heap.size, 1, none⟩ = some (.int .i64 1) := hA.cell 1
  have hA_2 : w1.cell? ⟨w.heap.size, 2, none⟩ = some (.int .u64 0) := hA.cell 2
  have hA_3 : w1.cell? ⟨w.heap.size, 3, none⟩ = some (.string ⟨#[]⟩) := hA.cell 3
  have hB_0 : w1.cell? ⟨w.heap.size + 1, 0, none⟩ = some (.int .i64 1) := hB.cell 0
  have hB_1 : w1.cell? ⟨w.heap.size + 1, 1, none⟩ = some (.int .i64 0) := hB.cell 1
  have hB_2 : w1.cell? ⟨w.heap.size + 1, 2, none⟩ = some (.int .u64 0) := hB.cell 2
  have hB_3 : w1.cell? ⟨w.heap.size + 1, 3, none⟩ = some (.string ⟨#[]⟩) := hB.cell 3
  go_wp2_with fail
  refine (rtr_VB1_VB0 _).mono ?_
  rintro e w2 ⟨rfl, q2⟩
  clear hA_0 hA_1 hA_2 hA_3 hB_0 hB_1 hB_2 hB_3
  replace hA := hA.ca q2
  replace hB := hB.ca q2
  replace hR := hR.ca q2
  replace bb := bl_ca bb q2
  clear q2
  have lb := bb.size
  have hA_0 : w2.cell? ⟨w.heap.size, 0, none⟩ = some (.int .i64 1) := hA.cell 0
  have hA_1 : w2.cell? ⟨w.heap.size, 1, none⟩ = some (.int .i64 1) := hA.cell 1
  have hA_2 : w2.cell? ⟨w.heap.size, 2, none⟩ = some (.int .u64 0) := hA.cell 2
  have hA_3 : w2.cell? ⟨w.heap.size, 3, none⟩ = some (.string ⟨#[]⟩) := hA.cell 3
  go_wp2_with fail
  refine (rnot_VB1 _).mono ?_
  rintro e w3 ⟨rfl, q3⟩
  clear hA_0 hA_1 hA_2 hA_3
  replace hA := hA.ca q3
  replace hB := hB.ca q3
  replace hR := hR.ca q3
  replace bb := bl_ca bb q3
  clear q3
  have lhX_hA := hA.lt
  have lhX_hB := hB.lt
  have lhX_hR := hR.lt
  replace hA := hA.alloc (.cells #[.int .i64 1, .int .i64 0, .int .u64 0, .string ⟨#[]⟩] 28)
  replace hB := hB.alloc (.cells #[.int .i64 1, .int .i64 0, .int .u64 0, .string ⟨#[]⟩] 28)
  replace hR := hR.alloc (.cells #[.int .i64 1, .int .i64 0, .int .u64 0, .string ⟨#[]⟩] 28)
  have hX := Blk.new w3 28 #[.int .i64 1, .int .i64 0, .int .u64 0, .string ⟨#[]⟩]
  have bz := bb.size
  replace bb := bl_al bb (.cells #[.int .i64 1, .int .i64 0, .int .u64 0, .string ⟨#[]⟩] 28)
  have hB_0 : (w3.alloc (.cells #[.int .i64 1, .int .i64 0, .int .u64 0, .string ⟨#[]⟩] 28)).cell? ⟨w.heap.size + 1, 0, none⟩ = some (.int .i64 1) := hB.cell 0
  have hB_1 : (w3.alloc (.cells #[.int .i64 1, .int .i64 0, .int .u64 0, .string ⟨#[]⟩] 28)).cell? ⟨w.heap.size + 1, 1, none⟩ = some (.int .i64 0) := hB.cell 1
  have hB_2 : (w3.alloc (.cells #[.int .i64 1, .int .i64 0, .int .u64 0, .string ⟨#[]⟩] 28)).cell? ⟨w.heap.size + 1, 2, none⟩ = some (.int .u64 0) := hB.cell 2
  have hB_3 : (w3.alloc (.cells #[.int .i64 1, .int .i64 0, .int .u64 0, .string ⟨#[]⟩] 28)).cell? ⟨w.heap.size + 1, 3, none⟩ = some (.string ⟨#[]⟩) := hB.cell 3
  go_wp2_with fail
  clear hB_0 hB_1 hB_2 hB_3
  generalize w3.alloc (.cells #[.int .i64 1, .int .i64 0, .int .u64 0, .string ⟨#[]⟩] 28) = w4 at *
  generalize w3.heap.size = G4 at *
  refine (rnot_VB0 _).mono ?_
  rintro e w5 ⟨rfl, q5⟩
  replace hA := hA.ca q5
  replace hB := hB.ca q5
  replace hR := hR.ca q5
  replace hX := hX.ca q5
  replace bb := bl_ca bb q5
  clear q5
  have lhY_hA := hA.lt
  have lhY_hB := hB.lt
  have lhY_hR := hR.lt
  have lhY_hX := hX.lt
  replace hA := hA.alloc (.cells #[.int .i64 1, .int .i64 1, .int .u64 0, .string ⟨#[]⟩] 28)
  replace hB := hB.alloc (.cells #[.int .i64 1, .int .i64 1, .int .u64 0, .string ⟨#[]⟩] 28)
  replace hR := hR.alloc (.cells #[.int .i64 1, .int .i64 1, .int .u64 0, .string ⟨#[]⟩] 28)
  replace hX := hX.alloc (.cells #[.int .i64 1, .int .i64 1, .int .u64 0, .string ⟨#[]⟩] 28)
  have hY := Blk.new w5 28 #[.int .i64 1, .int .i64 1, .int .u64 0, .string ⟨#[]⟩]
  have bz := bb.size
  replace bb := bl_al bb (.cells #[.int .i64 1, .int .i64 1, .int .u64 0, .string ⟨#[]⟩] 28)
  have hX_0 : (w5.alloc (.cells #[.int .i64 1, .int .i64 1, .int .u64 0, .string ⟨#[]⟩] 28)).cell? ⟨G4, 0, none⟩ = some (.int .i64 1) := hX.cell 0
  have hX_1 : (w5.alloc (.cells #[.int .i64 1, .int .i64 1, .int .u64 0, .string ⟨#[]⟩] 28)).cell? ⟨G4, 1, none⟩ = some (.int .i64 0) := hX.cell 1
  have hX_2 : (w5.alloc (.cells #[.int .i64 1, .int .i64 1, .int .u64 0, .string ⟨#[]⟩] 28)).cell? ⟨G4, 2, none⟩ = some (.int .u64 0) := hX.cell 2
  have hX_3 : (w5.alloc (.cells #[.int .i64 1, .int .i64 1, .int .u64 0, .string ⟨#[]⟩] 28)).cell? ⟨G4, 3, none⟩ = some (.string ⟨#[]⟩) := hX.cell 3
  go_wp2_with fail
  clear hX_0 hX_1 hX_2 hX_3
  generalize w5.alloc (.cells #[.int .i64 1, .int .i64 1, .int .u64 0, .string ⟨#[]⟩] 28) = w6 at *
  generalize w5.heap.size = G6 at *
  refine (rand_VB0_VB1 _).mono ?_
  rintro e w7 ⟨rfl, q7⟩
  replace hA := hA.ca q7
  replace hB := hB.ca q7
  replace hR := hR.ca q7
  replace hX := hX.ca q7
  replace hY := hY.ca q7
  replace bb := bl_ca bb q7
  clear q7
  have lhN_hA := hA.lt
  have lhN_hB := hB.lt
  have lhN_hR := hR.lt
  have lhN_hX := hX.lt
  have lhN_hY := hY.lt
  replace hA := hA.alloc (.cells #[.int .i64 1, .int .i64 0, .int .u64 0, .string ⟨#[]⟩] 28)
  replace hB := hB.alloc (.cells #[.int .i64 1, .int .i64 0, .int .u64 0, .string ⟨#[]⟩] 28)
  replace hR := hR.alloc (.cells #[.int .i64 1, .int .i64 0, .int .u64 0, .string ⟨#[]⟩] 28)
  replace hX := hX.alloc (.cells #[.int .i64 1, .int .i64 0, .int .u64 0, .string ⟨#[]⟩] 28)
  replace hY := hY.alloc (.cells #[.int .i64 1, .int .i64 0, .int .u64 0, .string ⟨#[]⟩] 28)
  have hN := Blk.new w7 28 #[.int .i64 1, .int .i64 0, .int .u64 0, .string ⟨#[]⟩]
  have bz := bb.size
  replace bb := bl_al bb (.cells #[.int .i64 1, .int .i64 0, .int .u64 0, .string ⟨#[]⟩] 28)
  go_wp2_with fail
  generalize w7.alloc (.cells #[.int .i64 1, .int .i64 0, .int .u64 0, .string ⟨#[]⟩] 28) = w8 at *
  generalize w7.heap.size = G8 at *
  refine (rnot_VB0 _).mono ?_
  rintro e w9 ⟨rfl, q9⟩
  replace hA := hA.ca q9
  replace hB := hB.ca q9
  replace hR := hR.ca q9
  replace hX := hX.ca q9
  replace hY := hY.ca q9
  replace hN := hN.ca q9
  replace bb := bl_ca bb q9
  clear q9
  have KR := Lib.hid hR
  clear hR
  go_wp2_with (refine wpList_store_blk rfl 28 (.tmp 4) (.tmp 38) rfl (w.heap.size + 1 + 1) 28 _ _ rfl rfl KR.out rfl valI (one4 _ _ _ _) ?_; intro wz hZ gz)
  exact bodyPost_ret (res2 Tryd.results33 rfl rfl hZ Tryd.underlying28 rfl valI) rfl ⟨rfl, bl_gr bb gz (by omega)⟩
set_option maxRecDepth 100000 in
set_option maxHeartbeats 4000000 in
theorem ror_VB1_VB1 (w : World) : Calls Tryd.prog 33 #[.agg #[.int .i64 1, .int .i64 1, .int .u64 0, .string ⟨#[]⟩], .agg #[.int .i64 1, .int .i64 1, .int .u64 0, .string ⟨#[]⟩]] w fun e w' => e = .returned (.tuple #[.agg #[.int .i64 1, .int .i64 1, .int .u64 0, .string ⟨#[]⟩], .int .i64 0]) ∧ Below w.heap.size w w' := by
  have hA := (((Blk.new w 28 #[.int .i64 1, .int .i64 1, .int .u64 0, .string ⟨#[]⟩]).alloc (.cells #[.int .i64 1, .int .i64 1, .int .u64 0, .string ⟨#[]⟩] 28)).alloc (.cells #[.int .i64 0, .int .i64 0, .int .u64 0, .string ⟨#[]⟩] 28))
  have hB := ((Blk.new (w.alloc (.cells #[.int .i64 1, .int .i64 1, .int .u64 0, .string ⟨#[]⟩] 28)) 28 #[.int .i64 1, .int .i64 1, .int .u64 0, .string ⟨#[]⟩]).alloc (.cells #[.int .i64 0, .int .i64 0, .int .u64 0, .string ⟨#[]⟩] 28))
  have hR := (Blk.new ((w.alloc (.cells #[.int .i64 1, .int .i64 1, .int .u64 0, .string ⟨#[]⟩] 28)).alloc (.cells #[.int .i64 1, .int .i64 1, .int .u64 0, .string ⟨#[]⟩] 28)) 28 #[.int .i64 0, .int .i64 0, .int .u64 0, .string ⟨#[]⟩])
  have bb := (bl_al (bl_al (bl_al (Below.refl w.heap.size w) (.cells #[.int .i64 1, .int .i64 1, .int .u64 0, .string ⟨#[]⟩] 28)) (.cells #[.int .i64 1, .int .i64 1, .int .u64 0, .string ⟨#[]⟩] 28)) (.cells #[.int .i64 0, .int .i64 0, .int .u64 0, .string ⟨#[]⟩] 28))
  simp only [World.size_alloc] at hB hR
  go_enter Tryd.func33, Tryd.ntmps33
  go_wp2_with fail
  generalize (((w.alloc (.cells #[.int .i64 1, .int .i64 1, .int .u64 0, .string ⟨#[]⟩] 28)).alloc (.cells #[.int .i64 1, .int .i64 1, .int .u64 0, .string ⟨#[]⟩] 28)).alloc (.cells #[.int .i64 0, .int .i64 0, .int .u64 0, .string ⟨#[]⟩] 28)) = w1 at *
  have hA_0 : w1.cell? ⟨w.heap.size, 0, none⟩ = some (.int .i64 1) := hA.cell 0
  have hA_1 : w1.cell? ⟨w.heap.size, 1, none⟩ = some (.int .i64 1) := hA.cell 1
  have hA_2 : w1.cell? ⟨w.heap.size, 2, none⟩ = some (.int .u64 0) := hA.cell 2
  have hA_3 : w1.cell? ⟨w.heap.size, 3, none⟩ = some (.string ⟨#[]⟩) := hA.cell 3
  have hB_0 : w1.cell? ⟨w.heap.size + 1, 0, none⟩ = some (.int .i64 1) := hB.cell 0
  have hB_1 : w1.cell? ⟨w.heap.size + 1, 1, none⟩ = some (.int .i64 1) := hB.cell 1
  have hB_2 : w1.cell? ⟨w.heap.size + 1, 2, none⟩ = some (.int .u64 0) := hB.cell 2
  have hB_3 : w1.cell? ⟨w.heap.size + 1, 3, none⟩ = some (.string ⟨#[]⟩) := hB.cell 3
  go_wp2_with fail
  refine (rtr_VB1_VB1 _).mono ?_
  rintro e w2 ⟨rfl, q2⟩
  clear hA_0 hA_1 hA_2 hA_3 hB_0 hB_1 hB_2 hB_3
  replace hA := hA.ca q2
  replace hB := hB.ca q2
  replace hR := hR.ca q2
  replace bb := bl_ca bb q2
  clear q2
  have lb := bb.size
  have hA_0 : w2.cell? ⟨w.heap.size, 0, none⟩ = some (.int .i64 1) := hA.cell 0
  have hA_1 : w2.cell? ⟨w.heap.size, 1, none⟩ = some (.int .i64 1) := hA.cell 1
  have hA_2 : w2.cell? ⟨w.heap.size, 2, none⟩ = some (.int .u64 0) := hA.cell 2
  have hA_3 : w2.cell? ⟨w.heap.size, 3, none⟩ = some (.string ⟨#[]⟩) := hA.cell 3
  go_wp2_with fail
  refine (rnot_VB1 _).mono ?_
  rintro e w3 ⟨rfl, q3⟩
  clear hA_0 hA_1 hA_2 hA_3
  replace hA := hA.ca q3
  replace hB := hB.ca q3
  replace hR := hR.ca q3
  replace bb := bl_ca bb q3
  clear q3
  have lhX_hA := hA.lt
  have lhX_hB := hB.lt
  have lhX_hR := hR.lt
  replace hA := hA.alloc (.cells #[.int .i64 1, .int .i64 0, .int .u64 0, .string ⟨#[]⟩] 28)
  replace hB := hB.alloc (.cells #[.int .i64 1, .int .i64 0, .int .u64 0, .string ⟨#[]⟩] 28)
  replace hR := hR.alloc (.cells #[.int .i64 1, .int .i64 0, .int .u64 0, .string ⟨#[]⟩] 28)
  have hX := Blk.new w3 28 #[.int .i64 1, .int .i64 0, .int .u64 0, .string ⟨#[]⟩]
  have bz := bb.size
  replace bb := bl_al bb (.cells #[.int .i64 1, .int .i64 0, .int .u64 0, .string ⟨#[]⟩] 28)
  have hB_0 : (w3.alloc (.cells #[.int .i64 1, .int .i64 0, .int .u64 0, .string ⟨#[]⟩] 28)).cell? ⟨w.heap.size + 1, 0, none⟩ = some (.int .i64 1) := hB.cell 0
  have hB_1 : (w3.alloc (.cells #[.int .i64 1, .int .i64 0, .int .u64 0, .string ⟨#[]⟩] 28)).cell? ⟨w.heap.size + 1, 1, none⟩ = some (.int .i64 1) := hB.cell 1
  have hB_2 : (w3.alloc (.cells #[.int .i64 1, .int .i64 0, .int .u64 0, .string ⟨#[]⟩] 28)).cell? ⟨w.heap.size + 1, 2, none⟩ = some (.int .u64 0) := hB.cell 2
  have hB_3 : (w3.alloc (.cells #[.int .i64 1, .int .i64 0, .int .u64 0, .string ⟨#[]⟩] 28)).cell? ⟨w.heap.size + 1, 3, none⟩ = some (.string ⟨#[]⟩) := hB.cell 3
  go_wp2_with fail
  clear hB_0 hB_1 hB_2 hB_3
  generalize w3.alloc (.cells #[.int .i64 1, .int .i64 0, .int .u64 0, .string ⟨#[]⟩] 28) = w4 at *
  generalize w3.heap.size = G4 at *
  refine (rnot_VB1 _).mono ?_
  rintro e w5 ⟨rfl, q5⟩
  replace hA := hA.ca q5
  replace hB := hB.ca q5
  replace hR := hR.ca q5
  replace hX := hX.ca q5
  replace bb := bl_ca bb q5
  clear q5
  have lhY_hA := hA.lt
  have lhY_hB := hB.lt
  have lhY_hR := hR.lt
  have lhY_hX := hX.lt
  replace hA := hA.alloc (.cells #[.int .i64 1, .int .i64 0, .int .u64 0, .string ⟨#[]⟩] 28)
  replace hB := hB.alloc (.cells #[.int .i64 1, .int .i64 0, .int .u64 0, .string ⟨#[]⟩] 28)
  replace hR := hR.alloc (.cells #[.int .i64 1, .int .i64 0, .int .u64 0, .string ⟨#[]⟩] 28)
  replace hX := hX.alloc (.cells #[.int .i64 1, .int .i64 0, .int .u64 0, .string ⟨#[]⟩] 28)
  have hY := Blk.new w5 28 #[.int .i64 1, .int .i64 0, .int .u64 0, .string ⟨#[]⟩]
  have bz := bb.size
  replace bb := bl_al bb (.cells #[.int .i64 1, .int .i64 0, .int .u64 0, .string ⟨#[]⟩] 28)
  have hX_0 : (w5.alloc (.cells #[.int .i64 1, .int .i64 0, .int .u64 0, .string ⟨#[]⟩] 28)).cell? ⟨G4, 0, none⟩ = some (.int .i64 1) := hX.cell 0
  have hX_1 : (w5.alloc (.cells #[.int .i64 1, .int .i64 0, .int .u64 0, .string ⟨#[]⟩] 28)).cell? ⟨G4, 1, none⟩ = some (.int .i64 0) := hX.cell 1
  have hX_2 : (w5.alloc (.cells #[.int .i64 1, .int .i64 0, .int .u64 0, .string ⟨#[]⟩] 28)).cell? ⟨G4, 2, none⟩ = some (.int .u64 0) := hX.cell 2
  have hX_3 : (w5.alloc (.cells #[.int .i64 1, .int .i64 0, .int .u64 0, .string ⟨#[]⟩] 28)).cell? ⟨G4, 3, none⟩ = some (.string ⟨#[]⟩) := hX.cell 3
  go_wp2_with fail
  clear hX_0 hX_1 hX_2 hX_3
  generalize w5.alloc (.cells #[.int .i64 1, .int .i64 0, .int .u64 0, .string ⟨#[]⟩] 28) = w6 at *
  generalize w5.heap.size = G6 at *
  refine (rand_VB0_VB0 _).mono ?_
  rintro e w7 ⟨rfl, q7⟩
  replace hA := hA.ca q7
  replace hB := hB.ca q7
  replace hR := hR.ca q7
  replace hX := hX.ca q7
  replace hY := hY.ca q7
  replace bb := bl_ca bb q7
  clear q7
  have lhN_hA := hA.lt
  have lhN_hB := hB.lt
  have lhN_hR := hR.lt
  have lhN_hX := hX.lt
  have lhN_hY := hY.lt
  replace hA := hA.alloc (.cells #[.int .i64 1, .int .i64 0, .int .u64 0, .string ⟨#[]⟩] 28)
  replace hB := hB.alloc (.cells #[.int .i64 1, .int .i64 0, .int .u64 0, .string ⟨#[]⟩] 28)
  replace hR := hR.alloc (.cells #[.int .i64 1, .int .i64 0, .int .u64 0, .string ⟨#[]⟩] 28)
  replace hX := hX.alloc (.cells #[.int .i64 1, .int .i64 0, .int .u64 0, .string ⟨#[]⟩] 28)
  replace hY := hY.alloc (.cells #[.int .i64 1, .int .i64 0, .int .u64 0, .string ⟨#[]⟩] 28)
  have hN := Blk.new w7 28 #[.int .i64 1, .int .i64 0, .int .u64 0, .string ⟨#[]⟩]
  have bz := bb.size
  replace bb := bl_al bb (.cells #[.int .i64 1, .int .i64 0, .int .u64 0, .string ⟨#[]⟩] 28)
  go_wp2_with fail
  generalize w7.alloc (.cells #[.int .i64 1, .int .i64 0, .int .u64 0, .string ⟨#[]⟩] 28) = w8 at *
  generalize w7.heap.size = G8 at *
  refine (rnot_VB0 _).mono ?_
  rintro e w9 ⟨rfl, q9⟩
  replace hA := hA.ca q9
  replace hB := hB.ca q9
  replace hR := hR.ca q9
  replace hX := hX.ca q9
  replace hY := hY.ca q9
  replace hN := hN.ca q9
  replace bb := bl_ca bb q9
  clear q9
  have KR := Lib.hid hR
  clear hR
  go_wp2_with (refine wpList_store_blk rfl 28 (.tmp 4) (.tmp 38) rfl (w.heap.size + 1 + 1) 28 _ _ rfl rfl KR.out rfl valI (one4 _ _ _ _) ?_; intro wz hZ gz)
  exact bodyPost_ret (res2 Tryd.results33 rfl rfl hZ Tryd.underlying28 rfl valI) rfl ⟨rfl, bl_gr bb gz (by omega)⟩
set_option maxRecDepth 100000 in
set_option maxHeartbeats 4000000 in
theorem ror_err (w : World) (a b : VV) (h : kindE [a, b] ≠ 0) : Calls Tryd.prog 33 #[.agg #[.int .i64 a.k, .int .i64 a.n, .int .u64 a.u, .string a.s], .agg #[.int .i64 b.k, .int .i64 b.n, .int .u64 b.u, .string b.s]] w fun e w' => e = .returned (.tuple #[.agg #[.int .i64 0, .int .i64 0, .int .u64 0, .string ⟨#[]⟩], .int .i64 (kindE [a, b])]) ∧ Below w.heap.size w w' := by
  have HT := Lib.hid (fun w => rtruths_any a b w)
  generalize kindE [a, b] = r at *
  have hr0 : (r != 0) = true := ibne_t h
  clear h
  have hA := (((Blk.new w 28 #[.int .i64 a.k, .int .i64 a.n, .int .u64 a.u, .string a.s]).alloc (.cells #[.int .i64 b.k, .int .i64 b.n, .int .u64 b.u, .string b.s] 28)).alloc (.cells #[.int .i64 0, .int .i64 0, .int .u64 0, .string ⟨#[]⟩] 28))
  have hB := ((Blk.new (w.alloc (.cells #[.int .i64 a.k, .int .i64 a.n, .int .u64 a.u, .string a.s] 28)) 28 #[.int .i64 b.k, .int .i64 b.n, .int .u64 b.u, .string b.s]).alloc (.cells #[.int .i64 0, .int .i64 0, .int .u64 0, .string ⟨#[]⟩] 28))
  have hR := (Blk.new ((w.alloc (.cells #[.int .i64 a.k, .int .i64 a.n, .int .u64 a.u, .string a.s] 28)).alloc (.cells #[.int .i64 b.k, .int .i64 b.n, .int .u64 b.u, .string b.s] 28)) 28 #[.int .i64 0, .int .i64 0, .int .u64 0, .string ⟨#[]⟩])
  have bb := (bl_al (bl_al (bl_al (Below.refl w.heap.size w) (.cells #[.int .i64 a.k, .int .i64 a.n, .int .u64 a.u, .string a.s] 28)) (.cells #[.int .i64 b.k, .int .i64 b.n, .int .u64 b.u, .string b.s] 28)) (.cells #[.int .i64 0, .int .i64 0, .int .u64 0, .string ⟨#[]⟩] 28))
  simp only [World.size_alloc] at hB hR
  go_enter Tryd.func33, Tryd.ntmps33
  go_wp2_with fail
  generalize (((w.alloc (.cells #[.int .i64 a.k, .int .i64 a.n, .int .u64 a.u, .string a.s] 28)).alloc (.cells #[.int .i64 b.k, .int .i64 b.n, .int .u64 b.u, .string b.s] 28)).alloc (.cells #[.int .i64 0, .int .i64 0, .int .u64 0, .string ⟨#[]⟩] 28)) = w1 at *
  have hA_0 : w1.cell? ⟨w.heap.size, 0, none⟩ = some (.int .i64 a.k) := hA.cell 0
  have hA_1 : w1.cell? ⟨w.heap.size, 1, none⟩ = some (.int .i64 a.n) := hA.cell 1
  have hA_2 : w1.cell? ⟨w.heap.size, 2, none⟩ = some (.int .u64 a.u) := hA.cell 2
  have hA_3 : w1.cell? ⟨w.heap.size, 3, none⟩ = some (.string a.s) := hA.cell 3
  have hB_0 : w1.cell? ⟨w.heap.size + 1, 0, none⟩ = some (.int .i64 b.k) := hB.cell 0
  have hB_1 : w1.cell? ⟨w.heap.size + 1, 1, none⟩ = some (.int .i64 b.n) := hB.cell 1
  have hB_2 : w1.cell? ⟨w.heap.size + 1, 2, none⟩ = some (.int .u64 b.u) := hB.cell 2
  have hB_3 : w1.cell? ⟨w.heap.size + 1, 3, none⟩ = some (.string b.s) := hB.cell 3
  go_wp2_with fail
  refine (HT.out _).mono ?_
  rintro e w2 ⟨rfl, q2⟩
  clear hA_0 hA_1 hA_2 hA_3 hB_0 hB_1 hB_2 hB_3
  replace hA := hA.ca q2
  replace hB := hB.ca q2
  replace hR := hR.ca q2
  replace bb := bl_ca bb q2
  clear q2
  have lb := bb.size
  have KR := Lib.hid hR
  clear hR
  go_wp2_with (refine wpList_store_blk rfl 28 (.tmp 4) (.tmp 18) rfl (w.heap.size + 1 + 1) 28 _ _ rfl rfl KR.out rfl valI (one4 _ _ _ _) ?_; intro wz hZ gz)
  exact bodyPost_ret (res2 Tryd.results33 rfl rfl hZ Tryd.underlying28 rfl valI) rfl ⟨rfl, bl_gr bb gz (by omega)⟩
theorem ror_any (a b : VV) (w : World) : Calls Tryd.prog 33 #[.agg #[.int .i64 a.k, .int .i64 a.n, .int .u64 a.u, .string a.s], .agg #[.int .i64 b.k, .int .i64 b.n, .int .u64 b.u, .string b.s]] w fun e w' => e = .returned (resT (orV a b)) ∧ Below w.heap.size w w' := by
  by_cases h : kindE [a, b] = 0
  · have ha := kind0_tv h a (by simp)
    have hb := kind0_tv h b (by simp)
    have e : ∀ r, orV a b = (r, 0) → resT (orV a b) = resT (r, 0) := fun r h => by rw [h]
    rcases ha with rfl | rfl | rfl
    · rcases hb with rfl | rfl | rfl
      · rw [e V0 (by unfold orV logV; rw [if_pos h]; rfl)]; exact ror_V0_V0 w
      · rw [e V0 (by unfold orV logV; rw [if_pos h]; rfl)]; exact ror_V0_VB0 w
      · rw [e VB1 (by unfold orV logV; rw [if_pos h]; rfl)]; exact ror_V0_VB1 w
    · rcases hb with rfl | rfl | rfl
      · rw [e V0 (by unfold orV logV; rw [if_pos h]; rfl)]; exact ror_VB0_V0 w
      · rw [e VB0 (by unfold orV logV; rw [if_pos h]; rfl)]; exact ror_VB0_VB0 w
      · rw [e VB1 (by unfold orV logV; rw [if_pos h]; rfl)]; exact ror_VB0_VB1 w
    · rcases hb with rfl | rfl | rfl
      · rw [e VB1 (by unfold orV logV; rw [if_pos h]; rfl)]; exact ror_VB1_V0 w
      · rw [e VB1 (by unfold orV logV; rw [if_pos h]; rfl)]; exact ror_VB1_VB0 w
      · rw [e VB1 (by unfold orV logV; rw [if_pos h]; rfl)]; exact ror_VB1_VB1 w
  · rw [show orV a b = (V0, kindE [a, b]) from by unfold orV logV; rw [if_neg h]]
    exact ror_err w a b h
end Go.Proofs.YtabbiepafibmmaaDoor
