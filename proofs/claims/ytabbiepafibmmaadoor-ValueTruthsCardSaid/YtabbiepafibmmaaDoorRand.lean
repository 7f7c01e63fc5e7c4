/- bowspritref02.And. Conditions: none. -/
import Derived.Test.YtabbiepafibmmaaDoorRtr
namespace Go.Proofs.YtabbiepafibmmaaDoor
open Go.RowKit
theorem tv_of {v : VV} (h : v.ok = true) (hk : v.k ≤ 1) : v = V0 ∨ v = VB0 ∨ v = VB1 := by
  have h1 := ok_kind h hk
  unfold VV.ok rightB at h
  rcases v with ⟨k, n, u, s⟩
  simp only at h1 h
  have es : ∀ s : ByteArray, s.toList = [] → s = ⟨#[]⟩ := fun s h => by rw [ByteArray.toList_eq] at h; cases s with | mk d => congr 1; exact Array.toList_eq_nil_iff.1 h
  rcases h1 with ⟨rfl, rfl⟩ | ⟨rfl, rfl | rfl⟩
  all_goals
    simp at h
    obtain ⟨rfl, hs⟩ := h
    have := es s hs
    subst this
    first | exact .inl rfl | exact .inr (.inl rfl) | exact .inr (.inr rfl)
theorem kind0_tv {vs : List VV} (h : kindE vs = 0) : ∀ v ∈ vs, v = V0 ∨ v = VB0 ∨ v = VB1 := by
  unfold kindE at h
  split at h
  · rename_i h1
    split at h
    · omega
    · rename_i h2
      intro v hv
      refine tv_of (List.all_eq_true.1 h1 v hv) ?_
      refine Classical.byContradiction fun e => h2 ?_
      exact List.any_eq_true.2 ⟨v, hv, decide_eq_true (by omega)⟩
  · omega
theorem rtr_V0_V0 (w : World) : Calls Tryd.prog 51 #[.agg #[.int .i64 0, .int .i64 0, .int .u64 0, .string ⟨#[]⟩], .agg #[.int .i64 0, .int .i64 0, .int .u64 0, .string ⟨#[]⟩]] w fun e w' => e = .returned (.int .i64 0) ∧ Below w.heap.size w w' := by
  have := rtruths_any V0 V0 w
  rw [show kindE [V0, V0] = 0 from by decide +kernel] at this
  exact this
theorem rtr_V0_VB0 (w : World) : Calls Tryd.prog 51 #[.agg #[.int .i64 0, .int .i64 0, .int .u64 0, .string ⟨#[]⟩], .agg #[.int .i64 1, .int .i64 0, .int .u64 0, .string ⟨#[]⟩]] w fun e w' => e = .returned (.int .i64 0) ∧ Below w.heap.size w w' := by
  have := rtruths_any V0 VB0 w
  rw [show kindE [V0, VB0] = 0 from by decide +kernel] at this
  exact this
theorem rtr_V0_VB1 (w : World) : Calls Tryd.prog 51 #[.agg #[.int .i64 0, .int .i64 0, .int .u64 0, .string ⟨#[]⟩], .agg #[.int .i64 1, .int .i64 1, .int .u64 0, .string ⟨#[]⟩]] w fun e w' => e = .returned (.int .i64 0) ∧ Below w.heap.size w w' := by
  have := rtruths_any V0 VB1 w
  rw [show kindE [V0, VB1] = 0 from by decide +kernel] at this
  exact this
theorem rtr_VB0_V0 (w : World) : Calls Tryd.prog 51 #[.agg #[.int .i64 1, .int .i64 0, .int .u64 0, .string ⟨#[]⟩], .agg #[.int .i64 0, .int .i64 0, .int .u64 0, .string ⟨#[]⟩]] w fun e w' => e = .returned (.int .i64 0) ∧ Below w.heap.size w w' := by
  have := rtruths_any VB0 V0 w
  rw [show kindE [VB0, V0] = 0 from by decide +kernel] at this
  exact this
theorem rtr_VB0_VB0 (w : World) : Calls Tryd.prog 51 #[.agg #[.int .i64 1, .int .i64 0, .int .u64 0, .string ⟨#[]⟩], .agg #[.int .i64 1, .int .i64 0, .int .u64 0, .string ⟨#[]⟩]] w fun e w' => e = .returned (.int .i64 0) ∧ Below w.heap.size w w' := by
  have := rtruths_any VB0 VB0 w
  rw [show kindE [VB0, VB0] = 0 from by decide +kernel] at this
  exact this
theorem rtr_VB0_VB1 (w : World) : Calls Tryd.prog 51 #[.agg #[.int .i64 1, .int .i64 0, .int .u64 0, .string ⟨#[]⟩], .agg #[.int .i64 1, .int .i64 1, .int .u64 0, .string ⟨#[]⟩]] w fun e w' => e = .returned (.int .i64 0) ∧ Below w.heap.size w w' := by
  have := rtruths_any VB0 VB1 w
  rw [show kindE [VB0, VB1] = 0 from by decide +kernel] at this
  exact this
theorem rtr_VB1_V0 (w : World) : Calls Tryd.prog 51 #[.agg #[.int .i64 1, .int .i64 1, .int .u64 0, .string ⟨#[]⟩], .agg #[.int .i64 0, .int .i64 0, .int .u64 0, .string ⟨#[]⟩]] w fun e w' => e = .returned (.int .i64 0) ∧ Below w.heap.size w w' := by
  have := rtruths_any VB1 V0 w
  rw [show kindE [VB1, V0] = 0 from by decide +kernel] at this
  exact this
theorem rtr_VB1_VB0 (w : World) : Calls Tryd.prog 51 #[.agg #[.int .i64 1, .int .i64 1, .int .u64 0, .string ⟨#[]⟩], .agg #[.int .i64 1, .int .i64 0, .int .u64 0, .string ⟨#[]⟩]] w fun e w' => e = .returned (.int .i64 0) ∧ Below w.heap.size w w' := by
  have := rtruths_any VB1 VB0 w
  rw [show kindE [VB1, VB0] = 0 from by decide +kernel] at this
  exact this
theorem rtr_VB1_VB1 (w : World) : Calls Tryd.prog 51 #[.agg #[.int .i64 1, .int .i64 1, .int .u64 0, .string ⟨#[]⟩], .agg #[.int .i64 1, .int .i64 1, .int .u64 0, .string ⟨#[]⟩]] w fun e w' => e = .returned (.int .i64 0) ∧ Below w.heap.size w w' := by
  have := rtruths_any VB1 VB1 w
  rw [show kindE [VB1, VB1] = 0 from by decide +kernel] at this
  exact this
set_option maxRecDepth 100000 in
set_option maxHeartbeats 4000000 in
theorem rand_V0_V0 (w : World) : Calls Tryd.prog 31 #[.agg #[.int .i64 0, .int .i64 0, .int .u64 0, .string ⟨#[]⟩], .agg #[.int .i64 0, .int .i64 0, .int .u64 0, .string ⟨#[]⟩]] w fun e w' => e = .returned (.tuple #[.agg #[.int .i64 0, .int .i64 0, .int .u64 0, .string ⟨#[]⟩], .int .i64 0]) ∧ Below w.heap.size w w' := by
  have hA := (((Blk.new w 28 #[.int .i64 0, .int .i64 0, .int .u64 0, .string ⟨#[]⟩]).alloc (.cells #[.int .i64 0, .int .i64 0, .int .u64 0, .string ⟨#[]⟩] 28)).alloc (.cells #[.int .i64 0, .int .i64 0, .int .u64 0, .string ⟨#[]⟩] 28))
  have hB := ((Blk.new (w.alloc (.cells #[.int .i64 0, .int .i64 0, .int .u64 0, .string ⟨#[]⟩] 28)) 28 #[.int .i64 0, .int .i64 0, .int .u64 0, .string ⟨#[]⟩]).alloc (.cells #[.int .i64 0, .int .i64 0, .int .u64 0, .string ⟨#[]⟩] 28))
  have hR := (Blk.new ((w.alloc (.cells #[.int .i64 0, .int .i64 0, .int .u64 0, .string ⟨#[]⟩] 28)).alloc (.cells #[.int .i64 0, .int .i64 0, .int .u64 0, .string ⟨#[]⟩] 28)) 28 #[.int .i64 0, .int .i64 0, .int .u64 0, .string ⟨#[]⟩])
  have bb := (bl_al (bl_al (bl_al (Below.refl w.heap.size w) (.cells #[.int .i64 0, .int .i64 0, .int .u64 0, .string ⟨#[]⟩] 28)) (.cells #[.int .i64 0, .int .i64 0, .int .u64 0, .string ⟨#[]⟩] 28)) (.cells #[.int .i64 0, .int .i64 0, .int .u64 0, .string ⟨#[]⟩] 28))
  simp only [World.size_alloc] at hB hR
  go_enter Tryd.func31, Tryd.ntmps31
  go_wp2_with fail
  generalize (((w.alloc (.cells #[.int .i64 0, .int .i64 0, .int .u64 0, .string ⟨#[]⟩] 28)).alloc (.cells #[.int .i64 0, .int .i64 0, .int .u64 0, .string ⟨#[]⟩] 28)).alloc (.cells #[.int .i64 0, .int .i64 0, .int .u64 0, .string ⟨#[]⟩] 28)) = w1 at *
  have hA_0 : w1.cell? ⟨w.heap.size, 0, none⟩ = some (.int .i64 0) := hA.cell 0
  have hA_1 : w1.cell? ⟨w.heap.size, 1, none⟩ = some (.int .i64 0) := hA.cell 1
  have hA_2 : w1.cell? ⟨w.heap.size, 2, none⟩ = some (.int .u64 0) := hA.cell 2
  have hA_3 : w1.cell? ⟨w.heap.size, 3, none⟩ = some (.string ⟨#[]⟩) := hA.cell 3
  have hB_0 : w1.cell? ⟨w.heap.size + 1, 0, none⟩ = some (.int .i64 0) := hB.cell 0
  have hB_1 : w1.cell? ⟨w.heap.size + 1, 1, none⟩ = some (.int .i64 0) := hB.cell 1
  have hB_2 : w1.cell? ⟨w.heap.size + 1, 2, none⟩ = some (.int .u64 0) := hB.cell 2
  have hB_3 : w1.cell? ⟨w.heap.size + 1, 3, none⟩ = some (.string ⟨#[]⟩) := hB.cell 3
  go_wp2_with fail
  refine (rtr_V0_V0 _).mono ?_
  rintro e w2 ⟨rfl, q2⟩
  clear hA_0 hA_1 hA_2 hA_3 hB_0 hB_1 hB_2 hB_3
  replace hA := hA.ca q2
  replace hB := hB.ca q2
  replace hR := hR.ca q2
  replace bb := bl_ca bb q2
  clear q2
  go_wp2_with fail
  refine (rbool_false _).mono ?_
  rintro e w3 ⟨rfl, q3⟩
  replace hA := hA.ca q3
  replace hB := hB.ca q3
  replace hR := hR.ca q3
  replace bb := bl_ca bb q3
  clear q3
  have lb := bb.size
  have lhN_hA := hA.lt
  have lhN_hB := hB.lt
  have lhN_hR := hR.lt
  replace hA := hA.alloc (.cells #[.int .i64 1, .int .i64 0, .int .u64 0, .string ⟨#[]⟩] 28)
  replace hB := hB.alloc (.cells #[.int .i64 1, .int .i64 0, .int .u64 0, .string ⟨#[]⟩] 28)
  replace hR := hR.alloc (.cells #[.int .i64 1, .int .i64 0, .int .u64 0, .string ⟨#[]⟩] 28)
  have hN := Blk.new w3 28 #[.int .i64 1, .int .i64 0, .int .u64 0, .string ⟨#[]⟩]
  have bz := bb.size
  replace bb := bl_al bb (.cells #[.int .i64 1, .int .i64 0, .int .u64 0, .string ⟨#[]⟩] 28)
  have hA_0 : (w3.alloc (.cells #[.int .i64 1, .int .i64 0, .int .u64 0, .string ⟨#[]⟩] 28)).cell? ⟨w.heap.size, 0, none⟩ = some (.int .i64 0) := hA.cell 0
  have hA_1 : (w3.alloc (.cells #[.int .i64 1, .int .i64 0, .int .u64 0, .string ⟨#[]⟩] 28)).cell? ⟨w.heap.size, 1, none⟩ = some (.int .i64 0) := hA.cell 1
  have hA_2 : (w3.alloc (.cells #[.int .i64 1, .int .i64 0, .int .u64 0, .string ⟨#[]⟩] 28)).cell? ⟨w.heap.size, 2, none⟩ = some (.int .u64 0) := hA.cell 2
  have hA_3 : (w3.alloc (.cells #[.int .i64 1, .int .i64 0, .int .u64 0, .string ⟨#[]⟩] 28)).cell? ⟨w.heap.size, 3, none⟩ = some (.string ⟨#[]⟩) := hA.cell 3
  have hB_0 : (w3.alloc (.cells #[.int .i64 1, .int .i64 0, .int .u64 0, .string ⟨#[]⟩] 28)).cell? ⟨w.heap.size + 1, 0, none⟩ = some (.int .i64 0) := hB.cell 0
  have hB_1 : (w3.alloc (.cells #[.int .i64 1, .int .i64 0, .int .u64 0, .string ⟨#[]⟩] 28)).cell? ⟨w.heap.size + 1, 1, none⟩ = some (.int .i64 0) := hB.cell 1
  have hB_2 : (w3.alloc (.cells #[.int .i64 1, .int .i64 0, .int .u64 0, .string ⟨#[]⟩] 28)).cell? ⟨w.heap.size + 1, 2, none⟩ = some (.int .u64 0) := hB.cell 2
  have hB_3 : (w3.alloc (.cells #[.int .i64 1, .int .i64 0, .int .u64 0, .string ⟨#[]⟩] 28)).cell? ⟨w.heap.size + 1, 3, none⟩ = some (.string ⟨#[]⟩) := hB.cell 3
  have KR := Lib.hid hR
  clear hR
  go_wp2_with (refine wpList_store_blk rfl 28 (.tmp 4) (.tmp 36) rfl (w.heap.size + 1 + 1) 28 _ _ rfl rfl KR.out rfl valI (one4 _ _ _ _) ?_; intro wz hZ gz)
  exact bodyPost_ret (res2 Tryd.results31 rfl rfl hZ Tryd.underlying28 rfl valI) rfl ⟨rfl, bl_gr bb gz (by omega)⟩
set_option maxRecDepth 100000 in
set_option maxHeartbeats 4000000 in
theorem rand_V0_VB0 (w : World) : Calls Tryd.prog 31 #[.agg #[.int .i64 0, .int .i64 0, .int .u64 0, .string ⟨#[]⟩], .agg #[.int .i64 1, .int .i64 0, .int .u64 0, .string ⟨#[]⟩]] w fun e w' => e = .returned (.tuple #[.agg #[.int .i64 1, .int .i64 0, .int .u64 0, .string ⟨#[]⟩], .int .i64 0]) ∧ Below w.heap.size w w' := by
  have hA := (((Blk.new w 28 #[.int .i64 0, .int .i64 0, .int .u64 0, .string ⟨#[]⟩]).alloc (.cells #[.int .i64 1, .int .i64 0, .int .u64 0, .string ⟨#[]⟩] 28)).alloc (.cells #[.int .i64 0, .int .i64 0, .int .u64 0, .string ⟨#[]⟩] 28))
  have hB := ((Blk.new (w.alloc (.cells #[.int .i64 0, .int .i64 0, .int .u64 0, .string ⟨#[]⟩] 28)) 28 #[.int .i64 1, .int .i64 0, .int .u64 0, .string ⟨#[]⟩]).alloc (.cells #[.int .i64 0, .int .i64 0, .int .u64 0, .string ⟨#[]⟩] 28))
  have hR := (Blk.new ((w.alloc (.cells #[.int .i64 0, .int .i64 0, .int .u64 0, .string ⟨#[]⟩] 28)).alloc (.cells #[.int .i64 1, .int .i64 0, .int .u64 0, .string ⟨#[]⟩] 28)) 28 #[.int .i64 0, .int .i64 0, .int .u64 0, .string ⟨#[]⟩])
  have bb := (bl_al (bl_al (bl_al (Below.refl w.heap.size w) (.cells #[.int .i64 0, .int .i64 0, .int .u64 0, .string ⟨#[]⟩] 28)) (.cells #[.int .i64 1, .int .i64 0, .int .u64 0, .string ⟨#[]⟩] 28)) (.cells #[.int .i64 0, .int .i64 0, .int .u64 0, .string ⟨#[]⟩] 28))
  simp only [World.size_alloc] at hB hR
  go_enter Tryd.func31, Tryd.ntmps31
  go_wp2_with fail
  generalize (((w.alloc (.cells #[.int .i64 0, .int .i64 0, .int .u64 0, .string ⟨#[]⟩] 28)).alloc (.cells #[.int .i64 1, .int .i64 0, .int .u64 0, .string ⟨#[]⟩] 28)).alloc (.cells #[.int .i64 0, .int .i64 0, .int .u64 0, .string ⟨#[]⟩] 28)) = w1 at *
  have hA_0 : w1.cell? ⟨w.heap.size, 0, none⟩ = some (.int .i64 0) := hA.cell 0
  have hA_1 : w1.cell? ⟨w.heap.size, 1, none⟩ = some (.int .i64 0) := hA.cell 1
  have hA_2 : w1.cell? ⟨w.heap.size, 2, none⟩ = some (.int .u64 0) := hA.cell 2
  have hA_3 : w1.cell? ⟨w.heap.size, 3, none⟩ = some (.string ⟨#[]⟩) := hA.cell 3
  have hB_0 : w1.cell? ⟨w.heap.size + 1, 0, none⟩ = some (.int .i64 1) := hB.cell 0
  have hB_1 : w1.cell? ⟨w.heap.size + 1, 1, none⟩ = some (.int .i64 0) := hB.cell 1
  have hB_2 : w1.cell? ⟨w.heap.size + 1, 2, none⟩ = some (.int .u64 0) := hB.cell 2
  have hB_3 : w1.cell? ⟨w.heap.size + 1, 3, none⟩ = some (.string ⟨#[]⟩) := hB.cell 3
  go_wp2_with fail
  refine (rtr_V0_VB0 _).mono ?_
  rintro e w2 ⟨rfl, q2⟩
  clear hA_0 hA_1 hA_2 hA_3 hB_0 hB_1 hB_2 hB_3
  replace hA := hA.ca q2
  replace hB := hB.ca q2
  replace hR := hR.ca q2
  replace bb := bl_ca bb q2
  clear q2
  go_wp2_with fail
  refine (rbool_false _).mono ?_
  rintro e w3 ⟨rfl, q3⟩
  replace hA := hA.ca q3
  replace hB := hB.ca q3
  replace hR := hR.ca q3
  replace bb := bl_ca bb q3
  clear q3
  have lb := bb.size
  have lhN_hA := hA.lt
  have lhN_hB := hB.lt
  have lhN_hR := hR.lt
  replace hA := hA.alloc (.cells #[.int .i64 1, .int .i64 0, .int .u64 0, .string ⟨#[]⟩] 28)
  replace hB := hB.alloc (.cells #[.int .i64 1, .int .i64 0, .int .u64 0, .string ⟨#[]⟩] 28)
  replace hR := hR.alloc (.cells #[.int .i64 1, .int .i64 0, .int .u64 0, .string ⟨#[]⟩] 28)
  have hN := Blk.new w3 28 #[.int .i64 1, .int .i64 0, .int .u64 0, .string ⟨#[]⟩]
  have bz := bb.size
  replace bb := bl_al bb (.cells #[.int .i64 1, .int .i64 0, .int .u64 0, .string ⟨#[]⟩] 28)
  have hA_0 : (w3.alloc (.cells #[.int .i64 1, .int .i64 0, .int .u64 0, .string ⟨#[]⟩] 28)).cell? ⟨w.heap.size, 0, none⟩ = some (.int .i64 0) := hA.cell 0
  have hA_1 : (w3.alloc (.cells #[.int .i64 1, .int .i64 0, .int .u64 0, .string ⟨#[]⟩] 28)).cell? ⟨w.heap.size, 1, none⟩ = some (.int .i64 0) := hA.cell 1
  have hA_2 : (w3.alloc (.cells #[.int .i64 1, .int .i64 0, .int .u64 0, .string ⟨#[]⟩] 28)).cell? ⟨w.heap.size, 2, none⟩ = some (.int .u64 0) := hA.cell 2
  have hA_3 : (w3.alloc (.cells #[.int .i64 1, .int .i64 0, .int .u64 0, .string ⟨#[]⟩] 28)).cell? ⟨w.heap.size, 3, none⟩ = some (.string ⟨#[]⟩) := hA.cell 3
  have hB_0 : (w3.alloc (.cells #[.int .i64 1, .int .i64 0, .int .u64 0, .string ⟨#[]⟩] 28)).cell? ⟨w.heap.size + 1, 0, none⟩ = some (.int .i64 1) := hB.cell 0
  have hB_1 : (w3.alloc (.cells #[.int .i64 1, .int .i64 0, .int .u64 0, .string ⟨#[]⟩] 28)).cell? ⟨w.heap.size + 1, 1, none⟩ = some (.int .i64 0) := hB.cell 1
  have hB_2 : (w3.alloc (.cells #[.int .i64 1, .int .i64 0, .int .u64 0, .string ⟨#[]⟩] 28)).cell? ⟨w.heap.size + 1, 2, none⟩ = some (.int .u64 0) := hB.cell 2
  have hB_3 : (w3.alloc (.cells #[.int .i64 1, .int .i64 0, .int .u64 0, .string ⟨#[]⟩] 28)).cell? ⟨w.heap.size + 1, 3, none⟩ = some (.string ⟨#[]⟩) := hB.cell 3
  have KR := Lib.hid hR
  clear hR
  go_wp2_with (refine wpList_store_blk rfl 28 (.tmp 4) (.tmp 26) rfl (w.heap.size + 1 + 1) 28 _ _ rfl rfl KR.out rfl valI (one4 _ _ _ _) ?_; intro wz hZ gz)
  exact bodyPost_ret (res2 Tryd.results31 rfl rfl hZ Tryd.underlying28 rfl valI) rfl ⟨rfl, bl_gr bb gz (by omega)⟩
set_option maxRecDepth 100000 in
set_option maxHeartbeats 4000000 in
theorem rand_V0_VB1 (w : World) : Calls Tryd.prog 31 #[.agg #[.int .i64 0, .int .i64 0, .int .u64 0, .string ⟨#[]⟩], .agg #[.int .i64 1, .int .i64 1, .int .u64 0, .string ⟨#[]⟩]] w fun e w' => e = .returned (.tuple #[.agg #[.int .i64 0, .int .i64 0, .int .u64 0, .string ⟨#[]⟩], .int .i64 0]) ∧ Below w.heap.size w w' := by
  have hA := (((Blk.new w 28 #[.int .i64 0, .int .i64 0, .int .u64 0, .string ⟨#[]⟩]).alloc (.cells #[.int .i64 1, .int .i64 1, .int .u64 0, .string ⟨#[]⟩] 28)).alloc (.cells #[.int .i64 0, .int .i64 0, .int .u64 0, .string ⟨#[]⟩] 28))
  have hB := ((Blk.new (w.alloc (.cells #[.int .i64 0, .int .i64 0, .int .u64 0, .string ⟨#[]⟩] 28)) 28 #[.int .i64 1, .int .i64 1, .int .u64 0, .string ⟨#[]⟩]).alloc (.cells #[.int .i64 0, .int .i64 0, .int .u64 0, .string ⟨#[]⟩] 28))
  have hR := (Blk.new ((w.alloc (.cells #[.int .i64 0, .int .i64 0, .int .u64 0, .string ⟨#[]⟩] 28)).alloc (.cells #[.int .i64 1, .int .i64 1, .int .u64 0, .string ⟨#[]⟩] 28)) 28 #[.int .i64 0, .int .i64 0, .int .u64 0, .string ⟨#[]⟩])
  have bb := (bl_al (bl_al (bl_al (Below.refl w.heap.size w) (.cells #[.int .i64 0, .int .i64 0, .int .u64 0, .string ⟨#[]⟩] 28)) (.cells #[.int .i64 1, .int .i64 1, .int .u64 0, .string ⟨#[]⟩] 28)) (.cells #[.int .i64 0, .int .i64 0, .int .u64 0, .string ⟨#[]⟩] 28))
  simp only [World.size_alloc] at hB hR
  go_enter Tryd.func31, Tryd.ntmps31
  go_wp2_with fail
  generalize (((w.alloc (.cells #[.int .i64 0, .int .i64 0, .int .u64 0, .string ⟨#[]⟩] 28)).alloc (.cells #[.int .i64 1, .int .i64 1, .int .u64 0, .string ⟨#[]⟩] 28)).alloc (.cells #[.int .i64 0, .int .i64 0, .int .u64 0, .string ⟨#[]⟩] 28)) = w1 at *
  have hA_0 : w1.cell? ⟨w.heap.size, 0, none⟩ = some (.int .i64 0) := hA.cell 0
  have hA_1 : w1.cell? ⟨w.heap.size, 1, none⟩ = some (.int .i64 0) := hA.cell 1
  have hA_2 : w1.cell? ⟨w.heap.size, 2, none⟩ = some (.int .u64 0) := hA.cell 2
  have hA_3 : w1.cell? ⟨w.heap.size, 3, none⟩ = some (.string ⟨#[]⟩) := hA.cell 3
  have hB_0 : w1.cell? ⟨w.heap.size + 1, 0, none⟩ = some (.int .i64 1) := hB.cell 0
  have hB_1 : w1.cell? ⟨w.heap.size + 1, 1, none⟩ = some (.int .i64 1) := hB.cell 1
  have hB_2 : w1.cell? ⟨w.heap.size + 1, 2, none⟩ = some (.int .u64 0) := hB.cell 2
  have hB_3 : w1.cell? ⟨w.heap.size + 1, 3, none⟩ = some (.string ⟨#[]⟩) := hB.cell 3
  go_wp2_with fail
  refine (rtr_V0_VB1 _).mono ?_
  rintro e w2 ⟨rfl, q2⟩
  clear hA_0 hA_1 hA_2 hA_3 hB_0 hB_1 hB_2 hB_3
  replace hA := hA.ca q2
  replace hB := hB.ca q2
  replace hR := hR.ca q2
  replace bb := bl_ca bb q2
  clear q2
  go_wp2_with fail
  refine (rbool_false _).mono ?_
  rintro e w3 ⟨rfl, q3⟩
  replace hA := hA.ca q3
  replace hB := hB.ca q3
  replace hR := hR.ca q3
  replace bb := bl_ca bb q3
  clear q3
  have lb := bb.size
  have lhN_hA := hA.lt
  have lhN_hB := hB.lt
  have lhN_hR := hR.lt
  replace hA := hA.alloc (.cells #[.int .i64 1, .int .i64 0, .int .u64 0, .string ⟨#[]⟩] 28)
  replace hB := hB.alloc (.cells #[.int .i64 1, .int .i64 0, .int .u64 0, .string ⟨#[]⟩] 28)
  replace hR := hR.alloc (.cells #[.int .i64 1, .int .i64 0, .int .u64 0, .string ⟨#[]⟩] 28)
  have hN := Blk.new w3 28 #[.int .i64 1, .int .i64 0, .int .u64 0, .string ⟨#[]⟩]
  have bz := bb.size
  replace bb := bl_al bb (.cells #[.int .i64 1, .int .i64 0, .int .u64 0, .string ⟨#[]⟩] 28)
  have hA_0 : (w3.alloc (.cells #[.int .i64 1, .int .i64 0, .int .u64 0, .string ⟨#[]⟩] 28)).cell? ⟨w.heap.size, 0, none⟩ = some (.int .i64 0) := hA.cell 0
  have hA_1 : (w3.alloc (.cells #[.int .i64 1, .int .i64 0, .int .u64 0, .string ⟨#[]⟩] 28)).cell? ⟨w.heap.size, 1, none⟩ = some (.int .i64 0) := hA.cell 1
  have hA_2 : (w3.alloc (.cells #[.int .i64 1, .int .i64 0, .int .u64 0, .string ⟨#[]⟩] 28)).cell? ⟨w.heap.size, 2, none⟩ = some (.int .u64 0) := hA.cell 2
  have hA_3 : (w3.alloc (.cells #[.int .i64 1, .int .i64 0, .int .u64 0, .string ⟨#[]⟩] 28)).cell? ⟨w.heap.size, 3, none⟩ = some (.string ⟨#[]⟩) := hA.cell 3
  have hB_0 : (w3.alloc (.cells #[.int .i64 1, .int .i64 0, .int .u64 0, .string ⟨#[]⟩] 28)).cell? ⟨w.heap.size + 1, 0, none⟩ = some (.int .i64 1) := hB.cell 0
  have hB_1 : (w3.alloc (.cells #[.int .i64 1, .int .i64 0, .int .u64 0, .string ⟨#[]⟩] 28)).cell? ⟨w.heap.size + 1, 1, none⟩ = some (.int .i64 1) := hB.cell 1
  have hB_2 : (w3.alloc (.cells #[.int .i64 1, .int .i64 0, .int .u64 0, .string ⟨#[]⟩] 28)).cell? ⟨w.heap.size + 1, 2, none⟩ = some (.int .u64 0) := hB.cell 2
  have hB_3 : (w3.alloc (.cells #[.int .i64 1, .int .i64 0, .int .u64 0, .string ⟨#[]⟩] 28)).cell? ⟨w.heap.size + 1, 3, none⟩ = some (.string ⟨#[]⟩) := hB.cell 3
  have KR := Lib.hid hR
  clear hR
  go_wp2_with (refine wpList_store_blk rfl 28 (.tmp 4) (.tmp 36) rfl (w.heap.size + 1 + 1) 28 _ _ rfl rfl KR.out rfl valI (one4 _ _ _ _) ?_; intro wz hZ gz)
  exact bodyPost_ret (res2 Tryd.results31 rfl rfl hZ Tryd.underlying28 rfl valI) rfl ⟨rfl, bl_gr bb gz (by omega)⟩
set_option maxRecDepth 100000 in
set_option maxHeartbeats 4000000 in
theorem rand_VB0_V0 (w : World) : Calls Tryd.prog 31 #[.agg #[.int .i64 1, .int .i64 0, .int .u64 0, .string ⟨#[]⟩], .agg #[.int .i64 0, .int .i64 0, .int .u64 0, .string ⟨#[]⟩]] w fun e w' => e = .returned (.tuple #[.agg #[.int .i64 1, .int .i64 0, .int .u64 0, .string ⟨#[]⟩], .int .i64 0]) ∧ Below w.heap.size w w' := by
  have hA := (((Blk.new w 28 #[.int .i64 1, .int .i64 0, .int .u64 0, .string ⟨#[]⟩]).alloc (.cells #[.int .i64 0, .int .i64 0, .int .u64 0, .string ⟨#[]⟩] 28)).alloc (.cells #[.int .i64 0, .int .i64 0, .int .u64 0, .string ⟨#[]⟩] 28))
  have hB := ((Blk.new (w.alloc (.cells #[.int .i64 1, .int .i64 0, .int .u64 0, .string ⟨#[]⟩] 28)) 28 #[.int .i64 0, .int .i64 0, .int .u64 0, .string ⟨#[]⟩]).alloc (.cells #[.int .i64 0, .int .i64 0, .int .u64 0, .string ⟨#[]⟩] 28))
  have hR := (Blk.new ((w.alloc (.cells #[.int .i64 1, .int .i64 0, .int .u64 0, .string ⟨#[]⟩] 28)).alloc (.cells #[.int .i64 0, .int .i64 0, .int .u64 0, .string ⟨#[]⟩] 28)) 28 #[.int .i64 0, .int .i64 0, .int .u64 0, .string ⟨#[]⟩])
  have bb := (bl_al (bl_al (bl_al (Below.refl w.heap.size w) (.cells #[.int .i64 1, .int .i64 0, .int .u64 0, .string ⟨#[]⟩] 28)) (.cells #[.int .i64 0, .int .i64 0, .int .u64 0, .string ⟨#[]⟩] 28)) (.cells #[.int .i64 0, .int .i64 0, .int .u64 0, .string ⟨#[]⟩] 28))
  simp only [World.size_alloc] at hB hR
  go_enter Tryd.func31, Tryd.ntmps31
  go_wp2_with fail
  generalize (((w.alloc (.cells #[.int .i64 1, .int .i64 0, .int .u64 0, .string ⟨#[]⟩] 28)).alloc (.cells #[.int .i64 0, .int .i64 0, .int .u64 0, .string ⟨#[]⟩] 28)).alloc (.cells #[.int .i64 0, .int .i64 0, .int .u64 0, .string ⟨#[]⟩] 28)) = w1 at *
  have hA_0 : w1.cell? ⟨w.heap.size, 0, none⟩ = some (.int .i64 1) := hA.cell 0
  have hA_1 : w1.cell? ⟨w.heap.size, 1, none⟩ = some (.int .i64 0) := hA.cell 1
  have hA_2 : w1.cell? ⟨w.heap.size, 2, none⟩ = some (.int .u64 0) := hA.cell 2
  have hA_3 : w1.cell? ⟨w.heap.size, 3, none⟩ = some (.string ⟨#[]⟩) := hA.cell 3
  have hB_0 : w1.cell? ⟨w.heap.size + 1, 0, none⟩ = some (.int .i64 0) := hB.cell 0
  have hB_1 : w1.cell? ⟨w.heap.size + 1, 1, none⟩ = some (.int .i64 0) := hB.cell 1
  have hB_2 : w1.cell? ⟨w.heap.size + 1, 2, none⟩ = some (.int .u64 0) := hB.cell 2
  have hB_3 : w1.cell? ⟨w.heap.size + 1, 3, none⟩ = some (.string ⟨#[]⟩) := hB.cell 3
  go_wp2_with fail
  refine (rtr_VB0_V0 _).mono ?_
  rintro e w2 ⟨rfl, q2⟩
  clear hA_0 hA_1 hA_2 hA_3 hB_0 hB_1 hB_2 hB_3
  replace hA := hA.ca q2
  replace hB := hB.ca q2
  replace hR := hR.ca q2
  replace bb := bl_ca bb q2
  clear q2
  go_wp2_with fail
  refine (rbool_false _).mono ?_
  rintro e w3 ⟨rfl, q3⟩
  replace hA := hA.ca q3
  replace hB := hB.ca q3
  replace hR := hR.ca q3
  replace bb := bl_ca bb q3
  clear q3
  have lb := bb.size
  have lhN_hA := hA.lt
  have lhN_hB := hB.lt
  have lhN_hR := hR.lt
  replace hA := hA.alloc (.cells #[.int .i64 1, .int .i64 0, .int .u64 0, .string ⟨#[]⟩] 28)
  replace hB := hB.alloc (.cells #[.int .i64 1, .int .i64 0, .int .u64 0, .string ⟨#[]⟩] 28)
  replace hR := hR.alloc (.cells #[.int .i64 1, .int .i64 0, .int .u64 0, .string ⟨#[]⟩] 28)
  have hN := Blk.new w3 28 #[.int .i64 1, .int .i64 0, .int .u64 0, .string ⟨#[]⟩]
  have bz := bb.size
  replace bb := bl_al bb (.cells #[.int .i64 1, .int .i64 0, .int .u64 0, .string ⟨#[]⟩] 28)
  have hA_0 : (w3.alloc (.cells #[.int .i64 1, .int .i64 0, .int .u64 0, .string ⟨#[]⟩] 28)).cell? ⟨w.heap.size, 0, none⟩ = some (.int .i64 1) := hA.cell 0
  have hA_1 : (w3.alloc (.cells #[.int .i64 1, .int .i64 0, .int .u64 0, .string ⟨#[]⟩] 28)).cell? ⟨w.heap.size, 1, none⟩ = some (.int .i64 0) := hA.cell 1
  have hA_2 : (w3.alloc (.cells #[.int .i64 1, .int .i64 0, .int .u64 0, .string ⟨#[]⟩] 28)).cell? ⟨w.heap.size, 2, none⟩ = some (.int .u64 0) := hA.cell 2
  have hA_3 : (w3.alloc (.cells #[.int .i64 1, .int .i64 0, .int .u64 0, .string ⟨#[]⟩] 28)).cell? ⟨w.heap.size, 3, none⟩ = some (.string ⟨#[]⟩) := hA.cell 3
  have hB_0 : (w3.alloc (.cells #[.int .i64 1, .int .i64 0, .int .u64 0, .string ⟨#[]⟩] 28)).cell? ⟨w.heap.size + 1, 0, none⟩ = some (.int .i64 0) := hB.cell 0
  have hB_1 : (w3.alloc (.cells #[.int .i64 1, .int .i64 0, .int .u64 0, .string ⟨#[]⟩] 28)).cell? ⟨w.heap.size + 1, 1, none⟩ = some (.int .i64 0) := hB.cell 1
  have hB_2 : (w3.alloc (.cells #[.int .i64 1, .int .i64 0, .int .u64 0, .string ⟨#[]⟩] 28)).cell? ⟨w.heap.size + 1, 2, none⟩ = some (.int .u64 0) := hB.cell 2
  have hB_3 : (w3.alloc (.cells #[.int .i64 1, .int .i64 0, .int .u64 0, .string ⟨#[]⟩] 28)).cell? ⟨w.heap.size + 1, 3, none⟩ = some (.string ⟨#[]⟩) := hB.cell 3
  have KR := Lib.hid hR
  clear hR
  go_wp2_with (refine wpList_store_blk rfl 28 (.tmp 4) (.tmp 26) rfl (w.heap.size + 1 + 1) 28 _ _ rfl rfl KR.out rfl valI (one4 _ _ _ _) ?_; intro wz hZ gz)
  exact bodyPost_ret (res2 Tryd.results31 rfl rfl hZ Tryd.underlying28 rfl valI) rfl ⟨rfl, bl_gr bb gz (by omega)⟩
set_option maxRecDepth 100000 in
set_option maxHeartbeats 4000000 in
theorem rand_VB0_VB0 (w : World) : Calls Tryd.prog 31 #[.agg #[.int .i64 1, .int .i64 0, .int .u64 0, .string ⟨#[]⟩], .agg #[.int .i64 1, .int .i64 0, .int .u64 0, .string ⟨#[]⟩]] w fun e w' => e = .returned (.tuple #[.agg #[.int .i64 1, .int .i64 0, .int .u64 0, .string ⟨#[]⟩], .int .i64 0]) ∧ Below w.heap.size w w' := by
  have hA := (((Blk.new w 28 #[.int .i64 1, .int .i64 0, .int .u64 0, .string ⟨#[]⟩]).alloc (.cells #[.int .i64 1, .int .i64 0, .int .u64 0, .string ⟨#[]⟩] 28)).alloc (.cells #[.int .i64 0, .int .i64 0, .int .u64 0, .string ⟨#[]⟩] 28))
  have hB := ((Blk.new (w.alloc (.cells #[.int .i64 1, .int .i64 0, .int .u64 0, .string ⟨#[]⟩] 28)) 28 #[.int .i64 1, .int .i64 0, .int .u64 0, .string ⟨#[]⟩]).alloc (.cells #[.int .i64 0, .int .i64 0, .int .u64 0, .string ⟨#[]⟩] 28))
  have hR := (Blk.new ((w.alloc (.cells #[.int .i64 1, .int .i64 0, .int .u64 0, .string ⟨#[]⟩] 28)).alloc (.cells #[.int .i64 1, .int .i64 0, .int .u64 0, .string ⟨#[]⟩] 28)) 28 #[.int .i64 0, .int .i64 0, .int .u64 0, .string ⟨#[]⟩])
  have bb := (bl_al (bl_al (bl_al (Below.refl w.heap.size w) (.cells #[.int .i64 1, .int .i64 0, .int .u64 0, .string ⟨#[]⟩] 28)) (.cells #[.int .i64 1, .int .i64 0, .int .u64 0, .string ⟨#[]⟩] 28)) (.cells #[.int .i64 0, .int .i64 0, .int .u64 0, .string ⟨#[]⟩] 28))
  simp only [World.size_alloc] at hB hR
  go_enter Tryd.func31, Tryd.ntmps31
  go_wp2_with fail
  generalize (((w.alloc (.cells #[.int .i64 1, .int .i64 0, .int .u64 0, .string ⟨#[]⟩] 28)).alloc (.cells #[.int .i64 1, .int .i64 0, .int .u64 0, .string ⟨#[]⟩] 28)).alloc (.cells #[.int .i64 0, .int .i64 0, .int .u64 0, .string ⟨#[]⟩] 28)) = w1 at *
  have hA_0 : w1.cell? ⟨w.heap.size, 0, none⟩ = some (.int .i64 1) := hA.cell 0
  have hA_1 : w1.cell? ⟨w.heap.size, 1, none⟩ = some (.int .i64 0) := hA.cell 1
  have hA_2 : w1.cell? ⟨w.heap.size, 2, none⟩ = some (.int .u64 0) := hA.cell 2
  have hA_3 : w1.cell? ⟨w.heap.size, 3, none⟩ = some (.string ⟨#[]⟩) := hA.cell 3
  have hB_0 : w1.cell? ⟨w.heap.size + 1, 0, none⟩ = some (.int .i64 1) := hB.cell 0
  have hB_1 : w1.cell? ⟨w.heap.size + 1, 1, none⟩ = some (.int .i64 0) := hB.cell 1
  have hB_2 : w1.cell? ⟨w.heap.size + 1, 2, none⟩ = some (.int .u64 0) := hB.cell 2
  have hB_3 : w1.cell? ⟨w.heap.size + 1, 3, none⟩ = some (.string ⟨#[]⟩) := hB.cell 3
  go_wp2_with fail
  refine (rtr_VB0_VB0 _).mono ?_
  rintro e w2 ⟨rfl, q2⟩
  clear hA_0 hA_1 hA_2 hA_3 hB_0 hB_1 hB_2 hB_3
  replace hA := hA.ca q2
  replace hB := hB.ca q2
  replace hR := hR.ca q2
  replace bb := bl_ca bb q2
  clear q2
  go_wp2_with fail
  refine (rbool_false _).mono ?_
  rintro e w3 ⟨rfl, q3⟩
  replace hA := hA.ca q3
  replace hB := hB.ca q3
  replace hR := hR.ca q3
  replace bb := bl_ca bb q3
  clear q3
  have lb := bb.size
  have lhN_hA := hA.lt
  have lhN_hB := hB.lt
  have lhN_hR := hR.lt
  replace hA := hA.alloc (.cells #[.int .i64 1, .int .i64 0, .int .u64 0, .string ⟨#[]⟩] 28)
  replace hB := hB.alloc (.cells #[.int .i64 1, .int .i64 0, .int .u64 0, .string ⟨#[]⟩] 28)
  replace hR := hR.alloc (.cells #[.int .i64 1, .int .i64 0, .int .u64 0, .string ⟨#[]⟩] 28)
  have hN := Blk.new w3 28 #[.int .i64 1, .int .i64 0, .int .u64 0, .string ⟨#[]⟩]
  have bz := bb.size
  replace bb := bl_al bb (.cells #[.int .i64 1, .int .i64 0, .int .u64 0, .string ⟨#[]⟩] 28)
  have hA_0 : (w3.alloc (.cells #[.int .i64 1, .int .i64 0, .int .u64 0, .string ⟨#[]⟩] 28)).cell? ⟨w.heap.size, 0, none⟩ = some (.int .i64 1) := hA.cell 0
  have hA_1 : (w3.alloc (.cells #[.int .i64 1, .int .i64 0, .int .u64 0, .string ⟨#[]⟩] 28)).cell? ⟨w.heap.size, 1, none⟩ = some (.int .i64 0) := hA.cell 1
  have hA_2 : (w3.alloc (.cells #[.int .i64 1, .int .i64 0, .int .u64 0, .string ⟨#[]⟩] 28)).cell? ⟨w.heap.size, 2, none⟩ = some (.int .u64 0) := hA.cell 2
  have hA_3 : (w3.alloc (.cells #[.int .i64 1, .int .i64 0, .int .u64 0, .string ⟨#[]⟩] 28)).cell? ⟨w.heap.size, 3, none⟩ = some (.string ⟨#[]⟩) := hA.cell 3
  have hB_0 : (w3.alloc (.cells #[.int .i64 1, .int .i64 0, .int .u64 0, .string ⟨#[]⟩] 28)).cell? ⟨w.heap.size + 1, 0, none⟩ = some (.int .i64 1) := hB.cell 0
  have hB_1 : (w3.alloc (.cells #[.int .i64 1, .int .i64 0, .int .u64 0, .string ⟨#[]⟩] 28)).cell? ⟨w.heap.size + 1, 1, none⟩ = some (.int .i64 0) := hB.cell 1
  have hB_2 : (w3.alloc (.cells #[.int .i64 1, .int .i64 0, .int .u64 0, .string ⟨#[]⟩] 28)).cell? ⟨w.heap.size + 1, 2, none⟩ = some (.int .u64 0) := hB.cell 2
  have hB_3 : (w3.alloc (.cells #[.int .i64 1, .int .i64 0, .int .u64 0, .string ⟨#[]⟩] 28)).cell? ⟨w.heap.size + 1, 3, none⟩ = some (.string ⟨#[]⟩) := hB.cell 3
  have KR := Lib.hid hR
  clear hR
  go_wp2_with (refine wpList_store_blk rfl 28 (.tmp 4) (.tmp 26) rfl (w.heap.size + 1 + 1) 28 _ _ rfl rfl KR.out rfl valI (one4 _ _ _ _) ?_; intro wz hZ gz)
  exact bodyPost_ret (res2 Tryd.results31 rfl rfl hZ Tryd.underlying28 rfl valI) rfl ⟨rfl, bl_gr bb gz (by omega)⟩
set_option maxRecDepth 100000 in
set_option maxHeartbeats 4000000 in
theorem rand_VB0_VB1 (w : World) : Calls Tryd.prog 31 #[.agg #[.int .i64 1, .int .i64 0, .int .u64 0, .string ⟨#[]⟩], .agg #[.int .i64 1, .int .i64 1, .int .u64 0, .string ⟨#[]⟩]] w fun e w' => e = .returned (.tuple #[.agg #[.int .i64 1, .int .i64 0, .int .u64 0, .string ⟨#[]⟩], .int .i64 0]) ∧ Below w.heap.size w w' := by
  have hA := (((Blk.new w 28 #[.int .i64 1, .int .i64 0, .int .u64 0, .string ⟨#[]⟩]).alloc (.cells #[.int .i64 1, .int .i64 1, .int .u64 0, .string ⟨#[]⟩] 28)).alloc (.cells #[.int .i64 0, .int .i64 0, .int .u64 0, .string ⟨#[]⟩] 28))
  have hB := ((Blk.new (w.alloc (.cells #[.int .i64 1, .int .i64 0, .int .u64 0, .string ⟨#[]⟩] 28)) 28 #[.int .i64 1, .int .i64 1, .int .u64 0, .string ⟨#[]⟩]).alloc (.cells #[.int .i64 0, .int .i64 0, .int .u64 0, .string ⟨#[]⟩] 28))
  have hR := (Blk.new ((w.alloc (.cells #[.int .i64 1, .int .i64 0, .int .u64 0, .string ⟨#[]⟩] 28)).alloc (.cells #[.int .i64 1, .int .i64 1, .int .u64 0, .string ⟨#[]⟩] 28)) 28 #[.int .i64 0, .int .i64 0, .int .u64 0, .string ⟨#[]⟩])
  have bb := (bl_al (bl_al (bl_al (Below.refl w.heap.size w) (.cells #[.int .i64 1, .int .i64 0, .int .u64 0, .string ⟨#[]⟩] 28)) (.cells #[.int .i64 1, .int .i64 1, .int .u64 0, .string ⟨#[]⟩] 28)) (.cells #[.int .i64 0, .int .i64 0, .int .u64 0, .string ⟨#[]⟩] 28))
  simp only [World.size_alloc] at hB hR
  go_enter Tryd.func31, Tryd.ntmps31
  go_wp2_with fail
  generalize (((w.alloc (.cells #[.int .i64 1, .int .i64 0, .int .u64 0, .string ⟨#[]⟩] 28)).alloc (.cells #[.int .i64 1, .int .i64 1, .int .u64 0, .string ⟨#[]⟩] 28)).alloc (.cells #[.int .i64 0, .int .i64 0, .int .u64 0, .string ⟨#[]⟩] 28)) = w1 at *
  have hA_0 : w1.cell? ⟨w.heap.size, 0, none⟩ = some (.int .i64 1) := hA.cell 0
  have hA_1 : w1.cell? ⟨w.heap.size, 1, none⟩ = some (.int .i64 0) := hA.cell 1
  have hA_2 : w1.cell? ⟨w.heap.size, 2, none⟩ = some (.int .u64 0) := hA.cell 2
  have hA_3 : w1.cell? ⟨w.heap.size, 3, none⟩ = some (.string ⟨#[]⟩) := hA.cell 3
  have hB_0 : w1.cell? ⟨w.heap.size + 1, 0, none⟩ = some (.int .i64 1) := hB.cell 0
  have hB_1 : w1.cell? ⟨w.heap.size + 1, 1, none⟩ = some (.int .i64 1) := hB.cell 1
  have hB_2 : w1.cell? ⟨w.heap.size + 1, 2, none⟩ = some (.int .u64 0) := hB.cell 2
  have hB_3 : w1.cell? ⟨w.heap.size + 1, 3, none⟩ = some (.string ⟨#[]⟩) := hB.cell 3
  go_wp2_with fail
  refine (rtr_VB0_VB1 _).mono ?_
  rintro e w2 ⟨rfl, q2⟩
  clear hA_0 hA_1 hA_2 hA_3 hB_0 hB_1 hB_2 hB_3
  replace hA := hA.ca q2
  replace hB := hB.ca q2
  replace hR := hR.ca q2
  replace bb := bl_ca bb q2
  clear q2
  go_wp2_with fail
  refine (rbool_false _).mono ?_
  rintro e w3 ⟨rfl, q3⟩
  replace hA := hA.ca q3
  replace hB := hB.ca q3
  replace hR := hR.ca q3
  replace bb := bl_ca bb q3
  clear q3
  have lb := bb.size
  have lhN_hA := hA.lt
  have lhN_hB := hB.lt
  have lhN_hR := hR.lt
  replace hA := hA.alloc (.cells #[.int .i64 1, .int .i64 0, .int .u64 0, .string ⟨#[]⟩] 28)
  replace hB := hB.alloc (.cells #[.int .i64 1, .int .i64 0, .int .u64 0, .string ⟨#[]⟩] 28)
  replace hR := hR.alloc (.cells #[.int .i64 1, .int .i64 0, .int .u64 0, .string ⟨#[]⟩] 28)
  have hN := Blk.new w3 28 #[.int .i64 1, .int .i64 0, .int .u64 0, .string ⟨#[]⟩]
  have bz := bb.size
  replace bb := bl_al bb (.cells #[.int .i64 1, .int .i64 0, .int .u64 0, .string ⟨#[]⟩] 28)
  have hA_0 : (w3.alloc (.cells #[.int .i64 1, .int .i64 0, .int .u64 0, .string ⟨#[]⟩] 28)).cell? ⟨w.heap.size, 0, none⟩ = some (.int .i64 1) := hA.cell 0
  have hA_1 : (w3.alloc (.cells #[.int .i64 1, .int .i64 0, .int .u64 0, .string ⟨#[]⟩] 28)).cell? ⟨w.heap.size, 1, none⟩ = some (.int .i64 0) := hA.cell 1
  have hA_2 : (w3.alloc (.cells #[.int .i64 1, .int .i64 0, .int .u64 0, .string ⟨#[]⟩] 28)).cell? ⟨w.heap.size, 2, none⟩ = some (.int .u64 0) := hA.cell 2
  have hA_3 : (w3.alloc (.cells #[.int .i64 1, .int .i64 0, .int .u64 0, .string ⟨#[]⟩] 28)).cell? ⟨w.heap.size, 3, none⟩ = some (.string ⟨#[]⟩) := hA.cell 3
  have hB_0 : (w3.alloc (.cells #[.int .i64 1, .int .i64 0, .int .u64 0, .string ⟨#[]⟩] 28)).cell? ⟨w.heap.size + 1, 0, none⟩ = some (.int .i64 1) := hB.cell 0
  have hB_1 : (w3.alloc (.cells #[.int .i64 1, .int .i64 0, .int .u64 0, .string ⟨#[]⟩] 28)).cell? ⟨w.heap.size + 1, 1, none⟩ = some (.int .i64 1) := hB.cell 1
  have hB_2 : (w3.alloc (.cells #[.int .i64 1, .int .i64 0, .int .u64 0, .string ⟨#[]⟩] 28)).cell? ⟨w.heap.size + 1, 2, none⟩ = some (.int .u64 0) := hB.cell 2
  have hB_3 : (w3.alloc (.cells #[.int .i64 1, .int .i64 0, .int .u64 0, .string ⟨#[]⟩] 28)).cell? ⟨w.heap.size + 1, 3, none⟩ = some (.string ⟨#[]⟩) := hB.cell 3
  have KR := Lib.hid hR
  clear hR
  go_wp2_with (refine wpList_store_blk rfl 28 (.tmp 4) (.tmp 26) rfl (w.heap.size + 1 + 1) 28 _ _ rfl rfl KR.out rfl valI (one4 _ _ _ _) ?_; intro wz hZ gz)
  exact bodyPost_ret (res2 Tryd.results31 rfl rfl hZ Tryd.underlying28 rfl valI) rfl ⟨rfl, bl_gr bb gz (by omega)⟩
set_option maxRecDepth 100000 in
set_option maxHeartbeats 4000000 in
theorem rand_VB1_V0 (w : World) : Calls Tryd.prog 31 #[.agg #[.int .i64 1, .int .i64 1, .int .u64 0, .string ⟨#[]⟩], .agg #[.int .i64 0, .int .i64 0, .int .u64 0, .string ⟨#[]⟩]] w fun e w' => e = .returned (.tuple #[.agg #[.int .i64 0, .int .i64 0, .int .u64 0, .string ⟨#[]⟩], .int .i64 0]) ∧ Below w.heap.size w w' := by
  have hA := (((Blk.new w 28 #[.int .i64 1, .int .i64 1, .int .u64 0, .string ⟨#[]⟩]).alloc (.cells #[.int .i64 0, .int .i64 0, .int .u64 0, .string ⟨#[]⟩] 28)).alloc (.cells #[.int .i64 0, .int .i64 0, .int .u64 0, .string ⟨#[]⟩] 28))
  have hB := ((Blk.new (w.alloc (.cells #[.int .i64 1, .int .i64 1, .int .u64 0, .string ⟨#[]⟩] 28)) 28 #[.int .i64 0, .int .i64 0, .int .u64 0, .string ⟨#[]⟩]).alloc (.cells #[.int .i64 0, .int .i64 0, .int .u64 0, .string ⟨#[]⟩] 28))
  have hR := (Blk.new ((w.alloc (.cells #[.int .i64 1, .int .i64 1, .int .u64 0, .string ⟨#[]⟩] 28)).alloc (.cells #[.int .i64 0, .int .i64 0, .int .u64 0, .string ⟨#[]⟩] 28)) 28 #[.int .i64 0, .int .i64 0, .int .u64 0, .string ⟨#[]⟩])
  have bb := (bl_al (bl_al (bl_al (Below.refl w.heap.size w) (.cells #[.int .i64 1, .int .i64 1, .int .u64 0, .string ⟨#[]⟩] 28)) (.cells #[.int .i64 0, .int .i64 0, .int .u64 0, .string ⟨#[]⟩] 28)) (.cells #[.int .i64 0, .int .i64 0, .int .u64 0, .string ⟨#[]⟩] 28))
  simp only [World.size_alloc] at hB hR
  go_enter Tryd.func31, Tryd.ntmps31
  go_wp2_with fail
  generalize (((w.alloc (.cells #[.int .i64 1, .int .i64 1, .int .u64 0, .string ⟨#[]⟩] 28)).alloc (.cells #[.int .i64 0, .int .i64 0, .int .u64 0, .string ⟨#[]⟩] 28)).alloc (.cells #[.int .i64 0, .int .i64 0, .int .u64 0, .string ⟨#[]⟩] 28)) = w1 at *
  have hA_0 : w1.cell? ⟨w.heap.size, 0, none⟩ = some (.int .i64 1) := hA.cell 0
  have hA_1 : w1.cell? ⟨w.heap.size, 1, none⟩ = some (.int .i64 1) := hA.cell 1
  have hA_2 : w1.cell? ⟨w.heap.size, 2, none⟩ = some (.int .u64 0) := hA.cell 2
  have hA_3 : w1.cell? ⟨w.heap.size, 3, none⟩ = some (.string ⟨#[]⟩) := hA.cell 3
  have hB_0 : w1.cell? ⟨w.heap.size + 1, 0, none⟩ = some (.int .i64 0) := hB.cell 0
  have hB_1 : w1.cell? ⟨w.heap.size + 1, 1, none⟩ = some (.int .i64 0) := hB.cell 1
  have hB_2 : w1.cell? ⟨w.heap.size + 1, 2, none⟩ = some (.int .u64 0) := hB.cell 2
  have hB_3 : w1.cell? ⟨w.heap.size + 1, 3, none⟩ = some (.string ⟨#[]⟩) := hB.cell 3
  go_wp2_with fail
  refine (rtr_VB1_V0 _).mono ?_
  rintro e w2 ⟨rfl, q2⟩
  clear hA_0 hA_1 hA_2 hA_3 hB_0 hB_1 hB_2 hB_3
  replace hA := hA.ca q2
  replace hB := hB.ca q2
  replace hR := hR.ca q2
  replace bb := bl_ca bb q2
  clear q2
  go_wp2_with fail
  refine (rbool_false _).mono ?_
  rintro e w3 ⟨rfl, q3⟩
  replace hA := hA.ca q3
  replace hB := hB.ca q3
  replace hR := hR.ca q3
  replace bb := bl_ca bb q3
  clear q3
  have lb := bb.size
  have lhN_hA := hA.lt
  have lhN_hB := hB.lt
  have lhN_hR := hR.lt
  replace hA := hA.alloc (.cells #[.int .i64 1, .int .i64 0, .int .u64 0, .string ⟨#[]⟩] 28)
  replace hB := hB.alloc (.cells #[.int .i64 1, .int .i64 0, .int .u64 0, .string ⟨#[]⟩] 28)
  replace hR := hR.alloc (.cells #[.int .i64 1, .int .i64 0, .int .u64 0, .string ⟨#[]⟩] 28)
  have hN := Blk.new w3 28 #[.int .i64 1, .int .i64 0, .int .u64 0, .string ⟨#[]⟩]
  have bz := bb.size
  replace bb := bl_al bb (.cells #[.int .i64 1, .int .i64 0, .int .u64 0, .string ⟨#[]⟩] 28)
  have hA_0 : (w3.alloc (.cells #[.int .i64 1, .int .i64 0, .int .u64 0, .string ⟨#[]⟩] 28)).cell? ⟨w.heap.size, 0, none⟩ = some (.int .i64 1) := hA.cell 0
  have hA_1 : (w3.alloc (.cells #[.int .i64 1, .int .i64 0, .int .u64 0, .string ⟨#[]⟩] 28)).cell? ⟨w.heap.size, 1, none⟩ = some (.int .i64 1) := hA.cell 1
  have hA_2 : (w3.alloc (.cells #[.int .i64 1, .int .i64 0, .int .u64 0, .string ⟨#[]⟩] 28)).cell? ⟨w.heap.size, 2, none⟩ = some (.int .u64 0) := hA.cell 2
  have hA_3 : (w3.alloc (.cells #[.int .i64 1, .int .i64 0, .int .u64 0, .string ⟨#[]⟩] 28)).cell? ⟨w.heap.size, 3, none⟩ = some (.string ⟨#[]⟩) := hA.cell 3
  have hB_0 : (w3.alloc (.cells #[.int .i64 1, .int .i64 0, .int .u64 0, .string ⟨#[]⟩] 28)).cell? ⟨w.heap.size + 1, 0, none⟩ = some (.int .i64 0) := hB.cell 0
  have hB_1 : (w3.alloc (.cells #[.int .i64 1, .int .i64 0, .int .u64 0, .string ⟨#[]⟩] 28)).cell? ⟨w.heap.size + 1, 1, none⟩ = some (.int .i64 0) := hB.cell 1
  have hB_2 : (w3.alloc (.cells #[.int .i64 1, .int .i64 0, .int .u64 0, .string ⟨#[]⟩] 28)).cell? ⟨w.heap.size + 1, 2, none⟩ = some (.int .u64 0) := hB.cell 2
  have hB_3 : (w3.alloc (.cells #[.int .i64 1, .int .i64 0, .int .u64 0, .string ⟨#[]⟩] 28)).cell? ⟨w.heap.size + 1, 3, none⟩ = some (.string ⟨#[]⟩) := hB.cell 3
  have KR := Lib.hid hR
  clear hR
  go_wp2_with (refine wpList_store_blk rfl 28 (.tmp 4) (.tmp 36) rfl (w.heap.size + 1 + 1) 28 _ _ rfl rfl KR.out rfl valI (one4 _ _ _ _) ?_; intro wz hZ gz)
  exact bodyPost_ret (res2 Tryd.results31 rfl rfl hZ Tryd.underlying28 rfl valI) rfl ⟨rfl, bl_gr bb gz (by omega)⟩
set_option maxRecDepth 100000 in
set_option maxHeartbeats 4000000 in
theorem rand_VB1_VB0 (w : World) : Calls Tryd.prog 31 #[.agg #[.int .i64 1, .int .i64 1, .int .u64 0, .string ⟨#[]⟩], .agg #[.int .i64 1, .int .i64 0, .int .u64 0, .string ⟨#[]⟩]] w fun e w' => e = .returned (.tuple #[.agg #[.int .i64 1, .int .i64 0, .int .u64 0, .string ⟨#[]⟩], .int .i64 0]) ∧ Below w.heap.size w w' := by
  have hA := (((Blk.new w 28 #[.int .i64 1, .int .i64 1, .int .u64 0, .string ⟨#[]⟩]).alloc (.cells #[.int .i64 1, .int .i64 0, .int .u64 0, .string ⟨#[]⟩] 28)).alloc (.cells #[.int .i64 0, .int .i64 0, .int .u64 0, .string ⟨#[]⟩] 28))
  have hB := ((Blk.new (w.alloc (.cells #[.int .i64 1, .int .i64 1, .int .u64 0, .string ⟨#[]⟩] 28)) 28 #[.int .i64 1, .int .i64 0, .int .u64 0, .string ⟨#[]⟩]).alloc (.cells #[.int .i64 0, .int .i64 0, .int .u64 0, .string ⟨#[]⟩] 28))
  have hR := (Blk.new ((w.alloc (.cells #[.int .i64 1, .int .i64 1, .int .u64 0, .string ⟨#[]⟩] 28)).alloc (.cells #[.int .i64 1, .int .i64 0, .int .u64 0, .string ⟨#[]⟩] 28)) 28 #[.int .i64 0, .int .i64 0, .int .u64 0, .string ⟨#[]⟩])
  have bb := (bl_al (bl_al (bl_al (Below.refl w.heap.size w) (.cells #[.int .i64 1, .int .i64 1, .int .u64 0, .string ⟨#[]⟩] 28)) (.cells #[.int .i64 1, .int .i64 0, .int .u64 0, .string ⟨#[]⟩] 28)) (.cells #[.int .i64 0, .int .i64 0, .int .u64 0, .string ⟨#[]⟩] 28))
  simp only [World.size_alloc] at hB hR
  go_enter Tryd.func31, Tryd.ntmps31
  go_wp2_with fail
  generalize (((w.alloc (.cells #[.int .i64 1, .int .i64 1, .int .u64 0, .string ⟨#[]⟩] 28)).alloc (.cells #[.int .i64 1, .int .i64 0, .int .u64 0, .string ⟨#[]⟩] 28)).alloc (.cells #[.int .i64 0, .int .i64 0, .int .u64 0, .string ⟨#[]⟩] 28)) = w1 at *
  have hA_0 : w1.cell? ⟨w.heap.size, 0, none⟩ = some (.int .i64 1) := hA.cell 0
  have hA_1 : w1.cell? ⟨w.heap.size, 1, none⟩ = some (.int .i64 1) := hA.cell 1
  have hA_2 : w1.cell? ⟨w.heap.size, 2, none⟩ = some (.int .u64 0) := hA.cell 2
  have hA_3 : w1.cell? ⟨w.heap.size, 3, none⟩ = some (.string ⟨#[]⟩) := hA.cell 3
  have hB_0 : w1.cell? ⟨w.heap.size + 1, 0, none⟩ = some (.int .i64 1) := hB.cell 0
  have hB_1 : w1.cell? ⟨w.heap.size + 1, 1, none⟩ = some (.int .i64 0) := hB.cell 1
  have hB_2 : w1.cell? ⟨w.heap.size + 1, 2, none⟩ = some (.int .u64 0) := hB.cell 2
  have hB_3 : w1.cell? ⟨w.heap.size + 1, 3, none⟩ = some (.string ⟨#[]⟩) := hB.cell 3
  go_wp2_with fail
  refine (rtr_VB1_VB0 _).mono ?_
  rintro e w2 ⟨rfl, q2⟩
  clear hA_0 hA_1 hA_2 hA_3 hB_0 hB_1 hB_2 hB_3
  replace hA := hA.ca q2
  replace hB := hB.ca q2
  replace hR := hR.ca q2
  replace bb := bl_ca bb q2
  clear q2
  go_wp2_with fail
  refine (rbool_false _).mono ?_
  rintro e w3 ⟨rfl, q3⟩
  replace hA := hA.ca q3
  replace hB := hB.ca q3
  replace hR := hR.ca q3
  replace bb := bl_ca bb q3
  clear q3
  have lb := bb.size
  have lhN_hA := hA.lt
  have lhN_hB := hB.lt
  have lhN_hR := hR.lt
  replace hA := hA.alloc (.cells #[.int .i64 1, .int .i64 0, .int .u64 0, .string ⟨#[]⟩] 28)
  replace hB := hB.alloc (.cells #[.int .i64 1, .int .i64 0, .int .u64 0, .string ⟨#[]⟩] 28)
  replace hR := hR.alloc (.cells #[.int .i64 1, .int .i64 0, .int .u64 0, .string ⟨#[]⟩] 28)
  have hN := Blk.new w3 28 #[.int .i64 1, .int .i64 0, .int .u64 0, .string ⟨#[]⟩]
  have bz := bb.size
  replace bb := bl_al bb (.cells #[.int .i64 1, .int .i64 0, .int .u64 0, .string ⟨#[]⟩] 28)
  have hA_0 : (w3.alloc (.cells #[.int .i64 1, .int .i64 0, .int .u64 0, .string ⟨#[]⟩] 28)).cell? ⟨w.heap.size, 0, none⟩ = some (.int .i64 1) := hA.cell 0
  have hA_1 : (w3.alloc (.cells #[.int .i64 1, .int .i64 0, .int .u64 0, .string ⟨#[]⟩] 28)).cell? ⟨w.heap.size, 1, none⟩ = some (.int .i64 1) := hA.cell 1
  have hA_2 : (w3.alloc (.cells #[.int .i64 1, .int .i64 0, .int .u64 0, .string ⟨#[]⟩] 28)).cell? ⟨w.heap.size, 2, none⟩ = some (.int .u64 0) := hA.cell 2
  have hA_3 : (w3.alloc (.cells #[.int .i64 1, .int .i64 0, .int .u64 0, .string ⟨#[]⟩] 28)).cell? ⟨w.heap.size, 3, none⟩ = some (.string ⟨#[]⟩) := hA.cell 3
  have hB_0 : (w3.alloc (.cells #[.int .i64 1, .int .i64 0, .int .u64 0, .string ⟨#[]⟩] 28)).cell? ⟨w.heap.size + 1, 0, none⟩ = some (.int .i64 1) := hB.cell 0
  have hB_1 : (w3.alloc (.cells #[.int .i64 1, .int .i64 0, .int .u64 0, .string ⟨#[]⟩] 28)).cell? ⟨w.heap.size + 1, 1, none⟩ = some (.int .i64 0) := hB.cell 1
  have hB_2 : (w3.alloc (.cells #[.int .i64 1, .int .i64 0, .int .u64 0, .string ⟨#[]⟩] 28)).cell? ⟨w.heap.size + 1, 2, none⟩ = some (.int .u64 0) := hB.cell 2
  have hB_3 : (w3.alloc (.cells #[.int .i64 1, .int .i64 0, .int .u64 0, .string ⟨#[]⟩] 28)).cell? ⟨w.heap.size + 1, 3, none⟩ = some (.string ⟨#[]⟩) := hB.cell 3
  have KR := Lib.hid hR
  clear hR
  go_wp2_with (refine wpList_store_blk rfl 28 (.tmp 4) (.tmp 26) rfl (w.heap.size + 1 + 1) 28 _ _ rfl rfl KR.out rfl valI (one4 _ _ _ _) ?_; intro wz hZ gz)
  exact bodyPost_ret (res2 Tryd.results31 rfl rfl hZ Tryd.underlying28 rfl valI) rfl ⟨rfl, bl_gr bb gz (by omega)⟩
set_option maxRecDepth 100000 in
set_option maxHeartbeats 4000000 in
theorem rand_VB1_VB1 (w : World) : Calls Tryd.prog 31 #[.agg #[.int .i64 1, .int .i64 1, .int .u64 0, .string ⟨#[]⟩], .agg #[.int .i64 1, .int .i64 1, .int .u64 0, .string ⟨#[]⟩]] w fun e w' => e = .returned (.tuple #[.agg #[.int .i64 1, .int .i64 1, .int .u64 0, .string ⟨#[]⟩], .int .i64 0]) ∧ Below w.heap.size w w' := by
  have hA := (((Blk.new w 28 #[.int .i64 1, .int .i64 1, .int .u64 0, .string ⟨#[]⟩]).alloc (.cells #[.int .i64 1, .int .i64 1, .int .u64 0, .string ⟨#[]⟩] 28)).alloc (.cells #[.int .i64 0, .int .i64 0, .int .u64 0, .string ⟨#[]⟩] 28))
  have hB := ((Blk.new (w.alloc (.cells #[.int .i64 1, .int .i64 1, .int .u64 0, .string ⟨#[]⟩] 28)) 28 #[.int .i64 1, .int .i64 1, .int .u64 0, .string ⟨#[]⟩]).alloc (.cells #[.int .i64 0, .int .i64 0, .int .u64 0, .string ⟨#[]⟩] 28))
  have hR := (Blk.new ((w.alloc (.cells #[.int .i64 1, .int .i64 1, .int .u64 0, .string ⟨#[]⟩] 28)).alloc (.cells #[.int .i64 1, .int .i64 1, .int .u64 0, .string ⟨#[]⟩] 28)) 28 #[.int .i64 0, .int .i64 0, .int .u64 0, .string ⟨#[]⟩])
  have bb := (bl_al (bl_al (bl_al (Below.refl w.heap.size w) (.cells #[.int .i64 1, .int .i64 1, .int .u64 0, .string ⟨#[]⟩] 28)) (.cells #[.int .i64 1, .int .i64 1, .int .u64 0, .string ⟨#[]⟩] 28)) (.cells #[.int .i64 0, .int .i64 0, .int .u64 0, .string ⟨#[]⟩] 28))
  simp only [World.size_alloc] at hB hR
  go_enter Tryd.func31, Tryd.ntmps31
  go_wp2_with fail
  generalize (((w.alloc (.cells #[.int .i64 1, .int .i64 1, .int .u64 0, .string ⟨#[]⟩] 28)).alloc (.cells #[.int .i64 1, .int .i64 1, .int .u64 0, .string ⟨#[]⟩] 28)).alloc (.cells #[.int .i64 0, .int .i64 0, .int .u64 0, .string ⟨#[]⟩] 28)) = w1 at *
  have hA_0 : w1.cell? ⟨w.heap.size, 0, none⟩ = some (.int .i64 1) := hA.cell 0
  have hA_1 : w1.cell? ⟨w.heap.size, 1, none⟩ = some (.int .i64 1) := hA.cell 1
  have hA_2 : w1.cell? ⟨w.heap.size, 2, none⟩ = some (.int .u64 0) := hA.cell 2
  have hA_3 : w1.cell? ⟨w.heap.size, 3, none⟩ = some (.string ⟨#[]⟩) := hA.cell 3
  have hB_0 : w1.cell? ⟨w.heap.size + 1, 0, none⟩ = some (.int .i64 1) := hB.cell 0
  have hB_1 : w1.cell? ⟨w.heap.size + 1, 1, none⟩ = some (.int .i64 1) := hB.cell 1
  have hB_2 : w1.cell? ⟨w.heap.size + 1, 2, none⟩ = some (.int .u64 0) := hB.cell 2
  have hB_3 : w1.cell? ⟨w.heap.size + 1, 3, none⟩ = some (.string ⟨#[]⟩) := hB.cell 3
  go_wp2_with fail
  refine (rtr_VB1_VB1 _).mono ?_
  rintro e w2 ⟨rfl, q2⟩
  clear hA_0 hA_1 hA_2 hA_3 hB_0 hB_1 hB_2 hB_3
  replace hA := hA.ca q2
  replace hB := hB.ca q2
  replace hR := hR.ca q2
  replace bb := bl_ca bb q2
  clear q2
  go_wp2_with fail
  refine (rbool_false _).mono ?_
  rintro e w3 ⟨rfl, q3⟩
  replace hA := hA.ca q3
  replace hB := hB.ca q3
  replace hR := hR.ca q3
  replace bb := bl_ca bb q3
  clear q3
  have lb := bb.size
  have lhN_hA := hA.lt
  have lhN_hB := hB.lt
  have lhN_hR := hR.lt
  replace hA := hA.alloc (.cells #[.int .i64 1, .int .i64 0, .int .u64 0, .string ⟨#[]⟩] 28)
  replace hB := hB.alloc (.cells #[.int .i64 1, .int .i64 0, .int .u64 0, .string ⟨#[]⟩] 28)
  replace hR := hR.alloc (.cells #[.int .i64 1, .int .i64 0, .int .u64 0, .string ⟨#[]⟩] 28)
  have hN := Blk.new w3 28 #[.int .i64 1, .int .i64 0, .int .u64 0, .string ⟨#[]⟩]
  have bz := bb.size
  replace bb := bl_al bb (.cells #[.int .i64 1, .int .i64 0, .int .u64 0, .string ⟨#[]⟩] 28)
  have hA_0 : (w3.alloc (.cells #[.int .i64 1, .int .i64 0, .int .u64 0, .string ⟨#[]⟩] 28)).cell? ⟨w.heap.size, 0, none⟩ = some (.int .i64 1) := hA.cell 0
  have hA_1 : (w3.alloc (.cells #[.int .i64 1, .int .i64 0, .int .u64 0, .string ⟨#[]⟩] 28)).cell? ⟨w.heap.size, 1, none⟩ = some (.int .i64 1) := hA.cell 1
  have hA_2 : (w3.alloc (.cells #[.int .i64 1, .int .i64 0, .int .u64 0, .string ⟨#[]⟩] 28)).cell? ⟨w.heap.size, 2, none⟩ = some (.int .u64 0) := hA.cell 2
  have hA_3 : (w3.alloc (.cells #[.int .i64 1, .int .i64 0, .int .u64 0, .string ⟨#[]⟩] 28)).cell? ⟨w.heap.size, 3, none⟩ = some (.string ⟨#[]⟩) := hA.cell 3
  have hB_0 : (w3.alloc (.cells #[.int .i64 1, .int .i64 0, .int .u64 0, .string ⟨#[]⟩] 28)).cell? ⟨w.heap.size + 1, 0, none⟩ = some (.int .i64 1) := hB.cell 0
  have hB_1 : (w3.alloc (.cells #[.int .i64 1, .int .i64 0, .int .u64 0, .string ⟨#[]⟩] 28)).cell? ⟨w.heap.size + 1, 1, none⟩ = some (.int .i64 1) := hB.cell 1
  have hB_2 : (w3.alloc (.cells #[.int .i64 1, .int .i64 0, .int .u64 0, .string ⟨#[]⟩] 28)).cell? ⟨w.heap.size + 1, 2, none⟩ = some (.int .u64 0) := hB.cell 2
  have hB_3 : (w3.alloc (.cells #[.int .i64 1, .int .i64 0, .int .u64 0, .string ⟨#[]⟩] 28)).cell? ⟨w.heap.size + 1, 3, none⟩ = some (.string ⟨#[]⟩) := hB.cell 3
  go_wp2_with fail
  clear hA_0 hA_1 hA_2 hA_3 hB_0 hB_1 hB_2 hB_3
  generalize w3.alloc (.cells #[.int .i64 1, .int .i64 0, .int .u64 0, .string ⟨#[]⟩] 28) = w4 at *
  clear hN
  refine (rbool_true _).mono ?_
  rintro e w5 ⟨rfl, q5⟩
  replace hA := hA.ca q5
  replace hB := hB.ca q5
  replace hR := hR.ca q5
  replace bb := bl_ca bb q5
  clear q5
  have KR := Lib.hid hR
  clear hR
  go_wp2_with (refine wpList_store_blk rfl 28 (.tmp 4) (.tmp 37) rfl (w.heap.size + 1 + 1) 28 _ _ rfl rfl KR.out rfl valI (one4 _ _ _ _) ?_; intro wz hZ gz)
  exact bodyPost_ret (res2 Tryd.results31 rfl rfl hZ Tryd.underlying28 rfl valI) rfl ⟨rfl, bl_gr bb gz (by omega)⟩
set_option maxRecDepth 100000 in
set_option maxHeartbeats 4000000 in
theorem rand_err (a b : VV) (w : World) (h : kindE [a, b] ≠ 0) : Calls Tryd.prog 31 #[.agg #[.int .i64 a.k, .int .i64 a.n, .int .u64 a.u, .string a.s], .agg #[.int .i64 b.k, .int .i64 b.n, .int .u64 b.u, .string b.s]] w fun e w' => e = .returned (.tuple #[.agg #[.int .i64 0, .int .i64 0, .int .u64 0, .string ⟨#[]⟩], .int .i64 (kindE [a, b])]) ∧ Below w.heap.size w w' := by
  obtain ⟨r, hr⟩ : ∃ r, r = kindE [a, b] := ⟨_, rfl⟩
  have HT := Lib.hid (fun w => rtruths_any a b w)
  rw [← hr] at HT h ⊢
  have hr0 : (r != 0) = true := ibne_t h
  clear hr h
  have hA := (((Blk.new w 28 #[.int .i64 a.k, .int .i64 a.n, .int .u64 a.u, .string a.s]).alloc (.cells #[.int .i64 b.k, .int .i64 b.n, .int .u64 b.u, .string b.s] 28)).alloc (.cells #[.int .i64 0, .int .i64 0, .int .u64 0, .string ⟨#[]⟩] 28))
  have hB := ((Blk.new (w.alloc (.cells #[.int .i64 a.k, .int .i64 a.n, .int .u64 a.u, .string a.s] 28)) 28 #[.int .i64 b.k, .int .i64 b.n, .int .u64 b.u, .string b.s]).alloc (.cells #[.int .i64 0, .int .i64 0, .int .u64 0, .string ⟨#[]⟩] 28))
  have hR := (Blk.new ((w.alloc (.cells #[.int .i64 a.k, .int .i64 a.n, .int .u64 a.u, .string a.s] 28)).alloc (.cells #[.int .i64 b.k, .int .i64 b.n, .int .u64 b.u, .string b.s] 28)) 28 #[.int .i64 0, .int .i64 0, .int .u64 0, .string ⟨#[]⟩])
  have bb := (bl_al (bl_al (bl_al (Below.refl w.heap.size w) (.cells #[.int .i64 a.k, .int .i64 a.n, .int .u64 a.u, .string a.s] 28)) (.cells #[.int .i64 b.k, .int .i64 b.n, .int .u64 b.u, .string b.s] 28)) (.cells #[.int .i64 0, .int .i64 0, .int .u64 0, .string ⟨#[]⟩] 28))
  simp only [World.size_alloc] at hB hR
  go_enter Tryd.func31, Tryd.ntmps31
  go_wp2_with fail
  generalize (((w.alloc (.cells #[.int .i64 a.k, .int .i64 a.n, .int .u64 a.u, .string a.s] 28)).alloc (.cells #[.int .i64 b.k, .int .i64 b.n, .int .u64 b.u, .string b.s] 28)).alloc (.cells #[.int .i64 0, .int .i64 0, .int .u64 0, .string ⟨#[]⟩] 28)) = w1 at *
  have hA_0 : w1.cell? ⟨w.heap.size, 0, none⟩ = some (.int .i64 a.k) := hA.cell 0
  have hA_1 : w1.cell? ⟨w.heap.size, 1, none⟩ = some (.int .i64 a.n) := hA.cell 1
  have hA_2 : w1.cell? ⟨w.heap.size, 2, none⟩ = some (.int .u64 a.u) := hA.cell 2
  have hA_3 : w1.cell? ⟨w.heap.size, 3, none⟩ = some (.string a.s) := hA.cell 3
  have hB_0 : w1.cell? ⟨w.heap.size + 1, 0, none⟩ = some (.int .i64 b.k) := hB.cell 0
  have hB_1 : w1.cell? ⟨w.heap.size + 1, 1, none⟩ = some (.int .i64 b.n) := hB.cell 1
  have hB_2 : w1.cell? ⟨w.heap.size + 1, 2, none⟩ = some (.int .u64 b.u) := hB.cell 2
  have hB_3 : w1.cell? ⟨w.heap.size + 1, 3, none⟩ = some (.string b.s) := hB.cell 3
  go_wp2_with fail
  refine (HT.out _).mono ?_
  rintro e w2 ⟨rfl, q2⟩
  clear hA_0 hA_1 hA_2 hA_3 hB_0 hB_1 hB_2 hB_3
  replace hA := hA.ca q2
  replace hB := hB.ca q2
  replace hR := hR.ca q2
  replace bb := bl_ca bb q2
  clear q2
  go_wp2_with fail
  refine (rbool_false _).mono ?_
  rintro e w3 ⟨rfl, q3⟩
  replace hA := hA.ca q3
  replace hB := hB.ca q3
  replace hR := hR.ca q3
  replace bb := bl_ca bb q3
  clear q3
  have lb := bb.size
  have lhN_hA := hA.lt
  have lhN_hB := hB.lt
  have lhN_hR := hR.lt
  replace hA := hA.alloc (.cells #[.int .i64 1, .int .i64 0, .int .u64 0, .string ⟨#[]⟩] 28)
  replace hB := hB.alloc (.cells #[.int .i64 1, .int .i64 0, .int .u64 0, .string ⟨#[]⟩] 28)
  replace hR := hR.alloc (.cells #[.int .i64 1, .int .i64 0, .int .u64 0, .string ⟨#[]⟩] 28)
  have hN := Blk.new w3 28 #[.int .i64 1, .int .i64 0, .int .u64 0, .string ⟨#[]⟩]
  have bz := bb.size
  replace bb := bl_al bb (.cells #[.int .i64 1, .int .i64 0, .int .u64 0, .string ⟨#[]⟩] 28)
  have KR := Lib.hid hR
  clear hR
  go_wp2_with (refine wpList_store_blk rfl 28 (.tmp 4) (.tmp 15) rfl (w.heap.size + 1 + 1) 28 _ _ rfl rfl KR.out rfl valI (one4 _ _ _ _) ?_; intro wz hZ gz)
  exact bodyPost_ret (res2 Tryd.results31 rfl rfl hZ Tryd.underlying28 rfl valI) rfl ⟨rfl, bl_gr bb gz (by omega)⟩
theorem rand_any (a b : VV) (w : World) : Calls Tryd.prog 31 #[.agg #[.int .i64 a.k, .int .i64 a.n, .int .u64 a.u, .string a.s], .agg #[.int .i64 b.k, .int .i64 b.n, .int .u64 b.u, .string b.s]] w fun e w' => e = .returned (resT (andV a b)) ∧ Below w.heap.size w w' := by
  by_cases h : kindE [a, b] = 0
  · have ha := kind0_tv h a (by simp)
    have hb := kind0_tv h b (by simp)
    have e : ∀ r, andV a b = (r, 0) → resT (andV a b) = resT (r, 0) := fun r h => by rw [h]
    rcases ha with rfl | rfl | rfl
    · rcases hb with rfl | rfl | rfl
      · rw [e V0 (by unfold andV logV; rw [if_pos h]; rfl)]; exact rand_V0_V0 w
      · rw [e VB0 (by unfold andV logV; rw [if_pos h]; rfl)]; exact rand_V0_VB0 w
      · rw [e V0 (by unfold andV logV; rw [if_pos h]; rfl)]; exact rand_V0_VB1 w
    · rcases hb with rfl | rfl | rfl
      · rw [e VB0 (by unfold andV logV; rw [if_pos h]; rfl)]; exact rand_VB0_V0 w
      · rw [e VB0 (by unfold andV logV; rw [if_pos h]; rfl)]; exact rand_VB0_VB0 w
      · rw [e VB0 (by unfold andV logV; rw [if_pos h]; rfl)]; exact rand_VB0_VB1 w
    · rcases hb with rfl | rfl | rfl
      · rw [e V0 (by unfold andV logV; rw [if_pos h]; rfl)]; exact rand_VB1_V0 w
      · rw [e VB0 (by unfold andV logV; rw [if_pos h]; rfl)]; exact rand_VB1_VB0 w
      · rw [e VB1 (by unfold andV logV; rw [if_pos h]; rfl)]; exact rand_VB1_VB1 w
  · rw [show andV a b = (V0, kindE [a, b]) from by unfold andV logV; rw [if_neg h]]
    exact rand_err a b w h
end Go.Proofs.YtabbiepafibmmaaDoor
