/- The law ArithSums: what the program answers is what the reference answers. Conditions: the slice reads as these values, their fields within their kinds. -/
import Derived.Test.YtemakmgppafccaaFew
import Derived.Test.YtemakmgppafccaaWakes4
namespace Go.Proofs.Ytemakmgppafccaa
open Go.RowKit
attribute [local go_sem ↓] Go.wp_at_zero Go.wp_at_succ
theorem few_rng (most : Nat) (vs : List VV) (h : ∀ v ∈ vs, v.rng) : ∀ v ∈ fewV most vs, v.rng := by
  intro v hv
  simp only [fewV, List.mem_map] at hv
  obtain ⟨x, hx, rfl⟩ := hv
  exact h x (List.mem_of_mem_take hx)
set_option maxRecDepth 100000 in
set_option maxHeartbeats 8000000 in
theorem arithSums_walk (A : Option Addr) (n c : Nat) (vs : List VV) (w : World) (h : RdV w A n vs) (hn : n ≤ 9223372036854775807) (hr : ∀ v ∈ vs, v.rng) :
    Calls Try.prog 3 #[.slice A n c] w fun e w' => e = .returned (.bool true) ∧ Below w.heap.size w w' := by
  have HR0 := Lib.hid hr
  clear hr
  go_enter Try.func3, Try.ntmps3
  go_wp2_with fail
  refine (wakes4_any w).mono ?_
  rintro e w1 ⟨rfl, b1⟩
  have h1 := h.below b1
  go_wp2_with fail
  refine (few_any 10 A n c vs w1 h1 hn (by decide)).mono ?_
  rintro e w2 ⟨A', n', c', rfl, ho, q2⟩
  have bb := bl_ca b1 q2
  have hv := ho.rd
  have hlt := Lib.hid ho.len
  have HR := Lib.hid (few_rng 10 vs HR0.out)
  have hn10 : n' ≤ 10 := by
    have := hlt.out
    rw [← this]
    simp only [fewV, List.length_map, List.length_take]
    omega
  generalize fewV 10 vs = xs at *
  clear b1 h1 h ho q2 HR0
  go_wp2
  go_loopg [26] n' (fun g s wr => ∃ (i : Nat), i + g ≤ n' ∧ n' ≤ i + g ∧ s = .int .i64 i ∧ RdV wr A' n' xs ∧ Below w.heap.size w wr)
  case atStart => exact ⟨0, by omega, by omega, rfl, hv, bb⟩
  case round =>
    clear hv bb
    obtain ⟨i, hi1, hi2, rfl, hv, bb⟩ := hrel
    by_cases hi : i < n'
    · obtain ⟨ad, v, hA, hvi, hal, c0, c1, c2, c3⟩ := hv.2 i hi
      subst hA
      have hvr : v.rng := HR.out v (List.mem_of_getElem? hvi)
      clear hvi
      have HE1 := Lib.hid (fun w => endP_any v w hvr)
      have HE2 := Lib.hid (fun w => endR_any v w hvr)
      generalize endV v = R at *
      replace hv := hv.below (bl_al (Below.refl _ _) (.cells #[.int .i64 v.k, .int .i64 v.n, .int .u64 v.u, .string v.s] 27))
      have hS := Blk.new wr 27 #[.int .i64 v.k, .int .i64 v.n, .int .u64 v.u, .string v.s]
      have bz := bb.size
      replace bb := bl_al bb (.cells #[.int .i64 v.k, .int .i64 v.n, .int .u64 v.u, .string v.s] 27)
      go_wp2_with fail
      clear c0 c1 c2 c3 hal
      generalize wr.alloc (.cells #[.int .i64 v.k, .int .i64 v.n, .int .u64 v.u, .string v.s] 27) = w21 at *
      generalize wr.heap.size = G21 at *
      refine (HE1.out _).mono ?_
      rintro e w22 ⟨rfl, q22⟩
      simp only [resT]
      replace hv := hv.below q22
      replace hS := hS.ca q22
      replace bb := bl_ca bb q22
      clear q22
      have hS_0 : w22.cell? ⟨G21, 0, none⟩ = some (.int .i64 v.k) := hS.cell 0
      have hS_1 : w22.cell? ⟨G21, 1, none⟩ = some (.int .i64 v.n) := hS.cell 1
      have hS_2 : w22.cell? ⟨G21, 2, none⟩ = some (.int .u64 v.u) := hS.cell 2
      have hS_3 : w22.cell? ⟨G21, 3, none⟩ = some (.string v.s) := hS.cell 3
      replace hv := hv.below (bl_al (Below.refl _ _) (.cells #[.int .i64 R.1.k, .int .i64 R.1.n, .int .u64 R.1.u, .string R.1.s] 27))
      have lhX_hS := hS.lt
      replace hS := hS.alloc (.cells #[.int .i64 R.1.k, .int .i64 R.1.n, .int .u64 R.1.u, .string R.1.s] 27)
      have hX := Blk.new w22 27 #[.int .i64 R.1.k, .int .i64 R.1.n, .int .u64 R.1.u, .string R.1.s]
      have bz := bb.size
      replace bb := bl_al bb (.cells #[.int .i64 R.1.k, .int .i64 R.1.n, .int .u64 R.1.u, .string R.1.s] 27)
      go_wp2_with fail
      clear hS_0 hS_1 hS_2 hS_3
      generalize w22.alloc (.cells #[.int .i64 R.1.k, .int .i64 R.1.n, .int .u64 R.1.u, .string R.1.s] 27) = w23 at *
      generalize w22.heap.size = G23 at *
      refine (HE2.out _).mono ?_
      rintro e w24 ⟨rfl, q24⟩
      simp only [resT]
      replace hv := hv.below q24
      replace hS := hS.ca q24
      replace hX := hX.ca q24
      replace bb := bl_ca bb q24
      clear q24
      have hX_0 : w24.cell? ⟨G23, 0, none⟩ = some (.int .i64 R.1.k) := hX.cell 0
      have hX_1 : w24.cell? ⟨G23, 1, none⟩ = some (.int .i64 R.1.n) := hX.cell 1
      have hX_2 : w24.cell? ⟨G23, 2, none⟩ = some (.int .u64 R.1.u) := hX.cell 2
      have hX_3 : w24.cell? ⟨G23, 3, none⟩ = some (.string R.1.s) := hX.cell 3
      replace hv := hv.below (bl_al (Below.refl _ _) (.cells #[.int .i64 R.1.k, .int .i64 R.1.n, .int .u64 R.1.u, .string R.1.s] 27))
      have lhY_hS := hS.lt
      have lhY_hX := hX.lt
      replace hS := hS.alloc (.cells #[.int .i64 R.1.k, .int .i64 R.1.n, .int .u64 R.1.u, .string R.1.s] 27)
      replace hX := hX.alloc (.cells #[.int .i64 R.1.k, .int .i64 R.1.n, .int .u64 R.1.u, .string R.1.s] 27)
      have hY := Blk.new w24 27 #[.int .i64 R.1.k, .int .i64 R.1.n, .int .u64 R.1.u, .string R.1.s]
      have bz := bb.size
      replace bb := bl_al bb (.cells #[.int .i64 R.1.k, .int .i64 R.1.n, .int .u64 R.1.u, .string R.1.s] 27)
      go_wp2_with fail
      clear hX_0 hX_1 hX_2 hX_3
      generalize w24.alloc (.cells #[.int .i64 R.1.k, .int .i64 R.1.n, .int .u64 R.1.u, .string R.1.s] 27) = w25 at *
      generalize w24.heap.size = G25 at *
      refine (told_same R.1.k R.1.n R.1.u R.1.s R.2 _).mono ?_
      rintro e w26 ⟨rfl, q26⟩
      replace hv := hv.below q26
      replace hS := hS.ca q26
      replace hX := hX.ca q26
      replace hY := hY.ca q26
      replace bb := bl_ca bb q26
      clear q26
      clear hX hY
      go_wp2
      obtain ⟨g1, rfl⟩ : ∃ g1, g1 = gk := ⟨_, rfl⟩
      obtain ⟨wo, rfl⟩ : ∃ wo : World, wo = wr := ⟨_, rfl⟩
      go_loopg [48] n' (fun g s wr => ∃ (k : Nat), k + g ≤ n' ∧ n' ≤ k + g ∧ s = .int .i64 k ∧ RdV wr (some ad) n' xs ∧ Blk wr G21 27 #[.int .i64 v.k, .int .i64 v.n, .int .u64 v.u, .string v.s] ∧ Below w.heap.size w wr)
      case atStart => exact ⟨0, by omega, by omega, rfl, hv, hS, bb⟩
      case round =>
        clear hv hS bb
        obtain ⟨k, hk1, hk2, rfl, hv, hS, bb⟩ := hrel
        by_cases hk : k < n'
        · obtain ⟨ad2, u, hA2, hui, hal, c0, c1, c2, c3⟩ := hv.2 k hk
          injection hA2 with hA2
          subst hA2
          have hur : u.rng := HR.out u (List.mem_of_getElem? hui)
          clear hui
          have HC0 := Lib.hid (fun w => sumP_any v u w hvr hur)
          have HC1 := Lib.hid (fun w => joinP_any v u w hvr hur)
          have HC2 := Lib.hid (fun w => sumR_any v u w hvr hur)
          have HC3 := Lib.hid (fun w => joinR_any v u w hvr hur)
          generalize sumV v u = P at *
          generalize joinV v u = Q at *
          have hS_0 : wr.cell? ⟨G21, 0, none⟩ = some (.int .i64 v.k) := hS.cell 0
          have hS_1 : wr.cell? ⟨G21, 1, none⟩ = some (.int .i64 v.n) := hS.cell 1
          have hS_2 : wr.cell? ⟨G21, 2, none⟩ = some (.int .u64 v.u) := hS.cell 2
          have hS_3 : wr.cell? ⟨G21, 3, none⟩ = some (.string v.s) := hS.cell 3
          clear hS_0 hS_1 hS_2 hS_3
          replace hv := hv.below (bl_al (Below.refl _ _) (.cells #[.int .i64 u.k, .int .i64 u.n, .int .u64 u.u, .string u.s] 27))
          have lhU_hS := hS.lt
          replace hS := hS.alloc (.cells #[.int .i64 u.k, .int .i64 u.n, .int .u64 u.u, .string u.s] 27)
          have hU := Blk.new wr 27 #[.int .i64 u.k, .int .i64 u.n, .int .u64 u.u, .string u.s]
          have bz := bb.size
          replace bb := bl_al bb (.cells #[.int .i64 u.k, .int .i64 u.n, .int .u64 u.u, .string u.s] 27)
          have s0 : (wr.alloc (.cells #[.int .i64 u.k, .int .i64 u.n, .int .u64 u.u, .string u.s] 27)).cell? ⟨G21, 0, none⟩ = some (.int .i64 v.k) := hS.cell 0
          have s1 : (wr.alloc (.cells #[.int .i64 u.k, .int .i64 u.n, .int .u64 u.u, .string u.s] 27)).cell? ⟨G21, 1, none⟩ = some (.int .i64 v.n) := hS.cell 1
          have s2 : (wr.alloc (.cells #[.int .i64 u.k, .int .i64 u.n, .int .u64 u.u, .string u.s] 27)).cell? ⟨G21, 2, none⟩ = some (.int .u64 v.u) := hS.cell 2
          have s3 : (wr.alloc (.cells #[.int .i64 u.k, .int .i64 u.n, .int .u64 u.u, .string u.s] 27)).cell? ⟨G21, 3, none⟩ = some (.string v.s) := hS.cell 3
          go_wp2_with fail
          clear c0 c1 c2 c3 hal s0 s1 s2 s3
          generalize wr.alloc (.cells #[.int .i64 u.k, .int .i64 u.n, .int .u64 u.u, .string u.s] 27) = w27 at *
          generalize wr.heap.size = G27 at *
          refine (HC0.out _).mono ?_
          rintro e w28 ⟨rfl, q28⟩
          simp only [resT]
          replace hv := hv.below q28
          replace hS := hS.ca q28
          replace hU := hU.ca q28
          replace bb := bl_ca bb q28
          clear q28
          replace hv := hv.below (bl_al (Below.refl _ _) (.cells #[.int .i64 P.1.k, .int .i64 P.1.n, .int .u64 P.1.u, .string P.1.s] 27))
          have lhV0_hS := hS.lt
          have lhV0_hU := hU.lt
          replace hS := hS.alloc (.cells #[.int .i64 P.1.k, .int .i64 P.1.n, .int .u64 P.1.u, .string P.1.s] 27)
          replace hU := hU.alloc (.cells #[.int .i64 P.1.k, .int .i64 P.1.n, .int .u64 P.1.u, .string P.1.s] 27)
          have hV0 := Blk.new w28 27 #[.int .i64 P.1.k, .int .i64 P.1.n, .int .u64 P.1.u, .string P.1.s]
          have bz := bb.size
          replace bb := bl_al bb (.cells #[.int .i64 P.1.k, .int .i64 P.1.n, .int .u64 P.1.u, .string P.1.s] 27)
          have hS_0 : (w28.alloc (.cells #[.int .i64 P.1.k, .int .i64 P.1.n, .int .u64 P.1.u, .string P.1.s] 27)).cell? ⟨G21, 0, none⟩ = some (.int .i64 v.k) := hS.cell 0
          have hS_1 : (w28.alloc (.cells #[.int .i64 P.1.k, .int .i64 P.1.n, .int .u64 P.1.u, .string P.1.s] 27)).cell? ⟨G21, 1, none⟩ = some (.int .i64 v.n) := hS.cell 1
          have hS_2 : (w28.alloc (.cells #[.int .i64 P.1.k, .int .i64 P.1.n, .int .u64 P.1.u, .string P.1.s] 27)).cell? ⟨G21, 2, none⟩ = some (.int .u64 v.u) := hS.cell 2
          have hS_3 : (w28.alloc (.cells #[.int .i64 P.1.k, .int .i64 P.1.n, .int .u64 P.1.u, .string P.1.s] 27)).cell? ⟨G21, 3, none⟩ = some (.string v.s) := hS.cell 3
          have hU_0 : (w28.alloc (.cells #[.int .i64 P.1.k, .int .i64 P.1.n, .int .u64 P.1.u, .string P.1.s] 27)).cell? ⟨G27, 0, none⟩ = some (.int .i64 u.k) := hU.cell 0
          have hU_1 : (w28.alloc (.cells #[.int .i64 P.1.k, .int .i64 P.1.n, .int .u64 P.1.u, .string P.1.s] 27)).cell? ⟨G27, 1, none⟩ = some (.int .i64 u.n) := hU.cell 1
          have hU_2 : (w28.alloc (.cells #[.int .i64 P.1.k, .int .i64 P.1.n, .int .u64 P.1.u, .string P.1.s] 27)).cell? ⟨G27, 2, none⟩ = some (.int .u64 u.u) := hU.cell 2
          have hU_3 : (w28.alloc (.cells #[.int .i64 P.1.k, .int .i64 P.1.n, .int .u64 P.1.u, .string P.1.s] 27)).cell? ⟨G27, 3, none⟩ = some (.string u.s) := hU.cell 3
          go_wp2_with fail
          clear hS_0 hS_1 hS_2 hS_3 hU_0 hU_1 hU_2 hU_3
          generalize w28.alloc (.cells #[.int .i64 P.1.k, .int .i64 P.1.n, .int .u64 P.1.u, .string P.1.s] 27) = w29 at *
          generalize w28.heap.size = G29 at *
          refine (HC1.out _).mono ?_
          rintro e w30 ⟨rfl, q30⟩
          simp only [resT]
          replace hv := hv.below q30
          replace hS := hS.ca q30
          replace hU := hU.ca q30
          replace hV0 := hV0.ca q30
          replace bb := bl_ca bb q30
          clear q30
          replace hv := hv.below (bl_al (Below.refl _ _) (.cells #[.int .i64 Q.1.k, .int .i64 Q.1.n, .int .u64 Q.1.u, .string Q.1.s] 27))
          have lhV1_hS := hS.lt
          have lhV1_hU := hU.lt
          have lhV1_hV0 := hV0.lt
          replace hS := hS.alloc (.cells #[.int .i64 Q.1.k, .int .i64 Q.1.n, .int .u64 Q.1.u, .string Q.1.s] 27)
          replace hU := hU.alloc (.cells #[.int .i64 Q.1.k, .int .i64 Q.1.n, .int .u64 Q.1.u, .string Q.1.s] 27)
          replace hV0 := hV0.alloc (.cells #[.int .i64 Q.1.k, .int .i64 Q.1.n, .int .u64 Q.1.u, .string Q.1.s] 27)
          have hV1 := Blk.new w30 27 #[.int .i64 Q.1.k, .int .i64 Q.1.n, .int .u64 Q.1.u, .string Q.1.s]
          have bz := bb.size
          replace bb := bl_al bb (.cells #[.int .i64 Q.1.k, .int .i64 Q.1.n, .int .u64 Q.1.u, .string Q.1.s] 27)
          have hS_0 : (w30.alloc (.cells #[.int .i64 Q.1.k, .int .i64 Q.1.n, .int .u64 Q.1.u, .string Q.1.s] 27)).cell? ⟨G21, 0, none⟩ = some (.int .i64 v.k) := hS.cell 0
          have hS_1 : (w30.alloc (.cells #[.int .i64 Q.1.k, .int .i64 Q.1.n, .int .u64 Q.1.u, .string Q.1.s] 27)).cell? ⟨G21, 1, none⟩ = some (.int .i64 v.n) := hS.cell 1
          have hS_2 : (w30.alloc (.cells #[.int .i64 Q.1.k, .int .i64 Q.1.n, .int .u64 Q.1.u, .string Q.1.s] 27)).cell? ⟨G21, 2, none⟩ = some (.int .u64 v.u) := hS.cell 2
          have hS_3 : (w30.alloc (.cells #[.int .i64 Q.1.k, .int .i64 Q.1.n, .int .u64 Q.1.u, .string Q.1.s] 27)).cell? ⟨G21, 3, none⟩ = some (.string v.s) := hS.cell 3
          have hU_0 : (w30.alloc (.cells #[.int .i64 Q.1.k, .int .i64 Q.1.n, .int .u64 Q.1.u, .string Q.1.s] 27)).cell? ⟨G27, 0, none⟩ = some (.int .i64 u.k) := hU.cell 0
          have hU_1 : (w30.alloc (.cells #[.int .i64 Q.1.k, .int .i64 Q.1.n, .int .u64 Q.1.u, .string Q.1.s] 27)).cell? ⟨G27, 1, none⟩ = some (.int .i64 u.n) := hU.cell 1
          have hU_2 : (w30.alloc (.cells #[.int .i64 Q.1.k, .int .i64 Q.1.n, .int .u64 Q.1.u, .string Q.1.s] 27)).cell? ⟨G27, 2, none⟩ = some (.int .u64 u.u) := hU.cell 2
          have hU_3 : (w30.alloc (.cells #[.int .i64 Q.1.k, .int .i64 Q.1.n, .int .u64 Q.1.u, .string Q.1.s] 27)).cell? ⟨G27, 3, none⟩ = some (.string u.s) := hU.cell 3
          go_wp2_with fail
          clear hS_0 hS_1 hS_2 hS_3 hU_0 hU_1 hU_2 hU_3
          generalize w30.alloc (.cells #[.int .i64 Q.1.k, .int .i64 Q.1.n, .int .u64 Q.1.u, .string Q.1.s] 27) = w31 at *
          generalize w30.heap.size = G31 at *
          refine (HC2.out _).mono ?_
          rintro e w32 ⟨rfl, q32⟩
          simp only [resT]
          replace hv := hv.below q32
          replace hS := hS.ca q32
          replace hU := hU.ca q32
          replace hV0 := hV0.ca q32
          replace hV1 := hV1.ca q32
          replace bb := bl_ca bb q32
          clear q32
          replace hv := hv.below (bl_al (Below.refl _ _) (.cells #[.int .i64 P.1.k, .int .i64 P.1.n, .int .u64 P.1.u, .string P.1.s] 27))
          have lhV2_hS := hS.lt
          have lhV2_hU := hU.lt
          have lhV2_hV0 := hV0.lt
          have lhV2_hV1 := hV1.lt
          replace hS := hS.alloc (.cells #[.int .i64 P.1.k, .int .i64 P.1.n, .int .u64 P.1.u, .string P.1.s] 27)
          replace hU := hU.alloc (.cells #[.int .i64 P.1.k, .int .i64 P.1.n, .int .u64 P.1.u, .string P.1.s] 27)
          replace hV0 := hV0.alloc (.cells #[.int .i64 P.1.k, .int .i64 P.1.n, .int .u64 P.1.u, .string P.1.s] 27)
          replace hV1 := hV1.alloc (.cells #[.int .i64 P.1.k, .int .i64 P.1.n, .int .u64 P.1.u, .string P.1.s] 27)
          have hV2 := Blk.new w32 27 #[.int .i64 P.1.k, .int .i64 P.1.n, .int .u64 P.1.u, .string P.1.s]
          have bz := bb.size
          replace bb := bl_al bb (.cells #[.int .i64 P.1.k, .int .i64 P.1.n, .int .u64 P.1.u, .string P.1.s] 27)
          have hS_0 : (w32.alloc (.cells #[.int .i64 P.1.k, .int .i64 P.1.n, .int .u64 P.1.u, .string P.1.s] 27)).cell? ⟨G21, 0, none⟩ = some (.int .i64 v.k) := hS.cell 0
          have hS_1 : (w32.alloc (.cells #[.int .i64 P.1.k, .int .i64 P.1.n, .int .u64 P.1.u, .string P.1.s] 27)).cell? ⟨G21, 1, none⟩ = some (.int .i64 v.n) := hS.cell 1
          have hS_2 : (w32.alloc (.cells #[.int .i64 P.1.k, .int .i64 P.1.n, .int .u64 P.1.u, .string P.1.s] 27)).cell? ⟨G21, 2, none⟩ = some (.int .u64 v.u) := hS.cell 2
          have hS_3 : (w32.alloc (.cells #[.int .i64 P.1.k, .int .i64 P.1.n, .int .u64 P.1.u, .string P.1.s] 27)).cell? ⟨G21, 3, none⟩ = some (.string v.s) := hS.cell 3
          have hU_0 : (w32.alloc (.cells #[.int .i64 P.1.k, .int .i64 P.1.n, .int .u64 P.1.u, .string P.1.s] 27)).cell? ⟨G27, 0, none⟩ = some (.int .i64 u.k) := hU.cell 0
          have hU_1 : (w32.alloc (.cells #[.int .i64 P.1.k, .int .i64 P.1.n, .int .u64 P.1.u, .string P.1.s] 27)).cell? ⟨G27, 1, none⟩ = some (.int .i64 u.n) := hU.cell 1
          have hU_2 : (w32.alloc (.cells #[.int .i64 P.1.k, .int .i64 P.1.n, .int .u64 P.1.u, .string P.1.s] 27)).cell? ⟨G27, 2, none⟩ = some (.int .u64 u.u) := hU.cell 2
          have hU_3 : (w32.alloc (.cells #[.int .i64 P.1.k, .int .i64 P.1.n, .int .u64 P.1.u, .string P.1.s] 27)).cell? ⟨G27, 3, none⟩ = some (.string u.s) := hU.cell 3
          go_wp2_with fail
          clear hS_0 hS_1 hS_2 hS_3 hU_0 hU_1 hU_2 hU_3
          generalize w32.alloc (.cells #[.int .i64 P.1.k, .int .i64 P.1.n, .int .u64 P.1.u, .string P.1.s] 27) = w33 at *
          generalize w32.heap.size = G33 at *
          refine (HC3.out _).mono ?_
          rintro e w34 ⟨rfl, q34⟩
          simp only [resT]
          replace hv := hv.below q34
          replace hS := hS.ca q34
          replace hU := hU.ca q34
          replace hV0 := hV0.ca q34
          replace hV1 := hV1.ca q34
          replace hV2 := hV2.ca q34
          replace bb := bl_ca bb q34
          clear q34
          replace hv := hv.below (bl_al (Below.refl _ _) (.cells #[.int .i64 Q.1.k, .int .i64 Q.1.n, .int .u64 Q.1.u, .string Q.1.s] 27))
          have lhV3_hS := hS.lt
          have lhV3_hU := hU.lt
          have lhV3_hV0 := hV0.lt
          have lhV3_hV1 := hV1.lt
          have lhV3_hV2 := hV2.lt
          replace hS := hS.alloc (.cells #[.int .i64 Q.1.k, .int .i64 Q.1.n, .int .u64 Q.1.u, .string Q.1.s] 27)
          replace hU := hU.alloc (.cells #[.int .i64 Q.1.k, .int .i64 Q.1.n, .int .u64 Q.1.u, .string Q.1.s] 27)
          replace hV0 := hV0.alloc (.cells #[.int .i64 Q.1.k, .int .i64 Q.1.n, .int .u64 Q.1.u, .string Q.1.s] 27)
          replace hV1 := hV1.alloc (.cells #[.int .i64 Q.1.k, .int .i64 Q.1.n, .int .u64 Q.1.u, .string Q.1.s] 27)
          replace hV2 := hV2.alloc (.cells #[.int .i64 Q.1.k, .int .i64 Q.1.n, .int .u64 Q.1.u, .string Q.1.s] 27)
          have hV3 := Blk.new w34 27 #[.int .i64 Q.1.k, .int .i64 Q.1.n, .int .u64 Q.1.u, .string Q.1.s]
          have bz := bb.size
          replace bb := bl_al bb (.cells #[.int .i64 Q.1.k, .int .i64 Q.1.n, .int .u64 Q.1.u, .string Q.1.s] 27)
          have hV0_0 : (w34.alloc (.cells #[.int .i64 Q.1.k, .int .i64 Q.1.n, .int .u64 Q.1.u, .string Q.1.s] 27)).cell? ⟨G29, 0, none⟩ = some (.int .i64 P.1.k) := hV0.cell 0
          have hV0_1 : (w34.alloc (.cells #[.int .i64 Q.1.k, .int .i64 Q.1.n, .int .u64 Q.1.u, .string Q.1.s] 27)).cell? ⟨G29, 1, none⟩ = some (.int .i64 P.1.n) := hV0.cell 1
          have hV0_2 : (w34.alloc (.cells #[.int .i64 Q.1.k, .int .i64 Q.1.n, .int .u64 Q.1.u, .string Q.1.s] 27)).cell? ⟨G29, 2, none⟩ = some (.int .u64 P.1.u) := hV0.cell 2
          have hV0_3 : (w34.alloc (.cells #[.int .i64 Q.1.k, .int .i64 Q.1.n, .int .u64 Q.1.u, .string Q.1.s] 27)).cell? ⟨G29, 3, none⟩ = some (.string P.1.s) := hV0.cell 3
          have hV2_0 : (w34.alloc (.cells #[.int .i64 Q.1.k, .int .i64 Q.1.n, .int .u64 Q.1.u, .string Q.1.s] 27)).cell? ⟨G33, 0, none⟩ = some (.int .i64 P.1.k) := hV2.cell 0
          have hV2_1 : (w34.alloc (.cells #[.int .i64 Q.1.k, .int .i64 Q.1.n, .int .u64 Q.1.u, .string Q.1.s] 27)).cell? ⟨G33, 1, none⟩ = some (.int .i64 P.1.n) := hV2.cell 1
          have hV2_2 : (w34.alloc (.cells #[.int .i64 Q.1.k, .int .i64 Q.1.n, .int .u64 Q.1.u, .string Q.1.s] 27)).cell? ⟨G33, 2, none⟩ = some (.int .u64 P.1.u) := hV2.cell 2
          have hV2_3 : (w34.alloc (.cells #[.int .i64 Q.1.k, .int .i64 Q.1.n, .int .u64 Q.1.u, .string Q.1.s] 27)).cell? ⟨G33, 3, none⟩ = some (.string P.1.s) := hV2.cell 3
          go_wp2_with fail
          clear hV0_0 hV0_1 hV0_2 hV0_3 hV2_0 hV2_1 hV2_2 hV2_3
          generalize w34.alloc (.cells #[.int .i64 Q.1.k, .int .i64 Q.1.n, .int .u64 Q.1.u, .string Q.1.s] 27) = w35 at *
          generalize w34.heap.size = G35 at *
          refine (told_same P.1.k P.1.n P.1.u P.1.s P.2 _).mono ?_
          rintro e w36 ⟨rfl, q36⟩
          replace hv := hv.below q36
          replace hS := hS.ca q36
          replace hU := hU.ca q36
          replace hV0 := hV0.ca q36
          replace hV1 := hV1.ca q36
          replace hV2 := hV2.ca q36
          replace hV3 := hV3.ca q36
          replace bb := bl_ca bb q36
          clear q36
          have hV1_0 : w36.cell? ⟨G31, 0, none⟩ = some (.int .i64 Q.1.k) := hV1.cell 0
          have hV1_1 : w36.cell? ⟨G31, 1, none⟩ = some (.int .i64 Q.1.n) := hV1.cell 1
          have hV1_2 : w36.cell? ⟨G31, 2, none⟩ = some (.int .u64 Q.1.u) := hV1.cell 2
          have hV1_3 : w36.cell? ⟨G31, 3, none⟩ = some (.string Q.1.s) := hV1.cell 3
          have hV3_0 : w36.cell? ⟨G35, 0, none⟩ = some (.int .i64 Q.1.k) := hV3.cell 0
          have hV3_1 : w36.cell? ⟨G35, 1, none⟩ = some (.int .i64 Q.1.n) := hV3.cell 1
          have hV3_2 : w36.cell? ⟨G35, 2, none⟩ = some (.int .u64 Q.1.u) := hV3.cell 2
          have hV3_3 : w36.cell? ⟨G35, 3, none⟩ = some (.string Q.1.s) := hV3.cell 3
          go_wp2_with fail
          refine (told_same Q.1.k Q.1.n Q.1.u Q.1.s Q.2 _).mono ?_
          rintro e w37 ⟨rfl, q37⟩
          clear hV1_0 hV1_1 hV1_2 hV1_3 hV3_0 hV3_1 hV3_2 hV3_3
          replace hv := hv.below q37
          replace hS := hS.ca q37
          replace hU := hU.ca q37
          replace hV0 := hV0.ca q37
          replace hV1 := hV1.ca q37
          replace hV2 := hV2.ca q37
          replace hV3 := hV3.ca q37
          replace bb := bl_ca bb q37
          clear q37
          go_wp2
          go_roundg (gk - 1)
          · exact ⟨k + 1, by omega, by omega, by go_num, hv, hS, bb⟩
          · omega
        · go_wp2
          go_roundg (g1 - 1)
          · exact ⟨i + 1, by omega, by omega, by go_num, hv, bb⟩
          · omega
    · go_wp2
      go_ret
      exact ⟨rfl, bb⟩
end Go.Proofs.Ytemakmgppafccaa
