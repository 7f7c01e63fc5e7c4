/- The law ArithDoes: what the program answers is what the reference answers. Conditions: the slice reads as these values, their fields within their kinds. -/
import Derived.Test.YtemakmgppafccaaFew
import Derived.Test.YtemakmgppafccaaWakes4
namespace Go.Proofs.Ytemakmgppafccaa
open Go.RowKit
attribute [local go_sem ↓] Go.wp_at_zero Go.wp_at_succ
theorem few_rng (most : Nat) (vs : List VV) (h : ∀ v ∈ vs, v.rng) : ∀ v ∈ fewV most vs, v.rng := by
  intro v hv
  simp only [fewV, List.mem_map] at hv
  obtain ⟨x, hx, rfl⟩ := hv
  exact h x (List.mem_of_mem_take hx)
set_option maxRecDepth 100000 in
set_option maxHeartbeats 8000000 in
theorem arithDoes_walk (A : Option Addr) (n c : Nat) (vs : List VV) (w : World) (h : RdV w A n vs) (hn : n ≤ 9223372036854775807) (hr : ∀ v ∈ vs, v.rng) :
    Calls Try.prog 7 #[.slice A n c] w fun e w' => e = .returned (.bool true) ∧ Below w.heap.size w w' := by
  have HR0 := Lib.hid hr
  clear hr
  go_enter Try.func7, Try.ntmps7
  go_wp2_with fail
  refine (wakes4_any w).mono ?_
  rintro e w1 ⟨rfl, b1⟩
  have h1 := h.below b1
  go_wp2_with fail
  refine (few_any 10 A n c vs w1 h1 hn (by decide)).mono ?_
  rintro e w2 ⟨A', n', c', rfl, ho, q2⟩
  have bb := bl_ca b1 q2
  have hv := ho.rd
  have hlt := Lib.hid ho.len
  have HR := Lib.hid (few_rng 10 vs HR0.out)
  have hn10 : n' ≤ 10 := by
    have := hlt.out
    rw [← this]
    simp only [fewV, List.length_map, List.length_take]
    omega
  generalize fewV 10 vs = xs at *
  clear b1 h1 h ho q2 HR0
  go_wp2
  go_loopg [34] n' (fun g s wr => ∃ (i : Nat), i + g ≤ n' ∧ n' ≤ i + g ∧ s = .int .i64 i ∧ RdV wr A' n' xs ∧ Below w.heap.size w wr)
  case atStart => exact ⟨0, by omega, by omega, rfl, hv, bb⟩
  case round =>
    clear hv bb
    obtain ⟨i, hi1, hi2, rfl, hv, bb⟩ := hrel
    by_cases hi : i < n'
    · obtain ⟨ad, v, hA, hvi, hal, c0, c1, c2, c3⟩ := hv.2 i hi
      subst hA
      have hvr : v.rng := HR.out v (List.mem_of_getElem? hvi)
      clear hvi
      have HE1 := Lib.hid (fun w => neg_any v w hvr.1)
      have HE2 := Lib.hid (show ∀ w, Calls Try.prog 25 #[.int .u8 45, .agg #[.int .i64 2, .int .i64 0, .int .u64 0, .string ⟨#[]⟩], .agg #[.int .i64 v.k, .int .i64 v.n, .int .u64 v.u, .string v.s]] w fun e w' => e = .returned (resT (opV (0 - v.n) (VI 0) v)) ∧ Below w.heap.size w w' from fun w => ref_sub (VI 0) v w ⟨by decide, by decide⟩ hvr.1)
      generalize opV (0 - v.n) (VI 0) v = R at *
      replace hv := hv.below (bl_al (Below.refl _ _) (.cells #[.int .i64 v.k, .int .i64 v.n, .int .u64 v.u, .string v.s] 27))
      have hS := Blk.new wr 27 #[.int .i64 v.k, .int .i64 v.n, .int .u64 v.u, .string v.s]
      have bz := bb.size
      replace bb := bl_al bb (.cells #[.int .i64 v.k, .int .i64 v.n, .int .u64 v.u, .string v.s] 27)
      go_wp2_with fail
      clear c0 c1 c2 c3 hal
      generalize wr.alloc (.cells #[.int .i64 v.k, .int .i64 v.n, .int .u64 v.u, .string v.s] 27) = w21 at *
      generalize wr.heap.size = G21 at *
      refine (HE1.out _).mono ?_
      rintro e w22 ⟨rfl, q22⟩
      simp only [resT]
      replace hv := hv.below q22
      replace hS := hS.ca q22
      replace bb := bl_ca bb q22
      clear q22
      have hS_0 : w22.cell? ⟨G21, 0, none⟩ = some (.int .i64 v.k) := hS.cell 0
      have hS_1 : w22.cell? ⟨G21, 1, none⟩ = some (.int .i64 v.n) := hS.cell 1
      have hS_2 : w22.cell? ⟨G21, 2, none⟩ = some (.int .u64 v.u) := hS.cell 2
      have hS_3 : w22.cell? ⟨G21, 3, none⟩ = some (.string v.s) := hS.cell 3
      replace hv := hv.below (bl_al (Below.refl _ _) (.cells #[.int .i64 R.1.k, .int .i64 R.1.n, .int .u64 R.1.u, .string R.1.s] 27))
      have lhX_hS := hS.lt
      replace hS := hS.alloc (.cells #[.int .i64 R.1.k, .int .i64 R.1.n, .int .u64 R.1.u, .string R.1.s] 27)
      have hX := Blk.new w22 27 #[.int .i64 R.1.k, .int .i64 R.1.n, .int .u64 R.1.u, .string R.1.s]
      have bz := bb.size
      replace bb := bl_al bb (.cells #[.int .i64 R.1.k, .int .i64 R.1.n, .int .u64 R.1.u, .string R.1.s] 27)
      go_wp2_with fail
      clear hS_0 hS_1 hS_2 hS_3
      generalize w22.alloc (.cells #[.int .i64 R.1.k, .int .i64 R.1.n, .int .u64 R.1.u, .string R.1.s] 27) = w23 at *
      generalize w22.heap.size = G23 at *
      have lb0 := bb.size
      have qq := Below.refl w23.heap.size w23
      have lX : G23 < w23.heap.size := hX.lt; have lS : G21 < w23.heap.size := hS.lt
      go_region_held3 (fun w' => w'.cell? ⟨G21, 0, none⟩ = some (.int .i64 v.k) ∧ w'.cell? ⟨G21, 1, none⟩ = some (.int .i64 v.n) ∧ w'.cell? ⟨G21, 2, none⟩ = some (.int .u64 v.u) ∧ w'.cell? ⟨G21, 3, none⟩ = some (.string v.s)) (first | with_reducible exact vS (hS) | with_reducible exact vS (hS.drew) | with_reducible exact vS ((hS.alloc _).drew) | with_reducible exact vS (((hS.alloc _).alloc _).drew) | with_reducible exact vS ((hS.alloc _)) | with_reducible exact vS (blk_far4 hS (by omega) _ _ _ _) | with_reducible exact vS (blk_far4 (hS.alloc _) (by omega) _ _ _ _) | go_keep)
        (first
          | (go_at_call 17; (with_reducible refine (vint_any 0 _).mono ?_); rintro e wa ⟨rfl, qa⟩; replace hS : Blk wa (G21) 27 #[.int .i64 v.k, .int .i64 v.n, .int .u64 v.u, .string v.s] := (by first | with_reducible exact (hS).ca qa | with_reducible exact (hS.drew).ca qa | with_reducible exact ((hS.alloc _).drew).ca qa | with_reducible exact (((hS.alloc _).alloc _).drew).ca qa | with_reducible exact ((hS.alloc _)).ca qa); replace hX : Blk wa (G23) 27 #[.int .i64 R.1.k, .int .i64 R.1.n, .int .u64 R.1.u, .string R.1.s] := (by first | with_reducible exact (hX).ca qa | with_reducible exact (hX.drew).ca qa | with_reducible exact ((hX.alloc _).drew).ca qa | with_reducible exact (((hX.alloc _).alloc _).drew).ca qa | with_reducible exact ((hX.alloc _)).ca qa); replace bb : Below w.heap.size w wa := (by first | with_reducible exact bl_ca bb qa | with_reducible exact bl_ca (bl_d1 bb) qa | with_reducible exact bl_ca (bl_d1 (bl_al bb _)) qa | with_reducible exact bl_ca (bl_d1 (bl_al (bl_al bb _) _)) qa | with_reducible exact bl_ca (bl_al bb _) qa); replace qq : Below w23.heap.size w23 wa := (by first | with_reducible exact bl_ca qq qa | with_reducible exact bl_ca (bl_d1 qq) qa | with_reducible exact bl_ca (bl_d1 (bl_al qq _)) qa | with_reducible exact bl_ca (bl_d1 (bl_al (bl_al qq _) _)) qa | with_reducible exact bl_ca (bl_al qq _) qa); have lwa := qq.size)
          | (go_at_call 25; (with_reducible refine (HE2.out _).mono ?_); rintro e wb ⟨rfl, qb⟩; replace hS : Blk wb (G21) 27 #[.int .i64 v.k, .int .i64 v.n, .int .u64 v.u, .string v.s] := (by first | with_reducible exact (hS).ca qb | with_reducible exact (hS.drew).ca qb | with_reducible exact ((hS.alloc _).drew).ca qb | with_reducible exact (((hS.alloc _).alloc _).drew).ca qb | with_reducible exact ((hS.alloc _)).ca qb); replace hX : Blk wb (G23) 27 #[.int .i64 R.1.k, .int .i64 R.1.n, .int .u64 R.1.u, .string R.1.s] := (by first | with_reducible exact (hX).ca qb | with_reducible exact (hX.drew).ca qb | with_reducible exact ((hX.alloc _).drew).ca qb | with_reducible exact (((hX.alloc _).alloc _).drew).ca qb | with_reducible exact ((hX.alloc _)).ca qb); replace bb : Below w.heap.size w wb := (by first | with_reducible exact bl_ca bb qb | with_reducible exact bl_ca (bl_d1 bb) qb | with_reducible exact bl_ca (bl_d1 (bl_al bb _)) qb | with_reducible exact bl_ca (bl_d1 (bl_al (bl_al bb _) _)) qb | with_reducible exact bl_ca (bl_al bb _) qb); replace qq : Below w23.heap.size w23 wb := (by first | with_reducible exact bl_ca qq qb | with_reducible exact bl_ca (bl_d1 qq) qb | with_reducible exact bl_ca (bl_d1 (bl_al qq _)) qb | with_reducible exact bl_ca (bl_d1 (bl_al (bl_al qq _) _)) qb | with_reducible exact bl_ca (bl_al qq _) qb); have lwb := qq.size; simp only [resT]; (first | (have hN : Blk wb w23.heap.size 27 #[.int .i64 0, .int .i64 0, .int .u64 0, .string ⟨#[]⟩] := (by with_reducible exact ((Blk.mk' rfl).drew.ca qa).ca qb); have r0 : wb.cell? ⟨w23.heap.size, 0, none⟩ = some (.int .i64 0) := hN.cell 0; have r1 : wb.cell? ⟨w23.heap.size, 1, none⟩ = some (.int .i64 0) := hN.cell 1; have r2 : wb.cell? ⟨w23.heap.size, 2, none⟩ = some (.int .u64 0) := hN.cell 2; have r3 : wb.cell? ⟨w23.heap.size, 3, none⟩ = some (.string ⟨#[]⟩) := hN.cell 3; have f0 : wb.frozen? ⟨w23.heap.size, 0, none⟩ = false := hN.frozen 0; have f1 : wb.frozen? ⟨w23.heap.size, 1, none⟩ = false := hN.frozen 1; have f2 : wb.frozen? ⟨w23.heap.size, 2, none⟩ = false := hN.frozen 2; have f3 : wb.frozen? ⟨w23.heap.size, 3, none⟩ = false := hN.frozen 3) | (have hN : Blk wb wa.heap.size 27 #[.int .i64 0, .int .i64 0, .int .u64 0, .string ⟨#[]⟩] := (by with_reducible exact (Blk.mk' rfl).ca qb); have lwz : wa.heap.size < wb.heap.size := hN.lt; have r0 : wb.cell? ⟨wa.heap.size, 0, none⟩ = some (.int .i64 0) := hN.cell 0; have r1 : wb.cell? ⟨wa.heap.size, 1, none⟩ = some (.int .i64 0) := hN.cell 1; have r2 : wb.cell? ⟨wa.heap.size, 2, none⟩ = some (.int .u64 0) := hN.cell 2; have r3 : wb.cell? ⟨wa.heap.size, 3, none⟩ = some (.string ⟨#[]⟩) := hN.cell 3; have f0 : wb.frozen? ⟨wa.heap.size, 0, none⟩ = false := hN.frozen 0; have f1 : wb.frozen? ⟨wa.heap.size, 1, none⟩ = false := hN.frozen 1; have f2 : wb.frozen? ⟨wa.heap.size, 2, none⟩ = false := hN.frozen 2; have f3 : wb.frozen? ⟨wa.heap.size, 3, none⟩ = false := hN.frozen 3) | skip)))
      · have hY := Blk.new wb 27 #[.int .i64 R.1.k, .int .i64 R.1.n, .int .u64 R.1.u, .string R.1.s]
        have lX2 := hX.lt
        have lS2 := hS.lt
        replace hS := hS.alloc (.cells #[.int .i64 R.1.k, .int .i64 R.1.n, .int .u64 R.1.u, .string R.1.s] 27)
        replace hX := hX.alloc (.cells #[.int .i64 R.1.k, .int .i64 R.1.n, .int .u64 R.1.u, .string R.1.s] 27)
        replace bb := bl_al bb (.cells #[.int .i64 R.1.k, .int .i64 R.1.n, .int .u64 R.1.u, .string R.1.s] 27)
        replace qq := bl_al qq (.cells #[.int .i64 R.1.k, .int .i64 R.1.n, .int .u64 R.1.u, .string R.1.s] 27)
        replace hv := hv.below qq
        try clear hHeld
        have lGS : G21 < wb.heap.size := by omega
        have lGX : G23 < wb.heap.size := by omega
        clear qq qa qb
        generalize (wb.alloc (.cells #[.int .i64 R.1.k, .int .i64 R.1.n, .int .u64 R.1.u, .string R.1.s] 27)) = wE at *
        generalize hge : wb.heap.size = GE at *
        clear hge
        have hX_0 : wE.cell? ⟨G23, 0, none⟩ = some (.int .i64 R.1.k) := hX.cell 0
        have hX_1 : wE.cell? ⟨G23, 1, none⟩ = some (.int .i64 R.1.n) := hX.cell 1
        have hX_2 : wE.cell? ⟨G23, 2, none⟩ = some (.int .u64 R.1.u) := hX.cell 2
        have hX_3 : wE.cell? ⟨G23, 3, none⟩ = some (.string R.1.s) := hX.cell 3
        have hY_0 : wE.cell? ⟨GE, 0, none⟩ = some (.int .i64 R.1.k) := hY.cell 0
        have hY_1 : wE.cell? ⟨GE, 1, none⟩ = some (.int .i64 R.1.n) := hY.cell 1
        have hY_2 : wE.cell? ⟨GE, 2, none⟩ = some (.int .u64 R.1.u) := hY.cell 2
        have hY_3 : wE.cell? ⟨GE, 3, none⟩ = some (.string R.1.s) := hY.cell 3
        go_wp2_with fail
        refine (told_same R.1.k R.1.n R.1.u R.1.s R.2 _).mono ?_
        rintro e w41 ⟨rfl, q41⟩
        clear hX_0 hX_1 hX_2 hX_3 hY_0 hY_1 hY_2 hY_3
        replace hv := hv.below q41
        replace hS := hS.ca q41
        replace hX := hX.ca q41
        replace hY := hY.ca q41
        replace bb := bl_ca bb q41
        clear q41
        clear hX hY
        go_wp2
        obtain ⟨g1, rfl⟩ : ∃ g1, g1 = gk := ⟨_, rfl⟩
        obtain ⟨wo, rfl⟩ : ∃ wo : World, wo = wr := ⟨_, rfl⟩
        go_loopg [57] n' (fun g s wr => ∃ (k : Nat), k + g ≤ n' ∧ n' ≤ k + g ∧ s = .int .i64 k ∧ RdV wr (some ad) n' xs ∧ Blk wr G21 27 #[.int .i64 v.k, .int .i64 v.n, .int .u64 v.u, .string v.s] ∧ Below w.heap.size w wr)
        case atStart => exact ⟨0, by omega, by omega, rfl, hv, hS, bb⟩
        case round =>
          clear hv hS bb
          obtain ⟨k, hk1, hk2, rfl, hv, hS, bb⟩ := hrel
          by_cases hk : k < n'
          · obtain ⟨ad2, u, hA2, hui, hal, c0, c1, c2, c3⟩ := hv.2 k hk
            injection hA2 with hA2
            subst hA2
            have hur : u.rng := HR.out u (List.mem_of_getElem? hui)
            clear hui
            obtain ⟨r, hr⟩ : ∃ r, r = if u.n = 0 then 9223372036854775808 else v.n.tdiv u.n := ⟨_, rfl⟩
            have HC0 := Lib.hid (fun w => add_any v u w hvr.1 hur.1)
            have HC1 := Lib.hid (fun w => sub_any v u w hvr.1 hur.1)
            have HC2 := Lib.hid (fun w => mul_any v u w hvr.1 hur.1)
            have HC3 := Lib.hid (fun w => div_any r v u w hvr.1 hur.1 hr)
            have HC4 := Lib.hid (fun w => ref_add v u w hvr.1 hur.1)
            have HC5 := Lib.hid (fun w => ref_sub v u w hvr.1 hur.1)
            have HC6 := Lib.hid (fun w => ref_mul v u w hvr.1 hur.1)
            have HC7 := Lib.hid (fun w => ref_div r v u w hvr.1 hur.1 hr)
            clear hr
            generalize opV (v.n + u.n) v u = P at *
            generalize opV (v.n - u.n) v u = Q at *
            generalize opV (v.n * u.n) v u = T at *
            generalize opV r v u = D at *
            replace hv := hv.below (bl_al (Below.refl _ _) (.cells #[.int .i64 u.k, .int .i64 u.n, .int .u64 u.u, .string u.s] 27))
            have lhU_hS := hS.lt
            replace hS := hS.alloc (.cells #[.int .i64 u.k, .int .i64 u.n, .int .u64 u.u, .string u.s] 27)
            have hU := Blk.new wr 27 #[.int .i64 u.k, .int .i64 u.n, .int .u64 u.u, .string u.s]
            have bz := bb.size
            replace bb := bl_al bb (.cells #[.int .i64 u.k, .int .i64 u.n, .int .u64 u.u, .string u.s] 27)
            have s0 : (wr.alloc (.cells #[.int .i64 u.k, .int .i64 u.n, .int .u64 u.u, .string u.s] 27)).cell? ⟨G21, 0, none⟩ = some (.int .i64 v.k) := hS.cell 0
            have s1 : (wr.alloc (.cells #[.int .i64 u.k, .int .i64 u.n, .int .u64 u.u, .string u.s] 27)).cell? ⟨G21, 1, none⟩ = some (.int .i64 v.n) := hS.cell 1
            have s2 : (wr.alloc (.cells #[.int .i64 u.k, .int .i64 u.n, .int .u64 u.u, .string u.s] 27)).cell? ⟨G21, 2, none⟩ = some (.int .u64 v.u) := hS.cell 2
            have s3 : (wr.alloc (.cells #[.int .i64 u.k, .int .i64 u.n, .int .u64 u.u, .string u.s] 27)).cell? ⟨G21, 3, none⟩ = some (.string v.s) := hS.cell 3
            go_wp2_with fail
            clear c0 c1 c2 c3 hal s0 s1 s2 s3
            generalize wr.alloc (.cells #[.int .i64 u.k, .int .i64 u.n, .int .u64 u.u, .string u.s] 27) = w42 at *
            generalize wr.heap.size = G42 at *
            refine (HC0.out _).mono ?_
            rintro e w43 ⟨rfl, q43⟩
            simp only [resT]
            replace hv := hv.below q43
            replace hS := hS.ca q43
            replace hU := hU.ca q43
            replace bb := bl_ca bb q43
            clear q43
            replace hv := hv.below (bl_al (Below.refl _ _) (.cells #[.int .i64 P.1.k, .int .i64 P.1.n, .int .u64 P.1.u, .string P.1.s] 27))
            have lhV0_hS := hS.lt
            have lhV0_hU := hU.lt
            replace hS := hS.alloc (.cells #[.int .i64 P.1.k, .int .i64 P.1.n, .int .u64 P.1.u, .string P.1.s] 27)
            replace hU := hU.alloc (.cells #[.int .i64 P.1.k, .int .i64 P.1.n, .int .u64 P.1.u, .string P.1.s] 27)
            have hV0 := Blk.new w43 27 #[.int .i64 P.1.k, .int .i64 P.1.n, .int .u64 P.1.u, .string P.1.s]
            have bz := bb.size
            replace bb := bl_al bb (.cells #[.int .i64 P.1.k, .int .i64 P.1.n, .int .u64 P.1.u, .string P.1.s] 27)
            have hS_0 : (w43.alloc (.cells #[.int .i64 P.1.k, .int .i64 P.1.n, .int .u64 P.1.u, .string P.1.s] 27)).cell? ⟨G21, 0, none⟩ = some (.int .i64 v.k) := hS.cell 0
            have hS_1 : (w43.alloc (.cells #[.int .i64 P.1.k, .int .i64 P.1.n, .int .u64 P.1.u, .string P.1.s] 27)).cell? ⟨G21, 1, none⟩ = some (.int .i64 v.n) := hS.cell 1
            have hS_2 : (w43.alloc (.cells #[.int .i64 P.1.k, .int .i64 P.1.n, .int .u64 P.1.u, .string P.1.s] 27)).cell? ⟨G21, 2, none⟩ = some (.int .u64 v.u) := hS.cell 2
            have hS_3 : (w43.alloc (.cells #[.int .i64 P.1.k, .int .i64 P.1.n, .int .u64 P.1.u, .string P.1.s] 27)).cell? ⟨G21, 3, none⟩ = some (.string v.s) := hS.cell 3
            have hU_0 : (w43.alloc (.cells #[.int .i64 P.1.k, .int .i64 P.1.n, .int .u64 P.1.u, .string P.1.s] 27)).cell? ⟨G42, 0, none⟩ = some (.int .i64 u.k) := hU.cell 0
            have hU_1 : (w43.alloc (.cells #[.int .i64 P.1.k, .int .i64 P.1.n, .int .u64 P.1.u, .string P.1.s] 27)).cell? ⟨G42, 1, none⟩ = some (.int .i64 u.n) := hU.cell 1
            have hU_2 : (w43.alloc (.cells #[.int .i64 P.1.k, .int .i64 P.1.n, .int .u64 P.1.u, .string P.1.s] 27)).cell? ⟨G42, 2, none⟩ = some (.int .u64 u.u) := hU.cell 2
            have hU_3 : (w43.alloc (.cells #[.int .i64 P.1.k, .int .i64 P.1.n, .int .u64 P.1.u, .string P.1.s] 27)).cell? ⟨G42, 3, none⟩ = some (.string u.s) := hU.cell 3
            go_wp2_with fail
            clear hS_0 hS_1 hS_2 hS_3 hU_0 hU_1 hU_2 hU_3
            generalize w43.alloc (.cells #[.int .i64 P.1.k, .int .i64 P.1.n, .int .u64 P.1.u, .string P.1.s] 27) = w44 at *
            generalize w43.heap.size = G44 at *
            refine (HC1.out _).mono ?_
            rintro e w45 ⟨rfl, q45⟩
            simp only [resT]
            replace hv := hv.below q45
            replace hS := hS.ca q45
            replace hU := hU.ca q45
            replace hV0 := hV0.ca q45
            replace bb := bl_ca bb q45
            clear q45
            replace hv := hv.below (bl_al (Below.refl _ _) (.cells #[.int .i64 Q.1.k, .int .i64 Q.1.n, .int .u64 Q.1.u, .string Q.1.s] 27))
            have lhV1_hS := hS.lt
            have lhV1_hU := hU.lt
            have lhV1_hV0 := hV0.lt
            replace hS := hS.alloc (.cells #[.int .i64 Q.1.k, .int .i64 Q.1.n, .int .u64 Q.1.u, .string Q.1.s] 27)
            replace hU := hU.alloc (.cells #[.int .i64 Q.1.k, .int .i64 Q.1.n, .int .u64 Q.1.u, .string Q.1.s] 27)
            replace hV0 := hV0.alloc (.cells #[.int .i64 Q.1.k, .int .i64 Q.1.n, .int .u64 Q.1.u, .string Q.1.s] 27)
            have hV1 := Blk.new w45 27 #[.int .i64 Q.1.k, .int .i64 Q.1.n, .int .u64 Q.1.u, .string Q.1.s]
            have bz := bb.size
            replace bb := bl_al bb (.cells #[.int .i64 Q.1.k, .int .i64 Q.1.n, .int .u64 Q.1.u, .string Q.1.s] 27)
            have hS_0 : (w45.alloc (.cells #[.int .i64 Q.1.k, .int .i64 Q.1.n, .int .u64 Q.1.u, .string Q.1.s] 27)).cell? ⟨G21, 0, none⟩ = some (.int .i64 v.k) := hS.cell 0
            have hS_1 : (w45.alloc (.cells #[.int .i64 Q.1.k, .int .i64 Q.1.n, .int .u64 Q.1.u, .string Q.1.s] 27)).cell? ⟨G21, 1, none⟩ = some (.int .i64 v.n) := hS.cell 1
            have hS_2 : (w45.alloc (.cells #[.int .i64 Q.1.k, .int .i64 Q.1.n, .int .u64 Q.1.u, .string Q.1.s] 27)).cell? ⟨G21, 2, none⟩ = some (.int .u64 v.u) := hS.cell 2
            have hS_3 : (w45.alloc (.cells #[.int .i64 Q.1.k, .int .i64 Q.1.n, .int .u64 Q.1.u, .string Q.1.s] 27)).cell? ⟨G21, 3, none⟩ = some (.string v.s) := hS.cell 3
            have hU_0 : (w45.alloc (.cells #[.int .i64 Q.1.k, .int .i64 Q.1.n, .int .u64 Q.1.u, .string Q.1.s] 27)).cell? ⟨G42, 0, none⟩ = some (.int .i64 u.k) := hU.cell 0
            have hU_1 : (w45.alloc (.cells #[.int .i64 Q.1.k, .int .i64 Q.1.n, .int .u64 Q.1.u, .string Q.1.s] 27)).cell? ⟨G42, 1, none⟩ = some (.int .i64 u.n) := hU.cell 1
            have hU_2 : (w45.alloc (.cells #[.int .i64 Q.1.k, .int .i64 Q.1.n, .int .u64 Q.1.u, .string Q.1.s] 27)).cell? ⟨G42, 2, none⟩ = some (.int .u64 u.u) := hU.cell 2
            have hU_3 : (w45.alloc (.cells #[.int .i64 Q.1.k, .int .i64 Q.1.n, .int .u64 Q.1.u, .string Q.1.s] 27)).cell? ⟨G42, 3, none⟩ = some (.string u.s) := hU.cell 3
            go_wp2_with fail
            clear hS_0 hS_1 hS_2 hS_3 hU_0 hU_1 hU_2 hU_3
            generalize w45.alloc (.cells #[.int .i64 Q.1.k, .int .i64 Q.1.n, .int .u64 Q.1.u, .string Q.1.s] 27) = w46 at *
            generalize w45.heap.size = G46 at *
            refine (HC2.out _).mono ?_
            rintro e w47 ⟨rfl, q47⟩
            simp only [resT]
            replace hv := hv.below q47
            replace hS := hS.ca q47
            replace hU := hU.ca q47
            replace hV0 := hV0.ca q47
            replace hV1 := hV1.ca q47
            replace bb := bl_ca bb q47
            clear q47
            replace hv := hv.below (bl_al (Below.refl _ _) (.cells #[.int .i64 T.1.k, .int .i64 T.1.n, .int .u64 T.1.u, .string T.1.s] 27))
            have lhV2_hS := hS.lt
            have lhV2_hU := hU.lt
            have lhV2_hV0 := hV0.lt
            have lhV2_hV1 := hV1.lt
            replace hS := hS.alloc (.cells #[.int .i64 T.1.k, .int .i64 T.1.n, .int .u64 T.1.u, .string T.1.s] 27)
            replace hU := hU.alloc (.cells #[.int .i64 T.1.k, .int .i64 T.1.n, .int .u64 T.1.u, .string T.1.s] 27)
            replace hV0 := hV0.alloc (.cells #[.int .i64 T.1.k, .int .i64 T.1.n, .int .u64 T.1.u, .string T.1.s] 27)
            replace hV1 := hV1.alloc (.cells #[.int .i64 T.1.k, .int .i64 T.1.n, .int .u64 T.1.u, .string T.1.s] 27)
            have hV2 := Blk.new w47 27 #[.int .i64 T.1.k, .int .i64 T.1.n, .int .u64 T.1.u, .string T.1.s]
            have bz := bb.size
            replace bb := bl_al bb (.cells #[.int .i64 T.1.k, .int .i64 T.1.n, .int .u64 T.1.u, .string T.1.s] 27)
            have hS_0 : (w47.alloc (.cells #[.int .i64 T.1.k, .int .i64 T.1.n, .int .u64 T.1.u, .string T.1.s] 27)).cell? ⟨G21, 0, none⟩ = some (.int .i64 v.k) := hS.cell 0
            have hS_1 : (w47.alloc (.cells #[.int .i64 T.1.k, .int .i64 T.1.n, .int .u64 T.1.u, .string T.1.s] 27)).cell? ⟨G21, 1, none⟩ = some (.int .i64 v.n) := hS.cell 1
            have hS_2 : (w47.alloc (.cells #[.int .i64 T.1.k, .int .i64 T.1.n, .int .u64 T.1.u, .string T.1.s] 27)).cell? ⟨G21, 2, none⟩ = some (.int .u64 v.u) := hS.cell 2
            have hS_3 : (w47.alloc (.cells #[.int .i64 T.1.k, .int .i64 T.1.n, .int .u64 T.1.u, .string T.1.s] 27)).cell? ⟨G21, 3, none⟩ = some (.string v.s) := hS.cell 3
            have hU_0 : (w47.alloc (.cells #[.int .i64 T.1.k, .int .i64 T.1.n, .int .u64 T.1.u, .string T.1.s] 27)).cell? ⟨G42, 0, none⟩ = some (.int .i64 u.k) := hU.cell 0
            have hU_1 : (w47.alloc (.cells #[.int .i64 T.1.k, .int .i64 T.1.n, .int .u64 T.1.u, .string T.1.s] 27)).cell? ⟨G42, 1, none⟩ = some (.int .i64 u.n) := hU.cell 1
            have hU_2 : (w47.alloc (.cells #[.int .i64 T.1.k, .int .i64 T.1.n, .int .u64 T.1.u, .string T.1.s] 27)).cell? ⟨G42, 2, none⟩ = some (.int .u64 u.u) := hU.cell 2
            have hU_3 : (w47.alloc (.cells #[.int .i64 T.1.k, .int .i64 T.1.n, .int .u64 T.1.u, .string T.1.s] 27)).cell? ⟨G42, 3, none⟩ = some (.string u.s) := hU.cell 3
            go_wp2_with fail
            clear hS_0 hS_1 hS_2 hS_3 hU_0 hU_1 hU_2 hU_3
            generalize w47.alloc (.cells #[.int .i64 T.1.k, .int .i64 T.1.n, .int .u64 T.1.u, .string T.1.s] 27) = w48 at *
            generalize w47.heap.size = G48 at *
            refine (HC3.out _).mono ?_
            rintro e w49 ⟨rfl, q49⟩
            simp only [resT]
            replace hv := hv.below q49
            replace hS := hS.ca q49
            replace hU := hU.ca q49
            replace hV0 := hV0.ca q49
            replace hV1 := hV1.ca q49
            replace hV2 := hV2.ca q49
            replace bb := bl_ca bb q49
            clear q49
            replace hv := hv.below (bl_al (Below.refl _ _) (.cells #[.int .i64 D.1.k, .int .i64 D.1.n, .int .u64 D.1.u, .string D.1.s] 27))
            have lhV3_hS := hS.lt
            have lhV3_hU := hU.lt
            have lhV3_hV0 := hV0.lt
            have lhV3_hV1 := hV1.lt
            have lhV3_hV2 := hV2.lt
            replace hS := hS.alloc (.cells #[.int .i64 D.1.k, .int .i64 D.1.n, .int .u64 D.1.u, .string D.1.s] 27)
            replace hU := hU.alloc (.cells #[.int .i64 D.1.k, .int .i64 D.1.n, .int .u64 D.1.u, .string D.1.s] 27)
            replace hV0 := hV0.alloc (.cells #[.int .i64 D.1.k, .int .i64 D.1.n, .int .u64 D.1.u, .string D.1.s] 27)
            replace hV1 := hV1.alloc (.cells #[.int .i64 D.1.k, .int .i64 D.1.n, .int .u64 D.1.u, .string D.1.s] 27)
            replace hV2 := hV2.alloc (.cells #[.int .i64 D.1.k, .int .i64 D.1.n, .int .u64 D.1.u, .string D.1.s] 27)
            have hV3 := Blk.new w49 27 #[.int .i64 D.1.k, .int .i64 D.1.n, .int .u64 D.1.u, .string D.1.s]
            have bz := bb.size
            replace bb := bl_al bb (.cells #[.int .i64 D.1.k, .int .i64 D.1.n, .int .u64 D.1.u, .string D.1.s] 27)
            have hS_0 : (w49.alloc (.cells #[.int .i64 D.1.k, .int .i64 D.1.n, .int .u64 D.1.u, .string D.1.s] 27)).cell? ⟨G21, 0, none⟩ = some (.int .i64 v.k) := hS.cell 0
            have hS_1 : (w49.alloc (.cells #[.int .i64 D.1.k, .int .i64 D.1.n, .int .u64 D.1.u, .string D.1.s] 27)).cell? ⟨G21, 1, none⟩ = some (.int .i64 v.n) := hS.cell 1
            have hS_2 : (w49.alloc (.cells #[.int .i64 D.1.k, .int .i64 D.1.n, .int .u64 D.1.u, .string D.1.s] 27)).cell? ⟨G21, 2, none⟩ = some (.int .u64 v.u) := hS.cell 2
            have hS_3 : (w49.alloc (.cells #[.int .i64 D.1.k, .int .i64 D.1.n, .int .u64 D.1.u, .string D.1.s] 27)).cell? ⟨G21, 3, none⟩ = some (.string v.s) := hS.cell 3
            have hU_0 : (w49.alloc (.cells #[.int .i64 D.1.k, .int .i64 D.1.n, .int .u64 D.1.u, .string D.1.s] 27)).cell? ⟨G42, 0, none⟩ = some (.int .i64 u.k) := hU.cell 0
            have hU_1 : (w49.alloc (.cells #[.int .i64 D.1.k, .int .i64 D.1.n, .int .u64 D.1.u, .string D.1.s] 27)).cell? ⟨G42, 1, none⟩ = some (.int .i64 u.n) := hU.cell 1
            have hU_2 : (w49.alloc (.cells #[.int .i64 D.1.k, .int .i64 D.1.n, .int .u64 D.1.u, .string D.1.s] 27)).cell? ⟨G42, 2, none⟩ = some (.int .u64 u.u) := hU.cell 2
            have hU_3 : (w49.alloc (.cells #[.int .i64 D.1.k, .int .i64 D.1.n, .int .u64 D.1.u, .string D.1.s] 27)).cell? ⟨G42, 3, none⟩ = some (.string u.s) := hU.cell 3
            go_wp2_with fail
            clear hS_0 hS_1 hS_2 hS_3 hU_0 hU_1 hU_2 hU_3
            generalize w49.alloc (.cells #[.int .i64 D.1.k, .int .i64 D.1.n, .int .u64 D.1.u, .string D.1.s] 27) = w50 at *
            generalize w49.heap.size = G50 at *
            refine (HC4.out _).mono ?_
            rintro e w51 ⟨rfl, q51⟩
            simp only [resT]
            replace hv := hv.below q51
            replace hS := hS.ca q51
            replace hU := hU.ca q51
            replace hV0 := hV0.ca q51
            replace hV1 := hV1.ca q51
            replace hV2 := hV2.ca q51
            replace hV3 := hV3.ca q51
            replace bb := bl_ca bb q51
            clear q51
            replace hv := hv.below (bl_al (Below.refl _ _) (.cells #[.int .i64 P.1.k, .int .i64 P.1.n, .int .u64 P.1.u, .string P.1.s] 27))
            have lhV4_hS := hS.lt
            have lhV4_hU := hU.lt
            have lhV4_hV0 := hV0.lt
            have lhV4_hV1 := hV1.lt
            have lhV4_hV2 := hV2.lt
            have lhV4_hV3 := hV3.lt
            replace hS := hS.alloc (.cells #[.int .i64 P.1.k, .int .i64 P.1.n, .int .u64 P.1.u, .string P.1.s] 27)
            replace hU := hU.alloc (.cells #[.int .i64 P.1.k, .int .i64 P.1.n, .int .u64 P.1.u, .string P.1.s] 27)
            replace hV0 := hV0.alloc (.cells #[.int .i64 P.1.k, .int .i64 P.1.n, .int .u64 P.1.u, .string P.1.s] 27)
            replace hV1 := hV1.alloc (.cells #[.int .i64 P.1.k, .int .i64 P.1.n, .int .u64 P.1.u, .string P.1.s] 27)
            replace hV2 := hV2.alloc (.cells #[.int .i64 P.1.k, .int .i64 P.1.n, .int .u64 P.1.u, .string P.1.s] 27)
            replace hV3 := hV3.alloc (.cells #[.int .i64 P.1.k, .int .i64 P.1.n, .int .u64 P.1.u, .string P.1.s] 27)
            have hV4 := Blk.new w51 27 #[.int .i64 P.1.k, .int .i64 P.1.n, .int .u64 P.1.u, .string P.1.s]
            have bz := bb.size
            replace bb := bl_al bb (.cells #[.int .i64 P.1.k, .int .i64 P.1.n, .int .u64 P.1.u, .string P.1.s] 27)
            have hS_0 : (w51.alloc (.cells #[.int .i64 P.1.k, .int .i64 P.1.n, .int .u64 P.1.u, .string P.1.s] 27)).cell? ⟨G21, 0, none⟩ = some (.int .i64 v.k) := hS.cell 0
            have hS_1 : (w51.alloc (.cells #[.int .i64 P.1.k, .int .i64 P.1.n, .int .u64 P.1.u, .string P.1.s] 27)).cell? ⟨G21, 1, none⟩ = some (.int .i64 v.n) := hS.cell 1
            have hS_2 : (w51.alloc (.cells #[.int .i64 P.1.k, .int .i64 P.1.n, .int .u64 P.1.u, .string P.1.s] 27)).cell? ⟨G21, 2, none⟩ = some (.int .u64 v.u) := hS.cell 2
            have hS_3 : (w51.alloc (.cells #[.int .i64 P.1.k, .int .i64 P.1.n, .int .u64 P.1.u, .string P.1.s] 27)).cell? ⟨G21, 3, none⟩ = some (.string v.s) := hS.cell 3
            have hU_0 : (w51.alloc (.cells #[.int .i64 P.1.k, .int .i64 P.1.n, .int .u64 P.1.u, .string P.1.s] 27)).cell? ⟨G42, 0, none⟩ = some (.int .i64 u.k) := hU.cell 0
            have hU_1 : (w51.alloc (.cells #[.int .i64 P.1.k, .int .i64 P.1.n, .int .u64 P.1.u, .string P.1.s] 27)).cell? ⟨G42, 1, none⟩ = some (.int .i64 u.n) := hU.cell 1
            have hU_2 : (w51.alloc (.cells #[.int .i64 P.1.k, .int .i64 P.1.n, .int .u64 P.1.u, .string P.1.s] 27)).cell? ⟨G42, 2, none⟩ = some (.int .u64 u.u) := hU.cell 2
            have hU_3 : (w51.alloc (.cells #[.int .i64 P.1.k, .int .i64 P.1.n, .int .u64 P.1.u, .string P.1.s] 27)).cell? ⟨G42, 3, none⟩ = some (.string u.s) := hU.cell 3
            go_wp2_with fail
            clear hS_0 hS_1 hS_2 hS_3 hU_0 hU_1 hU_2 hU_3
            generalize w51.alloc (.cells #[.int .i64 P.1.k, .int .i64 P.1.n, .int .u64 P.1.u, .string P.1.s] 27) = w52 at *
            generalize w51.heap.size = G52 at *
            refine (HC5.out _).mono ?_
            rintro e w53 ⟨rfl, q53⟩
            simp only [resT]
            replace hv := hv.below q53
            replace hS := hS.ca q53
            replace hU := hU.ca q53
            replace hV0 := hV0.ca q53
            replace hV1 := hV1.ca q53
            replace hV2 := hV2.ca q53
            replace hV3 := hV3.ca q53
            replace hV4 := hV4.ca q53
            replace bb := bl_ca bb q53
            clear q53
            replace hv := hv.below (bl_al (Below.refl _ _) (.cells #[.int .i64 Q.1.k, .int .i64 Q.1.n, .int .u64 Q.1.u, .string Q.1.s] 27))
            have lhV5_hS := hS.lt
            have lhV5_hU := hU.lt
            have lhV5_hV0 := hV0.lt
            have lhV5_hV1 := hV1.lt
            have lhV5_hV2 := hV2.lt
            have lhV5_hV3 := hV3.lt
            have lhV5_hV4 := hV4.lt
            replace hS := hS.alloc (.cells #[.int .i64 Q.1.k, .int .i64 Q.1.n, .int .u64 Q.1.u, .string Q.1.s] 27)
            replace hU := hU.alloc (.cells #[.int .i64 Q.1.k, .int .i64 Q.1.n, .int .u64 Q.1.u, .string Q.1.s] 27)
            replace hV0 := hV0.alloc (.cells #[.int .i64 Q.1.k, .int .i64 Q.1.n, .int .u64 Q.1.u, .string Q.1.s] 27)
            replace hV1 := hV1.alloc (.cells #[.int .i64 Q.1.k, .int .i64 Q.1.n, .int .u64 Q.1.u, .string Q.1.s] 27)
            replace hV2 := hV2.alloc (.cells #[.int .i64 Q.1.k, .int .i64 Q.1.n, .int .u64 Q.1.u, .string Q.1.s] 27)
            replace hV3 := hV3.alloc (.cells #[.int .i64 Q.1.k, .int .i64 Q.1.n, .int .u64 Q.1.u, .string Q.1.s] 27)
            replace hV4 := hV4.alloc (.cells #[.int .i64 Q.1.k, .int .i64 Q.1.n, .int .u64 Q.1.u, .string Q.1.s] 27)
            have hV5 := Blk.new w53 27 #[.int .i64 Q.1.k, .int .i64 Q.1.n, .int .u64 Q.1.u, .string Q.1.s]
            have bz := bb.size
            replace bb := bl_al bb (.cells #[.int .i64 Q.1.k, .int .i64 Q.1.n, .int .u64 Q.1.u, .string Q.1.s] 27)
            have hS_0 : (w53.alloc (.cells #[.int .i64 Q.1.k, .int .i64 Q.1.n, .int .u64 Q.1.u, .string Q.1.s] 27)).cell? ⟨G21, 0, none⟩ = some (.int .i64 v.k) := hS.cell 0
            have hS_1 : (w53.alloc (.cells #[.int .i64 Q.1.k, .int .i64 Q.1.n, .int .u64 Q.1.u, .string Q.1.s] 27)).cell? ⟨G21, 1, none⟩ = some (.int .i64 v.n) := hS.cell 1
            have hS_2 : (w53.alloc (.cells #[.int .i64 Q.1.k, .int .i64 Q.1.n, .int .u64 Q.1.u, .string Q.1.s] 27)).cell? ⟨G21, 2, none⟩ = some (.int .u64 v.u) := hS.cell 2
            have hS_3 : (w53.alloc (.cells #[.int .i64 Q.1.k, .int .i64 Q.1.n, .int .u64 Q.1.u, .string Q.1.s] 27)).cell? ⟨G21, 3, none⟩ = some (.string v.s) := hS.cell 3
            have hU_0 : (w53.alloc (.cells #[.int .i64 Q.1.k, .int .i64 Q.1.n, .int .u64 Q.1.u, .string Q.1.s] 27)).cell? ⟨G42, 0, none⟩ = some (.int .i64 u.k) := hU.cell 0
            have hU_1 : (w53.alloc (.cells #[.int .i64 Q.1.k, .int .i64 Q.1.n, .int .u64 Q.1.u, .string Q.1.s] 27)).cell? ⟨G42, 1, none⟩ = some (.int .i64 u.n) := hU.cell 1
            have hU_2 : (w53.alloc (.cells #[.int .i64 Q.1.k, .int .i64 Q.1.n, .int .u64 Q.1.u, .string Q.1.s] 27)).cell? ⟨G42, 2, none⟩ = some (.int .u64 u.u) := hU.cell 2
            have hU_3 : (w53.alloc (.cells #[.int .i64 Q.1.k, .int .i64 Q.1.n, .int .u64 Q.1.u, .string Q.1.s] 27)).cell? ⟨G42, 3, none⟩ = some (.string u.s) := hU.cell 3
            go_wp2_with fail
            clear hS_0 hS_1 hS_2 hS_3 hU_0 hU_1 hU_2 hU_3
            generalize w53.alloc (.cells #[.int .i64 Q.1.k, .int .i64 Q.1.n, .int .u64 Q.1.u, .string Q.1.s] 27) = w54 at *
            generalize w53.heap.size = G54 at *
            refine (HC6.out _).mono ?_
            rintro e w55 ⟨rfl, q55⟩
            simp only [resT]
            replace hv := hv.below q55
            replace hS := hS.ca q55
            replace hU := hU.ca q55
            replace hV0 := hV0.ca q55
            replace hV1 := hV1.ca q55
            replace hV2 := hV2.ca q55
            replace hV3 := hV3.ca q55
            replace hV4 := hV4.ca q55
            replace hV5 := hV5.ca q55
            replace bb := bl_ca bb q55
            clear q55
            replace hv := hv.below (bl_al (Below.refl _ _) (.cells #[.int .i64 T.1.k, .int .i64 T.1.n, .int .u64 T.1.u, .string T.1.s] 27))
            have lhV6_hS := hS.lt
            have lhV6_hU := hU.lt
            have lhV6_hV0 := hV0.lt
            have lhV6_hV1 := hV1.lt
            have lhV6_hV2 := hV2.lt
            have lhV6_hV3 := hV3.lt
            have lhV6_hV4 := hV4.lt
            have lhV6_hV5 := hV5.lt
            replace hS := hS.alloc (.cells #[.int .i64 T.1.k, .int .i64 T.1.n, .int .u64 T.1.u, .string T.1.s] 27)
            replace hU := hU.alloc (.cells #[.int .i64 T.1.k, .int .i64 T.1.n, .int .u64 T.1.u, .string T.1.s] 27)
            replace hV0 := hV0.alloc (.cells #[.int .i64 T.1.k, .int .i64 T.1.n, .int .u64 T.1.u, .string T.1.s] 27)
            replace hV1 := hV1.alloc (.cells #[.int .i64 T.1.k, .int .i64 T.1.n, .int .u64 T.1.u, .string T.1.s] 27)
            replace hV2 := hV2.alloc (.cells #[.int .i64 T.1.k, .int .i64 T.1.n, .int .u64 T.1.u, .string T.1.s] 27)
            replace hV3 := hV3.alloc (.cells #[.int .i64 T.1.k, .int .i64 T.1.n, .int .u64 T.1.u, .string T.1.s] 27)
            replace hV4 := hV4.alloc (.cells #[.int .i64 T.1.k, .int .i64 T.1.n, .int .u64 T.1.u, .string T.1.s] 27)
            replace hV5 := hV5.alloc (.cells #[.int .i64 T.1.k, .int .i64 T.1.n, .int .u64 T.1.u, .string T.1.s] 27)
            have hV6 := Blk.new w55 27 #[.int .i64 T.1.k, .int .i64 T.1.n, .int .u64 T.1.u, .string T.1.s]
            have bz := bb.size
            replace bb := bl_al bb (.cells #[.int .i64 T.1.k, .int .i64 T.1.n, .int .u64 T.1.u, .string T.1.s] 27)
            have hS_0 : (w55.alloc (.cells #[.int .i64 T.1.k, .int .i64 T.1.n, .int .u64 T.1.u, .string T.1.s] 27)).cell? ⟨G21, 0, none⟩ = some (.int .i64 v.k) := hS.cell 0
            have hS_1 : (w55.alloc (.cells #[.int .i64 T.1.k, .int .i64 T.1.n, .int .u64 T.1.u, .string T.1.s] 27)).cell? ⟨G21, 1, none⟩ = some (.int .i64 v.n) := hS.cell 1
            have hS_2 : (w55.alloc (.cells #[.int .i64 T.1.k, .int .i64 T.1.n, .int .u64 T.1.u, .string T.1.s] 27)).cell? ⟨G21, 2, none⟩ = some (.int .u64 v.u) := hS.cell 2
            have hS_3 : (w55.alloc (.cells #[.int .i64 T.1.k, .int .i64 T.1.n, .int .u64 T.1.u, .string T.1.s] 27)).cell? ⟨G21, 3, none⟩ = some (.string v.s) := hS.cell 3
            have hU_0 : (w55.alloc (.cells #[.int .i64 T.1.k, .int .i64 T.1.n, .int .u64 T.1.u, .string T.1.s] 27)).cell? ⟨G42, 0, none⟩ = some (.int .i64 u.k) := hU.cell 0
            have hU_1 : (w55.alloc (.cells #[.int .i64 T.1.k, .int .i64 T.1.n, .int .u64 T.1.u, .string T.1.s] 27)).cell? ⟨G42, 1, none⟩ = some (.int .i64 u.n) := hU.cell 1
            have hU_2 : (w55.alloc (.cells #[.int .i64 T.1.k, .int .i64 T.1.n, .int .u64 T.1.u, .string T.1.s] 27)).cell? ⟨G42, 2, none⟩ = some (.int .u64 u.u) := hU.cell 2
            have hU_3 : (w55.alloc (.cells #[.int .i64 T.1.k, .int .i64 T.1.n, .int .u64 T.1.u, .string T.1.s] 27)).cell? ⟨G42, 3, none⟩ = some (.string u.s) := hU.cell 3
            go_wp2_with fail
            clear hS_0 hS_1 hS_2 hS_3 hU_0 hU_1 hU_2 hU_3
            generalize w55.alloc (.cells #[.int .i64 T.1.k, .int .i64 T.1.n, .int .u64 T.1.u, .string T.1.s] 27) = w56 at *
            generalize w55.heap.size = G56 at *
            refine (HC7.out _).mono ?_
            rintro e w57 ⟨rfl, q57⟩
            simp only [resT]
            replace hv := hv.below q57
            replace hS := hS.ca q57
            replace hU := hU.ca q57
            replace hV0 := hV0.ca q57
            replace hV1 := hV1.ca q57
            replace hV2 := hV2.ca q57
            replace hV3 := hV3.ca q57
            replace hV4 := hV4.ca q57
            replace hV5 := hV5.ca q57
            replace hV6 := hV6.ca q57
            replace bb := bl_ca bb q57
            clear q57
            replace hv := hv.below (bl_al (Below.refl _ _) (.cells #[.int .i64 D.1.k, .int .i64 D.1.n, .int .u64 D.1.u, .string D.1.s] 27))
            have lhV7_hS := hS.lt
            have lhV7_hU := hU.lt
            have lhV7_hV0 := hV0.lt
            have lhV7_hV1 := hV1.lt
            have lhV7_hV2 := hV2.lt
            have lhV7_hV3 := hV3.lt
            have lhV7_hV4 := hV4.lt
            have lhV7_hV5 := hV5.lt
            have lhV7_hV6 := hV6.lt
            replace hS := hS.alloc (.cells #[.int .i64 D.1.k, .int .i64 D.1.n, .int .u64 D.1.u, .string D.1.s] 27)
            replace hU := hU.alloc (.cells #[.int .i64 D.1.k, .int .i64 D.1.n, .int .u64 D.1.u, .string D.1.s] 27)
            replace hV0 := hV0.alloc (.cells #[.int .i64 D.1.k, .int .i64 D.1.n, .int .u64 D.1.u, .string D.1.s] 27)
            replace hV1 := hV1.alloc (.cells #[.int .i64 D.1.k, .int .i64 D.1.n, .int .u64 D.1.u, .string D.1.s] 27)
            replace hV2 := hV2.alloc (.cells #[.int .i64 D.1.k, .int .i64 D.1.n, .int .u64 D.1.u, .string D.1.s] 27)
            replace hV3 := hV3.alloc (.cells #[.int .i64 D.1.k, .int .i64 D.1.n, .int .u64 D.1.u, .string D.1.s] 27)
            replace hV4 := hV4.alloc (.cells #[.int .i64 D.1.k, .int .i64 D.1.n, .int .u64 D.1.u, .string D.1.s] 27)
            replace hV5 := hV5.alloc (.cells #[.int .i64 D.1.k, .int .i64 D.1.n, .int .u64 D.1.u, .string D.1.s] 27)
            replace hV6 := hV6.alloc (.cells #[.int .i64 D.1.k, .int .i64 D.1.n, .int .u64 D.1.u, .string D.1.s] 27)
            have hV7 := Blk.new w57 27 #[.int .i64 D.1.k, .int .i64 D.1.n, .int .u64 D.1.u, .string D.1.s]
            have bz := bb.size
            replace bb := bl_al bb (.cells #[.int .i64 D.1.k, .int .i64 D.1.n, .int .u64 D.1.u, .string D.1.s] 27)
            have hV0_0 : (w57.alloc (.cells #[.int .i64 D.1.k, .int .i64 D.1.n, .int .u64 D.1.u, .string D.1.s] 27)).cell? ⟨G44, 0, none⟩ = some (.int .i64 P.1.k) := hV0.cell 0
            have hV0_1 : (w57.alloc (.cells #[.int .i64 D.1.k, .int .i64 D.1.n, .int .u64 D.1.u, .string D.1.s] 27)).cell? ⟨G44, 1, none⟩ = some (.int .i64 P.1.n) := hV0.cell 1
            have hV0_2 : (w57.alloc (.cells #[.int .i64 D.1.k, .int .i64 D.1.n, .int .u64 D.1.u, .string D.1.s] 27)).cell? ⟨G44, 2, none⟩ = some (.int .u64 P.1.u) := hV0.cell 2
            have hV0_3 : (w57.alloc (.cells #[.int .i64 D.1.k, .int .i64 D.1.n, .int .u64 D.1.u, .string D.1.s] 27)).cell? ⟨G44, 3, none⟩ = some (.string P.1.s) := hV0.cell 3
            have hV4_0 : (w57.alloc (.cells #[.int .i64 D.1.k, .int .i64 D.1.n, .int .u64 D.1.u, .string D.1.s] 27)).cell? ⟨G52, 0, none⟩ = some (.int .i64 P.1.k) := hV4.cell 0
            have hV4_1 : (w57.alloc (.cells #[.int .i64 D.1.k, .int .i64 D.1.n, .int .u64 D.1.u, .string D.1.s] 27)).cell? ⟨G52, 1, none⟩ = some (.int .i64 P.1.n) := hV4.cell 1
            have hV4_2 : (w57.alloc (.cells #[.int .i64 D.1.k, .int .i64 D.1.n, .int .u64 D.1.u, .string D.1.s] 27)).cell? ⟨G52, 2, none⟩ = some (.int .u64 P.1.u) := hV4.cell 2
            have hV4_3 : (w57.alloc (.cells #[.int .i64 D.1.k, .int .i64 D.1.n, .int .u64 D.1.u, .string D.1.s] 27)).cell? ⟨G52, 3, none⟩ = some (.string P.1.s) := hV4.cell 3
            go_wp2_with fail
            clear hV0_0 hV0_1 hV0_2 hV0_3 hV4_0 hV4_1 hV4_2 hV4_3
            generalize w57.alloc (.cells #[.int .i64 D.1.k, .int .i64 D.1.n, .int .u64 D.1.u, .string D.1.s] 27) = w58 at *
            generalize w57.heap.size = G58 at *
            refine (told_same P.1.k P.1.n P.1.u P.1.s P.2 _).mono ?_
            rintro e w59 ⟨rfl, q59⟩
            replace hv := hv.below q59
            replace hS := hS.ca q59
            replace hU := hU.ca q59
            replace hV0 := hV0.ca q59
            replace hV1 := hV1.ca q59
            replace hV2 := hV2.ca q59
            replace hV3 := hV3.ca q59
            replace hV4 := hV4.ca q59
            replace hV5 := hV5.ca q59
            replace hV6 := hV6.ca q59
            replace hV7 := hV7.ca q59
            replace bb := bl_ca bb q59
            clear q59
            have hV1_0 : w59.cell? ⟨G46, 0, none⟩ = some (.int .i64 Q.1.k) := hV1.cell 0
            have hV1_1 : w59.cell? ⟨G46, 1, none⟩ = some (.int .i64 Q.1.n) := hV1.cell 1
            have hV1_2 : w59.cell? ⟨G46, 2, none⟩ = some (.int .u64 Q.1.u) := hV1.cell 2
            have hV1_3 : w59.cell? ⟨G46, 3, none⟩ = some (.string Q.1.s) := hV1.cell 3
            have hV5_0 : w59.cell? ⟨G54, 0, none⟩ = some (.int .i64 Q.1.k) := hV5.cell 0
            have hV5_1 : w59.cell? ⟨G54, 1, none⟩ = some (.int .i64 Q.1.n) := hV5.cell 1
            have hV5_2 : w59.cell? ⟨G54, 2, none⟩ = some (.int .u64 Q.1.u) := hV5.cell 2
            have hV5_3 : w59.cell? ⟨G54, 3, none⟩ = some (.string Q.1.s) := hV5.cell 3
            go_wp2_with fail
            refine (told_same Q.1.k Q.1.n Q.1.u Q.1.s Q.2 _).mono ?_
            rintro e w60 ⟨rfl, q60⟩
            clear hV1_0 hV1_1 hV1_2 hV1_3 hV5_0 hV5_1 hV5_2 hV5_3
            replace hv := hv.below q60
            replace hS := hS.ca q60
            replace hU := hU.ca q60
            replace hV0 := hV0.ca q60
            replace hV1 := hV1.ca q60
            replace hV2 := hV2.ca q60
            replace hV3 := hV3.ca q60
            replace hV4 := hV4.ca q60
            replace hV5 := hV5.ca q60
            replace hV6 := hV6.ca q60
            replace hV7 := hV7.ca q60
            replace bb := bl_ca bb q60
            clear q60
            have hV2_0 : w60.cell? ⟨G48, 0, none⟩ = some (.int .i64 T.1.k) := hV2.cell 0
            have hV2_1 : w60.cell? ⟨G48, 1, none⟩ = some (.int .i64 T.1.n) := hV2.cell 1
            have hV2_2 : w60.cell? ⟨G48, 2, none⟩ = some (.int .u64 T.1.u) := hV2.cell 2
            have hV2_3 : w60.cell? ⟨G48, 3, none⟩ = some (.string T.1.s) := hV2.cell 3
            have hV6_0 : w60.cell? ⟨G56, 0, none⟩ = some (.int .i64 T.1.k) := hV6.cell 0
            have hV6_1 : w60.cell? ⟨G56, 1, none⟩ = some (.int .i64 T.1.n) := hV6.cell 1
            have hV6_2 : w60.cell? ⟨G56, 2, none⟩ = some (.int .u64 T.1.u) := hV6.cell 2
            have hV6_3 : w60.cell? ⟨G56, 3, none⟩ = some (.string T.1.s) := hV6.cell 3
            go_wp2_with fail
            refine (told_same T.1.k T.1.n T.1.u T.1.s T.2 _).mono ?_
            rintro e w61 ⟨rfl, q61⟩
            clear hV2_0 hV2_1 hV2_2 hV2_3 hV6_0 hV6_1 hV6_2 hV6_3
            replace hv := hv.below q61
            replace hS := hS.ca q61
            replace hU := hU.ca q61
            replace hV0 := hV0.ca q61
            replace hV1 := hV1.ca q61
            replace hV2 := hV2.ca q61
            replace hV3 := hV3.ca q61
            replace hV4 := hV4.ca q61
            replace hV5 := hV5.ca q61
            replace hV6 := hV6.ca q61
            replace hV7 := hV7.ca q61
            replace bb := bl_ca bb q61
            clear q61
            have hV3_0 : w61.cell? ⟨G50, 0, none⟩ = some (.int .i64 D.1.k) := hV3.cell 0
            have hV3_1 : w61.cell? ⟨G50, 1, none⟩ = some (.int .i64 D.1.n) := hV3.cell 1
            have hV3_2 : w61.cell? ⟨G50, 2, none⟩ = some (.int .u64 D.1.u) := hV3.cell 2
            have hV3_3 : w61.cell? ⟨G50, 3, none⟩ = some (.string D.1.s) := hV3.cell 3
            have hV7_0 : w61.cell? ⟨G58, 0, none⟩ = some (.int .i64 D.1.k) := hV7.cell 0
            have hV7_1 : w61.cell? ⟨G58, 1, none⟩ = some (.int .i64 D.1.n) := hV7.cell 1
            have hV7_2 : w61.cell? ⟨G58, 2, none⟩ = some (.int .u64 D.1.u) := hV7.cell 2
            have hV7_3 : w61.cell? ⟨G58, 3, none⟩ = some (.string D.1.s) := hV7.cell 3
            go_wp2_with fail
            refine (told_same D.1.k D.1.n D.1.u D.1.s D.2 _).mono ?_
            rintro e w62 ⟨rfl, q62⟩
            clear hV3_0 hV3_1 hV3_2 hV3_3 hV7_0 hV7_1 hV7_2 hV7_3
            replace hv := hv.below q62
            replace hS := hS.ca q62
            replace hU := hU.ca q62
            replace hV0 := hV0.ca q62
            replace hV1 := hV1.ca q62
            replace hV2 := hV2.ca q62
            replace hV3 := hV3.ca q62
            replace hV4 := hV4.ca q62
            replace hV5 := hV5.ca q62
            replace hV6 := hV6.ca q62
            replace hV7 := hV7.ca q62
            replace bb := bl_ca bb q62
            clear q62
            go_wp2
            go_roundg (gk - 1)
            · exact ⟨k + 1, by omega, by omega, by go_num, hv, hS, bb⟩
            · omega
          · go_wp2
            go_roundg (g1 - 1)
            · exact ⟨i + 1, by omega, by omega, by go_num, hv, bb⟩
            · omega
      · have hY := blk_set4 hN (.int .i64 R.1.k) (.int .i64 R.1.n) (.int .u64 R.1.u) (.string R.1.s)
        replace hS := blk_far4 hS (g := wa.heap.size) (by omega) (.int .i64 R.1.k) (.int .i64 R.1.n) (.int .u64 R.1.u) (.string R.1.s)
        replace hX := blk_far4 hX (g := wa.heap.size) (by omega) (.int .i64 R.1.k) (.int .i64 R.1.n) (.int .u64 R.1.u) (.string R.1.s)
        replace bb := bl_set4 bb (g := wa.heap.size) (by omega) (.int .i64 R.1.k) (.int .i64 R.1.n) (.int .u64 R.1.u) (.string R.1.s)
        replace qq := bl_set4 qq (g := wa.heap.size) (by omega) (.int .i64 R.1.k) (.int .i64 R.1.n) (.int .u64 R.1.u) (.string R.1.s)
        clear r0 r1 r2 r3 f0 f1 f2 f3 hN
        replace hv := hv.below qq
        try clear hHeld
        have lGS : G21 < wa.heap.size := by omega
        have lGX : G23 < wa.heap.size := by omega
        clear qq qa qb
        generalize ((((wb.setCell ⟨wa.heap.size, 0, none⟩ (.int .i64 R.1.k)).setCell ⟨wa.heap.size, 1, none⟩ (.int .i64 R.1.n)).setCell ⟨wa.heap.size, 2, none⟩ (.int .u64 R.1.u)).setCell ⟨wa.heap.size, 3, none⟩ (.string R.1.s)) = wE at *
        generalize hge : wa.heap.size = GE at *
        clear hge
        have hX_0 : wE.cell? ⟨G23, 0, none⟩ = some (.int .i64 R.1.k) := hX.cell 0
        have hX_1 : wE.cell? ⟨G23, 1, none⟩ = some (.int .i64 R.1.n) := hX.cell 1
        have hX_2 : wE.cell? ⟨G23, 2, none⟩ = some (.int .u64 R.1.u) := hX.cell 2
        have hX_3 : wE.cell? ⟨G23, 3, none⟩ = some (.string R.1.s) := hX.cell 3
        have hY_0 : wE.cell? ⟨GE, 0, none⟩ = some (.int .i64 R.1.k) := hY.cell 0
        have hY_1 : wE.cell? ⟨GE, 1, none⟩ = some (.int .i64 R.1.n) := hY.cell 1
        have hY_2 : wE.cell? ⟨GE, 2, none⟩ = some (.int .u64 R.1.u) := hY.cell 2
        have hY_3 : wE.cell? ⟨GE, 3, none⟩ = some (.string R.1.s) := hY.cell 3
        go_wp2_with fail
        refine (told_same R.1.k R.1.n R.1.u R.1.s R.2 _).mono ?_
        rintro e w41 ⟨rfl, q41⟩
        clear hX_0 hX_1 hX_2 hX_3 hY_0 hY_1 hY_2 hY_3
        replace hv := hv.below q41
        replace hS := hS.ca q41
        replace hX := hX.ca q41
        replace hY := hY.ca q41
        replace bb := bl_ca bb q41
        clear q41
        clear hX hY
        go_wp2
        obtain ⟨g1, rfl⟩ : ∃ g1, g1 = gk := ⟨_, rfl⟩
        obtain ⟨wo, rfl⟩ : ∃ wo : World, wo = wr := ⟨_, rfl⟩
        go_loopg [57] n' (fun g s wr => ∃ (k : Nat), k + g ≤ n' ∧ n' ≤ k + g ∧ s = .int .i64 k ∧ RdV wr (some ad) n' xs ∧ Blk wr G21 27 #[.int .i64 v.k, .int .i64 v.n, .int .u64 v.u, .string v.s] ∧ Below w.heap.size w wr)
        case atStart => exact ⟨0, by omega, by omega, rfl, hv, hS, bb⟩
        case round =>
          clear hv hS bb
          obtain ⟨k, hk1, hk2, rfl, hv, hS, bb⟩ := hrel
          by_cases hk : k < n'
          · obtain ⟨ad2, u, hA2, hui, hal, c0, c1, c2, c3⟩ := hv.2 k hk
            injection hA2 with hA2
            subst hA2
            have hur : u.rng := HR.out u (List.mem_of_getElem? hui)
            clear hui
            obtain ⟨r, hr⟩ : ∃ r, r = if u.n = 0 then 9223372036854775808 else v.n.tdiv u.n := ⟨_, rfl⟩
            have HC0 := Lib.hid (fun w => add_any v u w hvr.1 hur.1)
            have HC1 := Lib.hid (fun w => sub_any v u w hvr.1 hur.1)
            have HC2 := Lib.hid (fun w => mul_any v u w hvr.1 hur.1)
            have HC3 := Lib.hid (fun w => div_any r v u w hvr.1 hur.1 hr)
            have HC4 := Lib.hid (fun w => ref_add v u w hvr.1 hur.1)
            have HC5 := Lib.hid (fun w => ref_sub v u w hvr.1 hur.1)
            have HC6 := Lib.hid (fun w => ref_mul v u w hvr.1 hur.1)
            have HC7 := Lib.hid (fun w => ref_div r v u w hvr.1 hur.1 hr)
            clear hr
            generalize opV (v.n + u.n) v u = P at *
            generalize opV (v.n - u.n) v u = Q at *
            generalize opV (v.n * u.n) v u = T at *
            generalize opV r v u = D at *
            replace hv := hv.below (bl_al (Below.refl _ _) (.cells #[.int .i64 u.k, .int .i64 u.n, .int .u64 u.u, .string u.s] 27))
            have lhU_hS := hS.lt
            replace hS := hS.alloc (.cells #[.int .i64 u.k, .int .i64 u.n, .int .u64 u.u, .string u.s] 27)
            have hU := Blk.new wr 27 #[.int .i64 u.k, .int .i64 u.n, .int .u64 u.u, .string u.s]
            have bz := bb.size
            replace bb := bl_al bb (.cells #[.int .i64 u.k, .int .i64 u.n, .int .u64 u.u, .string u.s] 27)
            have s0 : (wr.alloc (.cells #[.int .i64 u.k, .int .i64 u.n, .int .u64 u.u, .string u.s] 27)).cell? ⟨G21, 0, none⟩ = some (.int .i64 v.k) := hS.cell 0
            have s1 : (wr.alloc (.cells #[.int .i64 u.k, .int .i64 u.n, .int .u64 u.u, .string u.s] 27)).cell? ⟨G21, 1, none⟩ = some (.int .i64 v.n) := hS.cell 1
            have s2 : (wr.alloc (.cells #[.int .i64 u.k, .int .i64 u.n, .int .u64 u.u, .string u.s] 27)).cell? ⟨G21, 2, none⟩ = some (.int .u64 v.u) := hS.cell 2
            have s3 : (wr.alloc (.cells #[.int .i64 u.k, .int .i64 u.n, .int .u64 u.u, .string u.s] 27)).cell? ⟨G21, 3, none⟩ = some (.string v.s) := hS.cell 3
            go_wp2_with fail
            clear c0 c1 c2 c3 hal s0 s1 s2 s3
            generalize wr.alloc (.cells #[.int .i64 u.k, .int .i64 u.n, .int .u64 u.u, .string u.s] 27) = w42 at *
            generalize wr.heap.size = G42 at *
            refine (HC0.out _).mono ?_
            rintro e w43 ⟨rfl, q43⟩
            simp only [resT]
            replace hv := hv.below q43
            replace hS := hS.ca q43
            replace hU := hU.ca q43
            replace bb := bl_ca bb q43
            clear q43
            replace hv := hv.below (bl_al (Below.refl _ _) (.cells #[.int .i64 P.1.k, .int .i64 P.1.n, .int .u64 P.1.u, .string P.1.s] 27))
            have lhV0_hS := hS.lt
            have lhV0_hU := hU.lt
            replace hS := hS.alloc (.cells #[.int .i64 P.1.k, .int .i64 P.1.n, .int .u64 P.1.u, .string P.1.s] 27)
            replace hU := hU.alloc (.cells #[.int .i64 P.1.k, .int .i64 P.1.n, .int .u64 P.1.u, .string P.1.s] 27)
            have hV0 := Blk.new w43 27 #[.int .i64 P.1.k, .int .i64 P.1.n, .int .u64 P.1.u, .string P.1.s]
            have bz := bb.size
            replace bb := bl_al bb (.cells #[.int .i64 P.1.k, .int .i64 P.1.n, .int .u64 P.1.u, .string P.1.s] 27)
            have hS_0 : (w43.alloc (.cells #[.int .i64 P.1.k, .int .i64 P.1.n, .int .u64 P.1.u, .string P.1.s] 27)).cell? ⟨G21, 0, none⟩ = some (.int .i64 v.k) := hS.cell 0
            have hS_1 : (w43.alloc (.cells #[.int .i64 P.1.k, .int .i64 P.1.n, .int .u64 P.1.u, .string P.1.s] 27)).cell? ⟨G21, 1, none⟩ = some (.int .i64 v.n) := hS.cell 1
            have hS_2 : (w43.alloc (.cells #[.int .i64 P.1.k, .int .i64 P.1.n, .int .u64 P.1.u, .string P.1.s] 27)).cell? ⟨G21, 2, none⟩ = some (.int .u64 v.u) := hS.cell 2
            have hS_3 : (w43.alloc (.cells #[.int .i64 P.1.k, .int .i64 P.1.n, .int .u64 P.1.u, .string P.1.s] 27)).cell? ⟨G21, 3, none⟩ = some (.string v.s) := hS.cell 3
            have hU_0 : (w43.alloc (.cells #[.int .i64 P.1.k, .int .i64 P.1.n, .int .u64 P.1.u, .string P.1.s] 27)).cell? ⟨G42, 0, none⟩ = some (.int .i64 u.k) := hU.cell 0
            have hU_1 : (w43.alloc (.cells #[.int .i64 P.1.k, .int .i64 P.1.n, .int .u64 P.1.u, .string P.1.s] 27)).cell? ⟨G42, 1, none⟩ = some (.int .i64 u.n) := hU.cell 1
            have hU_2 : (w43.alloc (.cells #[.int .i64 P.1.k, .int .i64 P.1.n, .int .u64 P.1.u, .string P.1.s] 27)).cell? ⟨G42, 2, none⟩ = some (.int .u64 u.u) := hU.cell 2
            have hU_3 : (w43.alloc (.cells #[.int .i64 P.1.k, .int .i64 P.1.n, .int .u64 P.1.u, .string P.1.s] 27)).cell? ⟨G42, 3, none⟩ = some (.string u.s) := hU.cell 3
            go_wp2_with fail
            clear hS_0 hS_1 hS_2 hS_3 hU_0 hU_1 hU_2 hU_3
            generalize w43.alloc (.cells #[.int .i64 P.1.k, .int .i64 P.1.n, .int .u64 P.1.u, .string P.1.s] 27) = w44 at *
            generalize w43.heap.size = G44 at *
            refine (HC1.out _).mono ?_
            rintro e w45 ⟨rfl, q45⟩
            simp only [resT]
            replace hv := hv.below q45
            replace hS := hS.ca q45
            replace hU := hU.ca q45
            replace hV0 := hV0.ca q45
            replace bb := bl_ca bb q45
            clear q45
            replace hv := hv.below (bl_al (Below.refl _ _) (.cells #[.int .i64 Q.1.k, .int .i64 Q.1.n, .int .u64 Q.1.u, .string Q.1.s] 27))
            have lhV1_hS := hS.lt
            have lhV1_hU := hU.lt
            have lhV1_hV0 := hV0.lt
            replace hS := hS.alloc (.cells #[.int .i64 Q.1.k, .int .i64 Q.1.n, .int .u64 Q.1.u, .string Q.1.s] 27)
            replace hU := hU.alloc (.cells #[.int .i64 Q.1.k, .int .i64 Q.1.n, .int .u64 Q.1.u, .string Q.1.s] 27)
            replace hV0 := hV0.alloc (.cells #[.int .i64 Q.1.k, .int .i64 Q.1.n, .int .u64 Q.1.u, .string Q.1.s] 27)
            have hV1 := Blk.new w45 27 #[.int .i64 Q.1.k, .int .i64 Q.1.n, .int .u64 Q.1.u, .string Q.1.s]
            have bz := bb.size
            replace bb := bl_al bb (.cells #[.int .i64 Q.1.k, .int .i64 Q.1.n, .int .u64 Q.1.u, .string Q.1.s] 27)
            have hS_0 : (w45.alloc (.cells #[.int .i64 Q.1.k, .int .i64 Q.1.n, .int .u64 Q.1.u, .string Q.1.s] 27)).cell? ⟨G21, 0, none⟩ = some (.int .i64 v.k) := hS.cell 0
            have hS_1 : (w45.alloc (.cells #[.int .i64 Q.1.k, .int .i64 Q.1.n, .int .u64 Q.1.u, .string Q.1.s] 27)).cell? ⟨G21, 1, none⟩ = some (.int .i64 v.n) := hS.cell 1
            have hS_2 : (w45.alloc (.cells #[.int .i64 Q.1.k, .int .i64 Q.1.n, .int .u64 Q.1.u, .string Q.1.s] 27)).cell? ⟨G21, 2, none⟩ = some (.int .u64 v.u) := hS.cell 2
            have hS_3 : (w45.alloc (.cells #[.int .i64 Q.1.k, .int .i64 Q.1.n, .int .u64 Q.1.u, .string Q.1.s] 27)).cell? ⟨G21, 3, none⟩ = some (.string v.s) := hS.cell 3
            have hU_0 : (w45.alloc (.cells #[.int .i64 Q.1.k, .int .i64 Q.1.n, .int .u64 Q.1.u, .string Q.1.s] 27)).cell? ⟨G42, 0, none⟩ = some (.int .i64 u.k) := hU.cell 0
            have hU_1 : (w45.alloc (.cells #[.int .i64 Q.1.k, .int .i64 Q.1.n, .int .u64 Q.1.u, .string Q.1.s] 27)).cell? ⟨G42, 1, none⟩ = some (.int .i64 u.n) := hU.cell 1
            have hU_2 : (w45.alloc (.cells #[.int .i64 Q.1.k, .int .i64 Q.1.n, .int .u64 Q.1.u, .string Q.1.s] 27)).cell? ⟨G42, 2, none⟩ = some (.int .u64 u.u) := hU.cell 2
            have hU_3 : (w45.alloc (.cells #[.int .i64 Q.1.k, .int .i64 Q.1.n, .int .u64 Q.1.u, .string Q.1.s] 27)).cell? ⟨G42, 3, none⟩ = some (.string u.s) := hU.cell 3
            go_wp2_with fail
            clear hS_0 hS_1 hS_2 hS_3 hU_0 hU_1 hU_2 hU_3
            generalize w45.alloc (.cells #[.int .i64 Q.1.k, .int .i64 Q.1.n, .int .u64 Q.1.u, .string Q.1.s] 27) = w46 at *
            generalize w45.heap.size = G46 at *
            refine (HC2.out _).mono ?_
            rintro e w47 ⟨rfl, q47⟩
            simp only [resT]
            replace hv := hv.below q47
            replace hS := hS.ca q47
            replace hU := hU.ca q47
            replace hV0 := hV0.ca q47
            replace hV1 := hV1.ca q47
            replace bb := bl_ca bb q47
            clear q47
            replace hv := hv.below (bl_al (Below.refl _ _) (.cells #[.int .i64 T.1.k, .int .i64 T.1.n, .int .u64 T.1.u, .string T.1.s] 27))
            have lhV2_hS := hS.lt
            have lhV2_hU := hU.lt
            have lhV2_hV0 := hV0.lt
            have lhV2_hV1 := hV1.lt
            replace hS := hS.alloc (.cells #[.int .i64 T.1.k, .int .i64 T.1.n, .int .u64 T.1.u, .string T.1.s] 27)
            replace hU := hU.alloc (.cells #[.int .i64 T.1.k, .int .i64 T.1.n, .int .u64 T.1.u, .string T.1.s] 27)
            replace hV0 := hV0.alloc (.cells #[.int .i64 T.1.k, .int .i64 T.1.n, .int .u64 T.1.u, .string T.1.s] 27)
            replace hV1 := hV1.alloc (.cells #[.int .i64 T.1.k, .int .i64 T.1.n, .int .u64 T.1.u, .string T.1.s] 27)
            have hV2 := Blk.new w47 27 #[.int .i64 T.1.k, .int .i64 T.1.n, .int .u64 T.1.u, .string T.1.s]
            have bz := bb.size
            replace bb := bl_al bb (.cells #[.int .i64 T.1.k, .int .i64 T.1.n, .int .u64 T.1.u, .string T.1.s] 27)
            have hS_0 : (w47.alloc (.cells #[.int .i64 T.1.k, .int .i64 T.1.n, .int .u64 T.1.u, .string T.1.s] 27)).cell? ⟨G21, 0, none⟩ = some (.int .i64 v.k) := hS.cell 0
            have hS_1 : (w47.alloc (.cells #[.int .i64 T.1.k, .int .i64 T.1.n, .int .u64 T.1.u, .string T.1.s] 27)).cell? ⟨G21, 1, none⟩ = some (.int .i64 v.n) := hS.cell 1
            have hS_2 : (w47.alloc (.cells #[.int .i64 T.1.k, .int .i64 T.1.n, .int .u64 T.1.u, .string T.1.s] 27)).cell? ⟨G21, 2, none⟩ = some (.int .u64 v.u) := hS.cell 2
            have hS_3 : (w47.alloc (.cells #[.int .i64 T.1.k, .int .i64 T.1.n, .int .u64 T.1.u, .string T.1.s] 27)).cell? ⟨G21, 3, none⟩ = some (.string v.s) := hS.cell 3
            have hU_0 : (w47.alloc (.cells #[.int .i64 T.1.k, .int .i64 T.1.n, .int .u64 T.1.u, .string T.1.s] 27)).cell? ⟨G42, 0, none⟩ = some (.int .i64 u.k) := hU.cell 0
            have hU_1 : (w47.alloc (.cells #[.int .i64 T.1.k, .int .i64 T.1.n, .int .u64 T.1.u, .string T.1.s] 27)).cell? ⟨G42, 1, none⟩ = some (.int .i64 u.n) := hU.cell 1
            have hU_2 : (w47.alloc (.cells #[.int .i64 T.1.k, .int .i64 T.1.n, .int .u64 T.1.u, .string T.1.s] 27)).cell? ⟨G42, 2, none⟩ = some (.int .u64 u.u) := hU.cell 2
            have hU_3 : (w47.alloc (.cells #[.int .i64 T.1.k, .int .i64 T.1.n, .int .u64 T.1.u, .string T.1.s] 27)).cell? ⟨G42, 3, none⟩ = some (.string u.s) := hU.cell 3
            go_wp2_with fail
            clear hS_0 hS_1 hS_2 hS_3 hU_0 hU_1 hU_2 hU_3
            generalize w47.alloc (.cells #[.int .i64 T.1.k, .int .i64 T.1.n, .int .u64 T.1.u, .string T.1.s] 27) = w48 at *
            generalize w47.heap.size = G48 at *
            refine (HC3.out _).mono ?_
            rintro e w49 ⟨rfl, q49⟩
            simp only [resT]
            replace hv := hv.below q49
            replace hS := hS.ca q49
            replace hU := hU.ca q49
            replace hV0 := hV0.ca q49
            replace hV1 := hV1.ca q49
            replace hV2 := hV2.ca q49
            replace bb := bl_ca bb q49
            clear q49
            replace hv := hv.below (bl_al (Below.refl _ _) (.cells #[.int .i64 D.1.k, .int .i64 D.1.n, .int .u64 D.1.u, .string D.1.s] 27))
            have lhV3_hS := hS.lt
            have lhV3_hU := hU.lt
            have lhV3_hV0 := hV0.lt
            have lhV3_hV1 := hV1.lt
            have lhV3_hV2 := hV2.lt
            replace hS := hS.alloc (.cells #[.int .i64 D.1.k, .int .i64 D.1.n, .int .u64 D.1.u, .string D.1.s] 27)
            replace hU := hU.alloc (.cells #[.int .i64 D.1.k, .int .i64 D.1.n, .int .u64 D.1.u, .string D.1.s] 27)
            replace hV0 := hV0.alloc (.cells #[.int .i64 D.1.k, .int .i64 D.1.n, .int .u64 D.1.u, .string D.1.s] 27)
            replace hV1 := hV1.alloc (.cells #[.int .i64 D.1.k, .int .i64 D.1.n, .int .u64 D.1.u, .string D.1.s] 27)
            replace hV2 := hV2.alloc (.cells #[.int .i64 D.1.k, .int .i64 D.1.n, .int .u64 D.1.u, .string D.1.s] 27)
            have hV3 := Blk.new w49 27 #[.int .i64 D.1.k, .int .i64 D.1.n, .int .u64 D.1.u, .string D.1.s]
            have bz := bb.size
            replace bb := bl_al bb (.cells #[.int .i64 D.1.k, .int .i64 D.1.n, .int .u64 D.1.u, .string D.1.s] 27)
            have hS_0 : (w49.alloc (.cells #[.int .i64 D.1.k, .int .i64 D.1.n, .int .u64 D.1.u, .string D.1.s] 27)).cell? ⟨G21, 0, none⟩ = some (.int .i64 v.k) := hS.cell 0
            have hS_1 : (w49.alloc (.cells #[.int .i64 D.1.k, .int .i64 D.1.n, .int .u64 D.1.u, .string D.1.s] 27)).cell? ⟨G21, 1, none⟩ = some (.int .i64 v.n) := hS.cell 1
            have hS_2 : (w49.alloc (.cells #[.int .i64 D.1.k, .int .i64 D.1.n, .int .u64 D.1.u, .string D.1.s] 27)).cell? ⟨G21, 2, none⟩ = some (.int .u64 v.u) := hS.cell 2
            have hS_3 : (w49.alloc (.cells #[.int .i64 D.1.k, .int .i64 D.1.n, .int .u64 D.1.u, .string D.1.s] 27)).cell? ⟨G21, 3, none⟩ = some (.string v.s) := hS.cell 3
            have hU_0 : (w49.alloc (.cells #[.int .i64 D.1.k, .int .i64 D.1.n, .int .u64 D.1.u, .string D.1.s] 27)).cell? ⟨G42, 0, none⟩ = some (.int .i64 u.k) := hU.cell 0
            have hU_1 : (w49.alloc (.cells #[.int .i64 D.1.k, .int .i64 D.1.n, .int .u64 D.1.u, .string D.1.s] 27)).cell? ⟨G42, 1, none⟩ = some (.int .i64 u.n) := hU.cell 1
            have hU_2 : (w49.alloc (.cells #[.int .i64 D.1.k, .int .i64 D.1.n, .int .u64 D.1.u, .string D.1.s] 27)).cell? ⟨G42, 2, none⟩ = some (.int .u64 u.u) := hU.cell 2
            have hU_3 : (w49.alloc (.cells #[.int .i64 D.1.k, .int .i64 D.1.n, .int .u64 D.1.u, .string D.1.s] 27)).cell? ⟨G42, 3, none⟩ = some (.string u.s) := hU.cell 3
            go_wp2_with fail
            clear hS_0 hS_1 hS_2 hS_3 hU_0 hU_1 hU_2 hU_3
            generalize w49.alloc (.cells #[.int .i64 D.1.k, .int .i64 D.1.n, .int .u64 D.1.u, .string D.1.s] 27) = w50 at *
            generalize w49.heap.size = G50 at *
            refine (HC4.out _).mono ?_
            rintro e w51 ⟨rfl, q51⟩
            simp only [resT]
            replace hv := hv.below q51
            replace hS := hS.ca q51
            replace hU := hU.ca q51
            replace hV0 := hV0.ca q51
            replace hV1 := hV1.ca q51
            replace hV2 := hV2.ca q51
            replace hV3 := hV3.ca q51
            replace bb := bl_ca bb q51
            clear q51
            replace hv := hv.below (bl_al (Below.refl _ _) (.cells #[.int .i64 P.1.k, .int .i64 P.1.n, .int .u64 P.1.u, .string P.1.s] 27))
            have lhV4_hS := hS.lt
            have lhV4_hU := hU.lt
            have lhV4_hV0 := hV0.lt
            have lhV4_hV1 := hV1.lt
            have lhV4_hV2 := hV2.lt
            have lhV4_hV3 := hV3.lt
            replace hS := hS.alloc (.cells #[.int .i64 P.1.k, .int .i64 P.1.n, .int .u64 P.1.u, .string P.1.s] 27)
            replace hU := hU.alloc (.cells #[.int .i64 P.1.k, .int .i64 P.1.n, .int .u64 P.1.u, .string P.1.s] 27)
            replace hV0 := hV0.alloc (.cells #[.int .i64 P.1.k, .int .i64 P.1.n, .int .u64 P.1.u, .string P.1.s] 27)
            replace hV1 := hV1.alloc (.cells #[.int .i64 P.1.k, .int .i64 P.1.n, .int .u64 P.1.u, .string P.1.s] 27)
            replace hV2 := hV2.alloc (.cells #[.int .i64 P.1.k, .int .i64 P.1.n, .int .u64 P.1.u, .string P.1.s] 27)
            replace hV3 := hV3.alloc (.cells #[.int .i64 P.1.k, .int .i64 P.1.n, .int .u64 P.1.u, .string P.1.s] 27)
            have hV4 := Blk.new w51 27 #[.int .i64 P.1.k, .int .i64 P.1.n, .int .u64 P.1.u, .string P.1.s]
            have bz := bb.size
            replace bb := bl_al bb (.cells #[.int .i64 P.1.k, .int .i64 P.1.n, .int .u64 P.1.u, .string P.1.s] 27)
            have hS_0 : (w51.alloc (.cells #[.int .i64 P.1.k, .int .i64 P.1.n, .int .u64 P.1.u, .string P.1.s] 27)).cell? ⟨G21, 0, none⟩ = some (.int .i64 v.k) := hS.cell 0
            have hS_1 : (w51.alloc (.cells #[.int .i64 P.1.k, .int .i64 P.1.n, .int .u64 P.1.u, .string P.1.s] 27)).cell? ⟨G21, 1, none⟩ = some (.int .i64 v.n) := hS.cell 1
            have hS_2 : (w51.alloc (.cells #[.int .i64 P.1.k, .int .i64 P.1.n, .int .u64 P.1.u, .string P.1.s] 27)).cell? ⟨G21, 2, none⟩ = some (.int .u64 v.u) := hS.cell 2
            have hS_3 : (w51.alloc (.cells #[.int .i64 P.1.k, .int .i64 P.1.n, .int .u64 P.1.u, .string P.1.s] 27)).cell? ⟨G21, 3, none⟩ = some (.string v.s) := hS.cell 3
            have hU_0 : (w51.alloc (.cells #[.int .i64 P.1.k, .int .i64 P.1.n, .int .u64 P.1.u, .string P.1.s] 27)).cell? ⟨G42, 0, none⟩ = some (.int .i64 u.k) := hU.cell 0
            have hU_1 : (w51.alloc (.cells #[.int .i64 P.1.k, .int .i64 P.1.n, .int .u64 P.1.u, .string P.1.s] 27)).cell? ⟨G42, 1, none⟩ = some (.int .i64 u.n) := hU.cell 1
            have hU_2 : (w51.alloc (.cells #[.int .i64 P.1.k, .int .i64 P.1.n, .int .u64 P.1.u, .string P.1.s] 27)).cell? ⟨G42, 2, none⟩ = some (.int .u64 u.u) := hU.cell 2
            have hU_3 : (w51.alloc (.cells #[.int .i64 P.1.k, .int .i64 P.1.n, .int .u64 P.1.u, .string P.1.s] 27)).cell? ⟨G42, 3, none⟩ = some (.string u.s) := hU.cell 3
            go_wp2_with fail
            clear hS_0 hS_1 hS_2 hS_3 hU_0 hU_1 hU_2 hU_3
            generalize w51.alloc (.cells #[.int .i64 P.1.k, .int .i64 P.1.n, .int .u64 P.1.u, .string P.1.s] 27) = w52 at *
            generalize w51.heap.size = G52 at *
            refine (HC5.out _).mono ?_
            rintro e w53 ⟨rfl, q53⟩
            simp only [resT]
            replace hv := hv.below q53
            replace hS := hS.ca q53
            replace hU := hU.ca q53
            replace hV0 := hV0.ca q53
            replace hV1 := hV1.ca q53
            replace hV2 := hV2.ca q53
            replace hV3 := hV3.ca q53
            replace hV4 := hV4.ca q53
            replace bb := bl_ca bb q53
            clear q53
            replace hv := hv.below (bl_al (Below.refl _ _) (.cells #[.int .i64 Q.1.k, .int .i64 Q.1.n, .int .u64 Q.1.u, .string Q.1.s] 27))
            have lhV5_hS := hS.lt
            have lhV5_hU := hU.lt
            have lhV5_hV0 := hV0.lt
            have lhV5_hV1 := hV1.lt
            have lhV5_hV2 := hV2.lt
            have lhV5_hV3 := hV3.lt
            have lhV5_hV4 := hV4.lt
            replace hS := hS.alloc (.cells #[.int .i64 Q.1.k, .int .i64 Q.1.n, .int .u64 Q.1.u, .string Q.1.s] 27)
            replace hU := hU.alloc (.cells #[.int .i64 Q.1.k, .int .i64 Q.1.n, .int .u64 Q.1.u, .string Q.1.s] 27)
            replace hV0 := hV0.alloc (.cells #[.int .i64 Q.1.k, .int .i64 Q.1.n, .int .u64 Q.1.u, .string Q.1.s] 27)
            replace hV1 := hV1.alloc (.cells #[.int .i64 Q.1.k, .int .i64 Q.1.n, .int .u64 Q.1.u, .string Q.1.s] 27)
            replace hV2 := hV2.alloc (.cells #[.int .i64 Q.1.k, .int .i64 Q.1.n, .int .u64 Q.1.u, .string Q.1.s] 27)
            replace hV3 := hV3.alloc (.cells #[.int .i64 Q.1.k, .int .i64 Q.1.n, .int .u64 Q.1.u, .string Q.1.s] 27)
            replace hV4 := hV4.alloc (.cells #[.int .i64 Q.1.k, .int .i64 Q.1.n, .int .u64 Q.1.u, .string Q.1.s] 27)
            have hV5 := Blk.new w53 27 #[.int .i64 Q.1.k, .int .i64 Q.1.n, .int .u64 Q.1.u, .string Q.1.s]
            have bz := bb.size
            replace bb := bl_al bb (.cells #[.int .i64 Q.1.k, .int .i64 Q.1.n, .int .u64 Q.1.u, .string Q.1.s] 27)
            have hS_0 : (w53.alloc (.cells #[.int .i64 Q.1.k, .int .i64 Q.1.n, .int .u64 Q.1.u, .string Q.1.s] 27)).cell? ⟨G21, 0, none⟩ = some (.int .i64 v.k) := hS.cell 0
            have hS_1 : (w53.alloc (.cells #[.int .i64 Q.1.k, .int .i64 Q.1.n, .int .u64 Q.1.u, .string Q.1.s] 27)).cell? ⟨G21, 1, none⟩ = some (.int .i64 v.n) := hS.cell 1
            have hS_2 : (w53.alloc (.cells #[.int .i64 Q.1.k, .int .i64 Q.1.n, .int .u64 Q.1.u, .string Q.1.s] 27)).cell? ⟨G21, 2, none⟩ = some (.int .u64 v.u) := hS.cell 2
            have hS_3 : (w53.alloc (.cells #[.int .i64 Q.1.k, .int .i64 Q.1.n, .int .u64 Q.1.u, .string Q.1.s] 27)).cell? ⟨G21, 3, none⟩ = some (.string v.s) := hS.cell 3
            have hU_0 : (w53.alloc (.cells #[.int .i64 Q.1.k, .int .i64 Q.1.n, .int .u64 Q.1.u, .string Q.1.s] 27)).cell? ⟨G42, 0, none⟩ = some (.int .i64 u.k) := hU.cell 0
            have hU_1 : (w53.alloc (.cells #[.int .i64 Q.1.k, .int .i64 Q.1.n, .int .u64 Q.1.u, .string Q.1.s] 27)).cell? ⟨G42, 1, none⟩ = some (.int .i64 u.n) := hU.cell 1
            have hU_2 : (w53.alloc (.cells #[.int .i64 Q.1.k, .int .i64 Q.1.n, .int .u64 Q.1.u, .string Q.1.s] 27)).cell? ⟨G42, 2, none⟩ = some (.int .u64 u.u) := hU.cell 2
            have hU_3 : (w53.alloc (.cells #[.int .i64 Q.1.k, .int .i64 Q.1.n, .int .u64 Q.1.u, .string Q.1.s] 27)).cell? ⟨G42, 3, none⟩ = some (.string u.s) := hU.cell 3
            go_wp2_with fail
            clear hS_0 hS_1 hS_2 hS_3 hU_0 hU_1 hU_2 hU_3
            generalize w53.alloc (.cells #[.int .i64 Q.1.k, .int .i64 Q.1.n, .int .u64 Q.1.u, .string Q.1.s] 27) = w54 at *
            generalize w53.heap.size = G54 at *
            refine (HC6.out _).mono ?_
            rintro e w55 ⟨rfl, q55⟩
            simp only [resT]
            replace hv := hv.below q55
            replace hS := hS.ca q55
            replace hU := hU.ca q55
            replace hV0 := hV0.ca q55
            replace hV1 := hV1.ca q55
            replace hV2 := hV2.ca q55
            replace hV3 := hV3.ca q55
            replace hV4 := hV4.ca q55
            replace hV5 := hV5.ca q55
            replace bb := bl_ca bb q55
            clear q55
            replace hv := hv.below (bl_al (Below.refl _ _) (.cells #[.int .i64 T.1.k, .int .i64 T.1.n, .int .u64 T.1.u, .string T.1.s] 27))
            have lhV6_hS := hS.lt
            have lhV6_hU := hU.lt
            have lhV6_hV0 := hV0.lt
            have lhV6_hV1 := hV1.lt
            have lhV6_hV2 := hV2.lt
            have lhV6_hV3 := hV3.lt
            have lhV6_hV4 := hV4.lt
            have lhV6_hV5 := hV5.lt
            replace hS := hS.alloc (.cells #[.int .i64 T.1.k, .int .i64 T.1.n, .int .u64 T.1.u, .string T.1.s] 27)
            replace hU := hU.alloc (.cells #[.int .i64 T.1.k, .int .i64 T.1.n, .int .u64 T.1.u, .string T.1.s] 27)
            replace hV0 := hV0.alloc (.cells #[.int .i64 T.1.k, .int .i64 T.1.n, .int .u64 T.1.u, .string T.1.s] 27)
            replace hV1 := hV1.alloc (.cells #[.int .i64 T.1.k, .int .i64 T.1.n, .int .u64 T.1.u, .string T.1.s] 27)
            replace hV2 := hV2.alloc (.cells #[.int .i64 T.1.k, .int .i64 T.1.n, .int .u64 T.1.u, .string T.1.s] 27)
            replace hV3 := hV3.alloc (.cells #[.int .i64 T.1.k, .int .i64 T.1.n, .int .u64 T.1.u, .string T.1.s] 27)
            replace hV4 := hV4.alloc (.cells #[.int .i64 T.1.k, .int .i64 T.1.n, .int .u64 T.1.u, .string T.1.s] 27)
            replace hV5 := hV5.alloc (.cells #[.int .i64 T.1.k, .int .i64 T.1.n, .int .u64 T.1.u, .string T.1.s] 27)
            have hV6 := Blk.new w55 27 #[.int .i64 T.1.k, .int .i64 T.1.n, .int .u64 T.1.u, .string T.1.s]
            have bz := bb.size
            replace bb := bl_al bb (.cells #[.int .i64 T.1.k, .int .i64 T.1.n, .int .u64 T.1.u, .string T.1.s] 27)
            have hS_0 : (w55.alloc (.cells #[.int .i64 T.1.k, .int .i64 T.1.n, .int .u64 T.1.u, .string T.1.s] 27)).cell? ⟨G21, 0, none⟩ = some (.int .i64 v.k) := hS.cell 0
            have hS_1 : (w55.alloc (.cells #[.int .i64 T.1.k, .int .i64 T.1.n, .int .u64 T.1.u, .string T.1.s] 27)).cell? ⟨G21, 1, none⟩ = some (.int .i64 v.n) := hS.cell 1
            have hS_2 : (w55.alloc (.cells #[.int .i64 T.1.k, .int .i64 T.1.n, .int .u64 T.1.u, .string T.1.s] 27)).cell? ⟨G21, 2, none⟩ = some (.int .u64 v.u) := hS.cell 2
            have hS_3 : (w55.alloc (.cells #[.int .i64 T.1.k, .int .i64 T.1.n, .int .u64 T.1.u, .string T.1.s] 27)).cell? ⟨G21, 3, none⟩ = some (.string v.s) := hS.cell 3
            have hU_0 : (w55.alloc (.cells #[.int .i64 T.1.k, .int .i64 T.1.n, .int .u64 T.1.u, .string T.1.s] 27)).cell? ⟨G42, 0, none⟩ = some (.int .i64 u.k) := hU.cell 0
            have hU_1 : (w55.alloc (.cells #[.int .i64 T.1.k, .int .i64 T.1.n, .int .u64 T.1.u, .string T.1.s] 27)).cell? ⟨G42, 1, none⟩ = some (.int .i64 u.n) := hU.cell 1
            have hU_2 : (w55.alloc (.cells #[.int .i64 T.1.k, .int .i64 T.1.n, .int .u64 T.1.u, .string T.1.s] 27)).cell? ⟨G42, 2, none⟩ = some (.int .u64 u.u) := hU.cell 2
            have hU_3 : (w55.alloc (.cells #[.int .i64 T.1.k, .int .i64 T.1.n, .int .u64 T.1.u, .string T.1.s] 27)).cell? ⟨G42, 3, none⟩ = some (.string u.s) := hU.cell 3
            go_wp2_with fail
            clear hS_0 hS_1 hS_2 hS_3 hU_0 hU_1 hU_2 hU_3
            generalize w55.alloc (.cells #[.int .i64 T.1.k, .int .i64 T.1.n, .int .u64 T.1.u, .string T.1.s] 27) = w56 at *
            generalize w55.heap.size = G56 at *
            refine (HC7.out _).mono ?_
            rintro e w57 ⟨rfl, q57⟩
            simp only [resT]
            replace hv := hv.below q57
            replace hS := hS.ca q57
            replace hU := hU.ca q57
            replace hV0 := hV0.ca q57
            replace hV1 := hV1.ca q57
            replace hV2 := hV2.ca q57
            replace hV3 := hV3.ca q57
            replace hV4 := hV4.ca q57
            replace hV5 := hV5.ca q57
            replace hV6 := hV6.ca q57
            replace bb := bl_ca bb q57
            clear q57
            replace hv := hv.below (bl_al (Below.refl _ _) (.cells #[.int .i64 D.1.k, .int .i64 D.1.n, .int .u64 D.1.u, .string D.1.s] 27))
            have lhV7_hS := hS.lt
            have lhV7_hU := hU.lt
            have lhV7_hV0 := hV0.lt
            have lhV7_hV1 := hV1.lt
            have lhV7_hV2 := hV2.lt
            have lhV7_hV3 := hV3.lt
            have lhV7_hV4 := hV4.lt
            have lhV7_hV5 := hV5.lt
            have lhV7_hV6 := hV6.lt
            replace hS := hS.alloc (.cells #[.int .i64 D.1.k, .int .i64 D.1.n, .int .u64 D.1.u, .string D.1.s] 27)
            replace hU := hU.alloc (.cells #[.int .i64 D.1.k, .int .i64 D.1.n, .int .u64 D.1.u, .string D.1.s] 27)
            replace hV0 := hV0.alloc (.cells #[.int .i64 D.1.k, .int .i64 D.1.n, .int .u64 D.1.u, .string D.1.s] 27)
            replace hV1 := hV1.alloc (.cells #[.int .i64 D.1.k, .int .i64 D.1.n, .int .u64 D.1.u, .string D.1.s] 27)
            replace hV2 := hV2.alloc (.cells #[.int .i64 D.1.k, .int .i64 D.1.n, .int .u64 D.1.u, .string D.1.s] 27)
            replace hV3 := hV3.alloc (.cells #[.int .i64 D.1.k, .int .i64 D.1.n, .int .u64 D.1.u, .string D.1.s] 27)
            replace hV4 := hV4.alloc (.cells #[.int .i64 D.1.k, .int .i64 D.1.n, .int .u64 D.1.u, .string D.1.s] 27)
            replace hV5 := hV5.alloc (.cells #[.int .i64 D.1.k, .int .i64 D.1.n, .int .u64 D.1.u, .string D.1.s] 27)
            replace hV6 := hV6.alloc (.cells #[.int .i64 D.1.k, .int .i64 D.1.n, .int .u64 D.1.u, .string D.1.s] 27)
            have hV7 := Blk.new w57 27 #[.int .i64 D.1.k, .int .i64 D.1.n, .int .u64 D.1.u, .string D.1.s]
            have bz := bb.size
            replace bb := bl_al bb (.cells #[.int .i64 D.1.k, .int .i64 D.1.n, .int .u64 D.1.u, .string D.1.s] 27)
            have hV0_0 : (w57.alloc (.cells #[.int .i64 D.1.k, .int .i64 D.1.n, .int .u64 D.1.u, .string D.1.s] 27)).cell? ⟨G44, 0, none⟩ = some (.int .i64 P.1.k) := hV0.cell 0
            have hV0_1 : (w57.alloc (.cells #[.int .i64 D.1.k, .int .i64 D.1.n, .int .u64 D.1.u, .string D.1.s] 27)).cell? ⟨G44, 1, none⟩ = some (.int .i64 P.1.n) := hV0.cell 1
            have hV0_2 : (w57.alloc (.cells #[.int .i64 D.1.k, .int .i64 D.1.n, .int .u64 D.1.u, .string D.1.s] 27)).cell? ⟨G44, 2, none⟩ = some (.int .u64 P.1.u) := hV0.cell 2
            have hV0_3 : (w57.alloc (.cells #[.int .i64 D.1.k, .int .i64 D.1.n, .int .u64 D.1.u, .string D.1.s] 27)).cell? ⟨G44, 3, none⟩ = some (.string P.1.s) := hV0.cell 3
            have hV4_0 : (w57.alloc (.cells #[.int .i64 D.1.k, .int .i64 D.1.n, .int .u64 D.1.u, .string D.1.s] 27)).cell? ⟨G52, 0, none⟩ = some (.int .i64 P.1.k) := hV4.cell 0
            have hV4_1 : (w57.alloc (.cells #[.int .i64 D.1.k, .int .i64 D.1.n, .int .u64 D.1.u, .string D.1.s] 27)).cell? ⟨G52, 1, none⟩ = some (.int .i64 P.1.n) := hV4.cell 1
            have hV4_2 : (w57.alloc (.cells #[.int .i64 D.1.k, .int .i64 D.1.n, .int .u64 D.1.u, .string D.1.s] 27)).cell? ⟨G52, 2, none⟩ = some (.int .u64 P.1.u) := hV4.cell 2
            have hV4_3 : (w57.alloc (.cells #[.int .i64 D.1.k, .int .i64 D.1.n, .int .u64 D.1.u, .string D.1.s] 27)).cell? ⟨G52, 3, none⟩ = some (.string P.1.s) := hV4.cell 3
            go_wp2_with fail
            clear hV0_0 hV0_1 hV0_2 hV0_3 hV4_0 hV4_1 hV4_2 hV4_3
            generalize w57.alloc (.cells #[.int .i64 D.1.k, .int .i64 D.1.n, .int .u64 D.1.u, .string D.1.s] 27) = w58 at *
            generalize w57.heap.size = G58 at *
            refine (told_same P.1.k P.1.n P.1.u P.1.s P.2 _).mono ?_
            rintro e w59 ⟨rfl, q59⟩
            replace hv := hv.below q59
            replace hS := hS.ca q59
            replace hU := hU.ca q59
            replace hV0 := hV0.ca q59
            replace hV1 := hV1.ca q59
            replace hV2 := hV2.ca q59
            replace hV3 := hV3.ca q59
            replace hV4 := hV4.ca q59
            replace hV5 := hV5.ca q59
            replace hV6 := hV6.ca q59
            replace hV7 := hV7.ca q59
            replace bb := bl_ca bb q59
            clear q59
            have hV1_0 : w59.cell? ⟨G46, 0, none⟩ = some (.int .i64 Q.1.k) := hV1.cell 0
            have hV1_1 : w59.cell? ⟨G46, 1, none⟩ = some (.int .i64 Q.1.n) := hV1.cell 1
            have hV1_2 : w59.cell? ⟨G46, 2, none⟩ = some (.int .u64 Q.1.u) := hV1.cell 2
            have hV1_3 : w59.cell? ⟨G46, 3, none⟩ = some (.string Q.1.s) := hV1.cell 3
            have hV5_0 : w59.cell? ⟨G54, 0, none⟩ = some (.int .i64 Q.1.k) := hV5.cell 0
            have hV5_1 : w59.cell? ⟨G54, 1, none⟩ = some (.int .i64 Q.1.n) := hV5.cell 1
            have hV5_2 : w59.cell? ⟨G54, 2, none⟩ = some (.int .u64 Q.1.u) := hV5.cell 2
            have hV5_3 : w59.cell? ⟨G54, 3, none⟩ = some (.string Q.1.s) := hV5.cell 3
            go_wp2_with fail
            refine (told_same Q.1.k Q.1.n Q.1.u Q.1.s Q.2 _).mono ?_
            rintro e w60 ⟨rfl, q60⟩
            clear hV1_0 hV1_1 hV1_2 hV1_3 hV5_0 hV5_1 hV5_2 hV5_3
            replace hv := hv.below q60
            replace hS := hS.ca q60
            replace hU := hU.ca q60
            replace hV0 := hV0.ca q60
            replace hV1 := hV1.ca q60
            replace hV2 := hV2.ca q60
            replace hV3 := hV3.ca q60
            replace hV4 := hV4.ca q60
            replace hV5 := hV5.ca q60
            replace hV6 := hV6.ca q60
            replace hV7 := hV7.ca q60
            replace bb := bl_ca bb q60
            clear q60
            have hV2_0 : w60.cell? ⟨G48, 0, none⟩ = some (.int .i64 T.1.k) := hV2.cell 0
            have hV2_1 : w60.cell? ⟨G48, 1, none⟩ = some (.int .i64 T.1.n) := hV2.cell 1
            have hV2_2 : w60.cell? ⟨G48, 2, none⟩ = some (.int .u64 T.1.u) := hV2.cell 2
            have hV2_3 : w60.cell? ⟨G48, 3, none⟩ = some (.string T.1.s) := hV2.cell 3
            have hV6_0 : w60.cell? ⟨G56, 0, none⟩ = some (.int .i64 T.1.k) := hV6.cell 0
            have hV6_1 : w60.cell? ⟨G56, 1, none⟩ = some (.int .i64 T.1.n) := hV6.cell 1
            have hV6_2 : w60.cell? ⟨G56, 2, none⟩ = some (.int .u64 T.1.u) := hV6.cell 2
            have hV6_3 : w60.cell? ⟨G56, 3, none⟩ = some (.string T.1.s) := hV6.cell 3
            go_wp2_with fail
            refine (told_same T.1.k T.1.n T.1.u T.1.s T.2 _).mono ?_
            rintro e w61 ⟨rfl, q61⟩
            clear hV2_0 hV2_1 hV2_2 hV2_3 hV6_0 hV6_1 hV6_2 hV6_3
            replace hv := hv.below q61
            replace hS := hS.ca q61
            replace hU := hU.ca q61
            replace hV0 := hV0.ca q61
            replace hV1 := hV1.ca q61
            replace hV2 := hV2.ca q61
            replace hV3 := hV3.ca q61
            replace hV4 := hV4.ca q61
            replace hV5 := hV5.ca q61
            replace hV6 := hV6.ca q61
            replace hV7 := hV7.ca q61
            replace bb := bl_ca bb q61
            clear q61
            have hV3_0 : w61.cell? ⟨G50, 0, none⟩ = some (.int .i64 D.1.k) := hV3.cell 0
            have hV3_1 : w61.cell? ⟨G50, 1, none⟩ = some (.int .i64 D.1.n) := hV3.cell 1
            have hV3_2 : w61.cell? ⟨G50, 2, none⟩ = some (.int .u64 D.1.u) := hV3.cell 2
            have hV3_3 : w61.cell? ⟨G50, 3, none⟩ = some (.string D.1.s) := hV3.cell 3
            have hV7_0 : w61.cell? ⟨G58, 0, none⟩ = some (.int .i64 D.1.k) := hV7.cell 0
            have hV7_1 : w61.cell? ⟨G58, 1, none⟩ = some (.int .i64 D.1.n) := hV7.cell 1
            have hV7_2 : w61.cell? ⟨G58, 2, none⟩ = some (.int .u64 D.1.u) := hV7.cell 2
            have hV7_3 : w61.cell? ⟨G58, 3, none⟩ = some (.string D.1.s) := hV7.cell 3
            go_wp2_with fail
            refine (told_same D.1.k D.1.n D.1.u D.1.s D.2 _).mono ?_
            rintro e w62 ⟨rfl, q62⟩
            clear hV3_0 hV3_1 hV3_2 hV3_3 hV7_0 hV7_1 hV7_2 hV7_3
            replace hv := hv.below q62
            replace hS := hS.ca q62
            replace hU := hU.ca q62
            replace hV0 := hV0.ca q62
            replace hV1 := hV1.ca q62
            replace hV2 := hV2.ca q62
            replace hV3 := hV3.ca q62
            replace hV4 := hV4.ca q62
            replace hV5 := hV5.ca q62
            replace hV6 := hV6.ca q62
            replace hV7 := hV7.ca q62
            replace bb := bl_ca bb q62
            clear q62
            go_wp2
            go_roundg (gk - 1)
            · exact ⟨k + 1, by omega, by omega, by go_num, hv, hS, bb⟩
            · omega
          · go_wp2
            go_roundg (g1 - 1)
            · exact ⟨i + 1, by omega, by omega, by go_num, hv, bb⟩
            · omega
      · have hY := blk_set4 hN (.int .i64 R.1.k) (.int .i64 R.1.n) (.int .u64 R.1.u) (.string R.1.s)
        replace hS := blk_far4 hS (g := w23.heap.size) (by omega) (.int .i64 R.1.k) (.int .i64 R.1.n) (.int .u64 R.1.u) (.string R.1.s)
        replace hX := blk_far4 hX (g := w23.heap.size) (by omega) (.int .i64 R.1.k) (.int .i64 R.1.n) (.int .u64 R.1.u) (.string R.1.s)
        replace bb := bl_set4 bb (g := w23.heap.size) (by omega) (.int .i64 R.1.k) (.int .i64 R.1.n) (.int .u64 R.1.u) (.string R.1.s)
        replace qq := bl_set4 qq (g := w23.heap.size) (by omega) (.int .i64 R.1.k) (.int .i64 R.1.n) (.int .u64 R.1.u) (.string R.1.s)
        clear r0 r1 r2 r3 f0 f1 f2 f3 hN
        replace hv := hv.below qq
        try clear hHeld
        have lGS : G21 < w23.heap.size := by omega
        have lGX : G23 < w23.heap.size := by omega
        clear qq qa qb
        generalize ((((wb.setCell ⟨w23.heap.size, 0, none⟩ (.int .i64 R.1.k)).setCell ⟨w23.heap.size, 1, none⟩ (.int .i64 R.1.n)).setCell ⟨w23.heap.size, 2, none⟩ (.int .u64 R.1.u)).setCell ⟨w23.heap.size, 3, none⟩ (.string R.1.s)) = wE at *
        generalize hge : w23.heap.size = GE at *
        clear hge
        have hX_0 : wE.cell? ⟨G23, 0, none⟩ = some (.int .i64 R.1.k) := hX.cell 0
        have hX_1 : wE.cell? ⟨G23, 1, none⟩ = some (.int .i64 R.1.n) := hX.cell 1
        have hX_2 : wE.cell? ⟨G23, 2, none⟩ = some (.int .u64 R.1.u) := hX.cell 2
        have hX_3 : wE.cell? ⟨G23, 3, none⟩ = some (.string R.1.s) := hX.cell 3
        have hY_0 : wE.cell? ⟨GE, 0, none⟩ = some (.int .i64 R.1.k) := hY.cell 0
        have hY_1 : wE.cell? ⟨GE, 1, none⟩ = some (.int .i64 R.1.n) := hY.cell 1
        have hY_2 : wE.cell? ⟨GE, 2, none⟩ = some (.int .u64 R.1.u) := hY.cell 2
        have hY_3 : wE.cell? ⟨GE, 3, none⟩ = some (.string R.1.s) := hY.cell 3
        go_wp2_with fail
        refine (told_same R.1.k R.1.n R.1.u R.1.s R.2 _).mono ?_
        rintro e w41 ⟨rfl, q41⟩
        clear hX_0 hX_1 hX_2 hX_3 hY_0 hY_1 hY_2 hY_3
        replace hv := hv.below q41
        replace hS := hS.ca q41
        replace hX := hX.ca q41
        replace hY := hY.ca q41
        replace bb := bl_ca bb q41
        clear q41
        clear hX hY
        go_wp2
        obtain ⟨g1, rfl⟩ : ∃ g1, g1 = gk := ⟨_, rfl⟩
        obtain ⟨wo, rfl⟩ : ∃ wo : World, wo = wr := ⟨_, rfl⟩
        go_loopg [57] n' (fun g s wr => ∃ (k : Nat), k + g ≤ n' ∧ n' ≤ k + g ∧ s = .int .i64 k ∧ RdV wr (some ad) n' xs ∧ Blk wr G21 27 #[.int .i64 v.k, .int .i64 v.n, .int .u64 v.u, .string v.s] ∧ Below w.heap.size w wr)
        case atStart => exact ⟨0, by omega, by omega, rfl, hv, hS, bb⟩
        case round =>
          clear hv hS bb
          obtain ⟨k, hk1, hk2, rfl, hv, hS, bb⟩ := hrel
          by_cases hk : k < n'
          · obtain ⟨ad2, u, hA2, hui, hal, c0, c1, c2, c3⟩ := hv.2 k hk
            injection hA2 with hA2
            subst hA2
            have hur : u.rng := HR.out u (List.mem_of_getElem? hui)
            clear hui
            obtain ⟨r, hr⟩ : ∃ r, r = if u.n = 0 then 9223372036854775808 else v.n.tdiv u.n := ⟨_, rfl⟩
            have HC0 := Lib.hid (fun w => add_any v u w hvr.1 hur.1)
            have HC1 := Lib.hid (fun w => sub_any v u w hvr.1 hur.1)
            have HC2 := Lib.hid (fun w => mul_any v u w hvr.1 hur.1)
            have HC3 := Lib.hid (fun w => div_any r v u w hvr.1 hur.1 hr)
            have HC4 := Lib.hid (fun w => ref_add v u w hvr.1 hur.1)
            have HC5 := Lib.hid (fun w => ref_sub v u w hvr.1 hur.1)
            have HC6 := Lib.hid (fun w => ref_mul v u w hvr.1 hur.1)
            have HC7 := Lib.hid (fun w => ref_div r v u w hvr.1 hur.1 hr)
            clear hr
            generalize opV (v.n + u.n) v u = P at *
            generalize opV (v.n - u.n) v u = Q at *
            generalize opV (v.n * u.n) v u = T at *
            generalize opV r v u = D at *
            replace hv := hv.below (bl_al (Below.refl _ _) (.cells #[.int .i64 u.k, .int .i64 u.n, .int .u64 u.u, .string u.s] 27))
            have lhU_hS := hS.lt
            replace hS := hS.alloc (.cells #[.int .i64 u.k, .int .i64 u.n, .int .u64 u.u, .string u.s] 27)
            have hU := Blk.new wr 27 #[.int .i64 u.k, .int .i64 u.n, .int .u64 u.u, .string u.s]
            have bz := bb.size
            replace bb := bl_al bb (.cells #[.int .i64 u.k, .int .i64 u.n, .int .u64 u.u, .string u.s] 27)
            have s0 : (wr.alloc (.cells #[.int .i64 u.k, .int .i64 u.n, .int .u64 u.u, .string u.s] 27)).cell? ⟨G21, 0, none⟩ = some (.int .i64 v.k) := hS.cell 0
            have s1 : (wr.alloc (.cells #[.int .i64 u.k, .int .i64 u.n, .int .u64 u.u, .string u.s] 27)).cell? ⟨G21, 1, none⟩ = some (.int .i64 v.n) := hS.cell 1
            have s2 : (wr.alloc (.cells #[.int .i64 u.k, .int .i64 u.n, .int .u64 u.u, .string u.s] 27)).cell? ⟨G21, 2, none⟩ = some (.int .u64 v.u) := hS.cell 2
            have s3 : (wr.alloc (.cells #[.int .i64 u.k, .int .i64 u.n, .int .u64 u.u, .string u.s] 27)).cell? ⟨G21, 3, none⟩ = some (.string v.s) := hS.cell 3
            go_wp2_with fail
            clear c0 c1 c2 c3 hal s0 s1 s2 s3
            generalize wr.alloc (.cells #[.int .i64 u.k, .int .i64 u.n, .int .u64 u.u, .string u.s] 27) = w42 at *
            generalize wr.heap.size = G42 at *
            refine (HC0.out _).mono ?_
            rintro e w43 ⟨rfl, q43⟩
            simp only [resT]
            replace hv := hv.below q43
            replace hS := hS.ca q43
            replace hU := hU.ca q43
            replace bb := bl_ca bb q43
            clear q43
            replace hv := hv.below (bl_al (Below.refl _ _) (.cells #[.int .i64 P.1.k, .int .i64 P.1.n, .int .u64 P.1.u, .string P.1.s] 27))
            have lhV0_hS := hS.lt
            have lhV0_hU := hU.lt
            replace hS := hS.alloc (.cells #[.int .i64 P.1.k, .int .i64 P.1.n, .int .u64 P.1.u, .string P.1.s] 27)
            replace hU := hU.alloc (.cells #[.int .i64 P.1.k, .int .i64 P.1.n, .int .u64 P.1.u, .string P.1.s] 27)
            have hV0 := Blk.new w43 27 #[.int .i64 P.1.k, .int .i64 P.1.n, .int .u64 P.1.u, .string P.1.s]
            have bz := bb.size
            replace bb := bl_al bb (.cells #[.int .i64 P.1.k, .int .i64 P.1.n, .int .u64 P.1.u, .string P.1.s] 27)
            have hS_0 : (w43.alloc (.cells #[.int .i64 P.1.k, .int .i64 P.1.n, .int .u64 P.1.u, .string P.1.s] 27)).cell? ⟨G21, 0, none⟩ = some (.int .i64 v.k) := hS.cell 0
            have hS_1 : (w43.alloc (.cells #[.int .i64 P.1.k, .int .i64 P.1.n, .int .u64 P.1.u, .string P.1.s] 27)).cell? ⟨G21, 1, none⟩ = some (.int .i64 v.n) := hS.cell 1
            have hS_2 : (w43.alloc (.cells #[.int .i64 P.1.k, .int .i64 P.1.n, .int .u64 P.1.u, .string P.1.s] 27)).cell? ⟨G21, 2, none⟩ = some (.int .u64 v.u) := hS.cell 2
            have hS_3 : (w43.alloc (.cells #[.int .i64 P.1.k, .int .i64 P.1.n, .int .u64 P.1.u, .string P.1.s] 27)).cell? ⟨G21, 3, none⟩ = some (.string v.s) := hS.cell 3
            have hU_0 : (w43.alloc (.cells #[.int .i64 P.1.k, .int .i64 P.1.n, .int .u64 P.1.u, .string P.1.s] 27)).cell? ⟨G42, 0, none⟩ = some (.int .i64 u.k) := hU.cell 0
            have hU_1 : (w43.alloc (.cells #[.int .i64 P.1.k, .int .i64 P.1.n, .int .u64 P.1.u, .string P.1.s] 27)).cell? ⟨G42, 1, none⟩ = some (.int .i64 u.n) := hU.cell 1
            have hU_2 : (w43.alloc (.cells #[.int .i64 P.1.k, .int .i64 P.1.n, .int .u64 P.1.u, .string P.1.s] 27)).cell? ⟨G42, 2, none⟩ = some (.int .u64 u.u) := hU.cell 2
            have hU_3 : (w43.alloc (.cells #[.int .i64 P.1.k, .int .i64 P.1.n, .int .u64 P.1.u, .string P.1.s] 27)).cell? ⟨G42, 3, none⟩ = some (.string u.s) := hU.cell 3
            go_wp2_with fail
            clear hS_0 hS_1 hS_2 hS_3 hU_0 hU_1 hU_2 hU_3
            generalize w43.alloc (.cells #[.int .i64 P.1.k, .int .i64 P.1.n, .int .u64 P.1.u, .string P.1.s] 27) = w44 at *
            generalize w43.heap.size = G44 at *
            refine (HC1.out _).mono ?_
            rintro e w45 ⟨rfl, q45⟩
            simp only [resT]
            replace hv := hv.below q45
            replace hS := hS.ca q45
            replace hU := hU.ca q45
            replace hV0 := hV0.ca q45
            replace bb := bl_ca bb q45
            clear q45
            replace hv := hv.below (bl_al (Below.refl _ _) (.cells #[.int .i64 Q.1.k, .int .i64 Q.1.n, .int .u64 Q.1.u, .string Q.1.s] 27))
            have lhV1_hS := hS.lt
            have lhV1_hU := hU.lt
            have lhV1_hV0 := hV0.lt
            replace hS := hS.alloc (.cells #[.int .i64 Q.1.k, .int .i64 Q.1.n, .int .u64 Q.1.u, .string Q.1.s] 27)
            replace hU := hU.alloc (.cells #[.int .i64 Q.1.k, .int .i64 Q.1.n, .int .u64 Q.1.u, .string Q.1.s] 27)
            replace hV0 := hV0.alloc (.cells #[.int .i64 Q.1.k, .int .i64 Q.1.n, .int .u64 Q.1.u, .string Q.1.s] 27)
            have hV1 := Blk.new w45 27 #[.int .i64 Q.1.k, .int .i64 Q.1.n, .int .u64 Q.1.u, .string Q.1.s]
            have bz := bb.size
            replace bb := bl_al bb (.cells #[.int .i64 Q.1.k, .int .i64 Q.1.n, .int .u64 Q.1.u, .string Q.1.s] 27)
            have hS_0 : (w45.alloc (.cells #[.int .i64 Q.1.k, .int .i64 Q.1.n, .int .u64 Q.1.u, .string Q.1.s] 27)).cell? ⟨G21, 0, none⟩ = some (.int .i64 v.k) := hS.cell 0
            have hS_1 : (w45.alloc (.cells #[.int .i64 Q.1.k, .int .i64 Q.1.n, .int .u64 Q.1.u, .string Q.1.s] 27)).cell? ⟨G21, 1, none⟩ = some (.int .i64 v.n) := hS.cell 1
            have hS_2 : (w45.alloc (.cells #[.int .i64 Q.1.k, .int .i64 Q.1.n, .int .u64 Q.1.u, .string Q.1.s] 27)).cell? ⟨G21, 2, none⟩ = some (.int .u64 v.u) := hS.cell 2
            have hS_3 : (w45.alloc (.cells #[.int .i64 Q.1.k, .int .i64 Q.1.n, .int .u64 Q.1.u, .string Q.1.s] 27)).cell? ⟨G21, 3, none⟩ = some (.string v.s) := hS.cell 3
            have hU_0 : (w45.alloc (.cells #[.int .i64 Q.1.k, .int .i64 Q.1.n, .int .u64 Q.1.u, .string Q.1.s] 27)).cell? ⟨G42, 0, none⟩ = some (.int .i64 u.k) := hU.cell 0
            have hU_1 : (w45.alloc (.cells #[.int .i64 Q.1.k, .int .i64 Q.1.n, .int .u64 Q.1.u, .string Q.1.s] 27)).cell? ⟨G42, 1, none⟩ = some (.int .i64 u.n) := hU.cell 1
            have hU_2 : (w45.alloc (.cells #[.int .i64 Q.1.k, .int .i64 Q.1.n, .int .u64 Q.1.u, .string Q.1.s] 27)).cell? ⟨G42, 2, none⟩ = some (.int .u64 u.u) := hU.cell 2
            have hU_3 : (w45.alloc (.cells #[.int .i64 Q.1.k, .int .i64 Q.1.n, .int .u64 Q.1.u, .string Q.1.s] 27)).cell? ⟨G42, 3, none⟩ = some (.string u.s) := hU.cell 3
            go_wp2_with fail
            clear hS_0 hS_1 hS_2 hS_3 hU_0 hU_1 hU_2 hU_3
            generalize w45.alloc (.cells #[.int .i64 Q.1.k, .int .i64 Q.1.n, .int .u64 Q.1.u, .string Q.1.s] 27) = w46 at *
            generalize w45.heap.size = G46 at *
            refine (HC2.out _).mono ?_
            rintro e w47 ⟨rfl, q47⟩
            simp only [resT]
            replace hv := hv.below q47
            replace hS := hS.ca q47
            replace hU := hU.ca q47
            replace hV0 := hV0.ca q47
            replace hV1 := hV1.ca q47
            replace bb := bl_ca bb q47
            clear q47
            replace hv := hv.below (bl_al (Below.refl _ _) (.cells #[.int .i64 T.1.k, .int .i64 T.1.n, .int .u64 T.1.u, .string T.1.s] 27))
            have lhV2_hS := hS.lt
            have lhV2_hU := hU.lt
            have lhV2_hV0 := hV0.lt
            have lhV2_hV1 := hV1.lt
            replace hS := hS.alloc (.cells #[.int .i64 T.1.k, .int .i64 T.1.n, .int .u64 T.1.u, .string T.1.s] 27)
            replace hU := hU.alloc (.cells #[.int .i64 T.1.k, .int .i64 T.1.n, .int .u64 T.1.u, .string T.1.s] 27)
            replace hV0 := hV0.alloc (.cells #[.int .i64 T.1.k, .int .i64 T.1.n, .int .u64 T.1.u, .string T.1.s] 27)
            replace hV1 := hV1.alloc (.cells #[.int .i64 T.1.k, .int .i64 T.1.n, .int .u64 T.1.u, .string T.1.s] 27)
            have hV2 := Blk.new w47 27 #[.int .i64 T.1.k, .int .i64 T.1.n, .int .u64 T.1.u, .string T.1.s]
            have bz := bb.size
            replace bb := bl_al bb (.cells #[.int .i64 T.1.k, .int .i64 T.1.n, .int .u64 T.1.u, .string T.1.s] 27)
            have hS_0 : (w47.alloc (.cells #[.int .i64 T.1.k, .int .i64 T.1.n, .int .u64 T.1.u, .string T.1.s] 27)).cell? ⟨G21, 0, none⟩ = some (.int .i64 v.k) := hS.cell 0
            have hS_1 : (w47.alloc (.cells #[.int .i64 T.1.k, .int .i64 T.1.n, .int .u64 T.1.u, .string T.1.s] 27)).cell? ⟨G21, 1, none⟩ = some (.int .i64 v.n) := hS.cell 1
            have hS_2 : (w47.alloc (.cells #[.int .i64 T.1.k, .int .i64 T.1.n, .int .u64 T.1.u, .string T.1.s] 27)).cell? ⟨G21, 2, none⟩ = some (.int .u64 v.u) := hS.cell 2
            have hS_3 : (w47.alloc (.cells #[.int .i64 T.1.k, .int .i64 T.1.n, .int .u64 T.1.u, .string T.1.s] 27)).cell? ⟨G21, 3, none⟩ = some (.string v.s) := hS.cell 3
            have hU_0 : (w47.alloc (.cells #[.int .i64 T.1.k, .int .i64 T.1.n, .int .u64 T.1.u, .string T.1.s] 27)).cell? ⟨G42, 0, none⟩ = some (.int .i64 u.k) := hU.cell 0
            have hU_1 : (w47.alloc (.cells #[.int .i64 T.1.k, .int .i64 T.1.n, .int .u64 T.1.u, .string T.1.s] 27)).cell? ⟨G42, 1, none⟩ = some (.int .i64 u.n) := hU.cell 1
            have hU_2 : (w47.alloc (.cells #[.int .i64 T.1.k, .int .i64 T.1.n, .int .u64 T.1.u, .string T.1.s] 27)).cell? ⟨G42, 2, none⟩ = some (.int .u64 u.u) := hU.cell 2
            have hU_3 : (w47.alloc (.cells #[.int .i64 T.1.k, .int .i64 T.1.n, .int .u64 T.1.u, .string T.1.s] 27)).cell? ⟨G42, 3, none⟩ = some (.string u.s) := hU.cell 3
            go_wp2_with fail
            clear hS_0 hS_1 hS_2 hS_3 hU_0 hU_1 hU_2 hU_3
            generalize w47.alloc (.cells #[.int .i64 T.1.k, .int .i64 T.1.n, .int .u64 T.1.u, .string T.1.s] 27) = w48 at *
            generalize w47.heap.size = G48 at *
            refine (HC3.out _).mono ?_
            rintro e w49 ⟨rfl, q49⟩
            simp only [resT]
            replace hv := hv.below q49
            replace hS := hS.ca q49
            replace hU := hU.ca q49
            replace hV0 := hV0.ca q49
            replace hV1 := hV1.ca q49
            replace hV2 := hV2.ca q49
            replace bb := bl_ca bb q49
            clear q49
            replace hv := hv.below (bl_al (Below.refl _ _) (.cells #[.int .i64 D.1.k, .int .i64 D.1.n, .int .u64 D.1.u, .string D.1.s] 27))
            have lhV3_hS := hS.lt
            have lhV3_hU := hU.lt
            have lhV3_hV0 := hV0.lt
            have lhV3_hV1 := hV1.lt
            have lhV3_hV2 := hV2.lt
            replace hS := hS.alloc (.cells #[.int .i64 D.1.k, .int .i64 D.1.n, .int .u64 D.1.u, .string D.1.s] 27)
            replace hU := hU.alloc (.cells #[.int .i64 D.1.k, .int .i64 D.1.n, .int .u64 D.1.u, .string D.1.s] 27)
            replace hV0 := hV0.alloc (.cells #[.int .i64 D.1.k, .int .i64 D.1.n, .int .u64 D.1.u, .string D.1.s] 27)
            replace hV1 := hV1.alloc (.cells #[.int .i64 D.1.k, .int .i64 D.1.n, .int .u64 D.1.u, .string D.1.s] 27)
            replace hV2 := hV2.alloc (.cells #[.int .i64 D.1.k, .int .i64 D.1.n, .int .u64 D.1.u, .string D.1.s] 27)
            have hV3 := Blk.new w49 27 #[.int .i64 D.1.k, .int .i64 D.1.n, .int .u64 D.1.u, .string D.1.s]
            have bz := bb.size
            replace bb := bl_al bb (.cells #[.int .i64 D.1.k, .int .i64 D.1.n, .int .u64 D.1.u, .string D.1.s] 27)
            have hS_0 : (w49.alloc (.cells #[.int .i64 D.1.k, .int .i64 D.1.n, .int .u64 D.1.u, .string D.1.s] 27)).cell? ⟨G21, 0, none⟩ = some (.int .i64 v.k) := hS.cell 0
            have hS_1 : (w49.alloc (.cells #[.int .i64 D.1.k, .int .i64 D.1.n, .int .u64 D.1.u, .string D.1.s] 27)).cell? ⟨G21, 1, none⟩ = some (.int .i64 v.n) := hS.cell 1
            have hS_2 : (w49.alloc (.cells #[.int .i64 D.1.k, .int .i64 D.1.n, .int .u64 D.1.u, .string D.1.s] 27)).cell? ⟨G21, 2, none⟩ = some (.int .u64 v.u) := hS.cell 2
            have hS_3 : (w49.alloc (.cells #[.int .i64 D.1.k, .int .i64 D.1.n, .int .u64 D.1.u, .string D.1.s] 27)).cell? ⟨G21, 3, none⟩ = some (.string v.s) := hS.cell 3
            have hU_0 : (w49.alloc (.cells #[.int .i64 D.1.k, .int .i64 D.1.n, .int .u64 D.1.u, .string D.1.s] 27)).cell? ⟨G42, 0, none⟩ = some (.int .i64 u.k) := hU.cell 0
            have hU_1 : (w49.alloc (.cells #[.int .i64 D.1.k, .int .i64 D.1.n, .int .u64 D.1.u, .string D.1.s] 27)).cell? ⟨G42, 1, none⟩ = some (.int .i64 u.n) := hU.cell 1
            have hU_2 : (w49.alloc (.cells #[.int .i64 D.1.k, .int .i64 D.1.n, .int .u64 D.1.u, .string D.1.s] 27)).cell? ⟨G42, 2, none⟩ = some (.int .u64 u.u) := hU.cell 2
            have hU_3 : (w49.alloc (.cells #[.int .i64 D.1.k, .int .i64 D.1.n, .int .u64 D.1.u, .string D.1.s] 27)).cell? ⟨G42, 3, none⟩ = some (.string u.s) := hU.cell 3
            go_wp2_with fail
            clear hS_0 hS_1 hS_2 hS_3 hU_0 hU_1 hU_2 hU_3
            generalize w49.alloc (.cells #[.int .i64 D.1.k, .int .i64 D.1.n, .int .u64 D.1.u, .string D.1.s] 27) = w50 at *
            generalize w49.heap.size = G50 at *
            refine (HC4.out _).mono ?_
            rintro e w51 ⟨rfl, q51⟩
            simp only [resT]
            replace hv := hv.below q51
            replace hS := hS.ca q51
            replace hU := hU.ca q51
            replace hV0 := hV0.ca q51
            replace hV1 := hV1.ca q51
            replace hV2 := hV2.ca q51
            replace hV3 := hV3.ca q51
            replace bb := bl_ca bb q51
            clear q51
            replace hv := hv.below (bl_al (Below.refl _ _) (.cells #[.int .i64 P.1.k, .int .i64 P.1.n, .int .u64 P.1.u, .string P.1.s] 27))
            have lhV4_hS := hS.lt
            have lhV4_hU := hU.lt
            have lhV4_hV0 := hV0.lt
            have lhV4_hV1 := hV1.lt
            have lhV4_hV2 := hV2.lt
            have lhV4_hV3 := hV3.lt
            replace hS := hS.alloc (.cells #[.int .i64 P.1.k, .int .i64 P.1.n, .int .u64 P.1.u, .string P.1.s] 27)
            replace hU := hU.alloc (.cells #[.int .i64 P.1.k, .int .i64 P.1.n, .int .u64 P.1.u, .string P.1.s] 27)
            replace hV0 := hV0.alloc (.cells #[.int .i64 P.1.k, .int .i64 P.1.n, .int .u64 P.1.u, .string P.1.s] 27)
            replace hV1 := hV1.alloc (.cells #[.int .i64 P.1.k, .int .i64 P.1.n, .int .u64 P.1.u, .string P.1.s] 27)
            replace hV2 := hV2.alloc (.cells #[.int .i64 P.1.k, .int .i64 P.1.n, .int .u64 P.1.u, .string P.1.s] 27)
            replace hV3 := hV3.alloc (.cells #[.int .i64 P.1.k, .int .i64 P.1.n, .int .u64 P.1.u, .string P.1.s] 27)
            have hV4 := Blk.new w51 27 #[.int .i64 P.1.k, .int .i64 P.1.n, .int .u64 P.1.u, .string P.1.s]
            have bz := bb.size
            replace bb := bl_al bb (.cells #[.int .i64 P.1.k, .int .i64 P.1.n, .int .u64 P.1.u, .string P.1.s] 27)
            have hS_0 : (w51.alloc (.cells #[.int .i64 P.1.k, .int .i64 P.1.n, .int .u64 P.1.u, .string P.1.s] 27)).cell? ⟨G21, 0, none⟩ = some (.int .i64 v.k) := hS.cell 0
            have hS_1 : (w51.alloc (.cells #[.int .i64 P.1.k, .int .i64 P.1.n, .int .u64 P.1.u, .string P.1.s] 27)).cell? ⟨G21, 1, none⟩ = some (.int .i64 v.n) := hS.cell 1
            have hS_2 : (w51.alloc (.cells #[.int .i64 P.1.k, .int .i64 P.1.n, .int .u64 P.1.u, .string P.1.s] 27)).cell? ⟨G21, 2, none⟩ = some (.int .u64 v.u) := hS.cell 2
            have hS_3 : (w51.alloc (.cells #[.int .i64 P.1.k, .int .i64 P.1.n, .int .u64 P.1.u, .string P.1.s] 27)).cell? ⟨G21, 3, none⟩ = some (.string v.s) := hS.cell 3
            have hU_0 : (w51.alloc (.cells #[.int .i64 P.1.k, .int .i64 P.1.n, .int .u64 P.1.u, .string P.1.s] 27)).cell? ⟨G42, 0, none⟩ = some (.int .i64 u.k) := hU.cell 0
            have hU_1 : (w51.alloc (.cells #[.int .i64 P.1.k, .int .i64 P.1.n, .int .u64 P.1.u, .string P.1.s] 27)).cell? ⟨G42, 1, none⟩ = some (.int .i64 u.n) := hU.cell 1
            have hU_2 : (w51.alloc (.cells #[.int .i64 P.1.k, .int .i64 P.1.n, .int .u64 P.1.u, .string P.1.s] 27)).cell? ⟨G42, 2, none⟩ = some (.int .u64 u.u) := hU.cell 2
            have hU_3 : (w51.alloc (.cells #[.int .i64 P.1.k, .int .i64 P.1.n, .int .u64 P.1.u, .string P.1.s] 27)).cell? ⟨G42, 3, none⟩ = some (.string u.s) := hU.cell 3
            go_wp2_with fail
            clear hS_0 hS_1 hS_2 hS_3 hU_0 hU_1 hU_2 hU_3
            generalize w51.alloc (.cells #[.int .i64 P.1.k, .int .i64 P.1.n, .int .u64 P.1.u, .string P.1.s] 27) = w52 at *
            generalize w51.heap.size = G52 at *
            refine (HC5.out _).mono ?_
            rintro e w53 ⟨rfl, q53⟩
            simp only [resT]
            replace hv := hv.below q53
            replace hS := hS.ca q53
            replace hU := hU.ca q53
            replace hV0 := hV0.ca q53
            replace hV1 := hV1.ca q53
            replace hV2 := hV2.ca q53
            replace hV3 := hV3.ca q53
            replace hV4 := hV4.ca q53
            replace bb := bl_ca bb q53
            clear q53
            replace hv := hv.below (bl_al (Below.refl _ _) (.cells #[.int .i64 Q.1.k, .int .i64 Q.1.n, .int .u64 Q.1.u, .string Q.1.s] 27))
            have lhV5_hS := hS.lt
            have lhV5_hU := hU.lt
            have lhV5_hV0 := hV0.lt
            have lhV5_hV1 := hV1.lt
            have lhV5_hV2 := hV2.lt
            have lhV5_hV3 := hV3.lt
            have lhV5_hV4 := hV4.lt
            replace hS := hS.alloc (.cells #[.int .i64 Q.1.k, .int .i64 Q.1.n, .int .u64 Q.1.u, .string Q.1.s] 27)
            replace hU := hU.alloc (.cells #[.int .i64 Q.1.k, .int .i64 Q.1.n, .int .u64 Q.1.u, .string Q.1.s] 27)
            replace hV0 := hV0.alloc (.cells #[.int .i64 Q.1.k, .int .i64 Q.1.n, .int .u64 Q.1.u, .string Q.1.s] 27)
            replace hV1 := hV1.alloc (.cells #[.int .i64 Q.1.k, .int .i64 Q.1.n, .int .u64 Q.1.u, .string Q.1.s] 27)
            replace hV2 := hV2.alloc (.cells #[.int .i64 Q.1.k, .int .i64 Q.1.n, .int .u64 Q.1.u, .string Q.1.s] 27)
            replace hV3 := hV3.alloc (.cells #[.int .i64 Q.1.k, .int .i64 Q.1.n, .int .u64 Q.1.u, .string Q.1.s] 27)
            replace hV4 := hV4.alloc (.cells #[.int .i64 Q.1.k, .int .i64 Q.1.n, .int .u64 Q.1.u, .string Q.1.s] 27)
            have hV5 := Blk.new w53 27 #[.int .i64 Q.1.k, .int .i64 Q.1.n, .int .u64 Q.1.u, .string Q.1.s]
            have bz := bb.size
            replace bb := bl_al bb (.cells #[.int .i64 Q.1.k, .int .i64 Q.1.n, .int .u64 Q.1.u, .string Q.1.s] 27)
            have hS_0 : (w53.alloc (.cells #[.int .i64 Q.1.k, .int .i64 Q.1.n, .int .u64 Q.1.u, .string Q.1.s] 27)).cell? ⟨G21, 0, none⟩ = some (.int .i64 v.k) := hS.cell 0
            have hS_1 : (w53.alloc (.cells #[.int .i64 Q.1.k, .int .i64 Q.1.n, .int .u64 Q.1.u, .string Q.1.s] 27)).cell? ⟨G21, 1, none⟩ = some (.int .i64 v.n) := hS.cell 1
            have hS_2 : (w53.alloc (.cells #[.int .i64 Q.1.k, .int .i64 Q.1.n, .int .u64 Q.1.u, .string Q.1.s] 27)).cell? ⟨G21, 2, none⟩ = some (.int .u64 v.u) := hS.cell 2
            have hS_3 : (w53.alloc (.cells #[.int .i64 Q.1.k, .int .i64 Q.1.n, .int .u64 Q.1.u, .string Q.1.s] 27)).cell? ⟨G21, 3, none⟩ = some (.string v.s) := hS.cell 3
            have hU_0 : (w53.alloc (.cells #[.int .i64 Q.1.k, .int .i64 Q.1.n, .int .u64 Q.1.u, .string Q.1.s] 27)).cell? ⟨G42, 0, none⟩ = some (.int .i64 u.k) := hU.cell 0
            have hU_1 : (w53.alloc (.cells #[.int .i64 Q.1.k, .int .i64 Q.1.n, .int .u64 Q.1.u, .string Q.1.s] 27)).cell? ⟨G42, 1, none⟩ = some (.int .i64 u.n) := hU.cell 1
            have hU_2 : (w53.alloc (.cells #[.int .i64 Q.1.k, .int .i64 Q.1.n, .int .u64 Q.1.u, .string Q.1.s] 27)).cell? ⟨G42, 2, none⟩ = some (.int .u64 u.u) := hU.cell 2
            have hU_3 : (w53.alloc (.cells #[.int .i64 Q.1.k, .int .i64 Q.1.n, .int .u64 Q.1.u, .string Q.1.s] 27)).cell? ⟨G42, 3, none⟩ = some (.string u.s) := hU.cell 3
            go_wp2_with fail
            clear hS_0 hS_1 hS_2 hS_3 hU_0 hU_1 hU_2 hU_3
            generalize w53.alloc (.cells #[.int .i64 Q.1.k, .int .i64 Q.1.n, .int .u64 Q.1.u, .string Q.1.s] 27) = w54 at *
            generalize w53.heap.size = G54 at *
            refine (HC6.out _).mono ?_
            rintro e w55 ⟨rfl, q55⟩
            simp only [resT]
            replace hv := hv.below q55
            replace hS := hS.ca q55
            replace hU := hU.ca q55
            replace hV0 := hV0.ca q55
            replace hV1 := hV1.ca q55
            replace hV2 := hV2.ca q55
            replace hV3 := hV3.ca q55
            replace hV4 := hV4.ca q55
            replace hV5 := hV5.ca q55
            replace bb := bl_ca bb q55
            clear q55
            replace hv := hv.below (bl_al (Below.refl _ _) (.cells #[.int .i64 T.1.k, .int .i64 T.1.n, .int .u64 T.1.u, .string T.1.s] 27))
            have lhV6_hS := hS.lt
            have lhV6_hU := hU.lt
            have lhV6_hV0 := hV0.lt
            have lhV6_hV1 := hV1.lt
            have lhV6_hV2 := hV2.lt
            have lhV6_hV3 := hV3.lt
            have lhV6_hV4 := hV4.lt
            have lhV6_hV5 := hV5.lt
            replace hS := hS.alloc (.cells #[.int .i64 T.1.k, .int .i64 T.1.n, .int .u64 T.1.u, .string T.1.s] 27)
            replace hU := hU.alloc (.cells #[.int .i64 T.1.k, .int .i64 T.1.n, .int .u64 T.1.u, .string T.1.s] 27)
            replace hV0 := hV0.alloc (.cells #[.int .i64 T.1.k, .int .i64 T.1.n, .int .u64 T.1.u, .string T.1.s] 27)
            replace hV1 := hV1.alloc (.cells #[.int .i64 T.1.k, .int .i64 T.1.n, .int .u64 T.1.u, .string T.1.s] 27)
            replace hV2 := hV2.alloc (.cells #[.int .i64 T.1.k, .int .i64 T.1.n, .int .u64 T.1.u, .string T.1.s] 27)
            replace hV3 := hV3.alloc (.cells #[.int .i64 T.1.k, .int .i64 T.1.n, .int .u64 T.1.u, .string T.1.s] 27)
            replace hV4 := hV4.alloc (.cells #[.int .i64 T.1.k, .int .i64 T.1.n, .int .u64 T.1.u, .string T.1.s] 27)
            replace hV5 := hV5.alloc (.cells #[.int .i64 T.1.k, .int .i64 T.1.n, .int .u64 T.1.u, .string T.1.s] 27)
            have hV6 := Blk.new w55 27 #[.int .i64 T.1.k, .int .i64 T.1.n, .int .u64 T.1.u, .string T.1.s]
            have bz := bb.size
            replace bb := bl_al bb (.cells #[.int .i64 T.1.k, .int .i64 T.1.n, .int .u64 T.1.u, .string T.1.s] 27)
            have hS_0 : (w55.alloc (.cells #[.int .i64 T.1.k, .int .i64 T.1.n, .int .u64 T.1.u, .string T.1.s] 27)).cell? ⟨G21, 0, none⟩ = some (.int .i64 v.k) := hS.cell 0
            have hS_1 : (w55.alloc (.cells #[.int .i64 T.1.k, .int .i64 T.1.n, .int .u64 T.1.u, .string T.1.s] 27)).cell? ⟨G21, 1, none⟩ = some (.int .i64 v.n) := hS.cell 1
            have hS_2 : (w55.alloc (.cells #[.int .i64 T.1.k, .int .i64 T.1.n, .int .u64 T.1.u, .string T.1.s] 27)).cell? ⟨G21, 2, none⟩ = some (.int .u64 v.u) := hS.cell 2
            have hS_3 : (w55.alloc (.cells #[.int .i64 T.1.k, .int .i64 T.1.n, .int .u64 T.1.u, .string T.1.s] 27)).cell? ⟨G21, 3, none⟩ = some (.string v.s) := hS.cell 3
            have hU_0 : (w55.alloc (.cells #[.int .i64 T.1.k, .int .i64 T.1.n, .int .u64 T.1.u, .string T.1.s] 27)).cell? ⟨G42, 0, none⟩ = some (.int .i64 u.k) := hU.cell 0
            have hU_1 : (w55.alloc (.cells #[.int .i64 T.1.k, .int .i64 T.1.n, .int .u64 T.1.u, .string T.1.s] 27)).cell? ⟨G42, 1, none⟩ = some (.int .i64 u.n) := hU.cell 1
            have hU_2 : (w55.alloc (.cells #[.int .i64 T.1.k, .int .i64 T.1.n, .int .u64 T.1.u, .string T.1.s] 27)).cell? ⟨G42, 2, none⟩ = some (.int .u64 u.u) := hU.cell 2
            have hU_3 : (w55.alloc (.cells #[.int .i64 T.1.k, .int .i64 T.1.n, .int .u64 T.1.u, .string T.1.s] 27)).cell? ⟨G42, 3, none⟩ = some (.string u.s) := hU.cell 3
            go_wp2_with fail
            clear hS_0 hS_1 hS_2 hS_3 hU_0 hU_1 hU_2 hU_3
            generalize w55.alloc (.cells #[.int .i64 T.1.k, .int .i64 T.1.n, .int .u64 T.1.u, .string T.1.s] 27) = w56 at *
            generalize w55.heap.size = G56 at *
            refine (HC7.out _).mono ?_
            rintro e w57 ⟨rfl, q57⟩
            simp only [resT]
            replace hv := hv.below q57
            replace hS := hS.ca q57
            replace hU := hU.ca q57
            replace hV0 := hV0.ca q57
            replace hV1 := hV1.ca q57
            replace hV2 := hV2.ca q57
            replace hV3 := hV3.ca q57
            replace hV4 := hV4.ca q57
            replace hV5 := hV5.ca q57
            replace hV6 := hV6.ca q57
            replace bb := bl_ca bb q57
            clear q57
            replace hv := hv.below (bl_al (Below.refl _ _) (.cells #[.int .i64 D.1.k, .int .i64 D.1.n, .int .u64 D.1.u, .string D.1.s] 27))
            have lhV7_hS := hS.lt
            have lhV7_hU := hU.lt
            have lhV7_hV0 := hV0.lt
            have lhV7_hV1 := hV1.lt
            have lhV7_hV2 := hV2.lt
            have lhV7_hV3 := hV3.lt
            have lhV7_hV4 := hV4.lt
            have lhV7_hV5 := hV5.lt
            have lhV7_hV6 := hV6.lt
            replace hS := hS.alloc (.cells #[.int .i64 D.1.k, .int .i64 D.1.n, .int .u64 D.1.u, .string D.1.s] 27)
            replace hU := hU.alloc (.cells #[.int .i64 D.1.k, .int .i64 D.1.n, .int .u64 D.1.u, .string D.1.s] 27)
            replace hV0 := hV0.alloc (.cells #[.int .i64 D.1.k, .int .i64 D.1.n, .int .u64 D.1.u, .string D.1.s] 27)
            replace hV1 := hV1.alloc (.cells #[.int .i64 D.1.k, .int .i64 D.1.n, .int .u64 D.1.u, .string D.1.s] 27)
            replace hV2 := hV2.alloc (.cells #[.int .i64 D.1.k, .int .i64 D.1.n, .int .u64 D.1.u, .string D.1.s] 27)
            replace hV3 := hV3.alloc (.cells #[.int .i64 D.1.k, .int .i64 D.1.n, .int .u64 D.1.u, .string D.1.s] 27)
            replace hV4 := hV4.alloc (.cells #[.int .i64 D.1.k, .int .i64 D.1.n, .int .u64 D.1.u, .string D.1.s] 27)
            replace hV5 := hV5.alloc (.cells #[.int .i64 D.1.k, .int .i64 D.1.n, .int .u64 D.1.u, .string D.1.s] 27)
            replace hV6 := hV6.alloc (.cells #[.int .i64 D.1.k, .int .i64 D.1.n, .int .u64 D.1.u, .string D.1.s] 27)
            have hV7 := Blk.new w57 27 #[.int .i64 D.1.k, .int .i64 D.1.n, .int .u64 D.1.u, .string D.1.s]
            have bz := bb.size
            replace bb := bl_al bb (.cells #[.int .i64 D.1.k, .int .i64 D.1.n, .int .u64 D.1.u, .string D.1.s] 27)
            have hV0_0 : (w57.alloc (.cells #[.int .i64 D.1.k, .int .i64 D.1.n, .int .u64 D.1.u, .string D.1.s] 27)).cell? ⟨G44, 0, none⟩ = some (.int .i64 P.1.k) := hV0.cell 0
            have hV0_1 : (w57.alloc (.cells #[.int .i64 D.1.k, .int .i64 D.1.n, .int .u64 D.1.u, .string D.1.s] 27)).cell? ⟨G44, 1, none⟩ = some (.int .i64 P.1.n) := hV0.cell 1
            have hV0_2 : (w57.alloc (.cells #[.int .i64 D.1.k, .int .i64 D.1.n, .int .u64 D.1.u, .string D.1.s] 27)).cell? ⟨G44, 2, none⟩ = some (.int .u64 P.1.u) := hV0.cell 2
            have hV0_3 : (w57.alloc (.cells #[.int .i64 D.1.k, .int .i64 D.1.n, .int .u64 D.1.u, .string D.1.s] 27)).cell? ⟨G44, 3, none⟩ = some (.string P.1.s) := hV0.cell 3
            have hV4_0 : (w57.alloc (.cells #[.int .i64 D.1.k, .int .i64 D.1.n, .int .u64 D.1.u, .string D.1.s] 27)).cell? ⟨G52, 0, none⟩ = some (.int .i64 P.1.k) := hV4.cell 0
            have hV4_1 : (w57.alloc (.cells #[.int .i64 D.1.k, .int .i64 D.1.n, .int .u64 D.1.u, .string D.1.s] 27)).cell? ⟨G52, 1, none⟩ = some (.int .i64 P.1.n) := hV4.cell 1
            have hV4_2 : (w57.alloc (.cells #[.int .i64 D.1.k, .int .i64 D.1.n, .int .u64 D.1.u, .string D.1.s] 27)).cell? ⟨G52, 2, none⟩ = some (.int .u64 P.1.u) := hV4.cell 2
            have hV4_3 : (w57.alloc (.cells #[.int .i64 D.1.k, .int .i64 D.1.n, .int .u64 D.1.u, .string D.1.s] 27)).cell? ⟨G52, 3, none⟩ = some (.string P.1.s) := hV4.cell 3
            go_wp2_with fail
            clear hV0_0 hV0_1 hV0_2 hV0_3 hV4_0 hV4_1 hV4_2 hV4_3
            generalize w57.alloc (.cells #[.int .i64 D.1.k, .int .i64 D.1.n, .int .u64 D.1.u, .string D.1.s] 27) = w58 at *
            generalize w57.heap.size = G58 at *
            refine (told_same P.1.k P.1.n P.1.u P.1.s P.2 _).mono ?_
            rintro e w59 ⟨rfl, q59⟩
            replace hv := hv.below q59
            replace hS := hS.ca q59
            replace hU := hU.ca q59
            replace hV0 := hV0.ca q59
            replace hV1 := hV1.ca q59
            replace hV2 := hV2.ca q59
            replace hV3 := hV3.ca q59
            replace hV4 := hV4.ca q59
            replace hV5 := hV5.ca q59
            replace hV6 := hV6.ca q59
            replace hV7 := hV7.ca q59
            replace bb := bl_ca bb q59
            clear q59
            have hV1_0 : w59.cell? ⟨G46, 0, none⟩ = some (.int .i64 Q.1.k) := hV1.cell 0
            have hV1_1 : w59.cell? ⟨G46, 1, none⟩ = some (.int .i64 Q.1.n) := hV1.cell 1
            have hV1_2 : w59.cell? ⟨G46, 2, none⟩ = some (.int .u64 Q.1.u) := hV1.cell 2
            have hV1_3 : w59.cell? ⟨G46, 3, none⟩ = some (.string Q.1.s) := hV1.cell 3
            have hV5_0 : w59.cell? ⟨G54, 0, none⟩ = some (.int .i64 Q.1.k) := hV5.cell 0
            have hV5_1 : w59.cell? ⟨G54, 1, none⟩ = some (.int .i64 Q.1.n) := hV5.cell 1
            have hV5_2 : w59.cell? ⟨G54, 2, none⟩ = some (.int .u64 Q.1.u) := hV5.cell 2
            have hV5_3 : w59.cell? ⟨G54, 3, none⟩ = some (.string Q.1.s) := hV5.cell 3
            go_wp2_with fail
            refine (told_same Q.1.k Q.1.n Q.1.u Q.1.s Q.2 _).mono ?_
            rintro e w60 ⟨rfl, q60⟩
            clear hV1_0 hV1_1 hV1_2 hV1_3 hV5_0 hV5_1 hV5_2 hV5_3
            replace hv := hv.below q60
            replace hS := hS.ca q60
            replace hU := hU.ca q60
            replace hV0 := hV0.ca q60
            replace hV1 := hV1.ca q60
            replace hV2 := hV2.ca q60
            replace hV3 := hV3.ca q60
            replace hV4 := hV4.ca q60
            replace hV5 := hV5.ca q60
            replace hV6 := hV6.ca q60
            replace hV7 := hV7.ca q60
            replace bb := bl_ca bb q60
            clear q60
            have hV2_0 : w60.cell? ⟨G48, 0, none⟩ = some (.int .i64 T.1.k) := hV2.cell 0
            have hV2_1 : w60.cell? ⟨G48, 1, none⟩ = some (.int .i64 T.1.n) := hV2.cell 1
            have hV2_2 : w60.cell? ⟨G48, 2, none⟩ = some (.int .u64 T.1.u) := hV2.cell 2
            have hV2_3 : w60.cell? ⟨G48, 3, none⟩ = some (.string T.1.s) := hV2.cell 3
            have hV6_0 : w60.cell? ⟨G56, 0, none⟩ = some (.int .i64 T.1.k) := hV6.cell 0
            have hV6_1 : w60.cell? ⟨G56, 1, none⟩ = some (.int .i64 T.1.n) := hV6.cell 1
            have hV6_2 : w60.cell? ⟨G56, 2, none⟩ = some (.int .u64 T.1.u) := hV6.cell 2
            have hV6_3 : w60.cell? ⟨G56, 3, none⟩ = some (.string T.1.s) := hV6.cell 3
            go_wp2_with fail
            refine (told_same T.1.k T.1.n T.1.u T.1.s T.2 _).mono ?_
            rintro e w61 ⟨rfl, q61⟩
            clear hV2_0 hV2_1 hV2_2 hV2_3 hV6_0 hV6_1 hV6_2 hV6_3
            replace hv := hv.below q61
            replace hS := hS.ca q61
            replace hU := hU.ca q61
            replace hV0 := hV0.ca q61
            replace hV1 := hV1.ca q61
            replace hV2 := hV2.ca q61
            replace hV3 := hV3.ca q61
            replace hV4 := hV4.ca q61
            replace hV5 := hV5.ca q61
            replace hV6 := hV6.ca q61
            replace hV7 := hV7.ca q61
            replace bb := bl_ca bb q61
            clear q61
            have hV3_0 : w61.cell? ⟨G50, 0, none⟩ = some (.int .i64 D.1.k) := hV3.cell 0
            have hV3_1 : w61.cell? ⟨G50, 1, none⟩ = some (.int .i64 D.1.n) := hV3.cell 1
            have hV3_2 : w61.cell? ⟨G50, 2, none⟩ = some (.int .u64 D.1.u) := hV3.cell 2
            have hV3_3 : w61.cell? ⟨G50, 3, none⟩ = some (.string D.1.s) := hV3.cell 3
            have hV7_0 : w61.cell? ⟨G58, 0, none⟩ = some (.int .i64 D.1.k) := hV7.cell 0
            have hV7_1 : w61.cell? ⟨G58, 1, none⟩ = some (.int .i64 D.1.n) := hV7.cell 1
            have hV7_2 : w61.cell? ⟨G58, 2, none⟩ = some (.int .u64 D.1.u) := hV7.cell 2
            have hV7_3 : w61.cell? ⟨G58, 3, none⟩ = some (.string D.1.s) := hV7.cell 3
            go_wp2_with fail
            refine (told_same D.1.k D.1.n D.1.u D.1.s D.2 _).mono ?_
            rintro e w62 ⟨rfl, q62⟩
            clear hV3_0 hV3_1 hV3_2 hV3_3 hV7_0 hV7_1 hV7_2 hV7_3
            replace hv := hv.below q62
            replace hS := hS.ca q62
            replace hU := hU.ca q62
            replace hV0 := hV0.ca q62
            replace hV1 := hV1.ca q62
            replace hV2 := hV2.ca q62
            replace hV3 := hV3.ca q62
            replace hV4 := hV4.ca q62
            replace hV5 := hV5.ca q62
            replace hV6 := hV6.ca q62
            replace hV7 := hV7.ca q62
            replace bb := bl_ca bb q62
            clear q62
            go_wp2
            go_roundg (gk - 1)
            · exact ⟨k + 1, by omega, by omega, by go_num, hv, hS, bb⟩
            · omega
          · go_wp2
            go_roundg (g1 - 1)
            · exact ⟨i + 1, by omega, by omega, by go_num, hv, bb⟩
            · omega
    · go_wp2
      go_ret
      exact ⟨rfl, bb⟩
end Go.Proofs.Ytemakmgppafccaa
