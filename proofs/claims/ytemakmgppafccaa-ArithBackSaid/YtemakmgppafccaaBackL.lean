/- The law ArithBack: what is added is taken away again; a quotient leaves a rest. Conditions: the slice reads as these numbers. -/
import Derived.Test.YtemakmgppafccaaBackM
import Derived.Deep.DeepCutAuto
import Derived.Deep.CutBlock
namespace Go.Proofs.Ytemakmgppafccaa
open Go.RowKit
set_option maxRecDepth 100000 in
set_option maxHeartbeats 40000000 in
theorem arithBack_walk (A : Option Addr) (n c : Nat) (zs : List Int) (w : World) (h : RdI w A n zs) (hn : n ≤ 9223372036854775807) (hz : ∀ z ∈ zs, I64 z) :
    Calls Try.prog 6 #[.slice A n c] w fun e w' => e = .returned (.bool true) ∧ Below w.heap.size w w' := by
  have HZ := Lib.hid hz
  clear hz
  go_enter Try.func6, Try.ntmps6
  go_wp2_with fail
  refine (wakes4_any w).mono ?_
  rintro e w1 ⟨rfl, b1⟩
  have h1 := h.below b1
  clear h
  go_wp2
  go_loopg [28] n (fun g s wr => ∃ (i : Nat), i + g ≤ n ∧ n ≤ i + g ∧ s = .int .i64 i ∧ RdI wr A n zs ∧ Below w.heap.size w wr)
  case atStart => exact ⟨0, by omega, by omega, rfl, h1, b1⟩
  case round =>
    clear h1 b1
    obtain ⟨i, hi1, hi2, rfl, h1, bw⟩ := hrel
    by_cases hi : i < n
    · obtain ⟨ad, a, rfl, hzi, cz⟩ := h1.at_ hi
      have ia : I64 a := HZ.out a (List.mem_of_getElem? hzi)
      clear hzi
      by_cases hi12 : i = 12
      · have t12 : ((i : Int) == 12) = true := ibeq_t (by omega)
        clear hi12
        go_wp2
        go_ret
        exact ⟨rfl, bw⟩
      · have t12 : ((i : Int) == 12) = false := ibeq_f (by omega)
        clear hi12
        go_wp2
        clear cz t12
        obtain ⟨g1, rfl⟩ : ∃ g1, g1 = gk := ⟨_, rfl⟩
        obtain ⟨wo, rfl⟩ : ∃ wo : World, wo = wr := ⟨_, rfl⟩
        go_loopg [37] n (fun g s wr => ∃ (k : Nat), k + g ≤ n ∧ n ≤ k + g ∧ s = .int .i64 k ∧ Below wo.heap.size wo wr)
        case atStart => exact ⟨0, by omega, by omega, rfl, Below.refl _ _⟩
        case round =>
          obtain ⟨k, hk1, hk2, rfl, b0⟩ := hrel
          by_cases hk : k < n
          · obtain ⟨ad2, b, hA2, hzk, cz⟩ := (h1.below b0).at_ hk
            injection hA2 with hA2
            subst hA2
            have ib : I64 b := HZ.out b (List.mem_of_getElem? hzk)
            clear hzk
            by_cases hk12 : k = 12
            · have t12 : ((k : Int) == 12) = true := ibeq_t (by omega)
              clear hk12
              go_wp2
              go_roundg (g1 - 1)
              · exact ⟨i + 1, by omega, by omega, by go_num, h1.below b0, bl_ca bw b0⟩
              · omega
            · have t12 : ((k : Int) == 12) = false := ibeq_f (by omega)
              clear hk12
              have bb := b0
              clear b0
              go_wp2_with fail
              refine (vint_any a wr).mono ?_
              rintro e w21 ⟨rfl, q21⟩
              clear cz
              replace bb := bl_ca bb q21
              clear q21
              go_wp2_with fail
              refine (vint_any b _).mono ?_
              rintro e w22 ⟨rfl, q22⟩
              replace bb := bl_ca bb q22
              clear q22
              have hX := Blk.new w22 27 #[.int .i64 2, .int .i64 a, .int .u64 0, .string ⟨#[]⟩]
              have bz := bb.size
              replace bb := bl_al bb (.cells #[.int .i64 2, .int .i64 a, .int .u64 0, .string ⟨#[]⟩] 27)
              have lhY_hX := hX.lt
              replace hX := hX.alloc (.cells #[.int .i64 2, .int .i64 b, .int .u64 0, .string ⟨#[]⟩] 27)
              have hY := Blk.new (w22.alloc (.cells #[.int .i64 2, .int .i64 a, .int .u64 0, .string ⟨#[]⟩] 27)) 27 #[.int .i64 2, .int .i64 b, .int .u64 0, .string ⟨#[]⟩]
              have bz := bb.size
              replace bb := bl_al bb (.cells #[.int .i64 2, .int .i64 b, .int .u64 0, .string ⟨#[]⟩] 27)
              rw [World.size_alloc] at hY
              go_wp2_with fail
              generalize (w22.alloc (.cells #[.int .i64 2, .int .i64 a, .int .u64 0, .string ⟨#[]⟩] 27)).alloc (.cells #[.int .i64 2, .int .i64 b, .int .u64 0, .string ⟨#[]⟩] 27) = w30 at *
              generalize w22.heap.size = GX at *
              obtain ⟨v1, e1, HV1, HC1⟩ := addL a b ia ib
              obtain ⟨p, ep, HP, HCM, HCN, d, ed, HD, HCD⟩ := mulL a b ia ib
              refine (HC1 _).mono ?_
              rintro e w31 ⟨rfl, q31⟩
              replace hX := hX.ca q31
              replace hY := hY.ca q31
              replace bb := bl_ca bb q31
              clear q31
              have lhS_hX := hX.lt
              have lhS_hY := hY.lt
              replace hX := hX.alloc (.cells #[.int .i64 v1.k, .int .i64 v1.n, .int .u64 v1.u, .string v1.s] 27)
              replace hY := hY.alloc (.cells #[.int .i64 v1.k, .int .i64 v1.n, .int .u64 v1.u, .string v1.s] 27)
              have hS := Blk.new w31 27 #[.int .i64 v1.k, .int .i64 v1.n, .int .u64 v1.u, .string v1.s]
              have bz := bb.size
              replace bb := bl_al bb (.cells #[.int .i64 v1.k, .int .i64 v1.n, .int .u64 v1.u, .string v1.s] 27)
              go_upto_if 55 with fail
              generalize w31.alloc (.cells #[.int .i64 v1.k, .int .i64 v1.n, .int .u64 v1.u, .string v1.s] 27) = w32 at *
              generalize w31.heap.size = G32 at *
              go_cut [] (fun wx => Blk wx GX 27 #[.int .i64 2, .int .i64 a, .int .u64 0, .string ⟨#[]⟩] ∧ Blk wx (GX + 1) 27 #[.int .i64 2, .int .i64 b, .int .u64 0, .string ⟨#[]⟩] ∧ Below wo.heap.size wo wx)
              case first =>
                as_aux_lemma =>
                  clear HP HCM HCN HD HCD
                  by_cases he : e1 = 0
                  · obtain ⟨hv, hA⟩ := HV1 he
                    subst hv
                    subst he
                    have hS_0 : w32.cell? ⟨G32, 0, none⟩ = some (.int .i64 2) := hS.cell 0
                    have hS_1 : w32.cell? ⟨G32, 1, none⟩ = some (.int .i64 (a + b)) := hS.cell 1
                    have hS_2 : w32.cell? ⟨G32, 2, none⟩ = some (.int .u64 0) := hS.cell 2
                    have hS_3 : w32.cell? ⟨G32, 3, none⟩ = some (.string ⟨#[]⟩) := hS.cell 3
                    have hY_0 : w32.cell? ⟨GX + 1, 0, none⟩ = some (.int .i64 2) := hY.cell 0
                    have hY_1 : w32.cell? ⟨GX + 1, 1, none⟩ = some (.int .i64 b) := hY.cell 1
                    have hY_2 : w32.cell? ⟨GX + 1, 2, none⟩ = some (.int .u64 0) := hY.cell 2
                    have hY_3 : w32.cell? ⟨GX + 1, 3, none⟩ = some (.string ⟨#[]⟩) := hY.cell 3
                    go_wp2_with fail
                    refine (subIY (a + b) b a _ (small_I hA) ib (by omega) (small_of ia)).mono ?_
                    rintro e w33 ⟨rfl, q33⟩
                    clear hS_0 hS_1 hS_2 hS_3 hY_0 hY_1 hY_2 hY_3
                    replace hX := hX.ca q33
                    replace hY := hY.ca q33
                    replace hS := hS.ca q33
                    replace bb := bl_ca bb q33
                    clear q33
                    have lhB_hX := hX.lt
                    have lhB_hY := hY.lt
                    have lhB_hS := hS.lt
                    replace hX := hX.alloc (.cells #[.int .i64 2, .int .i64 a, .int .u64 0, .string ⟨#[]⟩] 27)
                    replace hY := hY.alloc (.cells #[.int .i64 2, .int .i64 a, .int .u64 0, .string ⟨#[]⟩] 27)
                    replace hS := hS.alloc (.cells #[.int .i64 2, .int .i64 a, .int .u64 0, .string ⟨#[]⟩] 27)
                    have hB := Blk.new w33 27 #[.int .i64 2, .int .i64 a, .int .u64 0, .string ⟨#[]⟩]
                    have bz := bb.size
                    replace bb := bl_al bb (.cells #[.int .i64 2, .int .i64 a, .int .u64 0, .string ⟨#[]⟩] 27)
                    have hY_0 : (w33.alloc (.cells #[.int .i64 2, .int .i64 a, .int .u64 0, .string ⟨#[]⟩] 27)).cell? ⟨GX + 1, 0, none⟩ = some (.int .i64 2) := hY.cell 0
                    have hY_1 : (w33.alloc (.cells #[.int .i64 2, .int .i64 a, .int .u64 0, .string ⟨#[]⟩] 27)).cell? ⟨GX + 1, 1, none⟩ = some (.int .i64 b) := hY.cell 1
                    have hY_2 : (w33.alloc (.cells #[.int .i64 2, .int .i64 a, .int .u64 0, .string ⟨#[]⟩] 27)).cell? ⟨GX + 1, 2, none⟩ = some (.int .u64 0) := hY.cell 2
                    have hY_3 : (w33.alloc (.cells #[.int .i64 2, .int .i64 a, .int .u64 0, .string ⟨#[]⟩] 27)).cell? ⟨GX + 1, 3, none⟩ = some (.string ⟨#[]⟩) := hY.cell 3
                    have hX_0 : (w33.alloc (.cells #[.int .i64 2, .int .i64 a, .int .u64 0, .string ⟨#[]⟩] 27)).cell? ⟨GX, 0, none⟩ = some (.int .i64 2) := hX.cell 0
                    have hX_1 : (w33.alloc (.cells #[.int .i64 2, .int .i64 a, .int .u64 0, .string ⟨#[]⟩] 27)).cell? ⟨GX, 1, none⟩ = some (.int .i64 a) := hX.cell 1
                    have hX_2 : (w33.alloc (.cells #[.int .i64 2, .int .i64 a, .int .u64 0, .string ⟨#[]⟩] 27)).cell? ⟨GX, 2, none⟩ = some (.int .u64 0) := hX.cell 2
                    have hX_3 : (w33.alloc (.cells #[.int .i64 2, .int .i64 a, .int .u64 0, .string ⟨#[]⟩] 27)).cell? ⟨GX, 3, none⟩ = some (.string ⟨#[]⟩) := hX.cell 3
                    go_wp2_with fail
                    clear hY_0 hY_1 hY_2 hY_3 hX_0 hX_1 hX_2 hX_3
                    generalize w33.alloc (.cells #[.int .i64 2, .int .i64 a, .int .u64 0, .string ⟨#[]⟩] 27) = w34 at *
                    generalize w33.heap.size = G34 at *
                    refine (addIY b a (a + b) _ ib ia (by omega) hA).mono ?_
                    rintro e w35 ⟨rfl, q35⟩
                    replace hX := hX.ca q35
                    replace hY := hY.ca q35
                    replace hS := hS.ca q35
                    replace hB := hB.ca q35
                    replace bb := bl_ca bb q35
                    clear q35
                    have lhT_hX := hX.lt
                    have lhT_hY := hY.lt
                    have lhT_hS := hS.lt
                    have lhT_hB := hB.lt
                    replace hX := hX.alloc (.cells #[.int .i64 2, .int .i64 (a + b), .int .u64 0, .string ⟨#[]⟩] 27)
                    replace hY := hY.alloc (.cells #[.int .i64 2, .int .i64 (a + b), .int .u64 0, .string ⟨#[]⟩] 27)
                    replace hS := hS.alloc (.cells #[.int .i64 2, .int .i64 (a + b), .int .u64 0, .string ⟨#[]⟩] 27)
                    replace hB := hB.alloc (.cells #[.int .i64 2, .int .i64 (a + b), .int .u64 0, .string ⟨#[]⟩] 27)
                    have hT := Blk.new w35 27 #[.int .i64 2, .int .i64 (a + b), .int .u64 0, .string ⟨#[]⟩]
                    have bz := bb.size
                    replace bb := bl_al bb (.cells #[.int .i64 2, .int .i64 (a + b), .int .u64 0, .string ⟨#[]⟩] 27)
                    have hB_0 : (w35.alloc (.cells #[.int .i64 2, .int .i64 (a + b), .int .u64 0, .string ⟨#[]⟩] 27)).cell? ⟨G34, 0, none⟩ = some (.int .i64 2) := hB.cell 0
                    have hB_1 : (w35.alloc (.cells #[.int .i64 2, .int .i64 (a + b), .int .u64 0, .string ⟨#[]⟩] 27)).cell? ⟨G34, 1, none⟩ = some (.int .i64 a) := hB.cell 1
                    have hB_2 : (w35.alloc (.cells #[.int .i64 2, .int .i64 (a + b), .int .u64 0, .string ⟨#[]⟩] 27)).cell? ⟨G34, 2, none⟩ = some (.int .u64 0) := hB.cell 2
                    have hB_3 : (w35.alloc (.cells #[.int .i64 2, .int .i64 (a + b), .int .u64 0, .string ⟨#[]⟩] 27)).cell? ⟨G34, 3, none⟩ = some (.string ⟨#[]⟩) := hB.cell 3
                    have hX_0 : (w35.alloc (.cells #[.int .i64 2, .int .i64 (a + b), .int .u64 0, .string ⟨#[]⟩] 27)).cell? ⟨GX, 0, none⟩ = some (.int .i64 2) := hX.cell 0
                    have hX_1 : (w35.alloc (.cells #[.int .i64 2, .int .i64 (a + b), .int .u64 0, .string ⟨#[]⟩] 27)).cell? ⟨GX, 1, none⟩ = some (.int .i64 a) := hX.cell 1
                    have hX_2 : (w35.alloc (.cells #[.int .i64 2, .int .i64 (a + b), .int .u64 0, .string ⟨#[]⟩] 27)).cell? ⟨GX, 2, none⟩ = some (.int .u64 0) := hX.cell 2
                    have hX_3 : (w35.alloc (.cells #[.int .i64 2, .int .i64 (a + b), .int .u64 0, .string ⟨#[]⟩] 27)).cell? ⟨GX, 3, none⟩ = some (.string ⟨#[]⟩) := hX.cell 3
                    have hS_0 : (w35.alloc (.cells #[.int .i64 2, .int .i64 (a + b), .int .u64 0, .string ⟨#[]⟩] 27)).cell? ⟨G32, 0, none⟩ = some (.int .i64 2) := hS.cell 0
                    have hS_1 : (w35.alloc (.cells #[.int .i64 2, .int .i64 (a + b), .int .u64 0, .string ⟨#[]⟩] 27)).cell? ⟨G32, 1, none⟩ = some (.int .i64 (a + b)) := hS.cell 1
                    have hS_2 : (w35.alloc (.cells #[.int .i64 2, .int .i64 (a + b), .int .u64 0, .string ⟨#[]⟩] 27)).cell? ⟨G32, 2, none⟩ = some (.int .u64 0) := hS.cell 2
                    have hS_3 : (w35.alloc (.cells #[.int .i64 2, .int .i64 (a + b), .int .u64 0, .string ⟨#[]⟩] 27)).cell? ⟨G32, 3, none⟩ = some (.string ⟨#[]⟩) := hS.cell 3
                    have hY_0 : (w35.alloc (.cells #[.int .i64 2, .int .i64 (a + b), .int .u64 0, .string ⟨#[]⟩] 27)).cell? ⟨GX + 1, 0, none⟩ = some (.int .i64 2) := hY.cell 0
                    have hY_1 : (w35.alloc (.cells #[.int .i64 2, .int .i64 (a + b), .int .u64 0, .string ⟨#[]⟩] 27)).cell? ⟨GX + 1, 1, none⟩ = some (.int .i64 b) := hY.cell 1
                    have hY_2 : (w35.alloc (.cells #[.int .i64 2, .int .i64 (a + b), .int .u64 0, .string ⟨#[]⟩] 27)).cell? ⟨GX + 1, 2, none⟩ = some (.int .u64 0) := hY.cell 2
                    have hY_3 : (w35.alloc (.cells #[.int .i64 2, .int .i64 (a + b), .int .u64 0, .string ⟨#[]⟩] 27)).cell? ⟨GX + 1, 3, none⟩ = some (.string ⟨#[]⟩) := hY.cell 3
                    go_wp2_with fail
                    clear hB_0 hB_1 hB_2 hB_3 hX_0 hX_1 hX_2 hX_3 hS_0 hS_1 hS_2 hS_3 hY_0 hY_1 hY_2 hY_3
                    generalize w35.alloc (.cells #[.int .i64 2, .int .i64 (a + b), .int .u64 0, .string ⟨#[]⟩] 27) = w36 at *
                    go_meet
                    exact ⟨hX, hY, bb⟩
                  · have te : (e1 == 0) = false := ibeq_f he
                    clear HV1 HC1
                    go_wp2_with fail
                    go_meet
                    exact ⟨hX, hY, bb⟩
              case rest =>
                as_aux_lemma =>
                  clear hX hY hS bb
                  obtain ⟨hX, hY, bb⟩ := hcut
                  have hX_0 : wc.cell? ⟨GX, 0, none⟩ = some (.int .i64 2) := hX.cell 0
                  have hX_1 : wc.cell? ⟨GX, 1, none⟩ = some (.int .i64 a) := hX.cell 1
                  have hX_2 : wc.cell? ⟨GX, 2, none⟩ = some (.int .u64 0) := hX.cell 2
                  have hX_3 : wc.cell? ⟨GX, 3, none⟩ = some (.string ⟨#[]⟩) := hX.cell 3
                  have hY_0 : wc.cell? ⟨GX + 1, 0, none⟩ = some (.int .i64 2) := hY.cell 0
                  have hY_1 : wc.cell? ⟨GX + 1, 1, none⟩ = some (.int .i64 b) := hY.cell 1
                  have hY_2 : wc.cell? ⟨GX + 1, 2, none⟩ = some (.int .u64 0) := hY.cell 2
                  have hY_3 : wc.cell? ⟨GX + 1, 3, none⟩ = some (.string ⟨#[]⟩) := hY.cell 3
                  go_wp2_with fail
                  refine (HCM _).mono ?_
                  rintro e w33 ⟨rfl, q33⟩
                  clear hX_0 hX_1 hX_2 hX_3 hY_0 hY_1 hY_2 hY_3
                  replace hX := hX.ca q33
                  replace hY := hY.ca q33
                  replace bb := bl_ca bb q33
                  clear q33
                  have lhP_hX := hX.lt
                  have lhP_hY := hY.lt
                  replace hX := hX.alloc (.cells #[.int .i64 p.k, .int .i64 p.n, .int .u64 p.u, .string p.s] 27)
                  replace hY := hY.alloc (.cells #[.int .i64 p.k, .int .i64 p.n, .int .u64 p.u, .string p.s] 27)
                  have hP := Blk.new w33 27 #[.int .i64 p.k, .int .i64 p.n, .int .u64 p.u, .string p.s]
                  have bz := bb.size
                  replace bb := bl_al bb (.cells #[.int .i64 p.k, .int .i64 p.n, .int .u64 p.u, .string p.s] 27)
                  have hX_0 : (w33.alloc (.cells #[.int .i64 p.k, .int .i64 p.n, .int .u64 p.u, .string p.s] 27)).cell? ⟨GX, 0, none⟩ = some (.int .i64 2) := hX.cell 0
                  have hX_1 : (w33.alloc (.cells #[.int .i64 p.k, .int .i64 p.n, .int .u64 p.u, .string p.s] 27)).cell? ⟨GX, 1, none⟩ = some (.int .i64 a) := hX.cell 1
                  have hX_2 : (w33.alloc (.cells #[.int .i64 p.k, .int .i64 p.n, .int .u64 p.u, .string p.s] 27)).cell? ⟨GX, 2, none⟩ = some (.int .u64 0) := hX.cell 2
                  have hX_3 : (w33.alloc (.cells #[.int .i64 p.k, .int .i64 p.n, .int .u64 p.u, .string p.s] 27)).cell? ⟨GX, 3, none⟩ = some (.string ⟨#[]⟩) := hX.cell 3
                  have hY_0 : (w33.alloc (.cells #[.int .i64 p.k, .int .i64 p.n, .int .u64 p.u, .string p.s] 27)).cell? ⟨GX + 1, 0, none⟩ = some (.int .i64 2) := hY.cell 0
                  have hY_1 : (w33.alloc (.cells #[.int .i64 p.k, .int .i64 p.n, .int .u64 p.u, .string p.s] 27)).cell? ⟨GX + 1, 1, none⟩ = some (.int .i64 b) := hY.cell 1
                  have hY_2 : (w33.alloc (.cells #[.int .i64 p.k, .int .i64 p.n, .int .u64 p.u, .string p.s] 27)).cell? ⟨GX + 1, 2, none⟩ = some (.int .u64 0) := hY.cell 2
                  have hY_3 : (w33.alloc (.cells #[.int .i64 p.k, .int .i64 p.n, .int .u64 p.u, .string p.s] 27)).cell? ⟨GX + 1, 3, none⟩ = some (.string ⟨#[]⟩) := hY.cell 3
                  go_wp2_with fail
                  clear hX_0 hX_1 hX_2 hX_3 hY_0 hY_1 hY_2 hY_3
                  generalize w33.alloc (.cells #[.int .i64 p.k, .int .i64 p.n, .int .u64 p.u, .string p.s] 27) = w34 at *
                  generalize w33.heap.size = G34 at *
                  refine (HCN _).mono ?_
                  rintro e w35 ⟨rfl, q35⟩
                  replace hX := hX.ca q35
                  replace hY := hY.ca q35
                  replace hP := hP.ca q35
                  replace bb := bl_ca bb q35
                  clear q35
                  have lhQ_hX := hX.lt
                  have lhQ_hY := hY.lt
                  have lhQ_hP := hP.lt
                  replace hX := hX.alloc (.cells #[.int .i64 p.k, .int .i64 p.n, .int .u64 p.u, .string p.s] 27)
                  replace hY := hY.alloc (.cells #[.int .i64 p.k, .int .i64 p.n, .int .u64 p.u, .string p.s] 27)
                  replace hP := hP.alloc (.cells #[.int .i64 p.k, .int .i64 p.n, .int .u64 p.u, .string p.s] 27)
                  have hQ := Blk.new w35 27 #[.int .i64 p.k, .int .i64 p.n, .int .u64 p.u, .string p.s]
                  have bz := bb.size
                  replace bb := bl_al bb (.cells #[.int .i64 p.k, .int .i64 p.n, .int .u64 p.u, .string p.s] 27)
                  have hP_0 : (w35.alloc (.cells #[.int .i64 p.k, .int .i64 p.n, .int .u64 p.u, .string p.s] 27)).cell? ⟨G34, 0, none⟩ = some (.int .i64 p.k) := hP.cell 0
                  have hP_1 : (w35.alloc (.cells #[.int .i64 p.k, .int .i64 p.n, .int .u64 p.u, .string p.s] 27)).cell? ⟨G34, 1, none⟩ = some (.int .i64 p.n) := hP.cell 1
                  have hP_2 : (w35.alloc (.cells #[.int .i64 p.k, .int .i64 p.n, .int .u64 p.u, .string p.s] 27)).cell? ⟨G34, 2, none⟩ = some (.int .u64 p.u) := hP.cell 2
                  have hP_3 : (w35.alloc (.cells #[.int .i64 p.k, .int .i64 p.n, .int .u64 p.u, .string p.s] 27)).cell? ⟨G34, 3, none⟩ = some (.string p.s) := hP.cell 3
                  have hY_0 : (w35.alloc (.cells #[.int .i64 p.k, .int .i64 p.n, .int .u64 p.u, .string p.s] 27)).cell? ⟨GX + 1, 0, none⟩ = some (.int .i64 2) := hY.cell 0
                  have hY_1 : (w35.alloc (.cells #[.int .i64 p.k, .int .i64 p.n, .int .u64 p.u, .string p.s] 27)).cell? ⟨GX + 1, 1, none⟩ = some (.int .i64 b) := hY.cell 1
                  have hY_2 : (w35.alloc (.cells #[.int .i64 p.k, .int .i64 p.n, .int .u64 p.u, .string p.s] 27)).cell? ⟨GX + 1, 2, none⟩ = some (.int .u64 0) := hY.cell 2
                  have hY_3 : (w35.alloc (.cells #[.int .i64 p.k, .int .i64 p.n, .int .u64 p.u, .string p.s] 27)).cell? ⟨GX + 1, 3, none⟩ = some (.string ⟨#[]⟩) := hY.cell 3
                  go_wp2_with fail
                  clear hP_0 hP_1 hP_2 hP_3 hY_0 hY_1 hY_2 hY_3
                  generalize w35.alloc (.cells #[.int .i64 p.k, .int .i64 p.n, .int .u64 p.u, .string p.s] 27) = w36 at *
                  generalize w35.heap.size = G36 at *
                  clear hQ
                  refine (HCD _).mono ?_
                  rintro e w37 ⟨rfl, q37⟩
                  replace hX := hX.ca q37
                  replace hY := hY.ca q37
                  replace hP := hP.ca q37
                  replace bb := bl_ca bb q37
                  clear q37
                  have lhD_hX := hX.lt
                  have lhD_hY := hY.lt
                  have lhD_hP := hP.lt
                  replace hX := hX.alloc (.cells #[.int .i64 d.k, .int .i64 d.n, .int .u64 d.u, .string d.s] 27)
                  replace hY := hY.alloc (.cells #[.int .i64 d.k, .int .i64 d.n, .int .u64 d.u, .string d.s] 27)
                  replace hP := hP.alloc (.cells #[.int .i64 d.k, .int .i64 d.n, .int .u64 d.u, .string d.s] 27)
                  have hD := Blk.new w37 27 #[.int .i64 d.k, .int .i64 d.n, .int .u64 d.u, .string d.s]
                  have bz := bb.size
                  replace bb := bl_al bb (.cells #[.int .i64 d.k, .int .i64 d.n, .int .u64 d.u, .string d.s] 27)
                  go_upto_region 23 with fail
                  generalize w37.alloc (.cells #[.int .i64 d.k, .int .i64 d.n, .int .u64 d.u, .string d.s] 27) = w38 at *
                  generalize w37.heap.size = G38 at *
                  go_cut [124] (fun c wx => c = .bool false ∧ Blk wx GX 27 #[.int .i64 2, .int .i64 a, .int .u64 0, .string ⟨#[]⟩] ∧ Blk wx (GX + 1) 27 #[.int .i64 2, .int .i64 b, .int .u64 0, .string ⟨#[]⟩] ∧ Blk wx G34 27 #[.int .i64 p.k, .int .i64 p.n, .int .u64 p.u, .string p.s] ∧ Below wo.heap.size wo wx)
                  case first =>
                    as_aux_lemma =>
                      clear HP HCM HCN HCD
                      by_cases e0 : ep = 0
                      · by_cases hb0 : b = 0
                        · have tb : (b != 0) = false := ibne_f hb0
                          clear hb0 HD
                          subst e0
                          go_wp2_with fail
                          go_meet
                          exact ⟨rfl, hX, hY, hP, bb⟩
                        · have tb : (b != 0) = true := ibne_t hb0
                          by_cases f0 : ed = 0
                          · have hd := HD e0 hb0 f0
                            subst hd
                            clear HD hb0
                            subst e0
                            subst f0
                            have hD_0 : w38.cell? ⟨G38, 0, none⟩ = some (.int .i64 2) := hD.cell 0
                            have hD_1 : w38.cell? ⟨G38, 1, none⟩ = some (.int .i64 a) := hD.cell 1
                            have hD_2 : w38.cell? ⟨G38, 2, none⟩ = some (.int .u64 0) := hD.cell 2
                            have hD_3 : w38.cell? ⟨G38, 3, none⟩ = some (.string ⟨#[]⟩) := hD.cell 3
                            have hX_0 : w38.cell? ⟨GX, 0, none⟩ = some (.int .i64 2) := hX.cell 0
                            have hX_1 : w38.cell? ⟨GX, 1, none⟩ = some (.int .i64 a) := hX.cell 1
                            have hX_2 : w38.cell? ⟨GX, 2, none⟩ = some (.int .u64 0) := hX.cell 2
                            have hX_3 : w38.cell? ⟨GX, 3, none⟩ = some (.string ⟨#[]⟩) := hX.cell 3
                            go_wp2_with fail
                            go_meet
                            exact ⟨rfl, hX, hY, hP, bb⟩
                          · have tf : (ed == 0) = false := ibeq_f f0
                            clear HD hb0 f0
                            subst e0
                            go_wp2_with fail
                            go_meet
                            exact ⟨rfl, hX, hY, hP, bb⟩
                      · have te : (ep == 0) = false := ibeq_f e0
                        clear HD e0
                        go_wp2_with fail
                        go_meet
                        exact ⟨rfl, hX, hY, hP, bb⟩
                  case rest =>
                    as_aux_lemma =>
                      clear hX hY hP hD bb HP HCM HCN HD HCD HV1 HC1
                      obtain ⟨rfl, hX, hY, hP, bb⟩ := hcut
                      obtain ⟨qv, eq, HQ, HQN, HCQ⟩ := divL a b ia ib
                      have hX_0 : wc.cell? ⟨GX, 0, none⟩ = some (.int .i64 2) := hX.cell 0
                      have hX_1 : wc.cell? ⟨GX, 1, none⟩ = some (.int .i64 a) := hX.cell 1
                      have hX_2 : wc.cell? ⟨GX, 2, none⟩ = some (.int .u64 0) := hX.cell 2
                      have hX_3 : wc.cell? ⟨GX, 3, none⟩ = some (.string ⟨#[]⟩) := hX.cell 3
                      have hY_0 : wc.cell? ⟨GX + 1, 0, none⟩ = some (.int .i64 2) := hY.cell 0
                      have hY_1 : wc.cell? ⟨GX + 1, 1, none⟩ = some (.int .i64 b) := hY.cell 1
                      have hY_2 : wc.cell? ⟨GX + 1, 2, none⟩ = some (.int .u64 0) := hY.cell 2
                      have hY_3 : wc.cell? ⟨GX + 1, 3, none⟩ = some (.string ⟨#[]⟩) := hY.cell 3
                      go_wp2_with fail
                      refine (HCQ _).mono ?_
                      rintro e w39 ⟨rfl, q39⟩
                      clear hX_0 hX_1 hX_2 hX_3 hY_0 hY_1 hY_2 hY_3
                      replace hX := hX.ca q39
                      replace hY := hY.ca q39
                      replace hP := hP.ca q39
                      replace bb := bl_ca bb q39
                      clear q39
                      by_cases eq0 : eq = 0
                      · obtain ⟨hv, hD, hb0⟩ := HQ eq0
                        have HV := Lib.hid hv
                        clear hv
                        subst eq0
                        clear HQ HQN HCQ
                        have hq1 := rest_I ia ib hb0
                        have hq2 := rest_of a b hb0
                        obtain ⟨m, hm⟩ : ∃ m, m = a - a.tdiv b * b := ⟨_, rfl⟩
                        have hqI := small_I hD
                        generalize hqd : a.tdiv b = q at *
                        clear hqd
                        rw [← hm] at hq2
                        have H1 := Lib.hid hq1
                        have H2 := Lib.hid hq2
                        have HM := Lib.hid hm
                        clear hq1 hq2 hm hb0 hD
                        have lhE_hX := hX.lt
                        have lhE_hY := hY.lt
                        have lhE_hP := hP.lt
                        replace hX := hX.alloc (.cells #[.int .i64 qv.k, .int .i64 qv.n, .int .u64 qv.u, .string qv.s] 27)
                        replace hY := hY.alloc (.cells #[.int .i64 qv.k, .int .i64 qv.n, .int .u64 qv.u, .string qv.s] 27)
                        replace hP := hP.alloc (.cells #[.int .i64 qv.k, .int .i64 qv.n, .int .u64 qv.u, .string qv.s] 27)
                        have hE := Blk.new w39 27 #[.int .i64 qv.k, .int .i64 qv.n, .int .u64 qv.u, .string qv.s]
                        have bz := bb.size
                        replace bb := bl_al bb (.cells #[.int .i64 qv.k, .int .i64 qv.n, .int .u64 qv.u, .string qv.s] 27)
                        have hY_0 : (w39.alloc (.cells #[.int .i64 qv.k, .int .i64 qv.n, .int .u64 qv.u, .string qv.s] 27)).cell? ⟨GX + 1, 0, none⟩ = some (.int .i64 2) := hY.cell 0
                        have hY_1 : (w39.alloc (.cells #[.int .i64 qv.k, .int .i64 qv.n, .int .u64 qv.u, .string qv.s] 27)).cell? ⟨GX + 1, 1, none⟩ = some (.int .i64 b) := hY.cell 1
                        have hY_2 : (w39.alloc (.cells #[.int .i64 qv.k, .int .i64 qv.n, .int .u64 qv.u, .string qv.s] 27)).cell? ⟨GX + 1, 2, none⟩ = some (.int .u64 0) := hY.cell 2
                        have hY_3 : (w39.alloc (.cells #[.int .i64 qv.k, .int .i64 qv.n, .int .u64 qv.u, .string qv.s] 27)).cell? ⟨GX + 1, 3, none⟩ = some (.string ⟨#[]⟩) := hY.cell 3
                        go_wp2_with fail
                        clear hY_0 hY_1 hY_2 hY_3
                        generalize w39.alloc (.cells #[.int .i64 qv.k, .int .i64 qv.n, .int .u64 qv.u, .string qv.s] 27) = w40 at *
                        generalize w39.heap.size = G40 at *
                        have hv := HV.out
                        subst hv
                        clear HV
                        refine (mulIY q b (q * b) _ hqI ib rfl H1.out.1).mono ?_
                        rintro e w41 ⟨rfl, q41⟩
                        replace hX := hX.ca q41
                        replace hY := hY.ca q41
                        replace hP := hP.ca q41
                        replace hE := hE.ca q41
                        replace bb := bl_ca bb q41
                        clear q41
                        have KP := Lib.hid hP
                        clear hP
                        go_wp2_with (refine wpList_store_blk rfl 27 (.tmp 15) (.tmp 143) rfl G34 27 _ _ rfl rfl KP.out rfl valI (one4 _ _ _ _) ?_; intro w42 hP2 gP; have hX2 := hX.apart gP (by omega); have x0 := (vS hX2).1; have x1 := (vS hX2).2.1; have x2 := (vS hX2).2.2.1; have x3 := (vS hX2).2.2.2; have p0 := (vS hP2).1; have p1 := (vS hP2).2.1; have p2 := (vS hP2).2.2.1; have p3 := (vS hP2).2.2.2)
                        replace bb := bl_gr bb gP (by omega)
                        clear x0 x1 x2 x3 p0 p1 p2 p3 KP hX hY hE
                        refine (subIY a (q * b) m _ ia (small_I H1.out.1) HM.out.symm (by rw [HM.out]; exact H1.out.2)).mono ?_
                        rintro e w43 ⟨rfl, q43⟩
                        replace bb := bl_ca bb q43
                        clear q43
                        have hR := Blk.new w43 27 #[.int .i64 2, .int .i64 m, .int .u64 0, .string ⟨#[]⟩]
                        have bz := bb.size
                        replace bb := bl_al bb (.cells #[.int .i64 2, .int .i64 m, .int .u64 0, .string ⟨#[]⟩] 27)
                        go_upto_region 31 with fail
                        generalize w43.alloc (.cells #[.int .i64 2, .int .i64 m, .int .u64 0, .string ⟨#[]⟩] 27) = w44 at *
                        generalize w43.heap.size = G44 at *
                        clear HM H1 hqI
                        go_cut [207] (fun c wx => c = .bool false ∧ Below wo.heap.size wo wx)
                        case first =>
                          as_aux_lemma =>
                            have r1 : w44.cell? ⟨G44, 1, none⟩ = some (.int .i64 m) := hR.cell 1
                            obtain ⟨s1, s2, s3⟩ := H2.out
                            clear H2 s2
                            unfold I64 at ia ib
                            rcases s3 with rfl | s3
                            · have tm : ((0 : Int) != 0) = false := rfl
                              have S3 := Lib.hid True.intro
                              rcases s1 with ⟨u1, u2, u3⟩ | ⟨u1, u2, u3⟩ | ⟨u1, u2⟩
                              all_goals
                                as_aux_lemma =>
                                  first | have tn : (b != -9223372036854775808) = true := ibne_t (by omega) | have tn : (b != -9223372036854775808) = false := ibne_f (by omega)
                                  go_wp2_with fail
                                  go_meet
                                  refine ⟨congrArg Value.bool ?_, bb⟩
                                  have s3 := S3.out
                                  first | rfl | (simp; omega)
                            · have tm : (m != 0) = true := ibne_t (by omega)
                              have S3 := Lib.hid s3
                              clear s3
                              rcases s1 with ⟨u1, u2, u3⟩ | ⟨u1, u2, u3⟩ | ⟨u1, u2⟩
                              all_goals
                                as_aux_lemma =>
                                  first | have tn : (b != -9223372036854775808) = true := ibne_t (by omega) | have tn : (b != -9223372036854775808) = false := ibne_f (by omega)
                                  go_wp2_with fail
                                  go_meet
                                  refine ⟨congrArg Value.bool ?_, bb⟩
                                  have s3 := S3.out
                                  first | rfl | (simp; omega)
                        case rest =>
                          as_aux_lemma =>
                            clear hR bb H2
                            obtain ⟨rfl, bb⟩ := hcut
                            go_wp2
                            go_roundg (gk - 1)
                            · exact ⟨k + 1, by omega, by omega, by go_num, bb⟩
                            · omega
                      · have hb1 := HQN eq0
                        have te : (eq != 0) = true := ibne_t eq0
                        clear HQ HQN eq0
                        have lhE_hX := hX.lt
                        have lhE_hY := hY.lt
                        have lhE_hP := hP.lt
                        replace hX := hX.alloc (.cells #[.int .i64 qv.k, .int .i64 qv.n, .int .u64 qv.u, .string qv.s] 27)
                        replace hY := hY.alloc (.cells #[.int .i64 qv.k, .int .i64 qv.n, .int .u64 qv.u, .string qv.s] 27)
                        replace hP := hP.alloc (.cells #[.int .i64 qv.k, .int .i64 qv.n, .int .u64 qv.u, .string qv.s] 27)
                        have hE := Blk.new w39 27 #[.int .i64 qv.k, .int .i64 qv.n, .int .u64 qv.u, .string qv.s]
                        have bz := bb.size
                        replace bb := bl_al bb (.cells #[.int .i64 qv.k, .int .i64 qv.n, .int .u64 qv.u, .string qv.s] 27)
                        rcases hb1 with hb1 | hb1
                        · have tb : (b != 0) = false := ibne_f hb1
                          clear hb1
                          go_wp2
                          go_roundg (gk - 1)
                          · exact ⟨k + 1, by omega, by omega, by go_num, bb⟩
                          · omega
                        · have tb : (b != 0) = true := ibne_t (by omega)
                          have tb1 : (b != -1) = false := ibne_f hb1
                          clear hb1
                          go_wp2
                          go_roundg (gk - 1)
                          · exact ⟨k + 1, by omega, by omega, by go_num, bb⟩
                          · omega
          · go_wp2
            go_roundg (g1 - 1)
            · exact ⟨i + 1, by omega, by omega, by go_num, h1.below b0, bl_ca bw b0⟩
            · omega
    · go_wp2
      go_ret
      exact ⟨rfl, bw⟩
end Go.Proofs.Ytemakmgppafccaa
