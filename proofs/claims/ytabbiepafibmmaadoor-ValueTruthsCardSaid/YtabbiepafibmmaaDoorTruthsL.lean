/- The law ValueTruths: what the program answers of And, Or and Not is what the reference answers. Conditions: the slice reads as these values; the tables. -/
import Derived.Test.YtabbiepafibmmaaDoorFrameC
import Derived.Test.YtabbiepafibmmaaDoorRor
namespace Go.Proofs.YtabbiepafibmmaaDoor
open Go.RowKit
set_option maxRecDepth 100000 in
set_option maxHeartbeats 8000000 in
theorem valueTruths_walk (A : Option Addr) (n c : Nat) (vs : List VV) (w : World) (h : RdV w A n vs) (hn : n ≤ 9223372036854775807) (_hr : ∀ v ∈ vs, v.rng) (hT : Tab w) :
    Calls Tryd.prog 6 #[.slice A n c] w fun e w' => e = .returned (.bool true) ∧ Below w.heap.size w w' := by
  clear _hr
  go_enter Tryd.func6, Tryd.ntmps6
  go_wp2_with fail
  refine (wakes2_any w hT).mono ?_
  rintro e w1 ⟨rfl, b1⟩
  have h1 := h.below b1
  replace hT := hT.below b1
  go_wp2_with fail
  refine (few_any A n c vs w1 h1 hn).mono ?_
  rintro e w2 ⟨A', n', c', rfl, ho, q2⟩
  have bb := bl_ca b1 q2
  have hv := ho.rd
  replace hT := hT.below q2
  have hlt := ho.len
  have hn10 : n' ≤ 10 := by
    rw [← hlt]
    simp only [fewV, List.length_map, List.length_take]
    omega
  generalize fewV 10 vs = xs at *
  clear b1 h1 h ho q2 hlt
  go_wp2
  go_loopg [22] n' (fun g s wr => ∃ (i : Nat), i + g ≤ n' ∧ n' ≤ i + g ∧ s = .int .i64 i ∧ RdV wr A' n' xs ∧ Tab wr ∧ Below w.heap.size w wr)
  case atStart => exact ⟨0, by omega, by omega, rfl, hv, hT, bb⟩
  case round =>
    clear hv bb hT
    obtain ⟨i, hi1, hi2, rfl, hv, hT, bb⟩ := hrel
    by_cases hi : i < n'
    · obtain ⟨ad, v, hA, hvi, hal, c0, c1, c2, c3⟩ := hv.2 i hi
      subst hA
      clear hvi
      have HN1 := Lib.hid (fun w h => not_any v w h)
      have HN2 := Lib.hid (fun w => rnot_any v w)
      generalize notV v = R at *
      replace hv := hv.below (bl_al (Below.refl _ _) (.cells #[.int .i64 v.k, .int .i64 v.n, .int .u64 v.u, .string v.s] 28))
      replace hT := hT.below (bl_al (Below.refl _ _) (.cells #[.int .i64 v.k, .int .i64 v.n, .int .u64 v.u, .string v.s] 28))
      have hS := Blk.new wr 28 #[.int .i64 v.k, .int .i64 v.n, .int .u64 v.u, .string v.s]
      have bz := bb.size
      replace bb := bl_al bb (.cells #[.int .i64 v.k, .int .i64 v.n, .int .u64 v.u, .string v.s] 28)
      go_wp2_with fail
      clear c0 c1 c2 c3 hal
      generalize wr.alloc (.cells #[.int .i64 v.k, .int .i64 v.n, .int .u64 v.u, .string v.s] 28) = w21 at *
      generalize wr.heap.size = G21 at *
      refine (HN1.out _ hT.1).mono ?_
      rintro e w22 ⟨rfl, q22⟩
      simp only [resT]
      replace hv := hv.below q22
      replace hT := hT.below q22
      replace hS := hS.ca q22
      replace bb := bl_ca bb q22
      clear q22
      replace hv := hv.below (bl_al (Below.refl _ _) (.cells #[.int .i64 R.1.k, .int .i64 R.1.n, .int .u64 R.1.u, .string R.1.s] 28))
      replace hT := hT.below (bl_al (Below.refl _ _) (.cells #[.int .i64 R.1.k, .int .i64 R.1.n, .int .u64 R.1.u, .string R.1.s] 28))
      have lhX_hS := hS.lt
      replace hS := hS.alloc (.cells #[.int .i64 R.1.k, .int .i64 R.1.n, .int .u64 R.1.u, .string R.1.s] 28)
      have hX := Blk.new w22 28 #[.int .i64 R.1.k, .int .i64 R.1.n, .int .u64 R.1.u, .string R.1.s]
      have bz := bb.size
      replace bb := bl_al bb (.cells #[.int .i64 R.1.k, .int .i64 R.1.n, .int .u64 R.1.u, .string R.1.s] 28)
      have hS_0 : (w22.alloc (.cells #[.int .i64 R.1.k, .int .i64 R.1.n, .int .u64 R.1.u, .string R.1.s] 28)).cell? ⟨G21, 0, none⟩ = some (.int .i64 v.k) := hS.cell 0
      have hS_1 : (w22.alloc (.cells #[.int .i64 R.1.k, .int .i64 R.1.n, .int .u64 R.1.u, .string R.1.s] 28)).cell? ⟨G21, 1, none⟩ = some (.int .i64 v.n) := hS.cell 1
      have hS_2 : (w22.alloc (.cells #[.int .i64 R.1.k, .int .i64 R.1.n, .int .u64 R.1.u, .string R.1.s] 28)).cell? ⟨G21, 2, none⟩ = some (.int .u64 v.u) := hS.cell 2
      have hS_3 : (w22.alloc (.cells #[.int .i64 R.1.k, .int .i64 R.1.n, .int .u64 R.1.u, .string R.1.s] 28)).cell? ⟨G21, 3, none⟩ = some (.string v.s) := hS.cell 3
      go_wp2_with fail
      clear hS_0 hS_1 hS_2 hS_3
      generalize w22.alloc (.cells #[.int .i64 R.1.k, .int .i64 R.1.n, .int .u64 R.1.u, .string R.1.s] 28) = w23 at *
      generalize w22.heap.size = G23 at *
      refine (HN2.out _).mono ?_
      rintro e w24 ⟨rfl, q24⟩
      simp only [resT]
      replace hv := hv.below q24
      replace hT := hT.below q24
      replace hS := hS.ca q24
      replace hX := hX.ca q24
      replace bb := bl_ca bb q24
      clear q24
      replace hv := hv.below (bl_al (Below.refl _ _) (.cells #[.int .i64 R.1.k, .int .i64 R.1.n, .int .u64 R.1.u, .string R.1.s] 28))
      replace hT := hT.below (bl_al (Below.refl _ _) (.cells #[.int .i64 R.1.k, .int .i64 R.1.n, .int .u64 R.1.u, .string R.1.s] 28))
      have lhY_hS := hS.lt
      have lhY_hX := hX.lt
      replace hS := hS.alloc (.cells #[.int .i64 R.1.k, .int .i64 R.1.n, .int .u64 R.1.u, .string R.1.s] 28)
      replace hX := hX.alloc (.cells #[.int .i64 R.1.k, .int .i64 R.1.n, .int .u64 R.1.u, .string R.1.s] 28)
      have hY := Blk.new w24 28 #[.int .i64 R.1.k, .int .i64 R.1.n, .int .u64 R.1.u, .string R.1.s]
      have bz := bb.size
      replace bb := bl_al bb (.cells #[.int .i64 R.1.k, .int .i64 R.1.n, .int .u64 R.1.u, .string R.1.s] 28)
      have hX_0 : (w24.alloc (.cells #[.int .i64 R.1.k, .int .i64 R.1.n, .int .u64 R.1.u, .string R.1.s] 28)).cell? ⟨G23, 0, none⟩ = some (.int .i64 R.1.k) := hX.cell 0
      have hX_1 : (w24.alloc (.cells #[.int .i64 R.1.k, .int .i64 R.1.n, .int .u64 R.1.u, .string R.1.s] 28)).cell? ⟨G23, 1, none⟩ = some (.int .i64 R.1.n) := hX.cell 1
      have hX_2 : (w24.alloc (.cells #[.int .i64 R.1.k, .int .i64 R.1.n, .int .u64 R.1.u, .string R.1.s] 28)).cell? ⟨G23, 2, none⟩ = some (.int .u64 R.1.u) := hX.cell 2
      have hX_3 : (w24.alloc (.cells #[.int .i64 R.1.k, .int .i64 R.1.n, .int .u64 R.1.u, .string R.1.s] 28)).cell? ⟨G23, 3, none⟩ = some (.string R.1.s) := hX.cell 3
      go_wp2
      clear hX_0 hX_1 hX_2 hX_3
      generalize w24.alloc (.cells #[.int .i64 R.1.k, .int .i64 R.1.n, .int .u64 R.1.u, .string R.1.s] 28) = w25 at *
      generalize w24.heap.size = G25 at *
      clear hX hY
      clear HN1 HN2
      obtain ⟨g1, rfl⟩ : ∃ g1, g1 = gk := ⟨_, rfl⟩
      obtain ⟨wo, rfl⟩ : ∃ wo : World, wo = wr := ⟨_, rfl⟩
      go_loopg [46] n' (fun g s wr => ∃ (k : Nat), k + g ≤ n' ∧ n' ≤ k + g ∧ s = .int .i64 k ∧ RdV wr (some ad) n' xs ∧ Tab wr ∧ Blk wr G21 28 #[.int .i64 v.k, .int .i64 v.n, .int .u64 v.u, .string v.s] ∧ Below w.heap.size w wr)
      case atStart => exact ⟨0, by omega, by omega, rfl, hv, hT, hS, bb⟩
      case round =>
        clear hv hS bb hT
        obtain ⟨k, hk1, hk2, rfl, hv, hT, hS, bb⟩ := hrel
        by_cases hk : k < n'
        · obtain ⟨ad2, u, hA2, hui, hal, c0, c1, c2, c3⟩ := hv.2 k hk
          injection hA2 with hA2
          subst hA2
          clear hui
          have HA1 := Lib.hid (fun w h => and_any v u w h)
          have HA2 := Lib.hid (fun w => rand_any v u w)
          have HO1 := Lib.hid (fun w h => or_any v u w h)
          have HO2 := Lib.hid (fun w => ror_any v u w)
          generalize andV v u = P at *
          generalize orV v u = O at *
          have qq := Below.refl wr.heap.size wr
          have HT := Lib.hid (fun w' (q : Below wr.heap.size wr w') => (hT.below q).1)
          have qz_hU := qq.size
          replace qq := bl_al qq (.cells #[.int .i64 u.k, .int .i64 u.n, .int .u64 u.u, .string u.s] 28)
          have lhU_hS := hS.lt
          replace hS := hS.alloc (.cells #[.int .i64 u.k, .int .i64 u.n, .int .u64 u.u, .string u.s] 28)
          have hU := Blk.new wr 28 #[.int .i64 u.k, .int .i64 u.n, .int .u64 u.u, .string u.s]
          have bz := bb.size
          replace bb := bl_al bb (.cells #[.int .i64 u.k, .int .i64 u.n, .int .u64 u.u, .string u.s] 28)
          have hS_0 : (wr.alloc (.cells #[.int .i64 u.k, .int .i64 u.n, .int .u64 u.u, .string u.s] 28)).cell? ⟨G21, 0, none⟩ = some (.int .i64 v.k) := hS.cell 0
          have hS_1 : (wr.alloc (.cells #[.int .i64 u.k, .int .i64 u.n, .int .u64 u.u, .string u.s] 28)).cell? ⟨G21, 1, none⟩ = some (.int .i64 v.n) := hS.cell 1
          have hS_2 : (wr.alloc (.cells #[.int .i64 u.k, .int .i64 u.n, .int .u64 u.u, .string u.s] 28)).cell? ⟨G21, 2, none⟩ = some (.int .u64 v.u) := hS.cell 2
          have hS_3 : (wr.alloc (.cells #[.int .i64 u.k, .int .i64 u.n, .int .u64 u.u, .string u.s] 28)).cell? ⟨G21, 3, none⟩ = some (.string v.s) := hS.cell 3
          go_wp2_with fail
          clear c0 c1 c2 c3 hal hS_0 hS_1 hS_2 hS_3
          generalize wr.alloc (.cells #[.int .i64 u.k, .int .i64 u.n, .int .u64 u.u, .string u.s] 28) = w41 at *
          refine (HA1.out _ (HT.out _ qq)).mono ?_
          rintro e w42 ⟨rfl, q42⟩
          simp only [resT]
          replace qq := bl_ca qq q42
          replace hS := hS.ca q42
          replace hU := hU.ca q42
          replace bb := bl_ca bb q42
          clear q42
          have qz_hP := qq.size
          replace qq := bl_al qq (.cells #[.int .i64 P.1.k, .int .i64 P.1.n, .int .u64 P.1.u, .string P.1.s] 28)
          have lhP_hS := hS.lt
          have lhP_hU := hU.lt
          replace hS := hS.alloc (.cells #[.int .i64 P.1.k, .int .i64 P.1.n, .int .u64 P.1.u, .string P.1.s] 28)
          replace hU := hU.alloc (.cells #[.int .i64 P.1.k, .int .i64 P.1.n, .int .u64 P.1.u, .string P.1.s] 28)
          have hP := Blk.new w42 28 #[.int .i64 P.1.k, .int .i64 P.1.n, .int .u64 P.1.u, .string P.1.s]
          have bz := bb.size
          replace bb := bl_al bb (.cells #[.int .i64 P.1.k, .int .i64 P.1.n, .int .u64 P.1.u, .string P.1.s] 28)
          have hS_0 : (w42.alloc (.cells #[.int .i64 P.1.k, .int .i64 P.1.n, .int .u64 P.1.u, .string P.1.s] 28)).cell? ⟨G21, 0, none⟩ = some (.int .i64 v.k) := hS.cell 0
          have hS_1 : (w42.alloc (.cells #[.int .i64 P.1.k, .int .i64 P.1.n, .int .u64 P.1.u, .string P.1.s] 28)).cell? ⟨G21, 1, none⟩ = some (.int .i64 v.n) := hS.cell 1
          have hS_2 : (w42.alloc (.cells #[.int .i64 P.1.k, .int .i64 P.1.n, .int .u64 P.1.u, .string P.1.s] 28)).cell? ⟨G21, 2, none⟩ = some (.int .u64 v.u) := hS.cell 2
          have hS_3 : (w42.alloc (.cells #[.int .i64 P.1.k, .int .i64 P.1.n, .int .u64 P.1.u, .string P.1.s] 28)).cell? ⟨G21, 3, none⟩ = some (.string v.s) := hS.cell 3
          have hU_0 : (w42.alloc (.cells #[.int .i64 P.1.k, .int .i64 P.1.n, .int .u64 P.1.u, .string P.1.s] 28)).cell? ⟨wr.heap.size, 0, none⟩ = some (.int .i64 u.k) := hU.cell 0
          have hU_1 : (w42.alloc (.cells #[.int .i64 P.1.k, .int .i64 P.1.n, .int .u64 P.1.u, .string P.1.s] 28)).cell? ⟨wr.heap.size, 1, none⟩ = some (.int .i64 u.n) := hU.cell 1
          have hU_2 : (w42.alloc (.cells #[.int .i64 P.1.k, .int .i64 P.1.n, .int .u64 P.1.u, .string P.1.s] 28)).cell? ⟨wr.heap.size, 2, none⟩ = some (.int .u64 u.u) := hU.cell 2
          have hU_3 : (w42.alloc (.cells #[.int .i64 P.1.k, .int .i64 P.1.n, .int .u64 P.1.u, .string P.1.s] 28)).cell? ⟨wr.heap.size, 3, none⟩ = some (.string u.s) := hU.cell 3
          go_wp2_with fail
          clear hS_0 hS_1 hS_2 hS_3 hU_0 hU_1 hU_2 hU_3
          generalize w42.alloc (.cells #[.int .i64 P.1.k, .int .i64 P.1.n, .int .u64 P.1.u, .string P.1.s] 28) = w43 at *
          generalize w42.heap.size = G43 at *
          refine (HA2.out _).mono ?_
          rintro e w44 ⟨rfl, q44⟩
          simp only [resT]
          replace qq := bl_ca qq q44
          replace hS := hS.ca q44
          replace hU := hU.ca q44
          replace hP := hP.ca q44
          replace bb := bl_ca bb q44
          clear q44
          have qz_hQ := qq.size
          replace qq := bl_al qq (.cells #[.int .i64 P.1.k, .int .i64 P.1.n, .int .u64 P.1.u, .string P.1.s] 28)
          have lhQ_hS := hS.lt
          have lhQ_hU := hU.lt
          have lhQ_hP := hP.lt
          replace hS := hS.alloc (.cells #[.int .i64 P.1.k, .int .i64 P.1.n, .int .u64 P.1.u, .string P.1.s] 28)
          replace hU := hU.alloc (.cells #[.int .i64 P.1.k, .int .i64 P.1.n, .int .u64 P.1.u, .string P.1.s] 28)
          replace hP := hP.alloc (.cells #[.int .i64 P.1.k, .int .i64 P.1.n, .int .u64 P.1.u, .string P.1.s] 28)
          have hQ := Blk.new w44 28 #[.int .i64 P.1.k, .int .i64 P.1.n, .int .u64 P.1.u, .string P.1.s]
          have bz := bb.size
          replace bb := bl_al bb (.cells #[.int .i64 P.1.k, .int .i64 P.1.n, .int .u64 P.1.u, .string P.1.s] 28)
          have hP_0 : (w44.alloc (.cells #[.int .i64 P.1.k, .int .i64 P.1.n, .int .u64 P.1.u, .string P.1.s] 28)).cell? ⟨G43, 0, none⟩ = some (.int .i64 P.1.k) := hP.cell 0
          have hP_1 : (w44.alloc (.cells #[.int .i64 P.1.k, .int .i64 P.1.n, .int .u64 P.1.u, .string P.1.s] 28)).cell? ⟨G43, 1, none⟩ = some (.int .i64 P.1.n) := hP.cell 1
          have hP_2 : (w44.alloc (.cells #[.int .i64 P.1.k, .int .i64 P.1.n, .int .u64 P.1.u, .string P.1.s] 28)).cell? ⟨G43, 2, none⟩ = some (.int .u64 P.1.u) := hP.cell 2
          have hP_3 : (w44.alloc (.cells #[.int .i64 P.1.k, .int .i64 P.1.n, .int .u64 P.1.u, .string P.1.s] 28)).cell? ⟨G43, 3, none⟩ = some (.string P.1.s) := hP.cell 3
          have hS_0 : (w44.alloc (.cells #[.int .i64 P.1.k, .int .i64 P.1.n, .int .u64 P.1.u, .string P.1.s] 28)).cell? ⟨G21, 0, none⟩ = some (.int .i64 v.k) := hS.cell 0
          have hS_1 : (w44.alloc (.cells #[.int .i64 P.1.k, .int .i64 P.1.n, .int .u64 P.1.u, .string P.1.s] 28)).cell? ⟨G21, 1, none⟩ = some (.int .i64 v.n) := hS.cell 1
          have hS_2 : (w44.alloc (.cells #[.int .i64 P.1.k, .int .i64 P.1.n, .int .u64 P.1.u, .string P.1.s] 28)).cell? ⟨G21, 2, none⟩ = some (.int .u64 v.u) := hS.cell 2
          have hS_3 : (w44.alloc (.cells #[.int .i64 P.1.k, .int .i64 P.1.n, .int .u64 P.1.u, .string P.1.s] 28)).cell? ⟨G21, 3, none⟩ = some (.string v.s) := hS.cell 3
          have hU_0 : (w44.alloc (.cells #[.int .i64 P.1.k, .int .i64 P.1.n, .int .u64 P.1.u, .string P.1.s] 28)).cell? ⟨wr.heap.size, 0, none⟩ = some (.int .i64 u.k) := hU.cell 0
          have hU_1 : (w44.alloc (.cells #[.int .i64 P.1.k, .int .i64 P.1.n, .int .u64 P.1.u, .string P.1.s] 28)).cell? ⟨wr.heap.size, 1, none⟩ = some (.int .i64 u.n) := hU.cell 1
          have hU_2 : (w44.alloc (.cells #[.int .i64 P.1.k, .int .i64 P.1.n, .int .u64 P.1.u, .string P.1.s] 28)).cell? ⟨wr.heap.size, 2, none⟩ = some (.int .u64 u.u) := hU.cell 2
          have hU_3 : (w44.alloc (.cells #[.int .i64 P.1.k, .int .i64 P.1.n, .int .u64 P.1.u, .string P.1.s] 28)).cell? ⟨wr.heap.size, 3, none⟩ = some (.string u.s) := hU.cell 3
          go_wp2_with fail
          clear hP_0 hP_1 hP_2 hP_3 hS_0 hS_1 hS_2 hS_3 hU_0 hU_1 hU_2 hU_3
          generalize w44.alloc (.cells #[.int .i64 P.1.k, .int .i64 P.1.n, .int .u64 P.1.u, .string P.1.s] 28) = w45 at *
          generalize w44.heap.size = G45 at *
          refine (HO1.out _ (HT.out _ qq)).mono ?_
          rintro e w46 ⟨rfl, q46⟩
          simp only [resT]
          replace qq := bl_ca qq q46
          replace hS := hS.ca q46
          replace hU := hU.ca q46
          replace hP := hP.ca q46
          replace hQ := hQ.ca q46
          replace bb := bl_ca bb q46
          clear q46
          have KhP := Lib.hid hP
          clear hP
          go_wp2_with (refine wpList_store_blk rfl 28 (.tmp 12) (.tmp 74) rfl G43 28 _ _ rfl rfl KhP.out rfl valI (one4 _ _ _ _) ?_; intro w47 hP gw47; replace hS := hS.apart gw47 (by omega); replace hU := hU.apart gw47 (by omega); replace hQ := hQ.apart gw47 (by omega); have hS_0 := (vS hS).1; have hS_1 := (vS hS).2.1; have hS_2 := (vS hS).2.2.1; have hS_3 := (vS hS).2.2.2; have hU_0 := (vS hU).1; have hU_1 := (vS hU).2.1; have hU_2 := (vS hU).2.2.1; have hU_3 := (vS hU).2.2.2)
          replace bb := bl_gr bb gw47 (by omega)
          replace qq := bl_gr qq gw47 (by omega)
          clear hS_0 hS_1 hS_2 hS_3 hU_0 hU_1 hU_2 hU_3
          clear KhP
          refine (HO2.out _).mono ?_
          rintro e w48 ⟨rfl, q48⟩
          simp only [resT]
          replace qq := bl_ca qq q48
          replace hS := hS.ca q48
          replace hU := hU.ca q48
          replace hP := hP.ca q48
          replace hQ := hQ.ca q48
          replace bb := bl_ca bb q48
          clear q48
          have KhQ := Lib.hid hQ
          clear hQ
          go_wp2_with (refine wpList_store_blk rfl 28 (.tmp 14) (.tmp 80) rfl G45 28 _ _ rfl rfl KhQ.out rfl valI (one4 _ _ _ _) ?_; intro w49 hQ gw49; replace hS := hS.apart gw49 (by omega); replace hU := hU.apart gw49 (by omega); replace hP := hP.apart gw49 (by omega); have hP_0 := (vS hP).1; have hP_1 := (vS hP).2.1; have hP_2 := (vS hP).2.2.1; have hP_3 := (vS hP).2.2.2; have hQ_0 := (vS hQ).1; have hQ_1 := (vS hQ).2.1; have hQ_2 := (vS hQ).2.2.1; have hQ_3 := (vS hQ).2.2.2)
          replace bb := bl_gr bb gw49 (by omega)
          replace qq := bl_gr qq gw49 (by omega)
          clear hP_0 hP_1 hP_2 hP_3 hQ_0 hQ_1 hQ_2 hQ_3
          clear KhQ
          go_roundg (gk - 1)
          · exact ⟨k + 1, by omega, by omega, by go_num, hv.below qq, hT.below qq, hS, bb⟩
          · omega
        · go_wp2
          go_roundg (g1 - 1)
          · exact ⟨i + 1, by omega, by omega, by go_num, hv, hT, bb⟩
          · omega
    · go_wp2
      go_ret
      exact ⟨rfl, bb⟩
end Go.Proofs.YtabbiepafibmmaaDoor
