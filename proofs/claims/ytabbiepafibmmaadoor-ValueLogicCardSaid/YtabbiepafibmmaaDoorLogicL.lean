/- The law ValueLogic: Not of And is Or of the Nots; And may be done in any order. Conditions: the slice reads as these values; the tables. -/
import Derived.Test.YtabbiepafibmmaaDoorFrameC
import Derived.Test.YtabbiepafibmmaaDoorLogMath
import Derived.Test.YtabbiepafibmmaaDoorLin
import Derived.Test.YtabbiepafibmmaaDoorTrue
namespace Go.Proofs.YtabbiepafibmmaaDoor
open Go.RowKit
set_option maxRecDepth 100000 in
set_option maxHeartbeats 16000000 in
theorem valueLogic_walk (A : Option Addr) (n c : Nat) (vs : List VV) (w : World) (h : RdV w A n vs) (hn : n ≤ 9223372036854775807) (_hr : ∀ v ∈ vs, v.rng) (hT : Tab w) :
    Calls Tryd.prog 7 #[.slice A n c] w fun e w' => e = .returned (.bool true) ∧ Below w.heap.size w w' := by
  clear _hr
  go_enter Tryd.func7, Tryd.ntmps7
  go_wp2_with fail
  refine (wakes2_any w hT).mono ?_
  rintro e w1 ⟨rfl, b1⟩
  have h1 := h.below b1
  replace hT := hT.below b1
  go_wp2_with fail
  refine (few_any A n c vs w1 h1 hn).mono ?_
  rintro e w2 ⟨A', n', c', rfl, ho, q2⟩
  have bb := bl_ca b1 q2
  have hv := ho.rd
  replace hT := hT.below q2
  have hlt := ho.len
  have hn10 : n' ≤ 10 := by
    rw [← hlt]
    simp only [fewV, List.length_map, List.length_take]
    omega
  generalize fewV 10 vs = xs at *
  clear b1 h1 h ho q2 hlt
  go_wp2
  go_loopg [35] n' (fun g s wr => ∃ (i : Nat), i + g ≤ n' ∧ n' ≤ i + g ∧ s = .int .i64 i ∧ RdV wr A' n' xs ∧ Tab wr ∧ Below w.heap.size w wr)
  case atStart => exact ⟨0, by omega, by omega, rfl, hv, hT, bb⟩
  case round =>
    clear hv bb hT
    obtain ⟨i, hi1, hi2, rfl, hv, hT, bb⟩ := hrel
    by_cases hi : i < n'
    · obtain ⟨ad, v, hA, hvi, hal, c0, c1, c2, c3⟩ := hv.2 i hi
      subst hA
      clear hvi
      have qq := Below.refl wr.heap.size wr
      have HT := Lib.hid (fun w' (q : Below wr.heap.size wr w') => (hT.below q).1)
      by_cases ha : kindE [v] = 0
      · obtain ⟨nn, e1, tn, e2⟩ := notV_tv (tv_kind ha)
        have HN1 := Lib.hid (fun w h => (e1 ▸ not_any v w h : Calls Tryd.prog 28 _ w fun e w' => e = .returned (resT (nn, 0)) ∧ Below w.heap.size w w'))
        have HN2 := Lib.hid (fun w h => (e2 ▸ not_any nn w h : Calls Tryd.prog 28 _ w fun e w' => e = .returned (resT (v, 0)) ∧ Below w.heap.size w w'))
        have TA := Lib.hid (tv_kind ha)
        have TN := Lib.hid e1
        clear e1 e2 tn ha
        have hA := Blk.new wr 28 #[.int .i64 v.k, .int .i64 v.n, .int .u64 v.u, .string v.s]
        have zhA_qq := qq.size
        replace qq := bl_al qq (.cells #[.int .i64 v.k, .int .i64 v.n, .int .u64 v.u, .string v.s] 28)
        go_wp2_with fail
        clear c0 c1 c2 c3 hal
        generalize (wr.alloc (.cells #[.int .i64 v.k, .int .i64 v.n, .int .u64 v.u, .string v.s] 28)) = u1 at *
        refine (HN1.out _ (HT.out _ qq)).mono ?_
        rintro e u2 ⟨rfl, qu2⟩
        simp only [resT]
        replace hA := hA.ca qu2
        replace qq := bl_ca qq qu2
        clear qu2
        have lhN_hA := hA.lt
        replace hA := hA.alloc (.cells #[.int .i64 nn.k, .int .i64 nn.n, .int .u64 nn.u, .string nn.s] 28)
        have hN := Blk.new u2 28 #[.int .i64 nn.k, .int .i64 nn.n, .int .u64 nn.u, .string nn.s]
        have zhN_qq := qq.size
        replace qq := bl_al qq (.cells #[.int .i64 nn.k, .int .i64 nn.n, .int .u64 nn.u, .string nn.s] 28)
        go_wp2_with fail
        generalize (u2.alloc (.cells #[.int .i64 nn.k, .int .i64 nn.n, .int .u64 nn.u, .string nn.s] 28)) = u3 at *
        generalize u2.heap.size = Gu3 at *
        refine (HN2.out _ (HT.out _ qq)).mono ?_
        rintro e u4 ⟨rfl, qu4⟩
        simp only [resT]
        replace hA := hA.ca qu4
        replace hN := hN.ca qu4
        replace qq := bl_ca qq qu4
        clear qu4
        have lhK_hA := hA.lt
        replace hA := hA.alloc (.cells #[.int .i64 v.k, .int .i64 v.n, .int .u64 v.u, .string v.s] 28)
        have lhK_hN := hN.lt
        replace hN := hN.alloc (.cells #[.int .i64 v.k, .int .i64 v.n, .int .u64 v.u, .string v.s] 28)
        have hK := Blk.new u4 28 #[.int .i64 v.k, .int .i64 v.n, .int .u64 v.u, .string v.s]
        have zhK_qq := qq.size
        replace qq := bl_al qq (.cells #[.int .i64 v.k, .int .i64 v.n, .int .u64 v.u, .string v.s] 28)
        have hA_0 : (u4.alloc (.cells #[.int .i64 v.k, .int .i64 v.n, .int .u64 v.u, .string v.s] 28)).cell? ⟨wr.heap.size, 0, none⟩ = some (.int .i64 v.k) := hA.cell 0
        have hA_1 : (u4.alloc (.cells #[.int .i64 v.k, .int .i64 v.n, .int .u64 v.u, .string v.s] 28)).cell? ⟨wr.heap.size, 1, none⟩ = some (.int .i64 v.n) := hA.cell 1
        have hA_2 : (u4.alloc (.cells #[.int .i64 v.k, .int .i64 v.n, .int .u64 v.u, .string v.s] 28)).cell? ⟨wr.heap.size, 2, none⟩ = some (.int .u64 v.u) := hA.cell 2
        have hA_3 : (u4.alloc (.cells #[.int .i64 v.k, .int .i64 v.n, .int .u64 v.u, .string v.s] 28)).cell? ⟨wr.heap.size, 3, none⟩ = some (.string v.s) := hA.cell 3
        go_wp2
        clear hA_0 hA_1 hA_2 hA_3
        generalize (u4.alloc (.cells #[.int .i64 v.k, .int .i64 v.n, .int .u64 v.u, .string v.s] 28)) = u5 at *
        generalize u4.heap.size = Gu5 at *
        clear HN1 HN2 hK
        replace hv := hv.below qq
        replace hT := hT.below qq
        replace bb := bl_ca bb qq
        clear HT qq
        obtain ⟨g1, rfl⟩ : ∃ g1, g1 = gk := ⟨_, rfl⟩
        obtain ⟨wo, rfl⟩ : ∃ wo : World, wo = wr := ⟨_, rfl⟩
        generalize wo.heap.size = GA at *
        go_loopg [60] n' (fun g s wr => ∃ (k : Nat), k + g ≤ n' ∧ n' ≤ k + g ∧ s = .int .i64 k ∧ RdV wr (some ad) n' xs ∧ Tab wr ∧ Blk wr GA 28 #[.int .i64 v.k, .int .i64 v.n, .int .u64 v.u, .string v.s] ∧ Blk wr Gu3 28 #[.int .i64 nn.k, .int .i64 nn.n, .int .u64 nn.u, .string nn.s] ∧ Below w.heap.size w wr)
        case atStart => exact ⟨0, by omega, by omega, rfl, hv, hT, hA, hN, bb⟩
        case round =>
          clear hv hA hN bb hT
          obtain ⟨k, hk1, hk2, rfl, hv, hT, hA, hN, bb⟩ := hrel
          by_cases hk : k < n'
          · obtain ⟨ad2, u, hA2, hui, hal, c0, c1, c2, c3⟩ := hv.2 k hk
            injection hA2 with hA2
            subst hA2
            clear hui
            have qq := Below.refl wr.heap.size wr
            have HT := Lib.hid (fun w' (q : Below wr.heap.size wr w') => (hT.below q).1)
            by_cases hb : kindE [u] = 0
            · obtain ⟨mm, e1, tm, e2⟩ := notV_tv (tv_kind hb)
              obtain ⟨xx, uu, e3, e4, tx, e5, e6, e7⟩ := andV_tv TA.out (tv_kind hb) TN.out e1
              have H1 := Lib.hid (fun w h => (e1 ▸ not_any u w h : Calls Tryd.prog 28 _ w fun e w' => e = .returned (resT (mm, 0)) ∧ Below w.heap.size w w'))
              have H2 := Lib.hid (fun w h => (e3 ▸ and_any v u w h : Calls Tryd.prog 30 _ w fun e w' => e = .returned (resT (xx, 0)) ∧ Below w.heap.size w w'))
              have H3 := Lib.hid (fun w h => (e4 ▸ and_any u v w h : Calls Tryd.prog 30 _ w fun e w' => e = .returned (resT (xx, 0)) ∧ Below w.heap.size w w'))
              have H4 := Lib.hid (fun w h => (e5 ▸ or_any nn mm w h : Calls Tryd.prog 32 _ w fun e w' => e = .returned (resT (uu, 0)) ∧ Below w.heap.size w w'))
              have H5 := Lib.hid (fun w h => (e6 ▸ not_any xx w h : Calls Tryd.prog 28 _ w fun e w' => e = .returned (resT (uu, 0)) ∧ Below w.heap.size w w'))
              have TB := Lib.hid (tv_kind hb)
              have TX := Lib.hid tx
              have EX := Lib.hid e3
              have ET := Lib.hid e7
              clear e1 e2 e3 e4 e5 e6 e7 tm tx hb
              have hB := Blk.new wr 28 #[.int .i64 u.k, .int .i64 u.n, .int .u64 u.u, .string u.s]
              have zhB_qq := qq.size
              replace qq := bl_al qq (.cells #[.int .i64 u.k, .int .i64 u.n, .int .u64 u.u, .string u.s] 28)
              go_wp2_with fail
              clear c0 c1 c2 c3 hal
              generalize (wr.alloc (.cells #[.int .i64 u.k, .int .i64 u.n, .int .u64 u.u, .string u.s] 28)) = x1 at *
              refine (H1.out _ (HT.out _ qq)).mono ?_
              rintro e x2 ⟨rfl, qx2⟩
              simp only [resT]
              replace hB := hB.ca qx2
              replace qq := bl_ca qq qx2
              clear qx2
              have lhM_hB := hB.lt
              replace hB := hB.alloc (.cells #[.int .i64 mm.k, .int .i64 mm.n, .int .u64 mm.u, .string mm.s] 28)
              have hM := Blk.new x2 28 #[.int .i64 mm.k, .int .i64 mm.n, .int .u64 mm.u, .string mm.s]
              have zhM_qq := qq.size
              replace qq := bl_al qq (.cells #[.int .i64 mm.k, .int .i64 mm.n, .int .u64 mm.u, .string mm.s] 28)
              have hA_0 : (x2.alloc (.cells #[.int .i64 mm.k, .int .i64 mm.n, .int .u64 mm.u, .string mm.s] 28)).cell? ⟨GA, 0, none⟩ = some (.int .i64 v.k) := (hA.below qq hA.lt).cell 0
              have hA_1 : (x2.alloc (.cells #[.int .i64 mm.k, .int .i64 mm.n, .int .u64 mm.u, .string mm.s] 28)).cell? ⟨GA, 1, none⟩ = some (.int .i64 v.n) := (hA.below qq hA.lt).cell 1
              have hA_2 : (x2.alloc (.cells #[.int .i64 mm.k, .int .i64 mm.n, .int .u64 mm.u, .string mm.s] 28)).cell? ⟨GA, 2, none⟩ = some (.int .u64 v.u) := (hA.below qq hA.lt).cell 2
              have hA_3 : (x2.alloc (.cells #[.int .i64 mm.k, .int .i64 mm.n, .int .u64 mm.u, .string mm.s] 28)).cell? ⟨GA, 3, none⟩ = some (.string v.s) := (hA.below qq hA.lt).cell 3
              have hB_0 : (x2.alloc (.cells #[.int .i64 mm.k, .int .i64 mm.n, .int .u64 mm.u, .string mm.s] 28)).cell? ⟨wr.heap.size, 0, none⟩ = some (.int .i64 u.k) := hB.cell 0
              have hB_1 : (x2.alloc (.cells #[.int .i64 mm.k, .int .i64 mm.n, .int .u64 mm.u, .string mm.s] 28)).cell? ⟨wr.heap.size, 1, none⟩ = some (.int .i64 u.n) := hB.cell 1
              have hB_2 : (x2.alloc (.cells #[.int .i64 mm.k, .int .i64 mm.n, .int .u64 mm.u, .string mm.s] 28)).cell? ⟨wr.heap.size, 2, none⟩ = some (.int .u64 u.u) := hB.cell 2
              have hB_3 : (x2.alloc (.cells #[.int .i64 mm.k, .int .i64 mm.n, .int .u64 mm.u, .string mm.s] 28)).cell? ⟨wr.heap.size, 3, none⟩ = some (.string u.s) := hB.cell 3
              go_wp2_with fail
              clear hA_0 hA_1 hA_2 hA_3 hB_0 hB_1 hB_2 hB_3
              generalize (x2.alloc (.cells #[.int .i64 mm.k, .int .i64 mm.n, .int .u64 mm.u, .string mm.s] 28)) = x3 at *
              generalize x2.heap.size = Gx3 at *
              refine (H2.out _ (HT.out _ qq)).mono ?_
              rintro e x4 ⟨rfl, qx4⟩
              simp only [resT]
              replace hB := hB.ca qx4
              replace hM := hM.ca qx4
              replace qq := bl_ca qq qx4
              clear qx4
              have lhX_hB := hB.lt
              replace hB := hB.alloc (.cells #[.int .i64 xx.k, .int .i64 xx.n, .int .u64 xx.u, .string xx.s] 28)
              have lhX_hM := hM.lt
              replace hM := hM.alloc (.cells #[.int .i64 xx.k, .int .i64 xx.n, .int .u64 xx.u, .string xx.s] 28)
              have hX := Blk.new x4 28 #[.int .i64 xx.k, .int .i64 xx.n, .int .u64 xx.u, .string xx.s]
              have zhX_qq := qq.size
              replace qq := bl_al qq (.cells #[.int .i64 xx.k, .int .i64 xx.n, .int .u64 xx.u, .string xx.s] 28)
              have hA_0 : (x4.alloc (.cells #[.int .i64 xx.k, .int .i64 xx.n, .int .u64 xx.u, .string xx.s] 28)).cell? ⟨GA, 0, none⟩ = some (.int .i64 v.k) := (hA.below qq hA.lt).cell 0
              have hA_1 : (x4.alloc (.cells #[.int .i64 xx.k, .int .i64 xx.n, .int .u64 xx.u, .string xx.s] 28)).cell? ⟨GA, 1, none⟩ = some (.int .i64 v.n) := (hA.below qq hA.lt).cell 1
              have hA_2 : (x4.alloc (.cells #[.int .i64 xx.k, .int .i64 xx.n, .int .u64 xx.u, .string xx.s] 28)).cell? ⟨GA, 2, none⟩ = some (.int .u64 v.u) := (hA.below qq hA.lt).cell 2
              have hA_3 : (x4.alloc (.cells #[.int .i64 xx.k, .int .i64 xx.n, .int .u64 xx.u, .string xx.s] 28)).cell? ⟨GA, 3, none⟩ = some (.string v.s) := (hA.below qq hA.lt).cell 3
              have hB_0 : (x4.alloc (.cells #[.int .i64 xx.k, .int .i64 xx.n, .int .u64 xx.u, .string xx.s] 28)).cell? ⟨wr.heap.size, 0, none⟩ = some (.int .i64 u.k) := hB.cell 0
              have hB_1 : (x4.alloc (.cells #[.int .i64 xx.k, .int .i64 xx.n, .int .u64 xx.u, .string xx.s] 28)).cell? ⟨wr.heap.size, 1, none⟩ = some (.int .i64 u.n) := hB.cell 1
              have hB_2 : (x4.alloc (.cells #[.int .i64 xx.k, .int .i64 xx.n, .int .u64 xx.u, .string xx.s] 28)).cell? ⟨wr.heap.size, 2, none⟩ = some (.int .u64 u.u) := hB.cell 2
              have hB_3 : (x4.alloc (.cells #[.int .i64 xx.k, .int .i64 xx.n, .int .u64 xx.u, .string xx.s] 28)).cell? ⟨wr.heap.size, 3, none⟩ = some (.string u.s) := hB.cell 3
              go_wp2_with fail
              clear hA_0 hA_1 hA_2 hA_3 hB_0 hB_1 hB_2 hB_3
              generalize (x4.alloc (.cells #[.int .i64 xx.k, .int .i64 xx.n, .int .u64 xx.u, .string xx.s] 28)) = x5 at *
              generalize x4.heap.size = Gx5 at *
              refine (H3.out _ (HT.out _ qq)).mono ?_
              rintro e x6 ⟨rfl, qx6⟩
              simp only [resT]
              replace hB := hB.ca qx6
              replace hM := hM.ca qx6
              replace hX := hX.ca qx6
              replace qq := bl_ca qq qx6
              clear qx6
              have lhY_hB := hB.lt
              replace hB := hB.alloc (.cells #[.int .i64 xx.k, .int .i64 xx.n, .int .u64 xx.u, .string xx.s] 28)
              have lhY_hM := hM.lt
              replace hM := hM.alloc (.cells #[.int .i64 xx.k, .int .i64 xx.n, .int .u64 xx.u, .string xx.s] 28)
              have lhY_hX := hX.lt
              replace hX := hX.alloc (.cells #[.int .i64 xx.k, .int .i64 xx.n, .int .u64 xx.u, .string xx.s] 28)
              have hY := Blk.new x6 28 #[.int .i64 xx.k, .int .i64 xx.n, .int .u64 xx.u, .string xx.s]
              have zhY_qq := qq.size
              replace qq := bl_al qq (.cells #[.int .i64 xx.k, .int .i64 xx.n, .int .u64 xx.u, .string xx.s] 28)
              have hM_0 : (x6.alloc (.cells #[.int .i64 xx.k, .int .i64 xx.n, .int .u64 xx.u, .string xx.s] 28)).cell? ⟨Gx3, 0, none⟩ = some (.int .i64 mm.k) := hM.cell 0
              have hM_1 : (x6.alloc (.cells #[.int .i64 xx.k, .int .i64 xx.n, .int .u64 xx.u, .string xx.s] 28)).cell? ⟨Gx3, 1, none⟩ = some (.int .i64 mm.n) := hM.cell 1
              have hM_2 : (x6.alloc (.cells #[.int .i64 xx.k, .int .i64 xx.n, .int .u64 xx.u, .string xx.s] 28)).cell? ⟨Gx3, 2, none⟩ = some (.int .u64 mm.u) := hM.cell 2
              have hM_3 : (x6.alloc (.cells #[.int .i64 xx.k, .int .i64 xx.n, .int .u64 xx.u, .string xx.s] 28)).cell? ⟨Gx3, 3, none⟩ = some (.string mm.s) := hM.cell 3
              have hN_0 : (x6.alloc (.cells #[.int .i64 xx.k, .int .i64 xx.n, .int .u64 xx.u, .string xx.s] 28)).cell? ⟨Gu3, 0, none⟩ = some (.int .i64 nn.k) := (hN.below qq hN.lt).cell 0
              have hN_1 : (x6.alloc (.cells #[.int .i64 xx.k, .int .i64 xx.n, .int .u64 xx.u, .string xx.s] 28)).cell? ⟨Gu3, 1, none⟩ = some (.int .i64 nn.n) := (hN.below qq hN.lt).cell 1
              have hN_2 : (x6.alloc (.cells #[.int .i64 xx.k, .int .i64 xx.n, .int .u64 xx.u, .string xx.s] 28)).cell? ⟨Gu3, 2, none⟩ = some (.int .u64 nn.u) := (hN.below qq hN.lt).cell 2
              have hN_3 : (x6.alloc (.cells #[.int .i64 xx.k, .int .i64 xx.n, .int .u64 xx.u, .string xx.s] 28)).cell? ⟨Gu3, 3, none⟩ = some (.string nn.s) := (hN.below qq hN.lt).cell 3
              go_wp2_with fail
              clear hM_0 hM_1 hM_2 hM_3 hN_0 hN_1 hN_2 hN_3
              generalize (x6.alloc (.cells #[.int .i64 xx.k, .int .i64 xx.n, .int .u64 xx.u, .string xx.s] 28)) = x7 at *
              generalize x6.heap.size = Gx7 at *
              refine (H4.out _ (HT.out _ qq)).mono ?_
              rintro e x8 ⟨rfl, qx8⟩
              simp only [resT]
              replace hB := hB.ca qx8
              replace hM := hM.ca qx8
              replace hX := hX.ca qx8
              replace hY := hY.ca qx8
              replace qq := bl_ca qq qx8
              clear qx8
              have lhZ_hB := hB.lt
              replace hB := hB.alloc (.cells #[.int .i64 uu.k, .int .i64 uu.n, .int .u64 uu.u, .string uu.s] 28)
              have lhZ_hM := hM.lt
              replace hM := hM.alloc (.cells #[.int .i64 uu.k, .int .i64 uu.n, .int .u64 uu.u, .string uu.s] 28)
              have lhZ_hX := hX.lt
              replace hX := hX.alloc (.cells #[.int .i64 uu.k, .int .i64 uu.n, .int .u64 uu.u, .string uu.s] 28)
              have lhZ_hY := hY.lt
              replace hY := hY.alloc (.cells #[.int .i64 uu.k, .int .i64 uu.n, .int .u64 uu.u, .string uu.s] 28)
              have hZ := Blk.new x8 28 #[.int .i64 uu.k, .int .i64 uu.n, .int .u64 uu.u, .string uu.s]
              have zhZ_qq := qq.size
              replace qq := bl_al qq (.cells #[.int .i64 uu.k, .int .i64 uu.n, .int .u64 uu.u, .string uu.s] 28)
              have hX_0 : (x8.alloc (.cells #[.int .i64 uu.k, .int .i64 uu.n, .int .u64 uu.u, .string uu.s] 28)).cell? ⟨Gx5, 0, none⟩ = some (.int .i64 xx.k) := hX.cell 0
              have hX_1 : (x8.alloc (.cells #[.int .i64 uu.k, .int .i64 uu.n, .int .u64 uu.u, .string uu.s] 28)).cell? ⟨Gx5, 1, none⟩ = some (.int .i64 xx.n) := hX.cell 1
              have hX_2 : (x8.alloc (.cells #[.int .i64 uu.k, .int .i64 uu.n, .int .u64 uu.u, .string uu.s] 28)).cell? ⟨Gx5, 2, none⟩ = some (.int .u64 xx.u) := hX.cell 2
              have hX_3 : (x8.alloc (.cells #[.int .i64 uu.k, .int .i64 uu.n, .int .u64 uu.u, .string uu.s] 28)).cell? ⟨Gx5, 3, none⟩ = some (.string xx.s) := hX.cell 3
              go_wp2_with fail
              clear hX_0 hX_1 hX_2 hX_3
              generalize (x8.alloc (.cells #[.int .i64 uu.k, .int .i64 uu.n, .int .u64 uu.u, .string uu.s] 28)) = x9 at *
              generalize x8.heap.size = Gx9 at *
              refine (H5.out _ (HT.out _ qq)).mono ?_
              rintro e x10 ⟨rfl, qx10⟩
              simp only [resT]
              replace hB := hB.ca qx10
              replace hM := hM.ca qx10
              replace hX := hX.ca qx10
              replace hY := hY.ca qx10
              replace hZ := hZ.ca qx10
              replace qq := bl_ca qq qx10
              clear qx10
              have lhU_hB := hB.lt
              replace hB := hB.alloc (.cells #[.int .i64 uu.k, .int .i64 uu.n, .int .u64 uu.u, .string uu.s] 28)
              have lhU_hM := hM.lt
              replace hM := hM.alloc (.cells #[.int .i64 uu.k, .int .i64 uu.n, .int .u64 uu.u, .string uu.s] 28)
              have lhU_hX := hX.lt
              replace hX := hX.alloc (.cells #[.int .i64 uu.k, .int .i64 uu.n, .int .u64 uu.u, .string uu.s] 28)
              have lhU_hY := hY.lt
              replace hY := hY.alloc (.cells #[.int .i64 uu.k, .int .i64 uu.n, .int .u64 uu.u, .string uu.s] 28)
              have lhU_hZ := hZ.lt
              replace hZ := hZ.alloc (.cells #[.int .i64 uu.k, .int .i64 uu.n, .int .u64 uu.u, .string uu.s] 28)
              have hU := Blk.new x10 28 #[.int .i64 uu.k, .int .i64 uu.n, .int .u64 uu.u, .string uu.s]
              have zhU_qq := qq.size
              replace qq := bl_al qq (.cells #[.int .i64 uu.k, .int .i64 uu.n, .int .u64 uu.u, .string uu.s] 28)
              go_wp2
              generalize (x10.alloc (.cells #[.int .i64 uu.k, .int .i64 uu.n, .int .u64 uu.u, .string uu.s] 28)) = x11 at *
              generalize x10.heap.size = Gx11 at *
              clear H1 H2 H3 H4 H5 hM
              cases hta : trueB v
              · have HTX := Lib.hid (show trueB xx = false from by rw [ET.out, hta]; rfl)
                have HX := Lib.hid (fun w => (HTX.out ▸ true_any xx w : Calls Tryd.prog 20 _ w fun e w' => e = .returned (.bool false) ∧ Below w.heap.size w w'))
                have HV := Lib.hid (fun w => (hta ▸ true_any v w : Calls Tryd.prog 20 _ w fun e w' => e = .returned (.bool false) ∧ Below w.heap.size w w'))
                clear hta HTX
                refine wp_region_lin (S := Grew x11) (by kernel_rfl) (Grew.start _) ?_
                refine Good.val (i := 0) (d := some 94) (v := ?v21_0_1) rfl rfl (by kernel_rfl) (by kernel_rfl) (by kernel_rfl) (by rfl) (fun w9 hS => ?h21_0_1) ?r21_0_1
                case h21_0_1 => go_simp; try rfl
                try simp only [Act.put, List.setIfInBounds_toArray, List.set_cons_zero, List.set_cons_succ]
                refine Good.val (i := 1) (d := some 95) (v := ?v21_1_2) rfl rfl (by kernel_rfl) (by kernel_rfl) (by kernel_rfl) (by rfl) (fun w9 hS => ?h21_1_2) ?r21_1_2
                case h21_1_2 => go_simp; try rfl
                try simp only [Act.put, List.setIfInBounds_toArray, List.set_cons_zero, List.set_cons_succ]
                refine Good.val (i := 2) (d := some 96) (v := ?v21_2_3) rfl rfl (by kernel_rfl) (by kernel_rfl) (by kernel_rfl) (by rfl) (fun w9 hS => ?h21_2_3) ?r21_2_3
                case h21_2_3 => go_simp; try rfl
                try simp only [Act.put, List.setIfInBounds_toArray, List.set_cons_zero, List.set_cons_succ]
                refine Good.val (i := 3) (d := some 97) (v := ?v21_3_4) rfl rfl (by kernel_rfl) (by kernel_rfl) (by kernel_rfl) (by rfl) (fun w9 hS => ?h21_3_4) ?r21_3_4
                case h21_3_4 => go_simp; try rfl
                try simp only [Act.put, List.setIfInBounds_toArray, List.set_cons_zero, List.set_cons_succ]
                refine Good.val (i := 4) (d := some 98) (v := ?v21_4_5) rfl rfl (by kernel_rfl) (by kernel_rfl) (by kernel_rfl) (by rfl) (fun w9 hS => ?h21_4_5) ?r21_4_5
                case h21_4_5 => go_simp; try rfl
                try simp only [Act.put, List.setIfInBounds_toArray, List.set_cons_zero, List.set_cons_succ]
                refine Good.val (i := 5) (d := some 99) (v := ?v21_5_6) rfl rfl (by kernel_rfl) (by kernel_rfl) (by kernel_rfl) (by rfl) (fun w9 hS => ?h21_5_6) ?r21_5_6
                case h21_5_6 => go_simp; try rfl
                try simp only [Act.put, List.setIfInBounds_toArray, List.set_cons_zero, List.set_cons_succ]
                refine Good.val (i := 6) (d := some 100) (v := ?v21_6_7) rfl rfl (by kernel_rfl) (by kernel_rfl) (by kernel_rfl) (by rfl) (fun w9 hS => ?h21_6_7) ?r21_6_7
                case h21_6_7 => go_simp; try rfl
                try simp only [Act.put, List.setIfInBounds_toArray, List.set_cons_zero, List.set_cons_succ]
                refine Good.val (i := 7) (d := some 101) (v := ?v21_7_8) rfl rfl (by kernel_rfl) (by kernel_rfl) (by kernel_rfl) (by rfl) (fun w9 hS => ?h21_7_8) ?r21_7_8
                case h21_7_8 => go_simp; try rfl
                try simp only [Act.put, List.setIfInBounds_toArray, List.set_cons_zero, List.set_cons_succ]
                refine Good.val (i := 8) (d := some 102) (v := ?v21_8_9) rfl rfl (by kernel_rfl) (by kernel_rfl) (by kernel_rfl) (by rfl) (fun w9 hS => ?h21_8_9) ?r21_8_9
                case h21_8_9 => go_simp; try rfl
                try simp only [Act.put, List.setIfInBounds_toArray, List.set_cons_zero, List.set_cons_succ]
                refine Good.val (i := 9) (d := some 103) (v := ?v21_9_10) rfl rfl (by kernel_rfl) (by kernel_rfl) (by kernel_rfl) (by rfl) (fun w9 hS => ?h21_9_10) ?r21_9_10
                case h21_9_10 => go_simp; try rfl
                try simp only [Act.put, List.setIfInBounds_toArray, List.set_cons_zero, List.set_cons_succ]
                refine Good.val (i := 10) (d := some 104) (v := ?v21_10_11) rfl rfl (by kernel_rfl) (by kernel_rfl) (by kernel_rfl) (by rfl) (fun w9 hS => ?h21_10_11) ?r21_10_11
                case h21_10_11 => go_simp; try rfl
                try simp only [Act.put, List.setIfInBounds_toArray, List.set_cons_zero, List.set_cons_succ]
                refine Good.val (i := 11) (d := some 105) (v := ?v21_11_12) rfl rfl (by kernel_rfl) (by kernel_rfl) (by kernel_rfl) (by rfl) (fun w9 hS => ?h21_11_12) ?r21_11_12
                case h21_11_12 => go_simp; try rfl
                try simp only [Act.put, List.setIfInBounds_toArray, List.set_cons_zero, List.set_cons_succ]
                refine Good.val (i := 12) (d := some 106) (v := ?v21_12_13) rfl rfl (by kernel_rfl) (by kernel_rfl) (by kernel_rfl) (by rfl) (fun w9 hS => ?h21_12_13) ?r21_12_13
                case h21_12_13 => go_simp; try rfl
                try simp only [Act.put, List.setIfInBounds_toArray, List.set_cons_zero, List.set_cons_succ]
                refine Good.val (i := 13) (d := some 107) (v := ?v21_13_14) rfl rfl (by kernel_rfl) (by kernel_rfl) (by kernel_rfl) (by rfl) (fun w9 hS => ?h21_13_14) ?r21_13_14
                case h21_13_14 => go_simp; try rfl
                try simp only [Act.put, List.setIfInBounds_toArray, List.set_cons_zero, List.set_cons_succ]
                refine Good.val (i := 14) (d := some 108) (v := ?v21_14_15) rfl rfl (by kernel_rfl) (by kernel_rfl) (by kernel_rfl) (by rfl) (fun w9 hS => ?h21_14_15) ?r21_14_15
                case h21_14_15 => go_simp; try rfl
                try simp only [Act.put, List.setIfInBounds_toArray, List.set_cons_zero, List.set_cons_succ]
                refine Good.val (i := 15) (d := some 109) (v := ?v21_15_16) rfl rfl (by kernel_rfl) (by kernel_rfl) (by kernel_rfl) (by rfl) (fun w9 hS => ?h21_15_16) ?r21_15_16
                case h21_15_16 =>
                  have hb9 := (Blk.below hX hS hX.lt)
                  have b9_0 : w9.cell? ⟨Gx5, 0, none⟩ = some (.int .i64 xx.k) := hb9.cell 0
                  have b9_1 : w9.cell? ⟨Gx5, 1, none⟩ = some (.int .i64 xx.n) := hb9.cell 1
                  have b9_2 : w9.cell? ⟨Gx5, 2, none⟩ = some (.int .u64 xx.u) := hb9.cell 2
                  have b9_3 : w9.cell? ⟨Gx5, 3, none⟩ = some (.string xx.s) := hb9.cell 3
                  go_simp
                  try rfl
                try simp only [Act.put, List.setIfInBounds_toArray, List.set_cons_zero, List.set_cons_succ]
                refine Good.val (i := 16) (d := some 110) (v := ?v21_16_17) rfl rfl (by kernel_rfl) (by kernel_rfl) (by kernel_rfl) (by rfl) (fun w9 hS => ?h21_16_17) ?r21_16_17
                case h21_16_17 =>
                  have hb9 := (Blk.below hY hS hY.lt)
                  have b9_0 : w9.cell? ⟨Gx7, 0, none⟩ = some (.int .i64 xx.k) := hb9.cell 0
                  have b9_1 : w9.cell? ⟨Gx7, 1, none⟩ = some (.int .i64 xx.n) := hb9.cell 1
                  have b9_2 : w9.cell? ⟨Gx7, 2, none⟩ = some (.int .u64 xx.u) := hb9.cell 2
                  have b9_3 : w9.cell? ⟨Gx7, 3, none⟩ = some (.string xx.s) := hb9.cell 3
                  go_simp
                  try rfl
                try simp only [Act.put, List.setIfInBounds_toArray, List.set_cons_zero, List.set_cons_succ]
                refine Good.val (i := 17) (d := some 111) (v := ?v21_17_18) rfl rfl (by kernel_rfl) (by kernel_rfl) (by kernel_rfl) (by rfl) (fun w9 hS => ?h21_17_18) ?r21_17_18
                case h21_17_18 => go_simp; try rfl
                try simp only [Act.put, List.setIfInBounds_toArray, List.set_cons_zero, List.set_cons_succ]
                refine Good.val (i := 18) (d := some 112) (v := ?v21_18_19) rfl rfl (by kernel_rfl) (by kernel_rfl) (by kernel_rfl) (by rfl) (fun w9 hS => ?h21_18_19) ?r21_18_19
                case h21_18_19 => go_simp; try rfl
                try simp only [Act.put, List.setIfInBounds_toArray, List.set_cons_zero, List.set_cons_succ]
                refine Good.val (i := 19) (d := some 113) (v := ?v21_19_20) rfl rfl (by kernel_rfl) (by kernel_rfl) (by kernel_rfl) (by rfl) (fun w9 hS => ?h21_19_20) ?r21_19_20
                case h21_19_20 => go_simp; try rfl
                try simp only [Act.put, List.setIfInBounds_toArray, List.set_cons_zero, List.set_cons_succ]
                refine Good.val (i := 20) (d := some 114) (v := ?v21_20_21) rfl rfl (by kernel_rfl) (by kernel_rfl) (by kernel_rfl) (by rfl) (fun w9 hS => ?h21_20_21) ?r21_20_21
                case h21_20_21 =>
                  have hb9 := (Blk.below hZ hS hZ.lt)
                  have b9_0 : w9.cell? ⟨Gx9, 0, none⟩ = some (.int .i64 uu.k) := hb9.cell 0
                  have b9_1 : w9.cell? ⟨Gx9, 1, none⟩ = some (.int .i64 uu.n) := hb9.cell 1
                  have b9_2 : w9.cell? ⟨Gx9, 2, none⟩ = some (.int .u64 uu.u) := hb9.cell 2
                  have b9_3 : w9.cell? ⟨Gx9, 3, none⟩ = some (.string uu.s) := hb9.cell 3
                  go_simp
                  try rfl
                try simp only [Act.put, List.setIfInBounds_toArray, List.set_cons_zero, List.set_cons_succ]
                refine Good.val (i := 21) (d := some 115) (v := ?v21_21_22) rfl rfl (by kernel_rfl) (by kernel_rfl) (by kernel_rfl) (by rfl) (fun w9 hS => ?h21_21_22) ?r21_21_22
                case h21_21_22 =>
                  have hb9 := (Blk.below hU hS hU.lt)
                  have b9_0 : w9.cell? ⟨Gx11, 0, none⟩ = some (.int .i64 uu.k) := hb9.cell 0
                  have b9_1 : w9.cell? ⟨Gx11, 1, none⟩ = some (.int .i64 uu.n) := hb9.cell 1
                  have b9_2 : w9.cell? ⟨Gx11, 2, none⟩ = some (.int .u64 uu.u) := hb9.cell 2
                  have b9_3 : w9.cell? ⟨Gx11, 3, none⟩ = some (.string uu.s) := hb9.cell 3
                  go_simp
                  try rfl
                try simp only [Act.put, List.setIfInBounds_toArray, List.set_cons_zero, List.set_cons_succ]
                refine Good.val (i := 22) (d := some 116) (v := ?v21_22_23) rfl rfl (by kernel_rfl) (by kernel_rfl) (by kernel_rfl) (by rfl) (fun w9 hS => ?h21_22_23) ?r21_22_23
                case h21_22_23 => go_simp; try rfl
                try simp only [Act.put, List.setIfInBounds_toArray, List.set_cons_zero, List.set_cons_succ]
                refine Good.val (i := 23) (d := some 117) (v := ?v21_23_24) rfl rfl (by kernel_rfl) (by kernel_rfl) (by kernel_rfl) (by rfl) (fun w9 hS => ?h21_23_24) ?r21_23_24
                case h21_23_24 => go_simp; try rfl
                try simp only [Act.put, List.setIfInBounds_toArray, List.set_cons_zero, List.set_cons_succ]
                refine Good.val (i := 24) (d := some 118) (v := ?v21_24_25) rfl rfl (by kernel_rfl) (by kernel_rfl) (by kernel_rfl) (by rfl) (fun w9 hS => ?h21_24_25) ?r21_24_25
                case h21_24_25 => go_simp; try rfl
                try simp only [Act.put, List.setIfInBounds_toArray, List.set_cons_zero, List.set_cons_succ]
                refine Good.val (i := 25) (d := some 119) (v := ?v21_25_26) rfl rfl (by kernel_rfl) (by kernel_rfl) (by kernel_rfl) (by rfl) (fun w9 hS => ?h21_25_26) ?r21_25_26
                case h21_25_26 =>
                  have hb9 := (Blk.below hX hS hX.lt)
                  have b9_0 : w9.cell? ⟨Gx5, 0, none⟩ = some (.int .i64 xx.k) := hb9.cell 0
                  have b9_1 : w9.cell? ⟨Gx5, 1, none⟩ = some (.int .i64 xx.n) := hb9.cell 1
                  have b9_2 : w9.cell? ⟨Gx5, 2, none⟩ = some (.int .u64 xx.u) := hb9.cell 2
                  have b9_3 : w9.cell? ⟨Gx5, 3, none⟩ = some (.string xx.s) := hb9.cell 3
                  go_simp
                  try rfl
                try simp only [Act.put, List.setIfInBounds_toArray, List.set_cons_zero, List.set_cons_succ]
                refine Good.call (i := 26) (d := some 120) (fn := ?f21_26_27) (args := ?a21_26_27) (v := ?v21_26_27) rfl rfl (by kernel_rfl) (by kernel_rfl) (by kernel_rfl) (by rfl) (fun w9 hS => ?h21_26_27) (Grew.call fun w9 qS => ?c21_26_27) ?r21_26_27
                case h21_26_27 => go_simp; refine ⟨?_, ?_⟩ <;> rfl
                case c21_26_27 => exact HX.out _
                try simp only [Act.put, List.setIfInBounds_toArray, List.set_cons_zero, List.set_cons_succ]
                refine Good.val (i := 27) (d := some 121) (v := ?v21_27_28) rfl rfl (by kernel_rfl) (by kernel_rfl) (by kernel_rfl) (by rfl) (fun w9 hS => ?h21_27_28) ?r21_27_28
                case h21_27_28 =>
                  have hb9 := (Blk.below hA (bl_ca qq hS) hA.lt)
                  have b9_0 : w9.cell? ⟨GA, 0, none⟩ = some (.int .i64 v.k) := hb9.cell 0
                  have b9_1 : w9.cell? ⟨GA, 1, none⟩ = some (.int .i64 v.n) := hb9.cell 1
                  have b9_2 : w9.cell? ⟨GA, 2, none⟩ = some (.int .u64 v.u) := hb9.cell 2
                  have b9_3 : w9.cell? ⟨GA, 3, none⟩ = some (.string v.s) := hb9.cell 3
                  go_simp
                  try rfl
                try simp only [Act.put, List.setIfInBounds_toArray, List.set_cons_zero, List.set_cons_succ]
                refine Good.call (i := 28) (d := some 122) (fn := ?f21_28_29) (args := ?a21_28_29) (v := ?v21_28_29) rfl rfl (by kernel_rfl) (by kernel_rfl) (by kernel_rfl) (by rfl) (fun w9 hS => ?h21_28_29) (Grew.call fun w9 qS => ?c21_28_29) ?r21_28_29
                case h21_28_29 => go_simp; refine ⟨?_, ?_⟩ <;> rfl
                case c21_28_29 => exact HV.out _
                try simp only [Act.put, List.setIfInBounds_toArray, List.set_cons_zero, List.set_cons_succ]
                refine Good.val (i := 29) (d := some 123) (v := ?v21_29_30) rfl rfl (by kernel_rfl) (by kernel_rfl) (by kernel_rfl) (by rfl) (fun w9 hS => ?h21_29_30) ?r21_29_30
                case h21_29_30 => go_simp; try rfl
                try simp only [Act.put, List.setIfInBounds_toArray, List.set_cons_zero, List.set_cons_succ]
                refine Good.skip (i := 30) (d := some 124) rfl rfl (by kernel_rfl) (by kernel_rfl) (by kernel_rfl) (by rfl) ?_
                try simp only [Act.put, List.setIfInBounds_toArray, List.set_cons_zero, List.set_cons_succ]
                refine Good.skip (i := 31) (d := some 125) rfl rfl (by kernel_rfl) (by kernel_rfl) (by kernel_rfl) (by rfl) ?_
                try simp only [Act.put, List.setIfInBounds_toArray, List.set_cons_zero, List.set_cons_succ]
                refine Good.val (i := 32) (d := some 126) (v := ?v21_32_33) rfl rfl (by kernel_rfl) (by kernel_rfl) (by kernel_rfl) (by rfl) (fun w9 hS => ?h21_32_33) ?r21_32_33
                case h21_32_33 => go_simp; try rfl
                try simp only [Act.put, List.setIfInBounds_toArray, List.set_cons_zero, List.set_cons_succ]
                refine Good.val (i := 33) (d := some 127) (v := ?v21_33_34) rfl rfl (by kernel_rfl) (by kernel_rfl) (by kernel_rfl) (by rfl) (fun w9 hS => ?h21_33_34) ?r21_33_34
                case h21_33_34 => go_simp; try rfl
                try simp only [Act.put, List.setIfInBounds_toArray, List.set_cons_zero, List.set_cons_succ]
                refine Good.val (i := 34) (d := some 128) (v := ?v21_34_35) rfl rfl (by kernel_rfl) (by kernel_rfl) (by kernel_rfl) (by rfl) (fun w9 hS => ?h21_34_35) ?r21_34_35
                case h21_34_35 => go_simp; try rfl
                try simp only [Act.put, List.setIfInBounds_toArray, List.set_cons_zero, List.set_cons_succ]
                refine Good.done (by kernel_rfl) (fun x12 qx12 => ?_) _
                replace hB := hB.ca qx12
                replace hX := hX.ca qx12
                replace hY := hY.ca qx12
                replace hZ := hZ.ca qx12
                replace hU := hU.ca qx12
                replace qq := bl_ca qq qx12
                clear qx12
                clear HX HV
                go_wp2
                replace hv := hv.below qq
                replace hT := hT.below qq
                replace hA := hA.below qq hA.lt
                replace hN := hN.below qq hN.lt
                replace bb := bl_ca bb qq
                clear HT qq hY hZ hU
                obtain ⟨g2, rfl⟩ : ∃ g2, g2 = gk := ⟨_, rfl⟩
                obtain ⟨wp, rfl⟩ : ∃ wp : World, wp = wr := ⟨_, rfl⟩
                generalize wp.heap.size = GB at *
                go_loopg [131] n' (fun g s wr => ∃ (j : Nat), j + g ≤ n' ∧ n' ≤ j + g ∧ s = .int .i64 j ∧ RdV wr (some ad) n' xs ∧ Tab wr ∧ Blk wr GA 28 #[.int .i64 v.k, .int .i64 v.n, .int .u64 v.u, .string v.s] ∧ Blk wr Gu3 28 #[.int .i64 nn.k, .int .i64 nn.n, .int .u64 nn.u, .string nn.s] ∧ Blk wr GB 28 #[.int .i64 u.k, .int .i64 u.n, .int .u64 u.u, .string u.s] ∧ Blk wr Gx5 28 #[.int .i64 xx.k, .int .i64 xx.n, .int .u64 xx.u, .string xx.s] ∧ Below w.heap.size w wr)
                case atStart => exact ⟨0, by omega, by omega, rfl, hv, hT, hA, hN, hB, hX, bb⟩
                case round =>
                  clear hv hA hN bb hT hB hX
                  obtain ⟨j, hj1, hj2, rfl, hv, hT, hA, hN, hB, hX, bb⟩ := hrel
                  by_cases hj : j < n'
                  · obtain ⟨ad3, t, hA3, hti, hal, c0, c1, c2, c3⟩ := hv.2 j hj
                    injection hA3 with hA3
                    subst hA3
                    clear hti
                    have qq := Below.refl wr.heap.size wr
                    have HT := Lib.hid (fun w' (q : Below wr.heap.size wr w') => (hT.below q).1)
                    by_cases hc : kindE [t] = 0
                    · obtain ⟨pp, zz, e1, e2, e3⟩ := andV_assoc TA.out TB.out EX.out (tv_kind hc)
                      have H1 := Lib.hid (fun w h => (e1 ▸ and_any xx t w h : Calls Tryd.prog 30 _ w fun e w' => e = .returned (resT (pp, 0)) ∧ Below w.heap.size w w'))
                      have H2 := Lib.hid (fun w h => (e2 ▸ and_any u t w h : Calls Tryd.prog 30 _ w fun e w' => e = .returned (resT (zz, 0)) ∧ Below w.heap.size w w'))
                      have H3 := Lib.hid (fun w h => (e3 ▸ and_any v zz w h : Calls Tryd.prog 30 _ w fun e w' => e = .returned (resT (pp, 0)) ∧ Below w.heap.size w w'))
                      clear e1 e2 e3 hc
                      have hC := Blk.new wr 28 #[.int .i64 t.k, .int .i64 t.n, .int .u64 t.u, .string t.s]
                      have zhC_qq := qq.size
                      replace qq := bl_al qq (.cells #[.int .i64 t.k, .int .i64 t.n, .int .u64 t.u, .string t.s] 28)
                      have hX_0 : (wr.alloc (.cells #[.int .i64 t.k, .int .i64 t.n, .int .u64 t.u, .string t.s] 28)).cell? ⟨Gx5, 0, none⟩ = some (.int .i64 xx.k) := (hX.below qq hX.lt).cell 0
                      have hX_1 : (wr.alloc (.cells #[.int .i64 t.k, .int .i64 t.n, .int .u64 t.u, .string t.s] 28)).cell? ⟨Gx5, 1, none⟩ = some (.int .i64 xx.n) := (hX.below qq hX.lt).cell 1
                      have hX_2 : (wr.alloc (.cells #[.int .i64 t.k, .int .i64 t.n, .int .u64 t.u, .string t.s] 28)).cell? ⟨Gx5, 2, none⟩ = some (.int .u64 xx.u) := (hX.below qq hX.lt).cell 2
                      have hX_3 : (wr.alloc (.cells #[.int .i64 t.k, .int .i64 t.n, .int .u64 t.u, .string t.s] 28)).cell? ⟨Gx5, 3, none⟩ = some (.string xx.s) := (hX.below qq hX.lt).cell 3
                      go_wp2_with fail
                      clear c0 c1 c2 c3 hal hX_0 hX_1 hX_2 hX_3
                      generalize (wr.alloc (.cells #[.int .i64 t.k, .int .i64 t.n, .int .u64 t.u, .string t.s] 28)) = y1 at *
                      refine (H1.out _ (HT.out _ qq)).mono ?_
                      rintro e y2 ⟨rfl, qy2⟩
                      simp only [resT]
                      replace hC := hC.ca qy2
                      replace qq := bl_ca qq qy2
                      clear qy2
                      have lhP_hC := hC.lt
                      replace hC := hC.alloc (.cells #[.int .i64 pp.k, .int .i64 pp.n, .int .u64 pp.u, .string pp.s] 28)
                      have hP := Blk.new y2 28 #[.int .i64 pp.k, .int .i64 pp.n, .int .u64 pp.u, .string pp.s]
                      have zhP_qq := qq.size
                      replace qq := bl_al qq (.cells #[.int .i64 pp.k, .int .i64 pp.n, .int .u64 pp.u, .string pp.s] 28)
                      have hB_0 : (y2.alloc (.cells #[.int .i64 pp.k, .int .i64 pp.n, .int .u64 pp.u, .string pp.s] 28)).cell? ⟨GB, 0, none⟩ = some (.int .i64 u.k) := (hB.below qq hB.lt).cell 0
                      have hB_1 : (y2.alloc (.cells #[.int .i64 pp.k, .int .i64 pp.n, .int .u64 pp.u, .string pp.s] 28)).cell? ⟨GB, 1, none⟩ = some (.int .i64 u.n) := (hB.below qq hB.lt).cell 1
                      have hB_2 : (y2.alloc (.cells #[.int .i64 pp.k, .int .i64 pp.n, .int .u64 pp.u, .string pp.s] 28)).cell? ⟨GB, 2, none⟩ = some (.int .u64 u.u) := (hB.below qq hB.lt).cell 2
                      have hB_3 : (y2.alloc (.cells #[.int .i64 pp.k, .int .i64 pp.n, .int .u64 pp.u, .string pp.s] 28)).cell? ⟨GB, 3, none⟩ = some (.string u.s) := (hB.below qq hB.lt).cell 3
                      have hC_0 : (y2.alloc (.cells #[.int .i64 pp.k, .int .i64 pp.n, .int .u64 pp.u, .string pp.s] 28)).cell? ⟨wr.heap.size, 0, none⟩ = some (.int .i64 t.k) := hC.cell 0
                      have hC_1 : (y2.alloc (.cells #[.int .i64 pp.k, .int .i64 pp.n, .int .u64 pp.u, .string pp.s] 28)).cell? ⟨wr.heap.size, 1, none⟩ = some (.int .i64 t.n) := hC.cell 1
                      have hC_2 : (y2.alloc (.cells #[.int .i64 pp.k, .int .i64 pp.n, .int .u64 pp.u, .string pp.s] 28)).cell? ⟨wr.heap.size, 2, none⟩ = some (.int .u64 t.u) := hC.cell 2
                      have hC_3 : (y2.alloc (.cells #[.int .i64 pp.k, .int .i64 pp.n, .int .u64 pp.u, .string pp.s] 28)).cell? ⟨wr.heap.size, 3, none⟩ = some (.string t.s) := hC.cell 3
                      go_wp2_with fail
                      clear hB_0 hB_1 hB_2 hB_3 hC_0 hC_1 hC_2 hC_3
                      generalize (y2.alloc (.cells #[.int .i64 pp.k, .int .i64 pp.n, .int .u64 pp.u, .string pp.s] 28)) = y3 at *
                      generalize y2.heap.size = Gy3 at *
                      refine (H2.out _ (HT.out _ qq)).mono ?_
                      rintro e y4 ⟨rfl, qy4⟩
                      simp only [resT]
                      replace hC := hC.ca qy4
                      replace hP := hP.ca qy4
                      replace qq := bl_ca qq qy4
                      clear qy4
                      have lhQ_hC := hC.lt
                      replace hC := hC.alloc (.cells #[.int .i64 zz.k, .int .i64 zz.n, .int .u64 zz.u, .string zz.s] 28)
                      have lhQ_hP := hP.lt
                      replace hP := hP.alloc (.cells #[.int .i64 zz.k, .int .i64 zz.n, .int .u64 zz.u, .string zz.s] 28)
                      have hQ := Blk.new y4 28 #[.int .i64 zz.k, .int .i64 zz.n, .int .u64 zz.u, .string zz.s]
                      have zhQ_qq := qq.size
                      replace qq := bl_al qq (.cells #[.int .i64 zz.k, .int .i64 zz.n, .int .u64 zz.u, .string zz.s] 28)
                      have hA_0 : (y4.alloc (.cells #[.int .i64 zz.k, .int .i64 zz.n, .int .u64 zz.u, .string zz.s] 28)).cell? ⟨GA, 0, none⟩ = some (.int .i64 v.k) := (hA.below qq hA.lt).cell 0
                      have hA_1 : (y4.alloc (.cells #[.int .i64 zz.k, .int .i64 zz.n, .int .u64 zz.u, .string zz.s] 28)).cell? ⟨GA, 1, none⟩ = some (.int .i64 v.n) := (hA.below qq hA.lt).cell 1
                      have hA_2 : (y4.alloc (.cells #[.int .i64 zz.k, .int .i64 zz.n, .int .u64 zz.u, .string zz.s] 28)).cell? ⟨GA, 2, none⟩ = some (.int .u64 v.u) := (hA.below qq hA.lt).cell 2
                      have hA_3 : (y4.alloc (.cells #[.int .i64 zz.k, .int .i64 zz.n, .int .u64 zz.u, .string zz.s] 28)).cell? ⟨GA, 3, none⟩ = some (.string v.s) := (hA.below qq hA.lt).cell 3
                      go_wp2_with fail
                      clear hA_0 hA_1 hA_2 hA_3
                      generalize (y4.alloc (.cells #[.int .i64 zz.k, .int .i64 zz.n, .int .u64 zz.u, .string zz.s] 28)) = y5 at *
                      generalize y4.heap.size = Gy5 at *
                      refine (H3.out _ (HT.out _ qq)).mono ?_
                      rintro e y6 ⟨rfl, qy6⟩
                      simp only [resT]
                      replace hC := hC.ca qy6
                      replace hP := hP.ca qy6
                      replace hQ := hQ.ca qy6
                      replace qq := bl_ca qq qy6
                      clear qy6
                      have lhO_hC := hC.lt
                      replace hC := hC.alloc (.cells #[.int .i64 pp.k, .int .i64 pp.n, .int .u64 pp.u, .string pp.s] 28)
                      have lhO_hP := hP.lt
                      replace hP := hP.alloc (.cells #[.int .i64 pp.k, .int .i64 pp.n, .int .u64 pp.u, .string pp.s] 28)
                      have lhO_hQ := hQ.lt
                      replace hQ := hQ.alloc (.cells #[.int .i64 pp.k, .int .i64 pp.n, .int .u64 pp.u, .string pp.s] 28)
                      have hO := Blk.new y6 28 #[.int .i64 pp.k, .int .i64 pp.n, .int .u64 pp.u, .string pp.s]
                      have zhO_qq := qq.size
                      replace qq := bl_al qq (.cells #[.int .i64 pp.k, .int .i64 pp.n, .int .u64 pp.u, .string pp.s] 28)
                      have hP_0 : (y6.alloc (.cells #[.int .i64 pp.k, .int .i64 pp.n, .int .u64 pp.u, .string pp.s] 28)).cell? ⟨Gy3, 0, none⟩ = some (.int .i64 pp.k) := hP.cell 0
                      have hP_1 : (y6.alloc (.cells #[.int .i64 pp.k, .int .i64 pp.n, .int .u64 pp.u, .string pp.s] 28)).cell? ⟨Gy3, 1, none⟩ = some (.int .i64 pp.n) := hP.cell 1
                      have hP_2 : (y6.alloc (.cells #[.int .i64 pp.k, .int .i64 pp.n, .int .u64 pp.u, .string pp.s] 28)).cell? ⟨Gy3, 2, none⟩ = some (.int .u64 pp.u) := hP.cell 2
                      have hP_3 : (y6.alloc (.cells #[.int .i64 pp.k, .int .i64 pp.n, .int .u64 pp.u, .string pp.s] 28)).cell? ⟨Gy3, 3, none⟩ = some (.string pp.s) := hP.cell 3
                      go_wp2
                      clear hP_0 hP_1 hP_2 hP_3
                      generalize (y6.alloc (.cells #[.int .i64 pp.k, .int .i64 pp.n, .int .u64 pp.u, .string pp.s] 28)) = y7 at *
                      generalize y6.heap.size = Gy7 at *
                      go_roundg (gk - 1)
                      · exact ⟨j + 1, by omega, by omega, by go_num, hv.below qq, hT.below qq, hA.below qq hA.lt, hN.below qq hN.lt, hB.below qq hB.lt, hX.below qq hX.lt, bl_ca bb qq⟩
                      · omega
                    · have H1 := Lib.hid (fun w h => (andV_err TX.out hc ▸ and_any xx t w h : Calls Tryd.prog 30 _ w fun e w' => e = .returned (resT (V0, kindE [t])) ∧ Below w.heap.size w w'))
                      have H2 := Lib.hid (fun w h => (andV_err TB.out hc ▸ and_any u t w h : Calls Tryd.prog 30 _ w fun e w' => e = .returned (resT (V0, kindE [t])) ∧ Below w.heap.size w w'))
                      have hc0 : (kindE [t] != 0) = true := ibne_t hc
                      generalize kindE [t] = ee at *
                      clear hc
                      have hC := Blk.new wr 28 #[.int .i64 t.k, .int .i64 t.n, .int .u64 t.u, .string t.s]
                      have zhC_qq := qq.size
                      replace qq := bl_al qq (.cells #[.int .i64 t.k, .int .i64 t.n, .int .u64 t.u, .string t.s] 28)
                      have hX_0 : (wr.alloc (.cells #[.int .i64 t.k, .int .i64 t.n, .int .u64 t.u, .string t.s] 28)).cell? ⟨Gx5, 0, none⟩ = some (.int .i64 xx.k) := (hX.below qq hX.lt).cell 0
                      have hX_1 : (wr.alloc (.cells #[.int .i64 t.k, .int .i64 t.n, .int .u64 t.u, .string t.s] 28)).cell? ⟨Gx5, 1, none⟩ = some (.int .i64 xx.n) := (hX.below qq hX.lt).cell 1
                      have hX_2 : (wr.alloc (.cells #[.int .i64 t.k, .int .i64 t.n, .int .u64 t.u, .string t.s] 28)).cell? ⟨Gx5, 2, none⟩ = some (.int .u64 xx.u) := (hX.below qq hX.lt).cell 2
                      have hX_3 : (wr.alloc (.cells #[.int .i64 t.k, .int .i64 t.n, .int .u64 t.u, .string t.s] 28)).cell? ⟨Gx5, 3, none⟩ = some (.string xx.s) := (hX.below qq hX.lt).cell 3
                      go_wp2_with fail
                      clear c0 c1 c2 c3 hal hX_0 hX_1 hX_2 hX_3
                      generalize (wr.alloc (.cells #[.int .i64 t.k, .int .i64 t.n, .int .u64 t.u, .string t.s] 28)) = y1 at *
                      refine (H1.out _ (HT.out _ qq)).mono ?_
                      rintro e y2 ⟨rfl, qy2⟩
                      simp only [resT]
                      replace hC := hC.ca qy2
                      replace qq := bl_ca qq qy2
                      clear qy2
                      have lhP_hC := hC.lt
                      replace hC := hC.alloc (.cells #[.int .i64 V0.k, .int .i64 V0.n, .int .u64 V0.u, .string V0.s] 28)
                      have hP := Blk.new y2 28 #[.int .i64 V0.k, .int .i64 V0.n, .int .u64 V0.u, .string V0.s]
                      have zhP_qq := qq.size
                      replace qq := bl_al qq (.cells #[.int .i64 V0.k, .int .i64 V0.n, .int .u64 V0.u, .string V0.s] 28)
                      have hB_0 : (y2.alloc (.cells #[.int .i64 V0.k, .int .i64 V0.n, .int .u64 V0.u, .string V0.s] 28)).cell? ⟨GB, 0, none⟩ = some (.int .i64 u.k) := (hB.below qq hB.lt).cell 0
                      have hB_1 : (y2.alloc (.cells #[.int .i64 V0.k, .int .i64 V0.n, .int .u64 V0.u, .string V0.s] 28)).cell? ⟨GB, 1, none⟩ = some (.int .i64 u.n) := (hB.below qq hB.lt).cell 1
                      have hB_2 : (y2.alloc (.cells #[.int .i64 V0.k, .int .i64 V0.n, .int .u64 V0.u, .string V0.s] 28)).cell? ⟨GB, 2, none⟩ = some (.int .u64 u.u) := (hB.below qq hB.lt).cell 2
                      have hB_3 : (y2.alloc (.cells #[.int .i64 V0.k, .int .i64 V0.n, .int .u64 V0.u, .string V0.s] 28)).cell? ⟨GB, 3, none⟩ = some (.string u.s) := (hB.below qq hB.lt).cell 3
                      have hC_0 : (y2.alloc (.cells #[.int .i64 V0.k, .int .i64 V0.n, .int .u64 V0.u, .string V0.s] 28)).cell? ⟨wr.heap.size, 0, none⟩ = some (.int .i64 t.k) := hC.cell 0
                      have hC_1 : (y2.alloc (.cells #[.int .i64 V0.k, .int .i64 V0.n, .int .u64 V0.u, .string V0.s] 28)).cell? ⟨wr.heap.size, 1, none⟩ = some (.int .i64 t.n) := hC.cell 1
                      have hC_2 : (y2.alloc (.cells #[.int .i64 V0.k, .int .i64 V0.n, .int .u64 V0.u, .string V0.s] 28)).cell? ⟨wr.heap.size, 2, none⟩ = some (.int .u64 t.u) := hC.cell 2
                      have hC_3 : (y2.alloc (.cells #[.int .i64 V0.k, .int .i64 V0.n, .int .u64 V0.u, .string V0.s] 28)).cell? ⟨wr.heap.size, 3, none⟩ = some (.string t.s) := hC.cell 3
                      go_wp2_with fail
                      clear hB_0 hB_1 hB_2 hB_3 hC_0 hC_1 hC_2 hC_3
                      generalize (y2.alloc (.cells #[.int .i64 V0.k, .int .i64 V0.n, .int .u64 V0.u, .string V0.s] 28)) = y3 at *
                      generalize y2.heap.size = Gy3 at *
                      refine (H2.out _ (HT.out _ qq)).mono ?_
                      rintro e y4 ⟨rfl, qy4⟩
                      simp only [resT]
                      replace hC := hC.ca qy4
                      replace hP := hP.ca qy4
                      replace qq := bl_ca qq qy4
                      clear qy4
                      have lhQ_hC := hC.lt
                      replace hC := hC.alloc (.cells #[.int .i64 V0.k, .int .i64 V0.n, .int .u64 V0.u, .string V0.s] 28)
                      have lhQ_hP := hP.lt
                      replace hP := hP.alloc (.cells #[.int .i64 V0.k, .int .i64 V0.n, .int .u64 V0.u, .string V0.s] 28)
                      have hQ := Blk.new y4 28 #[.int .i64 V0.k, .int .i64 V0.n, .int .u64 V0.u, .string V0.s]
                      have zhQ_qq := qq.size
                      replace qq := bl_al qq (.cells #[.int .i64 V0.k, .int .i64 V0.n, .int .u64 V0.u, .string V0.s] 28)
                      go_wp2
                      generalize (y4.alloc (.cells #[.int .i64 V0.k, .int .i64 V0.n, .int .u64 V0.u, .string V0.s] 28)) = y5 at *
                      generalize y4.heap.size = Gy5 at *
                      go_roundg (gk - 1)
                      · exact ⟨j + 1, by omega, by omega, by go_num, hv.below qq, hT.below qq, hA.below qq hA.lt, hN.below qq hN.lt, hB.below qq hB.lt, hX.below qq hX.lt, bl_ca bb qq⟩
                      · omega
                  · go_wp2
                    go_roundg (g2 - 1)
                    · exact ⟨k + 1, by omega, by omega, by go_num, hv, hT, hA, hN, bb⟩
                    · omega
              · have HTX := Lib.hid (show trueB xx = trueB u from by rw [ET.out, hta]; rfl)
                have HX := Lib.hid (fun w => (HTX.out ▸ true_any xx w : Calls Tryd.prog 20 _ w fun e w' => e = .returned (.bool (trueB u)) ∧ Below w.heap.size w w'))
                have HV := Lib.hid (fun w => (hta ▸ true_any v w : Calls Tryd.prog 20 _ w fun e w' => e = .returned (.bool true) ∧ Below w.heap.size w w'))
                have HU := Lib.hid (fun w => true_any u w)
                generalize trueB u = tb at *
                clear hta HTX
                refine wp_region_lin (S := Grew x11) (by kernel_rfl) (Grew.start _) ?_
                refine Good.val (i := 0) (d := some 94) (v := ?v21_0_36) rfl rfl (by kernel_rfl) (by kernel_rfl) (by kernel_rfl) (by rfl) (fun w9 hS => ?h21_0_36) ?r21_0_36
                case h21_0_36 => go_simp; try rfl
                try simp only [Act.put, List.setIfInBounds_toArray, List.set_cons_zero, List.set_cons_succ]
                refine Good.val (i := 1) (d := some 95) (v := ?v21_1_37) rfl rfl (by kernel_rfl) (by kernel_rfl) (by kernel_rfl) (by rfl) (fun w9 hS => ?h21_1_37) ?r21_1_37
                case h21_1_37 => go_simp; try rfl
                try simp only [Act.put, List.setIfInBounds_toArray, List.set_cons_zero, List.set_cons_succ]
                refine Good.val (i := 2) (d := some 96) (v := ?v21_2_38) rfl rfl (by kernel_rfl) (by kernel_rfl) (by kernel_rfl) (by rfl) (fun w9 hS => ?h21_2_38) ?r21_2_38
                case h21_2_38 => go_simp; try rfl
                try simp only [Act.put, List.setIfInBounds_toArray, List.set_cons_zero, List.set_cons_succ]
                refine Good.val (i := 3) (d := some 97) (v := ?v21_3_39) rfl rfl (by kernel_rfl) (by kernel_rfl) (by kernel_rfl) (by rfl) (fun w9 hS => ?h21_3_39) ?r21_3_39
                case h21_3_39 => go_simp; try rfl
                try simp only [Act.put, List.setIfInBounds_toArray, List.set_cons_zero, List.set_cons_succ]
                refine Good.val (i := 4) (d := some 98) (v := ?v21_4_40) rfl rfl (by kernel_rfl) (by kernel_rfl) (by kernel_rfl) (by rfl) (fun w9 hS => ?h21_4_40) ?r21_4_40
                case h21_4_40 => go_simp; try rfl
                try simp only [Act.put, List.setIfInBounds_toArray, List.set_cons_zero, List.set_cons_succ]
                refine Good.val (i := 5) (d := some 99) (v := ?v21_5_41) rfl rfl (by kernel_rfl) (by kernel_rfl) (by kernel_rfl) (by rfl) (fun w9 hS => ?h21_5_41) ?r21_5_41
                case h21_5_41 => go_simp; try rfl
                try simp only [Act.put, List.setIfInBounds_toArray, List.set_cons_zero, List.set_cons_succ]
                refine Good.val (i := 6) (d := some 100) (v := ?v21_6_42) rfl rfl (by kernel_rfl) (by kernel_rfl) (by kernel_rfl) (by rfl) (fun w9 hS => ?h21_6_42) ?r21_6_42
                case h21_6_42 => go_simp; try rfl
                try simp only [Act.put, List.setIfInBounds_toArray, List.set_cons_zero, List.set_cons_succ]
                refine Good.val (i := 7) (d := some 101) (v := ?v21_7_43) rfl rfl (by kernel_rfl) (by kernel_rfl) (by kernel_rfl) (by rfl) (fun w9 hS => ?h21_7_43) ?r21_7_43
                case h21_7_43 => go_simp; try rfl
                try simp only [Act.put, List.setIfInBounds_toArray, List.set_cons_zero, List.set_cons_succ]
                refine Good.val (i := 8) (d := some 102) (v := ?v21_8_44) rfl rfl (by kernel_rfl) (by kernel_rfl) (by kernel_rfl) (by rfl) (fun w9 hS => ?h21_8_44) ?r21_8_44
                case h21_8_44 => go_simp; try rfl
                try simp only [Act.put, List.setIfInBounds_toArray, List.set_cons_zero, List.set_cons_succ]
                refine Good.val (i := 9) (d := some 103) (v := ?v21_9_45) rfl rfl (by kernel_rfl) (by kernel_rfl) (by kernel_rfl) (by rfl) (fun w9 hS => ?h21_9_45) ?r21_9_45
                case h21_9_45 => go_simp; try rfl
                try simp only [Act.put, List.setIfInBounds_toArray, List.set_cons_zero, List.set_cons_succ]
                refine Good.val (i := 10) (d := some 104) (v := ?v21_10_46) rfl rfl (by kernel_rfl) (by kernel_rfl) (by kernel_rfl) (by rfl) (fun w9 hS => ?h21_10_46) ?r21_10_46
                case h21_10_46 => go_simp; try rfl
                try simp only [Act.put, List.setIfInBounds_toArray, List.set_cons_zero, List.set_cons_succ]
                refine Good.val (i := 11) (d := some 105) (v := ?v21_11_47) rfl rfl (by kernel_rfl) (by kernel_rfl) (by kernel_rfl) (by rfl) (fun w9 hS => ?h21_11_47) ?r21_11_47
                case h21_11_47 => go_simp; try rfl
                try simp only [Act.put, List.setIfInBounds_toArray, List.set_cons_zero, List.set_cons_succ]
                refine Good.val (i := 12) (d := some 106) (v := ?v21_12_48) rfl rfl (by kernel_rfl) (by kernel_rfl) (by kernel_rfl) (by rfl) (fun w9 hS => ?h21_12_48) ?r21_12_48
                case h21_12_48 => go_simp; try rfl
                try simp only [Act.put, List.setIfInBounds_toArray, List.set_cons_zero, List.set_cons_succ]
                refine Good.val (i := 13) (d := some 107) (v := ?v21_13_49) rfl rfl (by kernel_rfl) (by kernel_rfl) (by kernel_rfl) (by rfl) (fun w9 hS => ?h21_13_49) ?r21_13_49
                case h21_13_49 => go_simp; try rfl
                try simp only [Act.put, List.setIfInBounds_toArray, List.set_cons_zero, List.set_cons_succ]
                refine Good.val (i := 14) (d := some 108) (v := ?v21_14_50) rfl rfl (by kernel_rfl) (by kernel_rfl) (by kernel_rfl) (by rfl) (fun w9 hS => ?h21_14_50) ?r21_14_50
                case h21_14_50 => go_simp; try rfl
                try simp only [Act.put, List.setIfInBounds_toArray, List.set_cons_zero, List.set_cons_succ]
                refine Good.val (i := 15) (d := some 109) (v := ?v21_15_51) rfl rfl (by kernel_rfl) (by kernel_rfl) (by kernel_rfl) (by rfl) (fun w9 hS => ?h21_15_51) ?r21_15_51
                case h21_15_51 =>
                  have hb9 := (Blk.below hX hS hX.lt)
                  have b9_0 : w9.cell? ⟨Gx5, 0, none⟩ = some (.int .i64 xx.k) := hb9.cell 0
                  have b9_1 : w9.cell? ⟨Gx5, 1, none⟩ = some (.int .i64 xx.n) := hb9.cell 1
                  have b9_2 : w9.cell? ⟨Gx5, 2, none⟩ = some (.int .u64 xx.u) := hb9.cell 2
                  have b9_3 : w9.cell? ⟨Gx5, 3, none⟩ = some (.string xx.s) := hb9.cell 3
                  go_simp
                  try rfl
                try simp only [Act.put, List.setIfInBounds_toArray, List.set_cons_zero, List.set_cons_succ]
                refine Good.val (i := 16) (d := some 110) (v := ?v21_16_52) rfl rfl (by kernel_rfl) (by kernel_rfl) (by kernel_rfl) (by rfl) (fun w9 hS => ?h21_16_52) ?r21_16_52
                case h21_16_52 =>
                  have hb9 := (Blk.below hY hS hY.lt)
                  have b9_0 : w9.cell? ⟨Gx7, 0, none⟩ = some (.int .i64 xx.k) := hb9.cell 0
                  have b9_1 : w9.cell? ⟨Gx7, 1, none⟩ = some (.int .i64 xx.n) := hb9.cell 1
                  have b9_2 : w9.cell? ⟨Gx7, 2, none⟩ = some (.int .u64 xx.u) := hb9.cell 2
                  have b9_3 : w9.cell? ⟨Gx7, 3, none⟩ = some (.string xx.s) := hb9.cell 3
                  go_simp
                  try rfl
                try simp only [Act.put, List.setIfInBounds_toArray, List.set_cons_zero, List.set_cons_succ]
                refine Good.val (i := 17) (d := some 111) (v := ?v21_17_53) rfl rfl (by kernel_rfl) (by kernel_rfl) (by kernel_rfl) (by rfl) (fun w9 hS => ?h21_17_53) ?r21_17_53
                case h21_17_53 => go_simp; try rfl
                try simp only [Act.put, List.setIfInBounds_toArray, List.set_cons_zero, List.set_cons_succ]
                refine Good.val (i := 18) (d := some 112) (v := ?v21_18_54) rfl rfl (by kernel_rfl) (by kernel_rfl) (by kernel_rfl) (by rfl) (fun w9 hS => ?h21_18_54) ?r21_18_54
                case h21_18_54 => go_simp; try rfl
                try simp only [Act.put, List.setIfInBounds_toArray, List.set_cons_zero, List.set_cons_succ]
                refine Good.val (i := 19) (d := some 113) (v := ?v21_19_55) rfl rfl (by kernel_rfl) (by kernel_rfl) (by kernel_rfl) (by rfl) (fun w9 hS => ?h21_19_55) ?r21_19_55
                case h21_19_55 => go_simp; try rfl
                try simp only [Act.put, List.setIfInBounds_toArray, List.set_cons_zero, List.set_cons_succ]
                refine Good.val (i := 20) (d := some 114) (v := ?v21_20_56) rfl rfl (by kernel_rfl) (by kernel_rfl) (by kernel_rfl) (by rfl) (fun w9 hS => ?h21_20_56) ?r21_20_56
                case h21_20_56 =>
                  have hb9 := (Blk.below hZ hS hZ.lt)
                  have b9_0 : w9.cell? ⟨Gx9, 0, none⟩ = some (.int .i64 uu.k) := hb9.cell 0
                  have b9_1 : w9.cell? ⟨Gx9, 1, none⟩ = some (.int .i64 uu.n) := hb9.cell 1
                  have b9_2 : w9.cell? ⟨Gx9, 2, none⟩ = some (.int .u64 uu.u) := hb9.cell 2
                  have b9_3 : w9.cell? ⟨Gx9, 3, none⟩ = some (.string uu.s) := hb9.cell 3
                  go_simp
                  try rfl
                try simp only [Act.put, List.setIfInBounds_toArray, List.set_cons_zero, List.set_cons_succ]
                refine Good.val (i := 21) (d := some 115) (v := ?v21_21_57) rfl rfl (by kernel_rfl) (by kernel_rfl) (by kernel_rfl) (by rfl) (fun w9 hS => ?h21_21_57) ?r21_21_57
                case h21_21_57 =>
                  have hb9 := (Blk.below hU hS hU.lt)
                  have b9_0 : w9.cell? ⟨Gx11, 0, none⟩ = some (.int .i64 uu.k) := hb9.cell 0
                  have b9_1 : w9.cell? ⟨Gx11, 1, none⟩ = some (.int .i64 uu.n) := hb9.cell 1
                  have b9_2 : w9.cell? ⟨Gx11, 2, none⟩ = some (.int .u64 uu.u) := hb9.cell 2
                  have b9_3 : w9.cell? ⟨Gx11, 3, none⟩ = some (.string uu.s) := hb9.cell 3
                  go_simp
                  try rfl
                try simp only [Act.put, List.setIfInBounds_toArray, List.set_cons_zero, List.set_cons_succ]
                refine Good.val (i := 22) (d := some 116) (v := ?v21_22_58) rfl rfl (by kernel_rfl) (by kernel_rfl) (by kernel_rfl) (by rfl) (fun w9 hS => ?h21_22_58) ?r21_22_58
                case h21_22_58 => go_simp; try rfl
                try simp only [Act.put, List.setIfInBounds_toArray, List.set_cons_zero, List.set_cons_succ]
                refine Good.val (i := 23) (d := some 117) (v := ?v21_23_59) rfl rfl (by kernel_rfl) (by kernel_rfl) (by kernel_rfl) (by rfl) (fun w9 hS => ?h21_23_59) ?r21_23_59
                case h21_23_59 => go_simp; try rfl
                try simp only [Act.put, List.setIfInBounds_toArray, List.set_cons_zero, List.set_cons_succ]
                refine Good.val (i := 24) (d := some 118) (v := ?v21_24_60) rfl rfl (by kernel_rfl) (by kernel_rfl) (by kernel_rfl) (by rfl) (fun w9 hS => ?h21_24_60) ?r21_24_60
                case h21_24_60 => go_simp; try rfl
                try simp only [Act.put, List.setIfInBounds_toArray, List.set_cons_zero, List.set_cons_succ]
                refine Good.val (i := 25) (d := some 119) (v := ?v21_25_61) rfl rfl (by kernel_rfl) (by kernel_rfl) (by kernel_rfl) (by rfl) (fun w9 hS => ?h21_25_61) ?r21_25_61
                case h21_25_61 =>
                  have hb9 := (Blk.below hX hS hX.lt)
                  have b9_0 : w9.cell? ⟨Gx5, 0, none⟩ = some (.int .i64 xx.k) := hb9.cell 0
                  have b9_1 : w9.cell? ⟨Gx5, 1, none⟩ = some (.int .i64 xx.n) := hb9.cell 1
                  have b9_2 : w9.cell? ⟨Gx5, 2, none⟩ = some (.int .u64 xx.u) := hb9.cell 2
                  have b9_3 : w9.cell? ⟨Gx5, 3, none⟩ = some (.string xx.s) := hb9.cell 3
                  go_simp
                  try rfl
                try simp only [Act.put, List.setIfInBounds_toArray, List.set_cons_zero, List.set_cons_succ]
                refine Good.call (i := 26) (d := some 120) (fn := ?f21_26_62) (args := ?a21_26_62) (v := ?v21_26_62) rfl rfl (by kernel_rfl) (by kernel_rfl) (by kernel_rfl) (by rfl) (fun w9 hS => ?h21_26_62) (Grew.call fun w9 qS => ?c21_26_62) ?r21_26_62
                case h21_26_62 => go_simp; refine ⟨?_, ?_⟩ <;> rfl
                case c21_26_62 => exact HX.out _
                try simp only [Act.put, List.setIfInBounds_toArray, List.set_cons_zero, List.set_cons_succ]
                refine Good.val (i := 27) (d := some 121) (v := ?v21_27_63) rfl rfl (by kernel_rfl) (by kernel_rfl) (by kernel_rfl) (by rfl) (fun w9 hS => ?h21_27_63) ?r21_27_63
                case h21_27_63 =>
                  have hb9 := (Blk.below hA (bl_ca qq hS) hA.lt)
                  have b9_0 : w9.cell? ⟨GA, 0, none⟩ = some (.int .i64 v.k) := hb9.cell 0
                  have b9_1 : w9.cell? ⟨GA, 1, none⟩ = some (.int .i64 v.n) := hb9.cell 1
                  have b9_2 : w9.cell? ⟨GA, 2, none⟩ = some (.int .u64 v.u) := hb9.cell 2
                  have b9_3 : w9.cell? ⟨GA, 3, none⟩ = some (.string v.s) := hb9.cell 3
                  go_simp
                  try rfl
                try simp only [Act.put, List.setIfInBounds_toArray, List.set_cons_zero, List.set_cons_succ]
                refine Good.call (i := 28) (d := some 122) (fn := ?f21_28_64) (args := ?a21_28_64) (v := ?v21_28_64) rfl rfl (by kernel_rfl) (by kernel_rfl) (by kernel_rfl) (by rfl) (fun w9 hS => ?h21_28_64) (Grew.call fun w9 qS => ?c21_28_64) ?r21_28_64
                case h21_28_64 => go_simp; refine ⟨?_, ?_⟩ <;> rfl
                case c21_28_64 => exact HV.out _
                try simp only [Act.put, List.setIfInBounds_toArray, List.set_cons_zero, List.set_cons_succ]
                refine Good.val (i := 29) (d := some 123) (v := ?v21_29_65) rfl rfl (by kernel_rfl) (by kernel_rfl) (by kernel_rfl) (by rfl) (fun w9 hS => ?h21_29_65) ?r21_29_65
                case h21_29_65 => go_simp; try rfl
                try simp only [Act.put, List.setIfInBounds_toArray, List.set_cons_zero, List.set_cons_succ]
                refine Good.val (i := 30) (d := some 124) (v := ?v21_30_66) rfl rfl (by kernel_rfl) (by kernel_rfl) (by kernel_rfl) (by rfl) (fun w9 hS => ?h21_30_66) ?r21_30_66
                case h21_30_66 =>
                  have hb9 := (Blk.below hB hS hB.lt)
                  have b9_0 : w9.cell? ⟨wr.heap.size, 0, none⟩ = some (.int .i64 u.k) := hb9.cell 0
                  have b9_1 : w9.cell? ⟨wr.heap.size, 1, none⟩ = some (.int .i64 u.n) := hb9.cell 1
                  have b9_2 : w9.cell? ⟨wr.heap.size, 2, none⟩ = some (.int .u64 u.u) := hb9.cell 2
                  have b9_3 : w9.cell? ⟨wr.heap.size, 3, none⟩ = some (.string u.s) := hb9.cell 3
                  go_simp
                  try rfl
                try simp only [Act.put, List.setIfInBounds_toArray, List.set_cons_zero, List.set_cons_succ]
                refine Good.call (i := 31) (d := some 125) (fn := ?f21_31_67) (args := ?a21_31_67) (v := ?v21_31_67) rfl rfl (by kernel_rfl) (by kernel_rfl) (by kernel_rfl) (by rfl) (fun w9 hS => ?h21_31_67) (Grew.call fun w9 qS => ?c21_31_67) ?r21_31_67
                case h21_31_67 => go_simp; refine ⟨?_, ?_⟩ <;> rfl
                case c21_31_67 => exact HU.out _
                try simp only [Act.put, List.setIfInBounds_toArray, List.set_cons_zero, List.set_cons_succ]
                refine Good.val (i := 32) (d := some 126) (v := ?v21_32_68) rfl rfl (by kernel_rfl) (by kernel_rfl) (by kernel_rfl) (by rfl) (fun w9 hS => ?h21_32_68) ?r21_32_68
                case h21_32_68 => go_simp; try rfl
                try simp only [Act.put, List.setIfInBounds_toArray, List.set_cons_zero, List.set_cons_succ]
                refine Good.val (i := 33) (d := some 127) (v := ?v21_33_69) rfl rfl (by kernel_rfl) (by kernel_rfl) (by kernel_rfl) (by rfl) (fun w9 hS => ?h21_33_69) ?r21_33_69
                case h21_33_69 => go_simp; try rfl
                try simp only [Act.put, List.setIfInBounds_toArray, List.set_cons_zero, List.set_cons_succ]
                refine Good.val (i := 34) (d := some 128) (v := ?v21_34_70) rfl rfl (by kernel_rfl) (by kernel_rfl) (by kernel_rfl) (by rfl) (fun w9 hS => ?h21_34_70) ?r21_34_70
                case h21_34_70 => go_simp; try rfl
                try simp only [Act.put, List.setIfInBounds_toArray, List.set_cons_zero, List.set_cons_succ]
                refine Good.done (by kernel_rfl) (fun x12 qx12 => ?_) _
                replace hB := hB.ca qx12
                replace hX := hX.ca qx12
                replace hY := hY.ca qx12
                replace hZ := hZ.ca qx12
                replace hU := hU.ca qx12
                replace qq := bl_ca qq qx12
                clear qx12
                clear HX HV HU
                go_wp2
                replace hv := hv.below qq
                replace hT := hT.below qq
                replace hA := hA.below qq hA.lt
                replace hN := hN.below qq hN.lt
                replace bb := bl_ca bb qq
                clear HT qq hY hZ hU
                obtain ⟨g2, rfl⟩ : ∃ g2, g2 = gk := ⟨_, rfl⟩
                obtain ⟨wp, rfl⟩ : ∃ wp : World, wp = wr := ⟨_, rfl⟩
                generalize wp.heap.size = GB at *
                go_loopg [131] n' (fun g s wr => ∃ (j : Nat), j + g ≤ n' ∧ n' ≤ j + g ∧ s = .int .i64 j ∧ RdV wr (some ad) n' xs ∧ Tab wr ∧ Blk wr GA 28 #[.int .i64 v.k, .int .i64 v.n, .int .u64 v.u, .string v.s] ∧ Blk wr Gu3 28 #[.int .i64 nn.k, .int .i64 nn.n, .int .u64 nn.u, .string nn.s] ∧ Blk wr GB 28 #[.int .i64 u.k, .int .i64 u.n, .int .u64 u.u, .string u.s] ∧ Blk wr Gx5 28 #[.int .i64 xx.k, .int .i64 xx.n, .int .u64 xx.u, .string xx.s] ∧ Below w.heap.size w wr)
                case atStart => exact ⟨0, by omega, by omega, rfl, hv, hT, hA, hN, hB, hX, bb⟩
                case round =>
                  clear hv hA hN bb hT hB hX
                  obtain ⟨j, hj1, hj2, rfl, hv, hT, hA, hN, hB, hX, bb⟩ := hrel
                  by_cases hj : j < n'
                  · obtain ⟨ad3, t, hA3, hti, hal, c0, c1, c2, c3⟩ := hv.2 j hj
                    injection hA3 with hA3
                    subst hA3
                    clear hti
                    have qq := Below.refl wr.heap.size wr
                    have HT := Lib.hid (fun w' (q : Below wr.heap.size wr w') => (hT.below q).1)
                    by_cases hc : kindE [t] = 0
                    · obtain ⟨pp, zz, e1, e2, e3⟩ := andV_assoc TA.out TB.out EX.out (tv_kind hc)
                      have H1 := Lib.hid (fun w h => (e1 ▸ and_any xx t w h : Calls Tryd.prog 30 _ w fun e w' => e = .returned (resT (pp, 0)) ∧ Below w.heap.size w w'))
                      have H2 := Lib.hid (fun w h => (e2 ▸ and_any u t w h : Calls Tryd.prog 30 _ w fun e w' => e = .returned (resT (zz, 0)) ∧ Below w.heap.size w w'))
                      have H3 := Lib.hid (fun w h => (e3 ▸ and_any v zz w h : Calls Tryd.prog 30 _ w fun e w' => e = .returned (resT (pp, 0)) ∧ Below w.heap.size w w'))
                      clear e1 e2 e3 hc
                      have hC := Blk.new wr 28 #[.int .i64 t.k, .int .i64 t.n, .int .u64 t.u, .string t.s]
                      have zhC_qq := qq.size
                      replace qq := bl_al qq (.cells #[.int .i64 t.k, .int .i64 t.n, .int .u64 t.u, .string t.s] 28)
                      have hX_0 : (wr.alloc (.cells #[.int .i64 t.k, .int .i64 t.n, .int .u64 t.u, .string t.s] 28)).cell? ⟨Gx5, 0, none⟩ = some (.int .i64 xx.k) := (hX.below qq hX.lt).cell 0
                      have hX_1 : (wr.alloc (.cells #[.int .i64 t.k, .int .i64 t.n, .int .u64 t.u, .string t.s] 28)).cell? ⟨Gx5, 1, none⟩ = some (.int .i64 xx.n) := (hX.below qq hX.lt).cell 1
                      have hX_2 : (wr.alloc (.cells #[.int .i64 t.k, .int .i64 t.n, .int .u64 t.u, .string t.s] 28)).cell? ⟨Gx5, 2, none⟩ = some (.int .u64 xx.u) := (hX.below qq hX.lt).cell 2
                      have hX_3 : (wr.alloc (.cells #[.int .i64 t.k, .int .i64 t.n, .int .u64 t.u, .string t.s] 28)).cell? ⟨Gx5, 3, none⟩ = some (.string xx.s) := (hX.below qq hX.lt).cell 3
                      go_wp2_with fail
                      clear c0 c1 c2 c3 hal hX_0 hX_1 hX_2 hX_3
                      generalize (wr.alloc (.cells #[.int .i64 t.k, .int .i64 t.n, .int .u64 t.u, .string t.s] 28)) = y1 at *
                      refine (H1.out _ (HT.out _ qq)).mono ?_
                      rintro e y2 ⟨rfl, qy2⟩
                      simp only [resT]
                      replace hC := hC.ca qy2
                      replace qq := bl_ca qq qy2
                      clear qy2
                      have lhP_hC := hC.lt
                      replace hC := hC.alloc (.cells #[.int .i64 pp.k, .int .i64 pp.n, .int .u64 pp.u, .string pp.s] 28)
                      have hP := Blk.new y2 28 #[.int .i64 pp.k, .int .i64 pp.n, .int .u64 pp.u, .string pp.s]
                      have zhP_qq := qq.size
                      replace qq := bl_al qq (.cells #[.int .i64 pp.k, .int .i64 pp.n, .int .u64 pp.u, .string pp.s] 28)
                      have hB_0 : (y2.alloc (.cells #[.int .i64 pp.k, .int .i64 pp.n, .int .u64 pp.u, .string pp.s] 28)).cell? ⟨GB, 0, none⟩ = some (.int .i64 u.k) := (hB.below qq hB.lt).cell 0
                      have hB_1 : (y2.alloc (.cells #[.int .i64 pp.k, .int .i64 pp.n, .int .u64 pp.u, .string pp.s] 28)).cell? ⟨GB, 1, none⟩ = some (.int .i64 u.n) := (hB.below qq hB.lt).cell 1
                      have hB_2 : (y2.alloc (.cells #[.int .i64 pp.k, .int .i64 pp.n, .int .u64 pp.u, .string pp.s] 28)).cell? ⟨GB, 2, none⟩ = some (.int .u64 u.u) := (hB.below qq hB.lt).cell 2
                      have hB_3 : (y2.alloc (.cells #[.int .i64 pp.k, .int .i64 pp.n, .int .u64 pp.u, .string pp.s] 28)).cell? ⟨GB, 3, none⟩ = some (.string u.s) := (hB.below qq hB.lt).cell 3
                      have hC_0 : (y2.alloc (.cells #[.int .i64 pp.k, .int .i64 pp.n, .int .u64 pp.u, .string pp.s] 28)).cell? ⟨wr.heap.size, 0, none⟩ = some (.int .i64 t.k) := hC.cell 0
                      have hC_1 : (y2.alloc (.cells #[.int .i64 pp.k, .int .i64 pp.n, .int .u64 pp.u, .string pp.s] 28)).cell? ⟨wr.heap.size, 1, none⟩ = some (.int .i64 t.n) := hC.cell 1
                      have hC_2 : (y2.alloc (.cells #[.int .i64 pp.k, .int .i64 pp.n, .int .u64 pp.u, .string pp.s] 28)).cell? ⟨wr.heap.size, 2, none⟩ = some (.int .u64 t.u) := hC.cell 2
                      have hC_3 : (y2.alloc (.cells #[.int .i64 pp.k, .int .i64 pp.n, .int .u64 pp.u, .string pp.s] 28)).cell? ⟨wr.heap.size, 3, none⟩ = some (.string t.s) := hC.cell 3
                      go_wp2_with fail
                      clear hB_0 hB_1 hB_2 hB_3 hC_0 hC_1 hC_2 hC_3
                      generalize (y2.alloc (.cells #[.int .i64 pp.k, .int .i64 pp.n, .int .u64 pp.u, .string pp.s] 28)) = y3 at *
                      generalize y2.heap.size = Gy3 at *
                      refine (H2.out _ (HT.out _ qq)).mono ?_
                      rintro e y4 ⟨rfl, qy4⟩
                      simp only [resT]
                      replace hC := hC.ca qy4
                      replace hP := hP.ca qy4
                      replace qq := bl_ca qq qy4
                      clear qy4
                      have lhQ_hC := hC.lt
                      replace hC := hC.alloc (.cells #[.int .i64 zz.k, .int .i64 zz.n, .int .u64 zz.u, .string zz.s] 28)
                      have lhQ_hP := hP.lt
                      replace hP := hP.alloc (.cells #[.int .i64 zz.k, .int .i64 zz.n, .int .u64 zz.u, .string zz.s] 28)
                      have hQ := Blk.new y4 28 #[.int .i64 zz.k, .int .i64 zz.n, .int .u64 zz.u, .string zz.s]
                      have zhQ_qq := qq.size
                      replace qq := bl_al qq (.cells #[.int .i64 zz.k, .int .i64 zz.n, .int .u64 zz.u, .string zz.s] 28)
                      have hA_0 : (y4.alloc (.cells #[.int .i64 zz.k, .int .i64 zz.n, .int .u64 zz.u, .string zz.s] 28)).cell? ⟨GA, 0, none⟩ = some (.int .i64 v.k) := (hA.below qq hA.lt).cell 0
                      have hA_1 : (y4.alloc (.cells #[.int .i64 zz.k, .int .i64 zz.n, .int .u64 zz.u, .string zz.s] 28)).cell? ⟨GA, 1, none⟩ = some (.int .i64 v.n) := (hA.below qq hA.lt).cell 1
                      have hA_2 : (y4.alloc (.cells #[.int .i64 zz.k, .int .i64 zz.n, .int .u64 zz.u, .string zz.s] 28)).cell? ⟨GA, 2, none⟩ = some (.int .u64 v.u) := (hA.below qq hA.lt).cell 2
                      have hA_3 : (y4.alloc (.cells #[.int .i64 zz.k, .int .i64 zz.n, .int .u64 zz.u, .string zz.s] 28)).cell? ⟨GA, 3, none⟩ = some (.string v.s) := (hA.below qq hA.lt).cell 3
                      go_wp2_with fail
                      clear hA_0 hA_1 hA_2 hA_3
                      generalize (y4.alloc (.cells #[.int .i64 zz.k, .int .i64 zz.n, .int .u64 zz.u, .string zz.s] 28)) = y5 at *
                      generalize y4.heap.size = Gy5 at *
                      refine (H3.out _ (HT.out _ qq)).mono ?_
                      rintro e y6 ⟨rfl, qy6⟩
                      simp only [resT]
                      replace hC := hC.ca qy6
                      replace hP := hP.ca qy6
                      replace hQ := hQ.ca qy6
                      replace qq := bl_ca qq qy6
                      clear qy6
                      have lhO_hC := hC.lt
                      replace hC := hC.alloc (.cells #[.int .i64 pp.k, .int .i64 pp.n, .int .u64 pp.u, .string pp.s] 28)
                      have lhO_hP := hP.lt
                      replace hP := hP.alloc (.cells #[.int .i64 pp.k, .int .i64 pp.n, .int .u64 pp.u, .string pp.s] 28)
                      have lhO_hQ := hQ.lt
                      replace hQ := hQ.alloc (.cells #[.int .i64 pp.k, .int .i64 pp.n, .int .u64 pp.u, .string pp.s] 28)
                      have hO := Blk.new y6 28 #[.int .i64 pp.k, .int .i64 pp.n, .int .u64 pp.u, .string pp.s]
                      have zhO_qq := qq.size
                      replace qq := bl_al qq (.cells #[.int .i64 pp.k, .int .i64 pp.n, .int .u64 pp.u, .string pp.s] 28)
                      have hP_0 : (y6.alloc (.cells #[.int .i64 pp.k, .int .i64 pp.n, .int .u64 pp.u, .string pp.s] 28)).cell? ⟨Gy3, 0, none⟩ = some (.int .i64 pp.k) := hP.cell 0
                      have hP_1 : (y6.alloc (.cells #[.int .i64 pp.k, .int .i64 pp.n, .int .u64 pp.u, .string pp.s] 28)).cell? ⟨Gy3, 1, none⟩ = some (.int .i64 pp.n) := hP.cell 1
                      have hP_2 : (y6.alloc (.cells #[.int .i64 pp.k, .int .i64 pp.n, .int .u64 pp.u, .string pp.s] 28)).cell? ⟨Gy3, 2, none⟩ = some (.int .u64 pp.u) := hP.cell 2
                      have hP_3 : (y6.alloc (.cells #[.int .i64 pp.k, .int .i64 pp.n, .int .u64 pp.u, .string pp.s] 28)).cell? ⟨Gy3, 3, none⟩ = some (.string pp.s) := hP.cell 3
                      go_wp2
                      clear hP_0 hP_1 hP_2 hP_3
                      generalize (y6.alloc (.cells #[.int .i64 pp.k, .int .i64 pp.n, .int .u64 pp.u, .string pp.s] 28)) = y7 at *
                      generalize y6.heap.size = Gy7 at *
                      go_roundg (gk - 1)
                      · exact ⟨j + 1, by omega, by omega, by go_num, hv.below qq, hT.below qq, hA.below qq hA.lt, hN.below qq hN.lt, hB.below qq hB.lt, hX.below qq hX.lt, bl_ca bb qq⟩
                      · omega
                    · have H1 := Lib.hid (fun w h => (andV_err TX.out hc ▸ and_any xx t w h : Calls Tryd.prog 30 _ w fun e w' => e = .returned (resT (V0, kindE [t])) ∧ Below w.heap.size w w'))
                      have H2 := Lib.hid (fun w h => (andV_err TB.out hc ▸ and_any u t w h : Calls Tryd.prog 30 _ w fun e w' => e = .returned (resT (V0, kindE [t])) ∧ Below w.heap.size w w'))
                      have hc0 : (kindE [t] != 0) = true := ibne_t hc
                      generalize kindE [t] = ee at *
                      clear hc
                      have hC := Blk.new wr 28 #[.int .i64 t.k, .int .i64 t.n, .int .u64 t.u, .string t.s]
                      have zhC_qq := qq.size
                      replace qq := bl_al qq (.cells #[.int .i64 t.k, .int .i64 t.n, .int .u64 t.u, .string t.s] 28)
                      have hX_0 : (wr.alloc (.cells #[.int .i64 t.k, .int .i64 t.n, .int .u64 t.u, .string t.s] 28)).cell? ⟨Gx5, 0, none⟩ = some (.int .i64 xx.k) := (hX.below qq hX.lt).cell 0
                      have hX_1 : (wr.alloc (.cells #[.int .i64 t.k, .int .i64 t.n, .int .u64 t.u, .string t.s] 28)).cell? ⟨Gx5, 1, none⟩ = some (.int .i64 xx.n) := (hX.below qq hX.lt).cell 1
                      have hX_2 : (wr.alloc (.cells #[.int .i64 t.k, .int .i64 t.n, .int .u64 t.u, .string t.s] 28)).cell? ⟨Gx5, 2, none⟩ = some (.int .u64 xx.u) := (hX.below qq hX.lt).cell 2
                      have hX_3 : (wr.alloc (.cells #[.int .i64 t.k, .int .i64 t.n, .int .u64 t.u, .string t.s] 28)).cell? ⟨Gx5, 3, none⟩ = some (.string xx.s) := (hX.below qq hX.lt).cell 3
                      go_wp2_with fail
                      clear c0 c1 c2 c3 hal hX_0 hX_1 hX_2 hX_3
                      generalize (wr.alloc (.cells #[.int .i64 t.k, .int .i64 t.n, .int .u64 t.u, .string t.s] 28)) = y1 at *
                      refine (H1.out _ (HT.out _ qq)).mono ?_
                      rintro e y2 ⟨rfl, qy2⟩
                      simp only [resT]
                      replace hC := hC.ca qy2
                      replace qq := bl_ca qq qy2
                      clear qy2
                      have lhP_hC := hC.lt
                      replace hC := hC.alloc (.cells #[.int .i64 V0.k, .int .i64 V0.n, .int .u64 V0.u, .string V0.s] 28)
                      have hP := Blk.new y2 28 #[.int .i64 V0.k, .int .i64 V0.n, .int .u64 V0.u, .string V0.s]
                      have zhP_qq := qq.size
                      replace qq := bl_al qq (.cells #[.int .i64 V0.k, .int .i64 V0.n, .int .u64 V0.u, .string V0.s] 28)
                      have hB_0 : (y2.alloc (.cells #[.int .i64 V0.k, .int .i64 V0.n, .int .u64 V0.u, .string V0.s] 28)).cell? ⟨GB, 0, none⟩ = some (.int .i64 u.k) := (hB.below qq hB.lt).cell 0
                      have hB_1 : (y2.alloc (.cells #[.int .i64 V0.k, .int .i64 V0.n, .int .u64 V0.u, .string V0.s] 28)).cell? ⟨GB, 1, none⟩ = some (.int .i64 u.n) := (hB.below qq hB.lt).cell 1
                      have hB_2 : (y2.alloc (.cells #[.int .i64 V0.k, .int .i64 V0.n, .int .u64 V0.u, .string V0.s] 28)).cell? ⟨GB, 2, none⟩ = some (.int .u64 u.u) := (hB.below qq hB.lt).cell 2
                      have hB_3 : (y2.alloc (.cells #[.int .i64 V0.k, .int .i64 V0.n, .int .u64 V0.u, .string V0.s] 28)).cell? ⟨GB, 3, none⟩ = some (.string u.s) := (hB.below qq hB.lt).cell 3
                      have hC_0 : (y2.alloc (.cells #[.int .i64 V0.k, .int .i64 V0.n, .int .u64 V0.u, .string V0.s] 28)).cell? ⟨wr.heap.size, 0, none⟩ = some (.int .i64 t.k) := hC.cell 0
                      have hC_1 : (y2.alloc (.cells #[.int .i64 V0.k, .int .i64 V0.n, .int .u64 V0.u, .string V0.s] 28)).cell? ⟨wr.heap.size, 1, none⟩ = some (.int .i64 t.n) := hC.cell 1
                      have hC_2 : (y2.alloc (.cells #[.int .i64 V0.k, .int .i64 V0.n, .int .u64 V0.u, .string V0.s] 28)).cell? ⟨wr.heap.size, 2, none⟩ = some (.int .u64 t.u) := hC.cell 2
                      have hC_3 : (y2.alloc (.cells #[.int .i64 V0.k, .int .i64 V0.n, .int .u64 V0.u, .string V0.s] 28)).cell? ⟨wr.heap.size, 3, none⟩ = some (.string t.s) := hC.cell 3
                      go_wp2_with fail
                      clear hB_0 hB_1 hB_2 hB_3 hC_0 hC_1 hC_2 hC_3
                      generalize (y2.alloc (.cells #[.int .i64 V0.k, .int .i64 V0.n, .int .u64 V0.u, .string V0.s] 28)) = y3 at *
                      generalize y2.heap.size = Gy3 at *
                      refine (H2.out _ (HT.out _ qq)).mono ?_
                      rintro e y4 ⟨rfl, qy4⟩
                      simp only [resT]
                      replace hC := hC.ca qy4
                      replace hP := hP.ca qy4
                      replace qq := bl_ca qq qy4
                      clear qy4
                      have lhQ_hC := hC.lt
                      replace hC := hC.alloc (.cells #[.int .i64 V0.k, .int .i64 V0.n, .int .u64 V0.u, .string V0.s] 28)
                      have lhQ_hP := hP.lt
                      replace hP := hP.alloc (.cells #[.int .i64 V0.k, .int .i64 V0.n, .int .u64 V0.u, .string V0.s] 28)
                      have hQ := Blk.new y4 28 #[.int .i64 V0.k, .int .i64 V0.n, .int .u64 V0.u, .string V0.s]
                      have zhQ_qq := qq.size
                      replace qq := bl_al qq (.cells #[.int .i64 V0.k, .int .i64 V0.n, .int .u64 V0.u, .string V0.s] 28)
                      go_wp2
                      generalize (y4.alloc (.cells #[.int .i64 V0.k, .int .i64 V0.n, .int .u64 V0.u, .string V0.s] 28)) = y5 at *
                      generalize y4.heap.size = Gy5 at *
                      go_roundg (gk - 1)
                      · exact ⟨j + 1, by omega, by omega, by go_num, hv.below qq, hT.below qq, hA.below qq hA.lt, hN.below qq hN.lt, hB.below qq hB.lt, hX.below qq hX.lt, bl_ca bb qq⟩
                      · omega
                  · go_wp2
                    go_roundg (g2 - 1)
                    · exact ⟨k + 1, by omega, by omega, by go_num, hv, hT, hA, hN, bb⟩
                    · omega
            · have H1 := Lib.hid (fun w h => (notV_err hb ▸ not_any u w h : Calls Tryd.prog 28 _ w fun e w' => e = .returned (resT (V0, kindE [u])) ∧ Below w.heap.size w w'))
              have hb0 : (kindE [u] != 0) = true := ibne_t hb
              generalize kindE [u] = ee at *
              clear hb
              have hB := Blk.new wr 28 #[.int .i64 u.k, .int .i64 u.n, .int .u64 u.u, .string u.s]
              have zhB_qq := qq.size
              replace qq := bl_al qq (.cells #[.int .i64 u.k, .int .i64 u.n, .int .u64 u.u, .string u.s] 28)
              go_wp2_with fail
              clear c0 c1 c2 c3 hal
              generalize (wr.alloc (.cells #[.int .i64 u.k, .int .i64 u.n, .int .u64 u.u, .string u.s] 28)) = x1 at *
              refine (H1.out _ (HT.out _ qq)).mono ?_
              rintro e x2 ⟨rfl, qx2⟩
              simp only [resT]
              replace hB := hB.ca qx2
              replace qq := bl_ca qq qx2
              clear qx2
              have lhM_hB := hB.lt
              replace hB := hB.alloc (.cells #[.int .i64 V0.k, .int .i64 V0.n, .int .u64 V0.u, .string V0.s] 28)
              have hM := Blk.new x2 28 #[.int .i64 V0.k, .int .i64 V0.n, .int .u64 V0.u, .string V0.s]
              have zhM_qq := qq.size
              replace qq := bl_al qq (.cells #[.int .i64 V0.k, .int .i64 V0.n, .int .u64 V0.u, .string V0.s] 28)
              go_wp2
              generalize (x2.alloc (.cells #[.int .i64 V0.k, .int .i64 V0.n, .int .u64 V0.u, .string V0.s] 28)) = x3 at *
              generalize x2.heap.size = Gx3 at *
              go_roundg (gk - 1)
              · exact ⟨k + 1, by omega, by omega, by go_num, hv.below qq, hT.below qq, hA.below qq hA.lt, hN.below qq hN.lt, bl_ca bb qq⟩
              · omega
          · go_wp2
            go_roundg (g1 - 1)
            · exact ⟨i + 1, by omega, by omega, by go_num, hv, hT, bb⟩
            · omega
      · have H1 := Lib.hid (fun w h => (notV_err ha ▸ not_any v w h : Calls Tryd.prog 28 _ w fun e w' => e = .returned (resT (V0, kindE [v])) ∧ Below w.heap.size w w'))
        have ha0 : (kindE [v] != 0) = true := ibne_t ha
        generalize kindE [v] = ee at *
        clear ha
        have hA := Blk.new wr 28 #[.int .i64 v.k, .int .i64 v.n, .int .u64 v.u, .string v.s]
        have zhA_qq := qq.size
        replace qq := bl_al qq (.cells #[.int .i64 v.k, .int .i64 v.n, .int .u64 v.u, .string v.s] 28)
        go_wp2_with fail
        clear c0 c1 c2 c3 hal
        generalize (wr.alloc (.cells #[.int .i64 v.k, .int .i64 v.n, .int .u64 v.u, .string v.s] 28)) = u1 at *
        refine (H1.out _ (HT.out _ qq)).mono ?_
        rintro e u2 ⟨rfl, qu2⟩
        simp only [resT]
        replace hA := hA.ca qu2
        replace qq := bl_ca qq qu2
        clear qu2
        have lhN_hA := hA.lt
        replace hA := hA.alloc (.cells #[.int .i64 V0.k, .int .i64 V0.n, .int .u64 V0.u, .string V0.s] 28)
        have hN := Blk.new u2 28 #[.int .i64 V0.k, .int .i64 V0.n, .int .u64 V0.u, .string V0.s]
        have zhN_qq := qq.size
        replace qq := bl_al qq (.cells #[.int .i64 V0.k, .int .i64 V0.n, .int .u64 V0.u, .string V0.s] 28)
        go_wp2
        generalize (u2.alloc (.cells #[.int .i64 V0.k, .int .i64 V0.n, .int .u64 V0.u, .string V0.s] 28)) = u3 at *
        generalize u2.heap.size = Gu3 at *
        go_roundg (gk - 1)
        · exact ⟨i + 1, by omega, by omega, by go_num, hv.below qq, hT.below qq, bl_ca bb qq⟩
        · omega
    · go_wp2
      go_ret
      exact ⟨rfl, bb⟩
end Go.Proofs.YtabbiepafibmmaaDoor
