/- The law ArithNulls: nulls add nothing; of nothing but nulls there is null. Conditions: the slices read as these numbers. -/
import Derived.Test.YtemakmgppafccaaNullsM
import Derived.Deep.DeepCutAuto
import Derived.Deep.CutBlock
namespace Go.Proofs.Ytemakmgppafccaa
open Go.RowKit
set_option maxRecDepth 100000 in
set_option maxHeartbeats 8000000 in
theorem arithNulls_walk (A : Option Addr) (n c : Nat) (zs : List Int) (A2 : Option Addr) (n2 c2 : Nat) (ps : List Int) (w : World) (h : RdI w A n zs) (hn : n ≤ 9223372036854775807) (hz : ∀ z ∈ zs, I64 z) (h2 : RdI w A2 n2 ps) (hn2 : n2 ≤ 9223372036854775807) (_hz2 : ∀ z ∈ ps, I64 z) :
    Calls Try.prog 5 #[.slice A n c, .slice A2 n2 c2] w fun e w' => e = .returned (.bool true) ∧ Below w.heap.size w w' := by
  have hlz := Lib.hid h.len
  have HZ := Lib.hid hz
  clear hz
  go_enter Try.func5, Try.ntmps5
  go_wp2_with fail
  refine (wakes4_any w).mono ?_
  rintro e w1 ⟨rfl, b1⟩
  have h1 := h.below b1
  have hp := h2.below b1
  clear h h2
  go_wp2
  go_loopg [5, 23] n (fun g o s wr => ∃ (i n' c' : Nat) (A' : Option Addr), i + g ≤ n ∧ n ≤ i + g ∧ s = .int .i64 i ∧ o = .slice A' n' c' ∧ n' ≤ 40 ∧ OwnV wr w1.heap.size A' n' c' (((zs.take 40).take i).map VI) ∧ Below w1.heap.size w1 wr)
  case atStart => exact ⟨0, 0, 0, none, by omega, by omega, rfl, rfl, by omega, by simpa using OwnV.nil w1 w1.heap.size, Below.refl _ _⟩
  case round =>
    obtain ⟨i, n', c', A', hi1, hi2, rfl, rfl, hn2', ho, bb⟩ := hrel
    by_cases hi : i < n
    · obtain ⟨ad, z, rfl, hzi, cz⟩ := (h1.below bb).at_ hi
      have HTK := Lib.hid (show zs.take (i + 1) = zs.take i ++ [z] from by rw [List.take_add_one, hzi]; rfl)
      have hil : i < zs.length := by rw [hlz.out]; exact hi
      clear hzi
      have hol := ho.len
      rw [List.length_map, take_min, List.length_take] at hol
      by_cases hi6 : i < 40
      · have hi7 : (i : Int) < 40 := by omega
        go_wp2_with fail
        clear cz h1
        refine (vint_any z wr).mono ?_
        rintro e w3 ⟨rfl, q3⟩
        have hb3 := Blk.new w3 27 #[.int .i64 (VI z).k, .int .i64 (VI z).n, .int .u64 (VI z).u, .string (VI z).s]
        have ho3 := (ho.below q3).alloc (.cells #[.int .i64 2, .int .i64 z, .int .u64 0, .string ⟨#[]⟩] 27)
        have b3 := bl_al (bl_ca bb q3) (.cells #[.int .i64 2, .int .i64 z, .int .u64 0, .string ⟨#[]⟩] 27)
        clear ho bb q3
        have HF := Lib.hid (show (((zs.take 40).take (i + 1)).map VI) = (((zs.take 40).take i).map VI) ++ [VI z] from by
          rw [take_min, take_min, Nat.min_eq_left (by omega), Nat.min_eq_left (by omega), HTK.out, List.map_append]; rfl)
        go_wp2_with (at_builtin; refine wpList_appV rfl (.tmp 30) (.tmp 33) rfl w1.heap.size A' n' c' _ _ 1 _ (VI z) rfl rfl ho3 hb3 (by omega) b3.size ?_; intro A4 c4 w4 ho4 b4)
        have b5 := b3.trans b4
        go_roundg (gk - 1)
        · exact ⟨i + 1, n' + 1, c4, A4, by omega, by omega, by go_num, rfl, by omega, by rw [HF.out]; exact ho4, b5⟩
        · omega
      · have hi7 : (40 : Int) ≤ (i : Int) := by omega
        have HF := Lib.hid (show (zs.take 40).take (i + 1) = (zs.take 40).take i from by rw [take_min, take_min, Nat.min_eq_right (by omega), Nat.min_eq_right (by omega)])
        go_wp2
        go_roundg (gk - 1)
        · exact ⟨i + 1, n', c', A', by omega, by omega, by go_num, rfl, hn2', by rw [HF.out]; exact ho, bb⟩
        · omega
    · have hin : n ≤ i := by omega
      have hd : decide (i < n) = false := decide_eq_false (by omega)
      have e : (zs.take 40).take i = zs.take 40 := List.take_of_length_le (by rw [List.length_take, hlz.out]; omega)
      rw [e] at ho
      have HY := Lib.hid (show ∀ x ∈ zs.take 40, I64 x from fun x hx => HZ.out x (List.mem_of_mem_take hx))
      have HE := Lib.hid (show n = 0 → resV (zs.take 40) = (V0, 0) from fun h0 => by
        rw [List.eq_nil_of_length_eq_zero (show (zs.take 40).length = 0 from by rw [List.length_take, hlz.out]; omega)]; rfl)
      generalize zs.take 40 = ys at *
      clear e hi hi1 hi2 hlz h1 HZ
      have hyl := ho.len
      rw [List.length_map] at hyl
      have HYL := Lib.hid hyl
      have hv := ho.rd
      replace hp := hp.below bb
      replace bb := bl_ca b1 bb
      have hal := all_any A' n' c' (ys.map VI) wr hv (by omega) (vi_rng ys HY.out)
      rw [runV_ints ys HY.out (by omega)] at hal
      have HAD := Lib.hid (addN ys)
      have HMU := Lib.hid (mulN ys)
      have HRV := Lib.hid (show ∀ l : List (Option Int), nums l = ys → l.length ≤ 1000 → runV V0 (l.map VO) = resV ys from fun l h1 h2 => by
        have := runV_opts l [] (by rw [h1]; exact HY.out) (by simp) (by simpa using h2)
        rw [h1] at this
        exact this)
      generalize resV ys = R at *
      have HALL := Lib.hid hal
      clear hal hv b1
      go_wp2_with fail
      refine HALL.out.mono ?_
      rintro e w5 ⟨rfl, q5⟩
      clear HALL
      replace ho := ho.below q5
      replace hp := hp.below q5
      replace bb := bl_ca bb q5
      clear q5
      simp only [resT]
      have hX := Blk.new w5 27 #[.int .i64 R.1.k, .int .i64 R.1.n, .int .u64 R.1.u, .string R.1.s]
      replace ho := ho.alloc (.cells #[.int .i64 R.1.k, .int .i64 R.1.n, .int .u64 R.1.u, .string R.1.s] 27)
      replace hp := hp.below (bl_al (Below.refl _ _) (.cells #[.int .i64 R.1.k, .int .i64 R.1.n, .int .u64 R.1.u, .string R.1.s] 27))
      replace bb := bl_al bb (.cells #[.int .i64 R.1.k, .int .i64 R.1.n, .int .u64 R.1.u, .string R.1.s] 27)
      go_upto_block 2 with fail
      generalize w5.alloc (.cells #[.int .i64 R.1.k, .int .i64 R.1.n, .int .u64 R.1.u, .string R.1.s] 27) = w6 at *
      generalize w5.heap.size = GX at *
      have HS := Lib.hid (show ∃ l : List (Option Int), nums l = ys ∧ l.length = n' + 0 ∧ l.map VO = ys.map VI from ⟨ys.map some, (vo_some ys).2, by rw [List.length_map]; exact HYL.out, (vo_some ys).1⟩)
      generalize ys.map VI = vs0 at *
      obtain ⟨n0, hn0⟩ : ∃ n0, n0 = n' := ⟨_, rfl⟩
      have HN0 := Lib.hid hn0
      clear hn0
      go_cut [5] (fun lv wx => ∃ (n' c' : Nat) (A' : Option Addr) (l : List (Option Int)), lv = .slice A' n' c' ∧ n' ≤ 52 ∧ nums l = ys ∧ OwnV wx 0 A' n' c' (l.map VO) ∧ Blk wx GX 27 #[.int .i64 R.1.k, .int .i64 R.1.n, .int .u64 R.1.u, .string R.1.s] ∧ Below w.heap.size w wx)
      case rest =>
        clear ho hp hX bb HS hn2' hyl
        obtain ⟨m, cm, A3, l, rfl, hm, hnl, ho, hX, bb⟩ := hcut
        have HNL := Lib.hid hnl
        clear hnl
        have hv := ho.rd
        have hal := all_any A3 m cm (l.map VO) wc hv (by omega) (vo_rng l (by rw [HNL.out]; exact HY.out))
        rw [HRV.out l HNL.out (by have := ho.len; rw [List.length_map] at this; omega)] at hal
        have HALL := Lib.hid hal
        clear hal hv ho
        go_wp2_with fail
        refine (HALL.out).mono ?_
        rintro e w51 ⟨rfl, q51⟩
        simp only [resT]
        clear HALL
        replace hX := hX.ca q51
        replace bb := bl_ca bb q51
        clear q51
        have lhS_hX := hX.lt
        replace hX := hX.alloc (.cells #[.int .i64 R.1.k, .int .i64 R.1.n, .int .u64 R.1.u, .string R.1.s] 27)
        have hS := Blk.new w51 27 #[.int .i64 R.1.k, .int .i64 R.1.n, .int .u64 R.1.u, .string R.1.s]
        have bz := bb.size
        replace bb := bl_al bb (.cells #[.int .i64 R.1.k, .int .i64 R.1.n, .int .u64 R.1.u, .string R.1.s] 27)
        go_upto_region 19 with fail
        generalize w51.alloc (.cells #[.int .i64 R.1.k, .int .i64 R.1.n, .int .u64 R.1.u, .string R.1.s] 27) = w52 at *
        generalize w51.heap.size = G52 at *
        go_upto_region 19 with fail
        go_cut [15, 16] (fun pt er wx => ∃ GG : Nat, pt = .pointer (some ⟨GG, 0, none⟩) ∧ er = .int .i64 0 ∧ Blk wx GG 27 #[.int .i64 0, .int .i64 0, .int .u64 0, .string ⟨#[]⟩] ∧ Blk wx GX 27 #[.int .i64 R.1.k, .int .i64 R.1.n, .int .u64 R.1.u, .string R.1.s] ∧ Blk wx G52 27 #[.int .i64 R.1.k, .int .i64 R.1.n, .int .u64 R.1.u, .string R.1.s] ∧ GX < GG ∧ G52 < GG ∧ Below w.heap.size w wx)
        case first =>
          have lb0 := bb.size
          have qq := Below.refl w52.heap.size w52
          have lhX : GX < w52.heap.size := hX.lt
          have lhS : G52 < w52.heap.size := hS.lt
          go_region_held3 (fun w' => w'.cell? ⟨GX, 0, none⟩ = some (.int .i64 R.1.k) ∧ w'.cell? ⟨GX, 1, none⟩ = some (.int .i64 R.1.n) ∧ w'.cell? ⟨GX, 2, none⟩ = some (.int .u64 R.1.u) ∧ w'.cell? ⟨GX, 3, none⟩ = some (.string R.1.s)) (first | with_reducible exact vS (hX) | with_reducible exact vS (hX.drew) | with_reducible exact vS ((hX.alloc _).drew) | with_reducible exact vS (((hX.alloc _).alloc _).drew) | with_reducible exact vS ((hX.alloc _)) | with_reducible exact vS (blk_far4 hX (by omega) _ _ _ _) | with_reducible exact vS (blk_far4 (hX.alloc _) (by omega) _ _ _ _) | go_keep)
            (first
              | (go_at_call 19; (with_reducible refine (vnull_any _).mono ?_); rintro e wa ⟨rfl, qa⟩; replace hX : Blk wa (GX) 27 #[.int .i64 R.1.k, .int .i64 R.1.n, .int .u64 R.1.u, .string R.1.s] := (by first | with_reducible exact (hX).ca qa | with_reducible exact (hX.drew).ca qa | with_reducible exact ((hX.alloc _).drew).ca qa | with_reducible exact (((hX.alloc _).alloc _).drew).ca qa | with_reducible exact ((hX.alloc _)).ca qa); replace hS : Blk wa (G52) 27 #[.int .i64 R.1.k, .int .i64 R.1.n, .int .u64 R.1.u, .string R.1.s] := (by first | with_reducible exact (hS).ca qa | with_reducible exact (hS.drew).ca qa | with_reducible exact ((hS.alloc _).drew).ca qa | with_reducible exact (((hS.alloc _).alloc _).drew).ca qa | with_reducible exact ((hS.alloc _)).ca qa); replace bb : Below w.heap.size w wa := (by first | with_reducible exact bl_ca bb qa | with_reducible exact bl_ca (bl_d1 bb) qa | with_reducible exact bl_ca (bl_d1 (bl_al bb _)) qa | with_reducible exact bl_ca (bl_d1 (bl_al (bl_al bb _) _)) qa | with_reducible exact bl_ca (bl_al bb _) qa); replace qq : Below w52.heap.size w52 wa := (by first | with_reducible exact bl_ca qq qa | with_reducible exact bl_ca (bl_d1 qq) qa | with_reducible exact bl_ca (bl_d1 (bl_al qq _)) qa | with_reducible exact bl_ca (bl_d1 (bl_al (bl_al qq _) _)) qa | with_reducible exact bl_ca (bl_al qq _) qa); have lwa := qq.size)
              | (go_at_call 20; (with_reducible refine (HAD.out _).mono ?_); rintro e wb ⟨rfl, qb⟩; replace hX : Blk wb (GX) 27 #[.int .i64 R.1.k, .int .i64 R.1.n, .int .u64 R.1.u, .string R.1.s] := (by first | with_reducible exact (hX).ca qb | with_reducible exact (hX.drew).ca qb | with_reducible exact ((hX.alloc _).drew).ca qb | with_reducible exact (((hX.alloc _).alloc _).drew).ca qb | with_reducible exact ((hX.alloc _)).ca qb); replace hS : Blk wb (G52) 27 #[.int .i64 R.1.k, .int .i64 R.1.n, .int .u64 R.1.u, .string R.1.s] := (by first | with_reducible exact (hS).ca qb | with_reducible exact (hS.drew).ca qb | with_reducible exact ((hS.alloc _).drew).ca qb | with_reducible exact (((hS.alloc _).alloc _).drew).ca qb | with_reducible exact ((hS.alloc _)).ca qb); replace bb : Below w.heap.size w wb := (by first | with_reducible exact bl_ca bb qb | with_reducible exact bl_ca (bl_d1 bb) qb | with_reducible exact bl_ca (bl_d1 (bl_al bb _)) qb | with_reducible exact bl_ca (bl_d1 (bl_al (bl_al bb _) _)) qb | with_reducible exact bl_ca (bl_al bb _) qb); replace qq : Below w52.heap.size w52 wb := (by first | with_reducible exact bl_ca qq qb | with_reducible exact bl_ca (bl_d1 qq) qb | with_reducible exact bl_ca (bl_d1 (bl_al qq _)) qb | with_reducible exact bl_ca (bl_d1 (bl_al (bl_al qq _) _)) qb | with_reducible exact bl_ca (bl_al qq _) qb); have lwb := qq.size; (first | (have hN : Blk wb w52.heap.size 27 #[.int .i64 0, .int .i64 0, .int .u64 0, .string ⟨#[]⟩] := (by with_reducible exact ((Blk.mk' rfl).drew.ca qa).ca qb); have r0 : wb.cell? ⟨w52.heap.size, 0, none⟩ = some (.int .i64 0) := hN.cell 0; have r1 : wb.cell? ⟨w52.heap.size, 1, none⟩ = some (.int .i64 0) := hN.cell 1; have r2 : wb.cell? ⟨w52.heap.size, 2, none⟩ = some (.int .u64 0) := hN.cell 2; have r3 : wb.cell? ⟨w52.heap.size, 3, none⟩ = some (.string ⟨#[]⟩) := hN.cell 3; have f0 : wb.frozen? ⟨w52.heap.size, 0, none⟩ = false := hN.frozen 0; have f1 : wb.frozen? ⟨w52.heap.size, 1, none⟩ = false := hN.frozen 1; have f2 : wb.frozen? ⟨w52.heap.size, 2, none⟩ = false := hN.frozen 2; have f3 : wb.frozen? ⟨w52.heap.size, 3, none⟩ = false := hN.frozen 3) | (have hN : Blk wb wa.heap.size 27 #[.int .i64 0, .int .i64 0, .int .u64 0, .string ⟨#[]⟩] := (by with_reducible exact (Blk.mk' rfl).ca qb); have lwz : wa.heap.size < wb.heap.size := hN.lt; have r0 : wb.cell? ⟨wa.heap.size, 0, none⟩ = some (.int .i64 0) := hN.cell 0; have r1 : wb.cell? ⟨wa.heap.size, 1, none⟩ = some (.int .i64 0) := hN.cell 1; have r2 : wb.cell? ⟨wa.heap.size, 2, none⟩ = some (.int .u64 0) := hN.cell 2; have r3 : wb.cell? ⟨wa.heap.size, 3, none⟩ = some (.string ⟨#[]⟩) := hN.cell 3; have f0 : wb.frozen? ⟨wa.heap.size, 0, none⟩ = false := hN.frozen 0; have f1 : wb.frozen? ⟨wa.heap.size, 1, none⟩ = false := hN.frozen 1; have f2 : wb.frozen? ⟨wa.heap.size, 2, none⟩ = false := hN.frozen 2; have f3 : wb.frozen? ⟨wa.heap.size, 3, none⟩ = false := hN.frozen 3) | skip)))
          · have hNew := Blk.new wb 27 #[.int .i64 0, .int .i64 0, .int .u64 0, .string ⟨#[]⟩]
            have mhX := hX.lt
            replace hX := hX.alloc (.cells #[.int .i64 0, .int .i64 0, .int .u64 0, .string ⟨#[]⟩] 27)
            have mhS := hS.lt
            replace hS := hS.alloc (.cells #[.int .i64 0, .int .i64 0, .int .u64 0, .string ⟨#[]⟩] 27)
            replace bb := bl_al bb (.cells #[.int .i64 0, .int .i64 0, .int .u64 0, .string ⟨#[]⟩] 27)
            go_wp2_with fail
            go_meet
            exact ⟨wb.heap.size, rfl, rfl, hNew, hX, hS, (by omega), (by omega), bb⟩
          · have hNew := blk_set4 hN (.int .i64 0) (.int .i64 0) (.int .u64 0) (.string ⟨#[]⟩)
            replace hX := blk_far4 hX (g := wa.heap.size) (by omega) (.int .i64 0) (.int .i64 0) (.int .u64 0) (.string ⟨#[]⟩)
            replace hS := blk_far4 hS (g := wa.heap.size) (by omega) (.int .i64 0) (.int .i64 0) (.int .u64 0) (.string ⟨#[]⟩)
            replace bb := bl_set4 bb (g := wa.heap.size) (by omega) (.int .i64 0) (.int .i64 0) (.int .u64 0) (.string ⟨#[]⟩)
            go_wp2_with fail
            go_meet
            exact ⟨wa.heap.size, rfl, rfl, hNew, hX, hS, (by omega), (by omega), bb⟩
          · have hNew := blk_set4 hN (.int .i64 0) (.int .i64 0) (.int .u64 0) (.string ⟨#[]⟩)
            replace hX := blk_far4 hX (g := w52.heap.size) (by omega) (.int .i64 0) (.int .i64 0) (.int .u64 0) (.string ⟨#[]⟩)
            replace hS := blk_far4 hS (g := w52.heap.size) (by omega) (.int .i64 0) (.int .i64 0) (.int .u64 0) (.string ⟨#[]⟩)
            replace bb := bl_set4 bb (g := w52.heap.size) (by omega) (.int .i64 0) (.int .i64 0) (.int .u64 0) (.string ⟨#[]⟩)
            go_wp2_with fail
            go_meet
            exact ⟨w52.heap.size, rfl, rfl, hNew, hX, hS, (by omega), (by omega), bb⟩
        case rest =>
          clear hX hS bb
          obtain ⟨GY, rfl, rfl, hY, hX, hS, khY_hX, khY_hS, bb⟩ := hcut
          obtain ⟨w60, rfl⟩ : ∃ w60 : World, w60 = wc := ⟨_, rfl⟩
          go_upto_region 20 with fail
          go_cut [17, 18] (fun pt er wx => ∃ GG : Nat, pt = .pointer (some ⟨GG, 0, none⟩) ∧ er = .int .i64 0 ∧ Blk wx GG 27 #[.int .i64 0, .int .i64 0, .int .u64 0, .string ⟨#[]⟩] ∧ Blk wx GX 27 #[.int .i64 R.1.k, .int .i64 R.1.n, .int .u64 R.1.u, .string R.1.s] ∧ Blk wx G52 27 #[.int .i64 R.1.k, .int .i64 R.1.n, .int .u64 R.1.u, .string R.1.s] ∧ Blk wx GY 27 #[.int .i64 0, .int .i64 0, .int .u64 0, .string ⟨#[]⟩] ∧ GX < GG ∧ G52 < GG ∧ GY < GG ∧ Below w.heap.size w wx)
          case first =>
            have lb0 := bb.size
            have qq := Below.refl w60.heap.size w60
            have lhX : GX < w60.heap.size := hX.lt
            have lhS : G52 < w60.heap.size := hS.lt
            have lhY : GY < w60.heap.size := hY.lt
            go_region_held3 (fun w' => w'.cell? ⟨GX, 0, none⟩ = some (.int .i64 R.1.k) ∧ w'.cell? ⟨GX, 1, none⟩ = some (.int .i64 R.1.n) ∧ w'.cell? ⟨GX, 2, none⟩ = some (.int .u64 R.1.u) ∧ w'.cell? ⟨GX, 3, none⟩ = some (.string R.1.s)) (first | with_reducible exact vS (hX) | with_reducible exact vS (hX.drew) | with_reducible exact vS ((hX.alloc _).drew) | with_reducible exact vS (((hX.alloc _).alloc _).drew) | with_reducible exact vS ((hX.alloc _)) | with_reducible exact vS (blk_far4 hX (by omega) _ _ _ _) | with_reducible exact vS (blk_far4 (hX.alloc _) (by omega) _ _ _ _) | go_keep)
              (first
                | (go_at_call 19; (with_reducible refine (vnull_any _).mono ?_); rintro e wa ⟨rfl, qa⟩; replace hX : Blk wa (GX) 27 #[.int .i64 R.1.k, .int .i64 R.1.n, .int .u64 R.1.u, .string R.1.s] := (by first | with_reducible exact (hX).ca qa | with_reducible exact (hX.drew).ca qa | with_reducible exact ((hX.alloc _).drew).ca qa | with_reducible exact (((hX.alloc _).alloc _).drew).ca qa | with_reducible exact ((hX.alloc _)).ca qa); replace hS : Blk wa (G52) 27 #[.int .i64 R.1.k, .int .i64 R.1.n, .int .u64 R.1.u, .string R.1.s] := (by first | with_reducible exact (hS).ca qa | with_reducible exact (hS.drew).ca qa | with_reducible exact ((hS.alloc _).drew).ca qa | with_reducible exact (((hS.alloc _).alloc _).drew).ca qa | with_reducible exact ((hS.alloc _)).ca qa); replace hY : Blk wa (GY) 27 #[.int .i64 0, .int .i64 0, .int .u64 0, .string ⟨#[]⟩] := (by first | with_reducible exact (hY).ca qa | with_reducible exact (hY.drew).ca qa | with_reducible exact ((hY.alloc _).drew).ca qa | with_reducible exact (((hY.alloc _).alloc _).drew).ca qa | with_reducible exact ((hY.alloc _)).ca qa); replace bb : Below w.heap.size w wa := (by first | with_reducible exact bl_ca bb qa | with_reducible exact bl_ca (bl_d1 bb) qa | with_reducible exact bl_ca (bl_d1 (bl_al bb _)) qa | with_reducible exact bl_ca (bl_d1 (bl_al (bl_al bb _) _)) qa | with_reducible exact bl_ca (bl_al bb _) qa); replace qq : Below w60.heap.size w60 wa := (by first | with_reducible exact bl_ca qq qa | with_reducible exact bl_ca (bl_d1 qq) qa | with_reducible exact bl_ca (bl_d1 (bl_al qq _)) qa | with_reducible exact bl_ca (bl_d1 (bl_al (bl_al qq _) _)) qa | with_reducible exact bl_ca (bl_al qq _) qa); have lwa := qq.size)
                | (go_at_call 21; (with_reducible refine (HMU.out _).mono ?_); rintro e wb ⟨rfl, qb⟩; replace hX : Blk wb (GX) 27 #[.int .i64 R.1.k, .int .i64 R.1.n, .int .u64 R.1.u, .string R.1.s] := (by first | with_reducible exact (hX).ca qb | with_reducible exact (hX.drew).ca qb | with_reducible exact ((hX.alloc _).drew).ca qb | with_reducible exact (((hX.alloc _).alloc _).drew).ca qb | with_reducible exact ((hX.alloc _)).ca qb); replace hS : Blk wb (G52) 27 #[.int .i64 R.1.k, .int .i64 R.1.n, .int .u64 R.1.u, .string R.1.s] := (by first | with_reducible exact (hS).ca qb | with_reducible exact (hS.drew).ca qb | with_reducible exact ((hS.alloc _).drew).ca qb | with_reducible exact (((hS.alloc _).alloc _).drew).ca qb | with_reducible exact ((hS.alloc _)).ca qb); replace hY : Blk wb (GY) 27 #[.int .i64 0, .int .i64 0, .int .u64 0, .string ⟨#[]⟩] := (by first | with_reducible exact (hY).ca qb | with_reducible exact (hY.drew).ca qb | with_reducible exact ((hY.alloc _).drew).ca qb | with_reducible exact (((hY.alloc _).alloc _).drew).ca qb | with_reducible exact ((hY.alloc _)).ca qb); replace bb : Below w.heap.size w wb := (by first | with_reducible exact bl_ca bb qb | with_reducible exact bl_ca (bl_d1 bb) qb | with_reducible exact bl_ca (bl_d1 (bl_al bb _)) qb | with_reducible exact bl_ca (bl_d1 (bl_al (bl_al bb _) _)) qb | with_reducible exact bl_ca (bl_al bb _) qb); replace qq : Below w60.heap.size w60 wb := (by first | with_reducible exact bl_ca qq qb | with_reducible exact bl_ca (bl_d1 qq) qb | with_reducible exact bl_ca (bl_d1 (bl_al qq _)) qb | with_reducible exact bl_ca (bl_d1 (bl_al (bl_al qq _) _)) qb | with_reducible exact bl_ca (bl_al qq _) qb); have lwb := qq.size; (first | (have hN : Blk wb w60.heap.size 27 #[.int .i64 0, .int .i64 0, .int .u64 0, .string ⟨#[]⟩] := (by with_reducible exact ((Blk.mk' rfl).drew.ca qa).ca qb); have r0 : wb.cell? ⟨w60.heap.size, 0, none⟩ = some (.int .i64 0) := hN.cell 0; have r1 : wb.cell? ⟨w60.heap.size, 1, none⟩ = some (.int .i64 0) := hN.cell 1; have r2 : wb.cell? ⟨w60.heap.size, 2, none⟩ = some (.int .u64 0) := hN.cell 2; have r3 : wb.cell? ⟨w60.heap.size, 3, none⟩ = some (.string ⟨#[]⟩) := hN.cell 3; have f0 : wb.frozen? ⟨w60.heap.size, 0, none⟩ = false := hN.frozen 0; have f1 : wb.frozen? ⟨w60.heap.size, 1, none⟩ = false := hN.frozen 1; have f2 : wb.frozen? ⟨w60.heap.size, 2, none⟩ = false := hN.frozen 2; have f3 : wb.frozen? ⟨w60.heap.size, 3, none⟩ = false := hN.frozen 3) | (have hN : Blk wb wa.heap.size 27 #[.int .i64 0, .int .i64 0, .int .u64 0, .string ⟨#[]⟩] := (by with_reducible exact (Blk.mk' rfl).ca qb); have lwz : wa.heap.size < wb.heap.size := hN.lt; have r0 : wb.cell? ⟨wa.heap.size, 0, none⟩ = some (.int .i64 0) := hN.cell 0; have r1 : wb.cell? ⟨wa.heap.size, 1, none⟩ = some (.int .i64 0) := hN.cell 1; have r2 : wb.cell? ⟨wa.heap.size, 2, none⟩ = some (.int .u64 0) := hN.cell 2; have r3 : wb.cell? ⟨wa.heap.size, 3, none⟩ = some (.string ⟨#[]⟩) := hN.cell 3; have f0 : wb.frozen? ⟨wa.heap.size, 0, none⟩ = false := hN.frozen 0; have f1 : wb.frozen? ⟨wa.heap.size, 1, none⟩ = false := hN.frozen 1; have f2 : wb.frozen? ⟨wa.heap.size, 2, none⟩ = false := hN.frozen 2; have f3 : wb.frozen? ⟨wa.heap.size, 3, none⟩ = false := hN.frozen 3) | skip)))
            · have hNew := Blk.new wb 27 #[.int .i64 0, .int .i64 0, .int .u64 0, .string ⟨#[]⟩]
              have mhX := hX.lt
              replace hX := hX.alloc (.cells #[.int .i64 0, .int .i64 0, .int .u64 0, .string ⟨#[]⟩] 27)
              have mhS := hS.lt
              replace hS := hS.alloc (.cells #[.int .i64 0, .int .i64 0, .int .u64 0, .string ⟨#[]⟩] 27)
              have mhY := hY.lt
              replace hY := hY.alloc (.cells #[.int .i64 0, .int .i64 0, .int .u64 0, .string ⟨#[]⟩] 27)
              replace bb := bl_al bb (.cells #[.int .i64 0, .int .i64 0, .int .u64 0, .string ⟨#[]⟩] 27)
              go_wp2_with fail
              go_meet
              exact ⟨wb.heap.size, rfl, rfl, hNew, hX, hS, hY, (by omega), (by omega), (by omega), bb⟩
            · have hNew := blk_set4 hN (.int .i64 0) (.int .i64 0) (.int .u64 0) (.string ⟨#[]⟩)
              replace hX := blk_far4 hX (g := wa.heap.size) (by omega) (.int .i64 0) (.int .i64 0) (.int .u64 0) (.string ⟨#[]⟩)
              replace hS := blk_far4 hS (g := wa.heap.size) (by omega) (.int .i64 0) (.int .i64 0) (.int .u64 0) (.string ⟨#[]⟩)
              replace hY := blk_far4 hY (g := wa.heap.size) (by omega) (.int .i64 0) (.int .i64 0) (.int .u64 0) (.string ⟨#[]⟩)
              replace bb := bl_set4 bb (g := wa.heap.size) (by omega) (.int .i64 0) (.int .i64 0) (.int .u64 0) (.string ⟨#[]⟩)
              go_wp2_with fail
              go_meet
              exact ⟨wa.heap.size, rfl, rfl, hNew, hX, hS, hY, (by omega), (by omega), (by omega), bb⟩
            · have hNew := blk_set4 hN (.int .i64 0) (.int .i64 0) (.int .u64 0) (.string ⟨#[]⟩)
              replace hX := blk_far4 hX (g := w60.heap.size) (by omega) (.int .i64 0) (.int .i64 0) (.int .u64 0) (.string ⟨#[]⟩)
              replace hS := blk_far4 hS (g := w60.heap.size) (by omega) (.int .i64 0) (.int .i64 0) (.int .u64 0) (.string ⟨#[]⟩)
              replace hY := blk_far4 hY (g := w60.heap.size) (by omega) (.int .i64 0) (.int .i64 0) (.int .u64 0) (.string ⟨#[]⟩)
              replace bb := bl_set4 bb (g := w60.heap.size) (by omega) (.int .i64 0) (.int .i64 0) (.int .u64 0) (.string ⟨#[]⟩)
              go_wp2_with fail
              go_meet
              exact ⟨w60.heap.size, rfl, rfl, hNew, hX, hS, hY, (by omega), (by omega), (by omega), bb⟩
          case rest =>
            clear hX hS hY bb
            obtain ⟨GZ, rfl, rfl, hZ, hX, hS, hY, khZ_hX, khZ_hS, khZ_hY, bb⟩ := hcut
            obtain ⟨w70, rfl⟩ : ∃ w70 : World, w70 = wc := ⟨_, rfl⟩
            by_cases h0 : n = 0
            · have hR := HE.out h0
              have hln : ¬ (0 : Int) < (n : Int) := by omega
              subst hR
              have hX : Blk w70 GX 27 #[.int .i64 0, .int .i64 0, .int .u64 0, .string ⟨#[]⟩] := hX
              have hS : Blk w70 G52 27 #[.int .i64 0, .int .i64 0, .int .u64 0, .string ⟨#[]⟩] := hS
              go_wp2_with fail
              go_region_held3 (fun w' => (w'.cell? ⟨G52, 0, none⟩ = some (.int .i64 0) ∧ w'.cell? ⟨G52, 1, none⟩ = some (.int .i64 0) ∧ w'.cell? ⟨G52, 2, none⟩ = some (.int .u64 0) ∧ w'.cell? ⟨G52, 3, none⟩ = some (.string ⟨#[]⟩)) ∧ (w'.cell? ⟨GX, 0, none⟩ = some (.int .i64 0) ∧ w'.cell? ⟨GX, 1, none⟩ = some (.int .i64 0) ∧ w'.cell? ⟨GX, 2, none⟩ = some (.int .u64 0) ∧ w'.cell? ⟨GX, 3, none⟩ = some (.string ⟨#[]⟩)) ∧ (w'.cell? ⟨GY, 0, none⟩ = some (.int .i64 0) ∧ w'.cell? ⟨GY, 1, none⟩ = some (.int .i64 0) ∧ w'.cell? ⟨GY, 2, none⟩ = some (.int .u64 0) ∧ w'.cell? ⟨GY, 3, none⟩ = some (.string ⟨#[]⟩)) ∧ (w'.cell? ⟨GZ, 0, none⟩ = some (.int .i64 0) ∧ w'.cell? ⟨GZ, 1, none⟩ = some (.int .i64 0) ∧ w'.cell? ⟨GZ, 2, none⟩ = some (.int .u64 0) ∧ w'.cell? ⟨GZ, 3, none⟩ = some (.string ⟨#[]⟩))) (first | with_reducible exact ⟨vS (hS), vS (hX), vS (hY), vS (hZ)⟩ | with_reducible exact ⟨vS (hS.drew), vS (hX.drew), vS (hY.drew), vS (hZ.drew)⟩)
                (first
                  | (go_at_call 19; (with_reducible refine (vnull_any _).mono ?_); rintro e wa ⟨rfl, qa⟩; replace hX : Blk wa (GX) 27 #[.int .i64 0, .int .i64 0, .int .u64 0, .string ⟨#[]⟩] := (by first | with_reducible exact (hX).ca qa | with_reducible exact (hX.drew).ca qa | with_reducible exact ((hX.alloc _).drew).ca qa | with_reducible exact (((hX.alloc _).alloc _).drew).ca qa | with_reducible exact ((hX.alloc _)).ca qa); replace hS : Blk wa (G52) 27 #[.int .i64 0, .int .i64 0, .int .u64 0, .string ⟨#[]⟩] := (by first | with_reducible exact (hS).ca qa | with_reducible exact (hS.drew).ca qa | with_reducible exact ((hS.alloc _).drew).ca qa | with_reducible exact (((hS.alloc _).alloc _).drew).ca qa | with_reducible exact ((hS.alloc _)).ca qa); replace hY : Blk wa (GY) 27 #[.int .i64 0, .int .i64 0, .int .u64 0, .string ⟨#[]⟩] := (by first | with_reducible exact (hY).ca qa | with_reducible exact (hY.drew).ca qa | with_reducible exact ((hY.alloc _).drew).ca qa | with_reducible exact (((hY.alloc _).alloc _).drew).ca qa | with_reducible exact ((hY.alloc _)).ca qa); replace hZ : Blk wa (GZ) 27 #[.int .i64 0, .int .i64 0, .int .u64 0, .string ⟨#[]⟩] := (by first | with_reducible exact (hZ).ca qa | with_reducible exact (hZ.drew).ca qa | with_reducible exact ((hZ.alloc _).drew).ca qa | with_reducible exact (((hZ.alloc _).alloc _).drew).ca qa | with_reducible exact ((hZ.alloc _)).ca qa); replace bb : Below w.heap.size w wa := (by first | with_reducible exact bl_ca bb qa | with_reducible exact bl_ca (bl_d1 bb) qa | with_reducible exact bl_ca (bl_d1 (bl_al bb _)) qa | with_reducible exact bl_ca (bl_d1 (bl_al (bl_al bb _) _)) qa | with_reducible exact bl_ca (bl_al bb _) qa); clear qa; obtain ⟨wz, rfl⟩ : ∃ wz : World, wz = wa := ⟨_, rfl⟩))
              go_wp2
              go_ret
              exact ⟨rfl, bb⟩
            · have hln : (0 : Int) < (n : Int) := by omega
              have hln2 : 0 < n := by omega
              have hln3 : decide ((0 : Int) < (n : Int)) = true := decide_eq_true hln
              have hln4 : decide (0 < n) = true := decide_eq_true hln2
              go_wp2_with fail
              refine wp_region_held_drew (S := fun w' => (w'.cell? ⟨G52, 0, none⟩ = some (.int .i64 R.1.k) ∧ w'.cell? ⟨G52, 1, none⟩ = some (.int .i64 R.1.n) ∧ w'.cell? ⟨G52, 2, none⟩ = some (.int .u64 R.1.u) ∧ w'.cell? ⟨G52, 3, none⟩ = some (.string R.1.s)) ∧ (w'.cell? ⟨GX, 0, none⟩ = some (.int .i64 R.1.k) ∧ w'.cell? ⟨GX, 1, none⟩ = some (.int .i64 R.1.n) ∧ w'.cell? ⟨GX, 2, none⟩ = some (.int .u64 R.1.u) ∧ w'.cell? ⟨GX, 3, none⟩ = some (.string R.1.s)) ∧ (w'.cell? ⟨GY, 0, none⟩ = some (.int .i64 0) ∧ w'.cell? ⟨GY, 1, none⟩ = some (.int .i64 0) ∧ w'.cell? ⟨GY, 2, none⟩ = some (.int .u64 0) ∧ w'.cell? ⟨GY, 3, none⟩ = some (.string ⟨#[]⟩)) ∧ (w'.cell? ⟨GZ, 0, none⟩ = some (.int .i64 0) ∧ w'.cell? ⟨GZ, 1, none⟩ = some (.int .i64 0) ∧ w'.cell? ⟨GZ, 2, none⟩ = some (.int .u64 0) ∧ w'.cell? ⟨GZ, 3, none⟩ = some (.string ⟨#[]⟩))) (by kernel_rfl) ?_ (fun hHeld => ?_)
              · (first | with_reducible exact ⟨vS (hS), vS (hX), vS (hY), vS (hZ)⟩ | with_reducible exact ⟨vS (hS.drew), vS (hX.drew), vS (hY.drew), vS (hZ.drew)⟩)
              refine wpAnyH_take (i := 0) (v := ?v0) rfl (by kernel_rfl) (by kernel_rfl) (by kernel_rfl) (fun _ _ _ h => h) (Or.inl ⟨by rfl, ?hy0⟩) (by assumption) ?rest0
              case hy0 => intro w' hSw; (try dsimp only at hSw); go_simp; (try with_reducible rfl)
              simp only [Act.put, List.setIfInBounds_toArray, List.set_cons_zero, List.set_cons_succ, List.getElem_toArray, List.getElem_cons_zero]
              refine wpAnyH_take (i := 1) (v := ?v1) rfl (by kernel_rfl) (by kernel_rfl) (by kernel_rfl) (fun _ _ _ h => h) (Or.inl ⟨by rfl, ?hy1⟩) (by assumption) ?rest1
              case hy1 => intro w' hSw; (try dsimp only at hSw); go_simp; (try with_reducible rfl)
              simp only [Act.put, List.setIfInBounds_toArray, List.set_cons_zero, List.set_cons_succ, List.getElem_toArray, List.getElem_cons_zero, List.getElem_cons_succ]
              refine wpAnyH_take (i := 2) (v := ?v2) rfl (by kernel_rfl) (by kernel_rfl) (by kernel_rfl) (fun _ _ _ h => h) (Or.inl ⟨by rfl, ?hy2⟩) (by assumption) ?rest2
              case hy2 => intro w' hSw; (try dsimp only at hSw); go_simp; (try with_reducible rfl)
              simp only [Act.put, List.setIfInBounds_toArray, List.set_cons_zero, List.set_cons_succ, List.getElem_toArray, List.getElem_cons_zero, List.getElem_cons_succ]
              refine wpAnyH_take (i := 3) (v := ?v3) rfl (by kernel_rfl) (by kernel_rfl) (by kernel_rfl) (fun _ _ _ h => h) (Or.inl ⟨by rfl, ?hy3⟩) (by assumption) ?rest3
              case hy3 => intro w' hSw; (try dsimp only at hSw); go_simp; (try with_reducible rfl)
              simp only [Act.put, List.setIfInBounds_toArray, List.set_cons_zero, List.set_cons_succ, List.getElem_toArray, List.getElem_cons_zero, List.getElem_cons_succ]
              refine wpAnyH_take (i := 4) (v := ?v4) rfl (by kernel_rfl) (by kernel_rfl) (by kernel_rfl) (fun _ _ _ h => h) (Or.inl ⟨by rfl, ?hy4⟩) (by assumption) ?rest4
              case hy4 => intro w' hSw; (try dsimp only at hSw); go_simp; (try with_reducible rfl)
              simp only [Act.put, List.setIfInBounds_toArray, List.set_cons_zero, List.set_cons_succ, List.getElem_toArray, List.getElem_cons_zero, List.getElem_cons_succ]
              refine wpAnyH_take (i := 5) (v := ?v5) rfl (by kernel_rfl) (by kernel_rfl) (by kernel_rfl) (fun _ _ _ h => h) (Or.inl ⟨by rfl, ?hy5⟩) (by assumption) ?rest5
              case hy5 => intro w' hSw; (try dsimp only at hSw); go_simp; (try with_reducible rfl)
              simp only [Act.put, List.setIfInBounds_toArray, List.set_cons_zero, List.set_cons_succ, List.getElem_toArray, List.getElem_cons_zero, List.getElem_cons_succ]
              refine wpAnyH_take (i := 6) (v := ?v6) rfl (by kernel_rfl) (by kernel_rfl) (by kernel_rfl) (fun _ _ _ h => h) (Or.inl ⟨by rfl, ?hy6⟩) (by assumption) ?rest6
              case hy6 => intro w' hSw; (try dsimp only at hSw); go_simp; (try with_reducible rfl)
              simp only [Act.put, List.setIfInBounds_toArray, List.set_cons_zero, List.set_cons_succ, List.getElem_toArray, List.getElem_cons_zero, List.getElem_cons_succ]
              refine wpAnyH_take (i := 7) (v := ?v7) rfl (by kernel_rfl) (by kernel_rfl) (by kernel_rfl) (fun _ _ _ h => h) (Or.inl ⟨by rfl, ?hy7⟩) (by assumption) ?rest7
              case hy7 => intro w' hSw; (try dsimp only at hSw); go_simp; (try with_reducible rfl)
              simp only [Act.put, List.setIfInBounds_toArray, List.set_cons_zero, List.set_cons_succ, List.getElem_toArray, List.getElem_cons_zero, List.getElem_cons_succ]
              refine wpAnyH_take (i := 8) (v := ?v8) rfl (by kernel_rfl) (by kernel_rfl) (by kernel_rfl) (fun _ _ _ h => h) (Or.inl ⟨by rfl, ?hy8⟩) (by assumption) ?rest8
              case hy8 => intro w' hSw; (try dsimp only at hSw); go_simp; (try with_reducible rfl)
              simp only [Act.put, List.setIfInBounds_toArray, List.set_cons_zero, List.set_cons_succ, List.getElem_toArray, List.getElem_cons_zero, List.getElem_cons_succ]
              refine wpAnyH_take (i := 9) (v := ?v9) rfl (by kernel_rfl) (by kernel_rfl) (by kernel_rfl) (fun _ _ _ h => h) (Or.inl ⟨by rfl, ?hy9⟩) (by assumption) ?rest9
              case hy9 => intro w' hSw; (try dsimp only at hSw); go_simp; (try with_reducible rfl)
              simp only [Act.put, List.setIfInBounds_toArray, List.set_cons_zero, List.set_cons_succ, List.getElem_toArray, List.getElem_cons_zero, List.getElem_cons_succ]
              refine wpAnyH_take (i := 10) (v := ?v10) rfl (by kernel_rfl) (by kernel_rfl) (by kernel_rfl) (fun _ _ _ h => h) (Or.inl ⟨by rfl, ?hy10⟩) (by assumption) ?rest10
              case hy10 => intro w' hSw; (try dsimp only at hSw); go_simp; (try with_reducible rfl)
              simp only [Act.put, List.setIfInBounds_toArray, List.set_cons_zero, List.set_cons_succ, List.getElem_toArray, List.getElem_cons_zero, List.getElem_cons_succ]
              refine wpAnyH_take (i := 11) (v := ?v11) rfl (by kernel_rfl) (by kernel_rfl) (by kernel_rfl) (fun _ _ _ h => h) (Or.inl ⟨by rfl, ?hy11⟩) (by assumption) ?rest11
              case hy11 => intro w' hSw; (try dsimp only at hSw); go_simp; (try with_reducible rfl)
              simp only [Act.put, List.setIfInBounds_toArray, List.set_cons_zero, List.set_cons_succ, List.getElem_toArray, List.getElem_cons_zero, List.getElem_cons_succ]
              refine wpAnyH_take (i := 12) (v := ?v12) rfl (by kernel_rfl) (by kernel_rfl) (by kernel_rfl) (fun _ _ _ h => h) (Or.inl ⟨by rfl, ?hy12⟩) (by assumption) ?rest12
              case hy12 => intro w' hSw; (try dsimp only at hSw); go_simp; (try with_reducible rfl)
              simp only [Act.put, List.setIfInBounds_toArray, List.set_cons_zero, List.set_cons_succ, List.getElem_toArray, List.getElem_cons_zero, List.getElem_cons_succ]
              refine wpAnyH_take (i := 13) (v := ?v13) rfl (by kernel_rfl) (by kernel_rfl) (by kernel_rfl) (fun _ _ _ h => h) (Or.inl ⟨by rfl, ?hy13⟩) (by assumption) ?rest13
              case hy13 => intro w' hSw; (try dsimp only at hSw); go_simp; (try with_reducible rfl)
              simp only [Act.put, List.setIfInBounds_toArray, List.set_cons_zero, List.set_cons_succ, List.getElem_toArray, List.getElem_cons_zero, List.getElem_cons_succ]
              refine wpAnyH_take (i := 14) (v := ?v14) rfl (by kernel_rfl) (by kernel_rfl) (by kernel_rfl) (fun _ _ _ h => h) (Or.inl ⟨by rfl, ?hy14⟩) (by assumption) ?rest14
              case hy14 => intro w' hSw; (try dsimp only at hSw); go_simp; (try with_reducible rfl)
              simp only [Act.put, List.setIfInBounds_toArray, List.set_cons_zero, List.set_cons_succ, List.getElem_toArray, List.getElem_cons_zero, List.getElem_cons_succ]
              refine wpAnyH_take (i := 15) (v := ?v15) rfl (by kernel_rfl) (by kernel_rfl) (by kernel_rfl) (fun _ _ _ h => h) (Or.inl ⟨by rfl, ?hy15⟩) (by assumption) ?rest15
              case hy15 => intro w' hSw; (try dsimp only at hSw); go_simp; (try with_reducible rfl)
              simp only [Act.put, List.setIfInBounds_toArray, List.set_cons_zero, List.set_cons_succ, List.getElem_toArray, List.getElem_cons_zero, List.getElem_cons_succ]
              refine wpAnyH_take (i := 16) (v := ?v16) rfl (by kernel_rfl) (by kernel_rfl) (by kernel_rfl) (fun _ _ _ h => h) (Or.inl ⟨by rfl, ?hy16⟩) (by assumption) ?rest16
              case hy16 => intro w' hSw; (try dsimp only at hSw); go_simp; (try with_reducible rfl)
              simp only [Act.put, List.setIfInBounds_toArray, List.set_cons_zero, List.set_cons_succ, List.getElem_toArray, List.getElem_cons_zero, List.getElem_cons_succ]
              refine wpAnyH_take (i := 17) (v := ?v17) rfl (by kernel_rfl) (by kernel_rfl) (by kernel_rfl) (fun _ _ _ h => h) (Or.inl ⟨by rfl, ?hy17⟩) (by assumption) ?rest17
              case hy17 => intro w' hSw; (try dsimp only at hSw); go_simp; (try with_reducible rfl)
              simp only [Act.put, List.setIfInBounds_toArray, List.set_cons_zero, List.set_cons_succ, List.getElem_toArray, List.getElem_cons_zero, List.getElem_cons_succ]
              refine wpAnyH_ready (rs := [18]) (by kernel_rfl) (by simp) ?_
              refine AllReadyH.cons rfl (fun K hK => ?_) AllReadyH.nil
              go_simp
              go_at_call 19; (with_reducible refine (vnull_any _).mono ?_); rintro e wa ⟨rfl, qa⟩; replace hX : Blk wa (GX) 27 #[.int .i64 R.1.k, .int .i64 R.1.n, .int .u64 R.1.u, .string R.1.s] := (by first | with_reducible exact (hX).ca qa | with_reducible exact (hX.drew).ca qa | with_reducible exact ((hX.alloc _).drew).ca qa | with_reducible exact (((hX.alloc _).alloc _).drew).ca qa | with_reducible exact ((hX.alloc _)).ca qa); replace hS : Blk wa (G52) 27 #[.int .i64 R.1.k, .int .i64 R.1.n, .int .u64 R.1.u, .string R.1.s] := (by first | with_reducible exact (hS).ca qa | with_reducible exact (hS.drew).ca qa | with_reducible exact ((hS.alloc _).drew).ca qa | with_reducible exact (((hS.alloc _).alloc _).drew).ca qa | with_reducible exact ((hS.alloc _)).ca qa); replace hY : Blk wa (GY) 27 #[.int .i64 0, .int .i64 0, .int .u64 0, .string ⟨#[]⟩] := (by first | with_reducible exact (hY).ca qa | with_reducible exact (hY.drew).ca qa | with_reducible exact ((hY.alloc _).drew).ca qa | with_reducible exact (((hY.alloc _).alloc _).drew).ca qa | with_reducible exact ((hY.alloc _)).ca qa); replace hZ : Blk wa (GZ) 27 #[.int .i64 0, .int .i64 0, .int .u64 0, .string ⟨#[]⟩] := (by first | with_reducible exact (hZ).ca qa | with_reducible exact (hZ.drew).ca qa | with_reducible exact ((hZ.alloc _).drew).ca qa | with_reducible exact (((hZ.alloc _).alloc _).drew).ca qa | with_reducible exact ((hZ.alloc _)).ca qa); replace bb : Below w.heap.size w wa := (by first | with_reducible exact bl_ca bb qa | with_reducible exact bl_ca (bl_d1 bb) qa | with_reducible exact bl_ca (bl_d1 (bl_al bb _)) qa | with_reducible exact bl_ca (bl_d1 (bl_al (bl_al bb _) _)) qa | with_reducible exact bl_ca (bl_al bb _) qa); clear qa; obtain ⟨wz, rfl⟩ : ∃ wz : World, wz = wa := ⟨_, rfl⟩
              go_wp2_with fail
              refine hK.out _ _ ?_ (fun hHeld => ?_)
              · (first | with_reducible exact ⟨vS (hS), vS (hX), vS (hY), vS (hZ)⟩ | with_reducible exact ⟨vS (hS.drew), vS (hX.drew), vS (hY.drew), vS (hZ.drew)⟩)
              clear hK K
              refine wpAnyH_take (i := 19) (v := ?v19) rfl (by kernel_rfl) (by kernel_rfl) (by kernel_rfl) (fun _ _ _ h => h) (Or.inl ⟨by rfl, ?hy19⟩) (by assumption) ?rest19
              case hy19 => intro w' hSw; (try dsimp only at hSw); go_simp; (try with_reducible rfl)
              simp only [Act.put, List.setIfInBounds_toArray, List.set_cons_zero, List.set_cons_succ, List.getElem_toArray, List.getElem_cons_zero, List.getElem_cons_succ]
              refine wpAnyH_take (i := 20) (v := ?v20) rfl (by kernel_rfl) (by kernel_rfl) (by kernel_rfl) (fun _ _ _ h => h) (Or.inl ⟨by rfl, ?hy20⟩) (by assumption) ?rest20
              case hy20 => intro w' hSw; (try dsimp only at hSw); go_simp; (try with_reducible rfl)
              simp only [Act.put, List.setIfInBounds_toArray, List.set_cons_zero, List.set_cons_succ, List.getElem_toArray, List.getElem_cons_zero, List.getElem_cons_succ]
              refine wpAnyH_take (i := 21) (v := ?v21) rfl (by kernel_rfl) (by kernel_rfl) (by kernel_rfl) (fun _ _ _ h => h) (Or.inl ⟨by rfl, ?hy21⟩) (by assumption) ?rest21
              case hy21 => intro w' hSw; (try dsimp only at hSw); go_simp; (try with_reducible rfl)
              simp only [Act.put, List.setIfInBounds_toArray, List.set_cons_zero, List.set_cons_succ, List.getElem_toArray, List.getElem_cons_zero, List.getElem_cons_succ]
              refine wpAnyH_take (i := 22) (v := ?v22) rfl (by kernel_rfl) (by kernel_rfl) (by kernel_rfl) (fun _ _ _ h => h) (Or.inl ⟨by rfl, ?hy22⟩) (by assumption) ?rest22
              case hy22 => intro w' hSw; (try dsimp only at hSw); go_simp; (try with_reducible rfl)
              simp only [Act.put, List.setIfInBounds_toArray, List.set_cons_zero, List.set_cons_succ, List.getElem_toArray, List.getElem_cons_zero, List.getElem_cons_succ]
              refine wpAnyH_ready (rs := [23]) (by kernel_rfl) (by simp) ?_
              refine AllReadyH.cons rfl (fun K hK => ?_) AllReadyH.nil
              go_simp
              go_at_call 19; (with_reducible refine (vnull_any _).mono ?_); rintro e wa ⟨rfl, qa⟩; replace hX : Blk wa (GX) 27 #[.int .i64 R.1.k, .int .i64 R.1.n, .int .u64 R.1.u, .string R.1.s] := (by first | with_reducible exact (hX).ca qa | with_reducible exact (hX.drew).ca qa | with_reducible exact ((hX.alloc _).drew).ca qa | with_reducible exact (((hX.alloc _).alloc _).drew).ca qa | with_reducible exact ((hX.alloc _)).ca qa); replace hS : Blk wa (G52) 27 #[.int .i64 R.1.k, .int .i64 R.1.n, .int .u64 R.1.u, .string R.1.s] := (by first | with_reducible exact (hS).ca qa | with_reducible exact (hS.drew).ca qa | with_reducible exact ((hS.alloc _).drew).ca qa | with_reducible exact (((hS.alloc _).alloc _).drew).ca qa | with_reducible exact ((hS.alloc _)).ca qa); replace hY : Blk wa (GY) 27 #[.int .i64 0, .int .i64 0, .int .u64 0, .string ⟨#[]⟩] := (by first | with_reducible exact (hY).ca qa | with_reducible exact (hY.drew).ca qa | with_reducible exact ((hY.alloc _).drew).ca qa | with_reducible exact (((hY.alloc _).alloc _).drew).ca qa | with_reducible exact ((hY.alloc _)).ca qa); replace hZ : Blk wa (GZ) 27 #[.int .i64 0, .int .i64 0, .int .u64 0, .string ⟨#[]⟩] := (by first | with_reducible exact (hZ).ca qa | with_reducible exact (hZ.drew).ca qa | with_reducible exact ((hZ.alloc _).drew).ca qa | with_reducible exact (((hZ.alloc _).alloc _).drew).ca qa | with_reducible exact ((hZ.alloc _)).ca qa); replace bb : Below w.heap.size w wa := (by first | with_reducible exact bl_ca bb qa | with_reducible exact bl_ca (bl_d1 bb) qa | with_reducible exact bl_ca (bl_d1 (bl_al bb _)) qa | with_reducible exact bl_ca (bl_d1 (bl_al (bl_al bb _) _)) qa | with_reducible exact bl_ca (bl_al bb _) qa); clear qa; obtain ⟨wz, rfl⟩ : ∃ wz : World, wz = wa := ⟨_, rfl⟩
              go_wp2_with fail
              refine hK.out _ _ ?_ (fun hHeld => ?_)
              · (first | with_reducible exact ⟨vS (hS), vS (hX), vS (hY), vS (hZ)⟩ | with_reducible exact ⟨vS (hS.drew), vS (hX.drew), vS (hY.drew), vS (hZ.drew)⟩)
              clear hK K
              refine wpAnyH_take (i := 24) (v := ?v24) rfl (by kernel_rfl) (by kernel_rfl) (by kernel_rfl) (fun _ _ _ h => h) (Or.inl ⟨by rfl, ?hy24⟩) (by assumption) ?rest24
              case hy24 => intro w' hSw; (try dsimp only at hSw); go_simp; (try with_reducible rfl)
              simp only [Act.put, List.setIfInBounds_toArray, List.set_cons_zero, List.set_cons_succ, List.getElem_toArray, List.getElem_cons_zero, List.getElem_cons_succ]
              refine wpAnyH_take (i := 25) (v := ?v25) rfl (by kernel_rfl) (by kernel_rfl) (by kernel_rfl) (fun _ _ _ h => h) (Or.inl ⟨by rfl, ?hy25⟩) (by assumption) ?rest25
              case hy25 => intro w' hSw; (try dsimp only at hSw); go_simp; (try with_reducible rfl)
              simp only [Act.put, List.setIfInBounds_toArray, List.set_cons_zero, List.set_cons_succ, List.getElem_toArray, List.getElem_cons_zero, List.getElem_cons_succ]
              refine wpAnyH_take (i := 26) (v := ?v26) rfl (by kernel_rfl) (by kernel_rfl) (by kernel_rfl) (fun _ _ _ h => h) (Or.inl ⟨by rfl, ?hy26⟩) (by assumption) ?rest26
              case hy26 => intro w' hSw; (try dsimp only at hSw); go_simp; (try with_reducible rfl)
              simp only [Act.put, List.setIfInBounds_toArray, List.set_cons_zero, List.set_cons_succ, List.getElem_toArray, List.getElem_cons_zero, List.getElem_cons_succ]
              refine wpAnyH_take (i := 27) (v := ?v27) rfl (by kernel_rfl) (by kernel_rfl) (by kernel_rfl) (fun _ _ _ h => h) (Or.inl ⟨by rfl, ?hy27⟩) (by assumption) ?rest27
              case hy27 => intro w' hSw; (try dsimp only at hSw); go_simp; (try with_reducible rfl)
              simp only [Act.put, List.setIfInBounds_toArray, List.set_cons_zero, List.set_cons_succ, List.getElem_toArray, List.getElem_cons_zero, List.getElem_cons_succ]
              refine wpAnyH_take (i := 28) (v := ?v28) rfl (by kernel_rfl) (by kernel_rfl) (by kernel_rfl) (fun _ _ _ h => h) (Or.inl ⟨by rfl, ?hy28⟩) (by assumption) ?rest28
              case hy28 => intro w' hSw; (try dsimp only at hSw); go_simp; (try with_reducible rfl)
              simp only [Act.put, List.setIfInBounds_toArray, List.set_cons_zero, List.set_cons_succ, List.getElem_toArray, List.getElem_cons_zero, List.getElem_cons_succ]
              refine wpAnyH_take (i := 29) (v := ?v29) rfl (by kernel_rfl) (by kernel_rfl) (by kernel_rfl) (fun _ _ _ h => h) (Or.inl ⟨by rfl, ?hy29⟩) (by assumption) ?rest29
              case hy29 => intro w' hSw; (try dsimp only at hSw); go_simp; (try with_reducible rfl)
              simp only [Act.put, List.setIfInBounds_toArray, List.set_cons_zero, List.set_cons_succ, List.getElem_toArray, List.getElem_cons_zero, List.getElem_cons_succ]
              refine wpAnyH_take (i := 30) (v := ?v30) rfl (by kernel_rfl) (by kernel_rfl) (by kernel_rfl) (fun _ _ _ h => h) (Or.inl ⟨by rfl, ?hy30⟩) (by assumption) ?rest30
              case hy30 => intro w' hSw; (try dsimp only at hSw); go_simp; (try with_reducible rfl)
              simp only [Act.put, List.setIfInBounds_toArray, List.set_cons_zero, List.set_cons_succ, List.getElem_toArray, List.getElem_cons_zero, List.getElem_cons_succ]
              refine wpAnyH_take (i := 31) (v := undef) rfl (by kernel_rfl) (by kernel_rfl) (by kernel_rfl) (fun _ _ _ h => h) (Or.inr ⟨by rfl, rfl⟩) (by assumption) ?rest31
              simp only [Act.put, List.setIfInBounds_toArray, List.set_cons_zero, List.set_cons_succ, List.getElem_toArray, List.getElem_cons_zero, List.getElem_cons_succ]
              refine wpAnyH_take (i := 32) (v := undef) rfl (by kernel_rfl) (by kernel_rfl) (by kernel_rfl) (fun _ _ _ h => h) (Or.inr ⟨by rfl, rfl⟩) (by assumption) ?rest32
              simp only [Act.put, List.setIfInBounds_toArray, List.set_cons_zero, List.set_cons_succ, List.getElem_toArray, List.getElem_cons_zero, List.getElem_cons_succ]
              refine wpAnyH_take (i := 33) (v := undef) rfl (by kernel_rfl) (by kernel_rfl) (by kernel_rfl) (fun _ _ _ h => h) (Or.inr ⟨by rfl, rfl⟩) (by assumption) ?rest33
              simp only [Act.put, List.setIfInBounds_toArray, List.set_cons_zero, List.set_cons_succ, List.getElem_toArray, List.getElem_cons_zero, List.getElem_cons_succ]
              refine wpAnyH_take (i := 34) (v := ?v34) rfl (by kernel_rfl) (by kernel_rfl) (by kernel_rfl) (fun _ _ _ h => h) (Or.inl ⟨by rfl, ?hy34⟩) (by assumption) ?rest34
              case hy34 => intro w' hSw; (try dsimp only at hSw); go_simp; (try with_reducible rfl)
              simp only [Act.put, List.setIfInBounds_toArray, List.set_cons_zero, List.set_cons_succ, List.getElem_toArray, List.getElem_cons_zero, List.getElem_cons_succ]
              refine wpAnyH_take (i := 35) (v := ?v35) rfl (by kernel_rfl) (by kernel_rfl) (by kernel_rfl) (fun _ _ _ h => h) (Or.inl ⟨by rfl, ?hy35⟩) (by assumption) ?rest35
              case hy35 => intro w' hSw; (try dsimp only at hSw); go_simp; (try with_reducible rfl)
              simp only [Act.put, List.setIfInBounds_toArray, List.set_cons_zero, List.set_cons_succ, List.getElem_toArray, List.getElem_cons_zero, List.getElem_cons_succ]
              refine wpAnyH_take (i := 36) (v := ?v36) rfl (by kernel_rfl) (by kernel_rfl) (by kernel_rfl) (fun _ _ _ h => h) (Or.inl ⟨by rfl, ?hy36⟩) (by assumption) ?rest36
              case hy36 => intro w' hSw; (try dsimp only at hSw); go_simp; (try with_reducible rfl)
              simp only [Act.put, List.setIfInBounds_toArray, List.set_cons_zero, List.set_cons_succ, List.getElem_toArray, List.getElem_cons_zero, List.getElem_cons_succ]
              refine wpAnyH_done (by kernel_rfl) ?_ _
              go_wp2
              go_ret
              exact ⟨rfl, bb⟩
      case first =>
       go_wp2_with fail
       go_loopg [5, 43] n2 (fun g o s wr => ∃ (k n' c' : Nat) (A' : Option Addr) (l : List (Option Int)), k + g ≤ n2 ∧ n2 ≤ k + g ∧ s = .int .i64 k ∧ o = .slice A' n' c' ∧ k ≤ 12 ∧ n' ≤ 40 + k ∧ nums l = ys ∧ OwnV wr 0 A' n' c' (l.map VO) ∧ RdI wr A2 n2 ps ∧ Blk wr GX 27 #[.int .i64 R.1.k, .int .i64 R.1.n, .int .u64 R.1.u, .string R.1.s] ∧ Below w.heap.size w wr)
       case atStart =>
        obtain ⟨l, s1, _, s3⟩ := HS.out
        exact ⟨0, n', c', A', l, by omega, by omega, rfl, rfl, by omega, by omega, s1, by rw [s3]; exact ho.more (Nat.zero_le _), hp, hX, bb⟩
       case round =>
        clear ho hp hX bb HS hn2' hyl
        obtain ⟨k, m, cm, A3, l, hk1, hk2, rfl, rfl, hk12, hm, hnl, ho, hp, hX, bb⟩ := hrel
        have HNL := Lib.hid hnl
        clear hnl
        by_cases hk : k < n2
        · obtain ⟨ad, p, rfl, _, cz⟩ := hp.at_ hk
          by_cases hk0 : k = 12
          · have t12 : ((k : Int) == 12) = true := ibeq_t (by omega)
            clear hk0 hk1 hk2
            go_wp2_with fail
            go_meet
            exact ⟨m, cm, A3, l, rfl, by omega, HNL.out, ho, hX, bb⟩
          · have t12 : ((k : Int) == 12) = false := ibeq_f (by omega)
            obtain ⟨q, hq, hqe⟩ := umod p m (by omega)
            go_wp2_with fail
            rw [hqe]
            clear hqe cz
            have hcp := ho.caps
            have q0 : (0 : Int) ≤ (q : Int) := by omega
            have q1 : (q : Int) ≤ (m : Int) := by omega
            have q2 : (q : Int) ≤ (cm : Int) := by omega
            have q3 : (m : Int) ≤ (cm : Int) := by omega
            have qq := Below.refl wr.heap.size wr
            by_cases hcq : cm = q
            · have hcq1 : (cm == q) = true := by simpa using hcq
              have hcq2 : decide ((cm : Int) = (q : Int)) = true := decide_eq_true (by omega)
              have HTL := Lib.hid (show ∀ w', Below wr.heap.size wr w' → Reads w' w'.heap.size 4 A3 (m - q) (vcells ((l.map VO).drop q)) from fun w' b => by
                have := (ho.below b).tail hq
                rwa [if_pos hcq] at this)
              have HO := Lib.hid (fun w' (b : Below wr.heap.size wr w') => ho.below b)
              have HML := Lib.hid (show (l.take q ++ none :: l.drop q).map VO = (l.map VO).take q ++ ([V0] ++ (l.map VO).drop q) from by rw [List.map_append, List.map_cons, List.map_take, List.map_drop]; rfl)
              have lX := hX.lt
              clear t12 ho hcp
              go_region_held3 (fun _ => True) (exact trivial)
                (first
                  | (go_at_call 19; (with_reducible refine (vnull_any _).mono ?_); rintro e wa ⟨rfl, qa⟩; replace qq : Below wr.heap.size wr wa := (by first | with_reducible exact bl_ca qq qa | with_reducible exact bl_ca (bl_d1 qq) qa))
                  | (refine step_appI rfl (.tmp 63) (.tmp 66) rfl wa.heap.size (some ⟨wa.heap.size, 0, none⟩) 1 1 [V0] _ (m - q) _ ((l.map VO).drop q) rfl rfl (own_one (Blk.new _ _ _)) (HTL.out _ (bl_al qq _)) (by omega) (by simp) ?_; intro A6 c6 wb ho6 qb; have lqq := qq.size; replace qq := (bl_al qq _).trans (qb.mono lqq))
                  | (refine step_appO rfl (.tmp 61) (.tmp 67) rfl 0 A3 m cm q (l.map VO) _ _ _ _ _ rfl rfl (HO.out _ qq) hq ho6 (by omega) (by omega) ?_; intro A7 c7 wc ho7 qc; replace qq := bl_ca qq qc))
              go_wp2
              go_roundg (gk - 1)
              · exact ⟨k + 1, q + (1 + (m - q)), c7, A7, l.take q ++ none :: l.drop q, by omega, by omega, by go_num, rfl, by omega, by omega, by rw [nums_put]; exact HNL.out, by rw [HML.out]; exact ho7.more (Nat.zero_le _), hp.below qq, hX.below qq lX, bb.trans (qq.mono bb.size)⟩
              · omega
            · have hcq1 : (cm == q) = false := by simpa using hcq
              have hcq2 : decide ((cm : Int) = (q : Int)) = false := decide_eq_false (by omega)
              have HTL := Lib.hid (show ∀ w', Below wr.heap.size wr w' → Reads w' w'.heap.size 4 (A3.map (·.add (q * 4))) (m - q) (vcells ((l.map VO).drop q)) from fun w' b => by
                have := (ho.below b).tail hq
                rwa [if_neg hcq] at this)
              have HO := Lib.hid (fun w' (b : Below wr.heap.size wr w') => ho.below b)
              have HML := Lib.hid (show (l.take q ++ none :: l.drop q).map VO = (l.map VO).take q ++ ([V0] ++ (l.map VO).drop q) from by rw [List.map_append, List.map_cons, List.map_take, List.map_drop]; rfl)
              have lX := hX.lt
              clear t12 ho hcp
              go_region_held3 (fun _ => True) (exact trivial)
                (first
                  | (go_at_call 19; (with_reducible refine (vnull_any _).mono ?_); rintro e wa ⟨rfl, qa⟩; replace qq : Below wr.heap.size wr wa := (by first | with_reducible exact bl_ca qq qa | with_reducible exact bl_ca (bl_d1 qq) qa))
                  | (refine step_appI rfl (.tmp 63) (.tmp 66) rfl wa.heap.size (some ⟨wa.heap.size, 0, none⟩) 1 1 [V0] _ (m - q) _ ((l.map VO).drop q) rfl rfl (own_one (Blk.new _ _ _)) (HTL.out _ (bl_al qq _)) (by omega) (by simp) ?_; intro A6 c6 wb ho6 qb; have lqq := qq.size; replace qq := (bl_al qq _).trans (qb.mono lqq))
                  | (refine step_appO rfl (.tmp 61) (.tmp 67) rfl 0 A3 m cm q (l.map VO) _ _ _ _ _ rfl rfl (HO.out _ qq) hq ho6 (by omega) (by omega) ?_; intro A7 c7 wc ho7 qc; replace qq := bl_ca qq qc))
              go_wp2
              go_roundg (gk - 1)
              · exact ⟨k + 1, q + (1 + (m - q)), c7, A7, l.take q ++ none :: l.drop q, by omega, by omega, by go_num, rfl, by omega, by omega, by rw [nums_put]; exact HNL.out, by rw [HML.out]; exact ho7.more (Nat.zero_le _), hp.below qq, hX.below qq lX, bb.trans (qq.mono bb.size)⟩
              · omega
        · have hkd : decide (k < n2) = false := decide_eq_false hk
          clear hk hk1 hk2
          go_wp2_with fail
          go_meet
          exact ⟨m, cm, A3, l, rfl, by omega, HNL.out, ho, hX, bb⟩
