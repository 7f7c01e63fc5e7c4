/- The law ArithOrder: in whatever order, and in whatever parts, it comes to the same. Conditions: the slice reads as these numbers. -/
import Derived.Test.YtemakmgppafccaaRdI
namespace Go.Proofs.Ytemakmgppafccaa
open Go.RowKit
set_option maxRecDepth 100000 in
set_option maxHeartbeats 8000000 in
theorem arithOrder_walk (A : Option Addr) (n c : Nat) (zs : List Int) (cut : Int) (w : World) (h : RdI w A n zs) (hn : n ≤ 9223372036854775807) (hz : ∀ z ∈ zs, I64 z) (_hc : (Lit.int .i64 cut).wf = true) :
    Calls Try.prog 4 #[.slice A n c, .int .i64 cut] w fun e w' => e = .returned (.bool true) ∧ Below w.heap.size w w' := by
  have hlz := Lib.hid h.len
  have HZ := Lib.hid hz
  clear hz
  go_enter Try.func4, Try.ntmps4
  go_wp2_with fail
  refine (wakes4_any w).mono ?_
  rintro e w1 ⟨rfl, b1⟩
  have h1 := h.below b1
  clear h
  go_wp2
  go_loopg [5, 25] n (fun g o s wr => ∃ (i n' c' : Nat) (A' : Option Addr), i + g ≤ n ∧ n ≤ i + g ∧ s = .int .i64 i ∧ o = .slice A' n' c' ∧ n' ≤ 60 ∧ OwnV wr w1.heap.size A' n' c' (((zs.take 60).take i).map VI) ∧ Below w1.heap.size w1 wr)
  case atStart => exact ⟨0, 0, 0, none, by omega, by omega, rfl, rfl, by omega, by simpa using OwnV.nil w1 w1.heap.size, Below.refl _ _⟩
  case round =>
    obtain ⟨i, n', c', A', hi1, hi2, rfl, rfl, hn2, ho, bb⟩ := hrel
    by_cases hi : i < n
    · obtain ⟨ad, z, rfl, hzi, cz⟩ := (h1.below bb).at_ hi
      have HTK := Lib.hid (show zs.take (i + 1) = zs.take i ++ [z] from by rw [List.take_add_one, hzi]; rfl)
      have hil : i < zs.length := by rw [hlz.out]; exact hi
      clear hzi
      have hol := ho.len
      rw [List.length_map, take_min, List.length_take] at hol
      by_cases hi6 : i < 60
      · have hi7 : (i : Int) < 60 := by omega
        go_wp2_with fail
        clear cz h1
        refine (vint_any z wr).mono ?_
        rintro e w3 ⟨rfl, q3⟩
        have hb3 := Blk.new w3 27 #[.int .i64 (VI z).k, .int .i64 (VI z).n, .int .u64 (VI z).u, .string (VI z).s]
        have ho3 := (ho.below q3).alloc (.cells #[.int .i64 2, .int .i64 z, .int .u64 0, .string ⟨#[]⟩] 27)
        have b3 := bl_al (bl_ca bb q3) (.cells #[.int .i64 2, .int .i64 z, .int .u64 0, .string ⟨#[]⟩] 27)
        clear ho bb q3
        have HF := Lib.hid (show (((zs.take 60).take (i + 1)).map VI) = (((zs.take 60).take i).map VI) ++ [VI z] from by
          rw [take_min, take_min, Nat.min_eq_left (by omega), Nat.min_eq_left (by omega), HTK.out, List.map_append]; rfl)
        go_wp2_with (at_builtin; refine wpList_appV rfl (.tmp 32) (.tmp 35) rfl w1.heap.size A' n' c' _ _ 1 _ (VI z) rfl rfl ho3 hb3 (by omega) b3.size ?_; intro A4 c4 w4 ho4 b4)
        have b5 := b3.trans b4
        go_roundg (gk - 1)
        · exact ⟨i + 1, n' + 1, c4, A4, by omega, by omega, by go_num, rfl, by omega, by rw [HF.out]; exact ho4, b5⟩
        · omega
      · have hi7 : (60 : Int) ≤ (i : Int) := by omega
        have HF := Lib.hid (show (zs.take 60).take (i + 1) = (zs.take 60).take i from by rw [take_min, take_min, Nat.min_eq_right (by omega), Nat.min_eq_right (by omega)])
        go_wp2
        go_roundg (gk - 1)
        · exact ⟨i + 1, n', c', A', by omega, by omega, by go_num, rfl, hn2, by rw [HF.out]; exact ho, bb⟩
        · omega
    · have hin : n ≤ i := by omega
      have hd : decide (i < n) = false := decide_eq_false (by omega)
      have e : (zs.take 60).take i = zs.take 60 := List.take_of_length_le (by rw [List.length_take, hlz.out]; omega)
      rw [e] at ho
      have HY := Lib.hid (show ∀ x ∈ zs.take 60, I64 x from fun x hx => HZ.out x (List.mem_of_mem_take hx))
      generalize zs.take 60 = ys at *
      clear e hi hi1 hi2 hlz h1 HZ
      have hyl := ho.len
      rw [List.length_map] at hyl
      have HYL := Lib.hid hyl
      have hv := ho.rd
      replace bb := bl_ca b1 bb
      clear ho b1
      go_wp2_with fail
      have hall := all_any A' n' c' (ys.map VI) wr hv (by omega) (vi_rng ys HY.out)
      rw [runV_ints ys HY.out (by omega)] at hall
      obtain ⟨R, hR⟩ : ∃ R, R = resV ys := ⟨_, rfl⟩
      rw [← hR] at hall
      have HRR := Lib.hid hR
      clear hR hyl
      refine hall.mono ?_
      rintro e w5 ⟨rfl, q5⟩
      clear hall
      replace hv := hv.below q5
      replace bb := bl_ca bb q5
      clear q5
      simp only [resT]
      have hX := Blk.new w5 27 #[.int .i64 R.1.k, .int .i64 R.1.n, .int .u64 R.1.u, .string R.1.s]
      replace hv := hv.below (bl_al (Below.refl _ _) (.cells #[.int .i64 R.1.k, .int .i64 R.1.n, .int .u64 R.1.u, .string R.1.s] 27))
      replace bb := bl_al bb (.cells #[.int .i64 R.1.k, .int .i64 R.1.n, .int .u64 R.1.u, .string R.1.s] 27)
      go_wp2
      generalize w5.alloc (.cells #[.int .i64 R.1.k, .int .i64 R.1.n, .int .u64 R.1.u, .string R.1.s] 27) = w6 at *
      generalize w5.heap.size = GX at *
      have b6 := Below.refl w6.heap.size w6
      go_loopg [10, 11] n' (fun g o s wr => ∃ (k m c2 : Nat) (B' : Option Addr) (z : Int), k ≤ g ∧ g ≤ k ∧ m + k = n' ∧ s = .int .i64 z ∧ z ≤ k - 1 ∧ k - 1 ≤ z ∧ o = .slice B' m c2 ∧ OwnV wr w6.heap.size B' m c2 (((ys.drop k).reverse).map VI) ∧ Below w6.heap.size w6 wr)
      case atStart => exact ⟨n', 0, 0, none, (n' : Int) - 1, by omega, by omega, by omega, rfl, by omega, by omega, rfl, by rw [List.drop_of_length_le (by rw [HYL.out]; omega)]; exact OwnV.nil w6 w6.heap.size, b6⟩
      case round =>
        clear b6
        obtain ⟨k, m, c2, B', zz, hk1, hk2, hmk, rfl, hz1, hz2, rfl, ho, b6⟩ := hrel
        by_cases h0 : k = 0
        · subst h0
          obtain rfl : zz = -1 := by omega
          obtain rfl : m = n' := by omega
          have hvb := ho.rd
          rw [List.drop_zero] at hvb
          clear ho hk1 hk2 hmk hz1 hz2
          have hall2 := all_any B' m c2 (ys.reverse.map VI) wr hvb (by omega) (vi_rng ys.reverse (fun x hx => HY.out x (by simpa using hx)))
          rw [runV_ints ys.reverse (fun x hx => HY.out x (by simpa using hx)) (by rw [List.length_reverse, HYL.out]; omega), resV_reverse, ← HRR.out] at hall2
          have HA2 := Lib.hid hall2
          clear hall2 hvb
          replace hv := hv.below b6
          replace bb := bb.trans (b6.mono bb.size)
          replace hX := hX.below b6 hX.lt
          go_wp2_with fail
          refine HA2.out.mono ?_
          rintro e w7 ⟨rfl, q7⟩
          clear HA2 b6
          replace hv := hv.below q7
          replace bb := bl_ca bb q7
          replace hX := hX.ca q7
          clear q7
          simp only [resT]
          have hZ := Blk.new w7 27 #[.int .i64 R.1.k, .int .i64 R.1.n, .int .u64 R.1.u, .string R.1.s]
          replace hv := hv.below (bl_al (Below.refl _ _) (.cells #[.int .i64 R.1.k, .int .i64 R.1.n, .int .u64 R.1.u, .string R.1.s] 27))
          replace hX := hX.alloc (.cells #[.int .i64 R.1.k, .int .i64 R.1.n, .int .u64 R.1.u, .string R.1.s] 27)
          replace bb := bl_al bb (.cells #[.int .i64 R.1.k, .int .i64 R.1.n, .int .u64 R.1.u, .string R.1.s] 27)
          have x0 : (w7.alloc (.cells #[.int .i64 R.1.k, .int .i64 R.1.n, .int .u64 R.1.u, .string R.1.s] 27)).cell? ⟨GX, 0, none⟩ = some (.int .i64 R.1.k) := hX.cell 0
          have x1 : (w7.alloc (.cells #[.int .i64 R.1.k, .int .i64 R.1.n, .int .u64 R.1.u, .string R.1.s] 27)).cell? ⟨GX, 1, none⟩ = some (.int .i64 R.1.n) := hX.cell 1
          have x2 : (w7.alloc (.cells #[.int .i64 R.1.k, .int .i64 R.1.n, .int .u64 R.1.u, .string R.1.s] 27)).cell? ⟨GX, 2, none⟩ = some (.int .u64 R.1.u) := hX.cell 2
          have x3 : (w7.alloc (.cells #[.int .i64 R.1.k, .int .i64 R.1.n, .int .u64 R.1.u, .string R.1.s] 27)).cell? ⟨GX, 3, none⟩ = some (.string R.1.s) := hX.cell 3
          obtain ⟨q, hq, hqe⟩ := umod cut m (by omega)
          have hS := (Blk.new (w7.alloc (.cells #[.int .i64 R.1.k, .int .i64 R.1.n, .int .u64 R.1.u, .string R.1.s] 27)) 27 #[.int .i64 0, .int .i64 0, .int .u64 0, .string ⟨#[]⟩]).alloc (.cells #[.int .i64 0, .int .i64 0, .int .u64 0, .string ⟨#[]⟩] 27)
          have hT := Blk.new ((w7.alloc (.cells #[.int .i64 R.1.k, .int .i64 R.1.n, .int .u64 R.1.u, .string R.1.s] 27)).alloc (.cells #[.int .i64 0, .int .i64 0, .int .u64 0, .string ⟨#[]⟩] 27)) 27 #[.int .i64 0, .int .i64 0, .int .u64 0, .string ⟨#[]⟩]
          have b8 := bl_al (bl_al (Below.refl (w7.alloc (.cells #[.int .i64 R.1.k, .int .i64 R.1.n, .int .u64 R.1.u, .string R.1.s] 27)).heap.size (w7.alloc (.cells #[.int .i64 R.1.k, .int .i64 R.1.n, .int .u64 R.1.u, .string R.1.s] 27))) (.cells #[.int .i64 0, .int .i64 0, .int .u64 0, .string ⟨#[]⟩] 27)) (.cells #[.int .i64 0, .int .i64 0, .int .u64 0, .string ⟨#[]⟩] 27)
          have hz8 : (w7.alloc (.cells #[.int .i64 R.1.k, .int .i64 R.1.n, .int .u64 R.1.u, .string R.1.s] 27)).heap.size = w7.heap.size + 1 := by simp
          rw [hz8] at hS
          rw [World.size_alloc, hz8] at hT
          go_wp2
          rw [hqe]
          clear x0 x1 x2 x3 hZ hqe
          generalize ((w7.alloc (.cells #[.int .i64 R.1.k, .int .i64 R.1.n, .int .u64 R.1.u, .string R.1.s] 27)).alloc (.cells #[.int .i64 0, .int .i64 0, .int .u64 0, .string ⟨#[]⟩] 27)).alloc (.cells #[.int .i64 0, .int .i64 0, .int .u64 0, .string ⟨#[]⟩] 27) = w10 at *
          generalize w7.alloc (.cells #[.int .i64 R.1.k, .int .i64 R.1.n, .int .u64 R.1.u, .string R.1.s] 27) = w8 at *
          generalize w7.heap.size + 1 = G8 at *
          have lX := hX.lt
          have h8a : w8.heap.size ≤ G8 := by omega
          have h8b : G8 ≤ w8.heap.size := by omega
          clear hz8
          go_loopg [80] m (fun g s wr => ∃ (i : Nat), i + g ≤ m ∧ m ≤ i + g ∧ s = .int .i64 i ∧ Blk wr G8 27 #[.int .i64 (accV ((ys.take i).take q)).k, .int .i64 (accV ((ys.take i).take q)).n, .int .u64 (accV ((ys.take i).take q)).u, .string (accV ((ys.take i).take q)).s] ∧ Blk wr (G8 + 1) 27 #[.int .i64 (accV ((ys.take i).drop q)).k, .int .i64 (accV ((ys.take i).drop q)).n, .int .u64 (accV ((ys.take i).drop q)).u, .string (accV ((ys.take i).drop q)).s] ∧ Below w8.heap.size w8 wr)
          case atStart => exact ⟨0, by omega, by omega, rfl, by rw [show (ys.take 0).take q = [] from by simp]; exact hS, by rw [show (ys.take 0).drop q = [] from by simp]; exact hT, b8⟩
          case round =>
            clear hS hT b8
            obtain ⟨i, hi1, hi2, rfl, hS, hT, b8⟩ := hrel
            by_cases hi : i < m
            · obtain ⟨ad, v, rfl, hvi, hal, c0, c1, cu, cs⟩ := (hv.below b8).2 i hi
              have hil : i < ys.length := by rw [HYL.out]; exact hi
              rw [List.getElem?_map, List.getElem?_eq_getElem hil] at hvi
              obtain ⟨z, hzv, hze⟩ : ∃ z, v = VI z ∧ ys[i] = z := ⟨ys[i], by injection hvi with hvi; exact hvi.symm, rfl⟩
              subst hzv
              have hzI : I64 z := by rw [← hze]; exact HY.out _ (List.getElem_mem hil)
              have HTK := Lib.hid (show ys.take (i + 1) = ys.take i ++ [z] from by rw [List.take_succ_eq_append_getElem hil, hze])
              clear hvi hze
              have hV := Blk.new wr 27 #[.int .i64 (VI z).k, .int .i64 (VI z).n, .int .u64 (VI z).u, .string (VI z).s]
              have lT := hT.lt
              replace hS := hS.alloc (.cells #[.int .i64 (VI z).k, .int .i64 (VI z).n, .int .u64 (VI z).u, .string (VI z).s] 27)
              replace hT := hT.alloc (.cells #[.int .i64 (VI z).k, .int .i64 (VI z).n, .int .u64 (VI z).u, .string (VI z).s] 27)
              replace b8 := bl_al b8 (.cells #[.int .i64 (VI z).k, .int .i64 (VI z).n, .int .u64 (VI z).u, .string (VI z).s] 27)
              have HXI := Lib.hid (show ∀ x ∈ ys.take i, I64 x from fun x hx => HY.out x (List.mem_of_mem_take hx))
              by_cases hiq : i < q
              · have hiq2 : decide (i < q) = true := decide_eq_true hiq
                have HQ := Lib.hid (show (ys.take (i + 1)).take q = (ys.take i).take q ++ [z] from by
                  rw [HTK.out, List.take_append, List.take_of_length_le (l := [z]) (by have := List.length_take_le i ys; simp; omega)])
                have HQ2 := Lib.hid (show (ys.take (i + 1)).drop q = (ys.take i).drop q from by
                  rw [List.drop_of_length_le (by have := List.length_take_le (i + 1) ys; omega), List.drop_of_length_le (by have := List.length_take_le i ys; omega)])
                have hsm := sumV_acc ((ys.take i).take q) z (fun x hx => HXI.out x (List.mem_of_mem_take hx)) hzI (by rw [List.length_take, List.length_take]; omega)
                have hcl := fun w => sumP_any (accV ((ys.take i).take q)) (VI z) w (accV_rng _ (fun x hx => HXI.out x (List.mem_of_mem_take hx)) (by rw [List.length_take, List.length_take]; omega)) (VI_rng z hzI)
                rw [hsm] at hcl
                have HCL := Lib.hid hcl
                clear hsm hcl
                generalize (ys.take i).take q = X at *
                have s0 : (wr.alloc (.cells #[.int .i64 (VI z).k, .int .i64 (VI z).n, .int .u64 (VI z).u, .string (VI z).s] 27)).cell? ⟨G8, 0, none⟩ = some (.int .i64 (accV X).k) := hS.cell 0
                have s1 : (wr.alloc (.cells #[.int .i64 (VI z).k, .int .i64 (VI z).n, .int .u64 (VI z).u, .string (VI z).s] 27)).cell? ⟨G8, 1, none⟩ = some (.int .i64 (accV X).n) := hS.cell 1
                have s2 : (wr.alloc (.cells #[.int .i64 (VI z).k, .int .i64 (VI z).n, .int .u64 (VI z).u, .string (VI z).s] 27)).cell? ⟨G8, 2, none⟩ = some (.int .u64 (accV X).u) := hS.cell 2
                have s3 : (wr.alloc (.cells #[.int .i64 (VI z).k, .int .i64 (VI z).n, .int .u64 (VI z).u, .string (VI z).s] 27)).cell? ⟨G8, 3, none⟩ = some (.string (accV X).s) := hS.cell 3
                go_wp2_with fail
                clear s0 s1 s2 s3 c0 c1 cu cs hal
                generalize wr.alloc (.cells #[.int .i64 (VI z).k, .int .i64 (VI z).n, .int .u64 (VI z).u, .string (VI z).s] 27) = w11 at *
                refine (HCL.out w11).mono ?_
                rintro e w12 ⟨rfl, q12⟩
                replace hS := hS.ca q12
                replace hT := hT.ca q12
                replace b8 := bl_ca b8 q12
                clear q12 hV
                simp only [resT]
                have KS := Lib.hid hS
                go_wp2_with (refine wpList_store_blk rfl 27 (.tmp 15) (.tmp 92) rfl G8 27 _ _ rfl rfl KS.out rfl valI (one4 _ _ _ _) ?_; intro w13 hS13 g13)
                have b13 := bl_gr b8 g13 h8a
                have hT13 := hT.apart g13 (by omega)
                go_roundg (gk - 1)
                · exact ⟨i + 1, by omega, by omega, by go_num, by rw [HQ.out]; exact hS13, by rw [HQ2.out]; exact hT13, b13⟩
                · omega
              · have hiq2 : decide (i < q) = false := decide_eq_false hiq
                have HQ := Lib.hid (show (ys.take (i + 1)).take q = (ys.take i).take q from by
                  rw [HTK.out, List.take_append_of_le_length (by rw [List.length_take]; omega)])
                have HQ2 := Lib.hid (show (ys.take (i + 1)).drop q = (ys.take i).drop q ++ [z] from by
                  rw [HTK.out, List.drop_append_of_le_length (by rw [List.length_take]; omega)])
                have hsm := sumV_acc ((ys.take i).drop q) z (fun x hx => HXI.out x (List.mem_of_mem_drop hx)) hzI (by rw [List.length_drop, List.length_take]; omega)
                have hcl := fun w => sumP_any (accV ((ys.take i).drop q)) (VI z) w (accV_rng _ (fun x hx => HXI.out x (List.mem_of_mem_drop hx)) (by rw [List.length_drop, List.length_take]; omega)) (VI_rng z hzI)
                rw [hsm] at hcl
                have HCL := Lib.hid hcl
                clear hsm hcl
                generalize (ys.take i).drop q = X at *
                have s0 : (wr.alloc (.cells #[.int .i64 (VI z).k, .int .i64 (VI z).n, .int .u64 (VI z).u, .string (VI z).s] 27)).cell? ⟨G8 + 1, 0, none⟩ = some (.int .i64 (accV X).k) := hT.cell 0
                have s1 : (wr.alloc (.cells #[.int .i64 (VI z).k, .int .i64 (VI z).n, .int .u64 (VI z).u, .string (VI z).s] 27)).cell? ⟨G8 + 1, 1, none⟩ = some (.int .i64 (accV X).n) := hT.cell 1
                have s2 : (wr.alloc (.cells #[.int .i64 (VI z).k, .int .i64 (VI z).n, .int .u64 (VI z).u, .string (VI z).s] 27)).cell? ⟨G8 + 1, 2, none⟩ = some (.int .u64 (accV X).u) := hT.cell 2
                have s3 : (wr.alloc (.cells #[.int .i64 (VI z).k, .int .i64 (VI z).n, .int .u64 (VI z).u, .string (VI z).s] 27)).cell? ⟨G8 + 1, 3, none⟩ = some (.string (accV X).s) := hT.cell 3
                go_wp2_with fail
                clear s0 s1 s2 s3 c0 c1 cu cs hal
                generalize wr.alloc (.cells #[.int .i64 (VI z).k, .int .i64 (VI z).n, .int .u64 (VI z).u, .string (VI z).s] 27) = w11 at *
                refine (HCL.out w11).mono ?_
                rintro e w12 ⟨rfl, q12⟩
                replace hS := hS.ca q12
                replace hT := hT.ca q12
                replace b8 := bl_ca b8 q12
                clear q12 hV
                simp only [resT]
                have KT := Lib.hid hT
                go_wp2_with (refine wpList_store_blk rfl 27 (.tmp 16) (.tmp 98) rfl (G8 + 1) 27 _ _ rfl rfl KT.out rfl valI (one4 _ _ _ _) ?_; intro w13 hT13 g13)
                have b13 := bl_gr b8 g13 (by omega)
                have hS13 := hS.apart g13 (by omega)
                go_roundg (gk - 1)
                · exact ⟨i + 1, by omega, by omega, by go_num, by rw [HQ.out]; exact hS13, by rw [HQ2.out]; exact hT13, b13⟩
                · omega
            · obtain rfl : m = i := by omega
              have htm : ys.take m = ys := List.take_of_length_le (by rw [HYL.out]; exact Nat.le_refl _)
              rw [htm] at hS hT
              clear htm
              have hd3 : decide (m < m) = false := decide_eq_false (by omega)
              replace hX := hX.below b8 lX
              replace bb := bb.trans (b8.mono bb.size)
              have hj := joinV_acc (ys.drop q) (ys.take q) (fun x hx => HY.out x (List.mem_of_mem_drop hx)) (fun x hx => HY.out x (List.mem_of_mem_take hx)) (by rw [List.length_drop, HYL.out]; omega) (by rw [List.length_take, HYL.out]; omega)
              have hcj := fun w => joinP_any (accV (ys.drop q)) (accV (ys.take q)) w (accV_rng _ (fun x hx => HY.out x (List.mem_of_mem_drop hx)) (by rw [List.length_drop, HYL.out]; omega)) (accV_rng _ (fun x hx => HY.out x (List.mem_of_mem_take hx)) (by rw [List.length_take, HYL.out]; omega))
              rw [hj] at hcj
              have hce := fun w => endP_any (accV (ys.drop q ++ ys.take q)) w (accV_rng _ (fun x hx => by
                rw [List.mem_append] at hx
                rcases hx with hx | hx
                · exact HY.out x (List.mem_of_mem_drop hx)
                · exact HY.out x (List.mem_of_mem_take hx)) (by rw [List.length_append, List.length_drop, List.length_take, HYL.out]; omega))
              have hrr : resV (ys.drop q ++ ys.take q) = resV ys := by
                have e1 : tot (ys.drop q ++ ys.take q) = tot ys := by
                  conv => rhs; rw [← List.take_append_drop q ys]
                  rw [tot_append, tot_append]; omega
                have e2 : (ys.drop q ++ ys.take q = []) = (ys = []) := by
                  apply propext
                  constructor
                  · intro h
                    have := congrArg List.length h
                    simp only [List.length_append, List.length_drop, List.length_take, List.length_nil] at this
                    exact List.eq_nil_of_length_eq_zero (by omega)
                  · rintro rfl; simp
                unfold resV
                rw [e1]
                simp only [e2]
              rw [endV_acc, hrr, ← HRR.out] at hce
              have HCJ := Lib.hid hcj
              have HCE := Lib.hid hce
              clear hj hcj hce hrr hi hi1 hi2 b8 hv
              generalize ys.drop q = Y at *
              generalize ys.take q = X at *
              have hT_0 : wr.cell? ⟨G8 + 1, 0, none⟩ = some (.int .i64 (accV Y).k) := hT.cell 0
              have hT_1 : wr.cell? ⟨G8 + 1, 1, none⟩ = some (.int .i64 (accV Y).n) := hT.cell 1
              have hT_2 : wr.cell? ⟨G8 + 1, 2, none⟩ = some (.int .u64 (accV Y).u) := hT.cell 2
              have hT_3 : wr.cell? ⟨G8 + 1, 3, none⟩ = some (.string (accV Y).s) := hT.cell 3
              have hS_0 : wr.cell? ⟨G8, 0, none⟩ = some (.int .i64 (accV X).k) := hS.cell 0
              have hS_1 : wr.cell? ⟨G8, 1, none⟩ = some (.int .i64 (accV X).n) := hS.cell 1
              have hS_2 : wr.cell? ⟨G8, 2, none⟩ = some (.int .u64 (accV X).u) := hS.cell 2
              have hS_3 : wr.cell? ⟨G8, 3, none⟩ = some (.string (accV X).s) := hS.cell 3
              go_wp2_with fail
              refine (HCJ.out _).mono ?_
              rintro e w21 ⟨rfl, q21⟩
              simp only [resT]
              clear hT_0 hT_1 hT_2 hT_3 hS_0 hS_1 hS_2 hS_3
              replace hX := hX.ca q21
              replace hS := hS.ca q21
              replace hT := hT.ca q21
              replace bb := bl_ca bb q21
              clear q21
              clear hS hT
              have lhJ_hX := hX.lt
              replace hX := hX.alloc (.cells #[.int .i64 (accV (Y ++ X)).k, .int .i64 (accV (Y ++ X)).n, .int .u64 (accV (Y ++ X)).u, .string (accV (Y ++ X)).s] 27)
              have hJ := Blk.new w21 27 #[.int .i64 (accV (Y ++ X)).k, .int .i64 (accV (Y ++ X)).n, .int .u64 (accV (Y ++ X)).u, .string (accV (Y ++ X)).s]
              have bz := bb.size
              replace bb := bl_al bb (.cells #[.int .i64 (accV (Y ++ X)).k, .int .i64 (accV (Y ++ X)).n, .int .u64 (accV (Y ++ X)).u, .string (accV (Y ++ X)).s] 27)
              go_wp2_with fail
              generalize w21.alloc (.cells #[.int .i64 (accV (Y ++ X)).k, .int .i64 (accV (Y ++ X)).n, .int .u64 (accV (Y ++ X)).u, .string (accV (Y ++ X)).s] 27) = w22 at *
              generalize w21.heap.size = G22 at *
              refine (HCE.out _).mono ?_
              rintro e w23 ⟨rfl, q23⟩
              simp only [resT]
              replace hX := hX.ca q23
              replace hJ := hJ.ca q23
              replace bb := bl_ca bb q23
              clear q23
              clear hJ
              have lhE_hX := hX.lt
              replace hX := hX.alloc (.cells #[.int .i64 R.1.k, .int .i64 R.1.n, .int .u64 R.1.u, .string R.1.s] 27)
              have hE := Blk.new w23 27 #[.int .i64 R.1.k, .int .i64 R.1.n, .int .u64 R.1.u, .string R.1.s]
              have bz := bb.size
              replace bb := bl_al bb (.cells #[.int .i64 R.1.k, .int .i64 R.1.n, .int .u64 R.1.u, .string R.1.s] 27)
              have hX_0 : (w23.alloc (.cells #[.int .i64 R.1.k, .int .i64 R.1.n, .int .u64 R.1.u, .string R.1.s] 27)).cell? ⟨GX, 0, none⟩ = some (.int .i64 R.1.k) := hX.cell 0
              have hX_1 : (w23.alloc (.cells #[.int .i64 R.1.k, .int .i64 R.1.n, .int .u64 R.1.u, .string R.1.s] 27)).cell? ⟨GX, 1, none⟩ = some (.int .i64 R.1.n) := hX.cell 1
              have hX_2 : (w23.alloc (.cells #[.int .i64 R.1.k, .int .i64 R.1.n, .int .u64 R.1.u, .string R.1.s] 27)).cell? ⟨GX, 2, none⟩ = some (.int .u64 R.1.u) := hX.cell 2
              have hX_3 : (w23.alloc (.cells #[.int .i64 R.1.k, .int .i64 R.1.n, .int .u64 R.1.u, .string R.1.s] 27)).cell? ⟨GX, 3, none⟩ = some (.string R.1.s) := hX.cell 3
              go_wp2
              go_ret
              exact ⟨rfl, bb⟩
        · obtain ⟨j, rfl⟩ : ∃ j, k = j + 1 := ⟨k - 1, by omega⟩
          obtain rfl : zz = (j : Int) := by omega
          have hj : j < n' := by omega
          obtain ⟨ad, v, rfl, hvj, hal, c0, c1, cu, cs⟩ := (hv.below b6).2 j hj
          rw [List.getElem?_map] at hvj
          have hjl : j < ys.length := by rw [HYL.out]; exact hj
          rw [List.getElem?_eq_getElem hjl] at hvj
          have HF := Lib.hid (show ((ys.drop j).reverse).map VI = ((ys.drop (j + 1)).reverse).map VI ++ [v] from by
            injection hvj with hvj
            rw [List.drop_eq_getElem_cons hjl, List.reverse_cons, List.map_append, ← hvj]; rfl)
          clear hvj
          have j0 : (0 : Int) ≤ (j : Int) := by omega
          have j1 : (j : Int) < (n' : Int) := by omega
          have hb3 := Blk.new wr 27 #[.int .i64 v.k, .int .i64 v.n, .int .u64 v.u, .string v.s]
          have ho3 := ho.alloc (.cells #[.int .i64 v.k, .int .i64 v.n, .int .u64 v.u, .string v.s] 27)
          have b3 := bl_al b6 (.cells #[.int .i64 v.k, .int .i64 v.n, .int .u64 v.u, .string v.s] 27)
          have hmm : m ≤ 60 := by omega
          clear ho
          go_wp2_with (at_builtin; refine wpList_appV rfl (.tmp 50) (.tmp 55) rfl w6.heap.size B' m c2 _ _ 1 _ v rfl rfl ho3 hb3 (by omega) b3.size ?_; intro A4 c4 w4 ho4 b4)
          have b5 := b3.trans b4
          go_roundg (gk - 1)
          · exact ⟨j, m + 1, c4, A4, (j : Int) - 1, by omega, by omega, by omega, rfl, by omega, by omega, rfl, by rw [HF.out]; exact ho4, b5⟩
          · omega
end Go.Proofs.Ytemakmgppafccaa
