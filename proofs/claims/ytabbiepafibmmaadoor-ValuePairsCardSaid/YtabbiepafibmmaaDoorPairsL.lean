/- The law ValuePairs: the order of values, what is equal and what is less, as the reference says. Conditions: the slice reads as these values; the tables. -/
import Derived.Test.YtabbiepafibmmaaDoorFrameC
import Derived.Test.YtabbiepafibmmaaDoorRpairs
import Derived.Test.YtabbiepafibmmaaDoorFew
namespace Go.Proofs.YtabbiepafibmmaaDoor
open Go.RowKit
set_option maxRecDepth 100000 in
set_option maxHeartbeats 16000000 in
theorem valuePairs_walk (A : Option Addr) (n c : Nat) (vs : List VV) (w : World) (h : RdV w A n vs) (hn : n ≤ 9223372036854775807) (_hr : ∀ v ∈ vs, v.rng) (hT : Tab w) :
    Calls Tryd.prog 8 #[.slice A n c] w fun e w' => e = .returned (.bool true) ∧ Below w.heap.size w w' := by
  clear _hr
  go_enter Tryd.func8, Tryd.ntmps8
  go_wp2_with fail
  refine (wakes2_any w hT).mono ?_
  rintro e w1 ⟨rfl, b1⟩
  have h1 := h.below b1
  replace hT := hT.below b1
  go_wp2_with fail
  refine (few_any A n c vs w1 h1 hn).mono ?_
  rintro e w2 ⟨A', n', c', rfl, ho, q2⟩
  have bb := bl_ca b1 q2
  have hv := ho.rd
  replace hT := hT.below q2
  have hlt := ho.len
  have hn10 : n' ≤ 10 := by
    rw [← hlt]
    simp only [fewV, List.length_map, List.length_take]
    omega
  generalize fewV 10 vs = xs at *
  clear b1 h1 h ho q2 hlt
  go_wp2
  go_loopg [18] n' (fun g s wr => ∃ (i : Nat), i + g ≤ n' ∧ n' ≤ i + g ∧ s = .int .i64 i ∧ RdV wr A' n' xs ∧ Tab wr ∧ Below w.heap.size w wr)
  case atStart => exact ⟨0, by omega, by omega, rfl, hv, hT, bb⟩
  case round =>
    clear hv bb hT
    obtain ⟨i, hi1, hi2, rfl, hv, hT, bb⟩ := hrel
    by_cases hi : i < n'
    · obtain ⟨ad, v, hA, hvi, hal, c0, c1, c2, c3⟩ := hv.2 i hi
      subst hA
      clear hvi
      have qq := Below.refl wr.heap.size wr
      have hA := Blk.new wr 28 #[.int .i64 v.k, .int .i64 v.n, .int .u64 v.u, .string v.s]
      have zhA_qq := qq.size
      replace qq := bl_al qq (.cells #[.int .i64 v.k, .int .i64 v.n, .int .u64 v.u, .string v.s] 28)
      go_wp2
      clear c0 c1 c2 c3 hal
      generalize (wr.alloc (.cells #[.int .i64 v.k, .int .i64 v.n, .int .u64 v.u, .string v.s] 28)) = u1 at *
      replace hv := hv.below qq
      replace hT := hT.below qq
      replace bb := bl_ca bb qq
      clear qq
      obtain ⟨g1, rfl⟩ : ∃ g1, g1 = gk := ⟨_, rfl⟩
      obtain ⟨wo, rfl⟩ : ∃ wo : World, wo = wr := ⟨_, rfl⟩
      generalize wo.heap.size = GA at *
      go_loopg [24] n' (fun g s wr => ∃ (k : Nat), k + g ≤ n' ∧ n' ≤ k + g ∧ s = .int .i64 k ∧ RdV wr (some ad) n' xs ∧ Tab wr ∧ Blk wr GA 28 #[.int .i64 v.k, .int .i64 v.n, .int .u64 v.u, .string v.s] ∧ Below w.heap.size w wr)
      case atStart => exact ⟨0, by omega, by omega, rfl, hv, hT, hA, bb⟩
      case round =>
        clear hv hA bb hT
        obtain ⟨k, hk1, hk2, rfl, hv, hT, hA, bb⟩ := hrel
        by_cases hk : k < n'
        · obtain ⟨ad2, u, hA2, hui, hal, c0, c1, c2, c3⟩ := hv.2 k hk
          injection hA2 with hA2
          subst hA2
          clear hui
          have qq := Below.refl wr.heap.size wr
          have H1 := Lib.hid (fun w => compare_any v u w)
          have H2 := Lib.hid (fun w => rcompare_any v u w)
          have H3 := Lib.hid (fun w => equal_any v u w)
          have H4 := Lib.hid (fun w => requal_any v u w)
          have H5 := Lib.hid (fun w => less_any v u w)
          have H6 := Lib.hid (fun w => rless_any v u w)
          generalize cmpV v u = cc at *
          generalize equalV v u = P at *
          generalize lessV v u = O at *
          have hB := Blk.new wr 28 #[.int .i64 u.k, .int .i64 u.n, .int .u64 u.u, .string u.s]
          have zhB_qq := qq.size
          replace qq := bl_al qq (.cells #[.int .i64 u.k, .int .i64 u.n, .int .u64 u.u, .string u.s] 28)
          go_wp2_with fail
          clear c0 c1 c2 c3 hal
          generalize (wr.alloc (.cells #[.int .i64 u.k, .int .i64 u.n, .int .u64 u.u, .string u.s] 28)) = x1 at *
          refine wp_region_lin (S := Grew x1) (by kernel_rfl) (Grew.start _) ?_
          refine Good.val (i := 0) (d := some 28) (v := ?v10_0_1) rfl rfl (by kernel_rfl) (by kernel_rfl) (by kernel_rfl) (by rfl) (fun w9 hS => ?h10_0_1) ?r10_0_1
          case h10_0_1 =>
            have hb9 := (Blk.below hA (bl_ca qq hS) hA.lt)
            have b9_0 : w9.cell? ⟨GA, 0, none⟩ = some (.int .i64 v.k) := hb9.cell 0
            have b9_1 : w9.cell? ⟨GA, 1, none⟩ = some (.int .i64 v.n) := hb9.cell 1
            have b9_2 : w9.cell? ⟨GA, 2, none⟩ = some (.int .u64 v.u) := hb9.cell 2
            have b9_3 : w9.cell? ⟨GA, 3, none⟩ = some (.string v.s) := hb9.cell 3
            go_simp
            try rfl
          try simp only [Act.put, List.setIfInBounds_toArray, List.set_cons_zero, List.set_cons_succ]
          refine Good.val (i := 1) (d := some 29) (v := ?v10_1_2) rfl rfl (by kernel_rfl) (by kernel_rfl) (by kernel_rfl) (by rfl) (fun w9 hS => ?h10_1_2) ?r10_1_2
          case h10_1_2 =>
            have hb9 := (Blk.below hB hS hB.lt)
            have b9_0 : w9.cell? ⟨wr.heap.size, 0, none⟩ = some (.int .i64 u.k) := hb9.cell 0
            have b9_1 : w9.cell? ⟨wr.heap.size, 1, none⟩ = some (.int .i64 u.n) := hb9.cell 1
            have b9_2 : w9.cell? ⟨wr.heap.size, 2, none⟩ = some (.int .u64 u.u) := hb9.cell 2
            have b9_3 : w9.cell? ⟨wr.heap.size, 3, none⟩ = some (.string u.s) := hb9.cell 3
            go_simp
            try rfl
          try simp only [Act.put, List.setIfInBounds_toArray, List.set_cons_zero, List.set_cons_succ]
          refine Good.call (i := 2) (d := some 30) (fn := ?f10_2_3) (args := ?a10_2_3) (v := ?v10_2_3) rfl rfl (by kernel_rfl) (by kernel_rfl) (by kernel_rfl) (by rfl) (fun w9 hS => ?h10_2_3) (Grew.call fun w9 qS => ?c10_2_3) ?r10_2_3
          case h10_2_3 => go_simp; refine ⟨?_, ?_⟩ <;> rfl
          case c10_2_3 => exact H1.out _
          try simp only [Act.put, List.setIfInBounds_toArray, List.set_cons_zero, List.set_cons_succ]
          refine Good.val (i := 3) (d := some 31) (v := ?v10_3_4) rfl rfl (by kernel_rfl) (by kernel_rfl) (by kernel_rfl) (by rfl) (fun w9 hS => ?h10_3_4) ?r10_3_4
          case h10_3_4 =>
            have hb9 := (Blk.below hA (bl_ca qq hS) hA.lt)
            have b9_0 : w9.cell? ⟨GA, 0, none⟩ = some (.int .i64 v.k) := hb9.cell 0
            have b9_1 : w9.cell? ⟨GA, 1, none⟩ = some (.int .i64 v.n) := hb9.cell 1
            have b9_2 : w9.cell? ⟨GA, 2, none⟩ = some (.int .u64 v.u) := hb9.cell 2
            have b9_3 : w9.cell? ⟨GA, 3, none⟩ = some (.string v.s) := hb9.cell 3
            go_simp
            try rfl
          try simp only [Act.put, List.setIfInBounds_toArray, List.set_cons_zero, List.set_cons_succ]
          refine Good.val (i := 4) (d := some 32) (v := ?v10_4_5) rfl rfl (by kernel_rfl) (by kernel_rfl) (by kernel_rfl) (by rfl) (fun w9 hS => ?h10_4_5) ?r10_4_5
          case h10_4_5 =>
            have hb9 := (Blk.below hB hS hB.lt)
            have b9_0 : w9.cell? ⟨wr.heap.size, 0, none⟩ = some (.int .i64 u.k) := hb9.cell 0
            have b9_1 : w9.cell? ⟨wr.heap.size, 1, none⟩ = some (.int .i64 u.n) := hb9.cell 1
            have b9_2 : w9.cell? ⟨wr.heap.size, 2, none⟩ = some (.int .u64 u.u) := hb9.cell 2
            have b9_3 : w9.cell? ⟨wr.heap.size, 3, none⟩ = some (.string u.s) := hb9.cell 3
            go_simp
            try rfl
          try simp only [Act.put, List.setIfInBounds_toArray, List.set_cons_zero, List.set_cons_succ]
          refine Good.call (i := 5) (d := some 33) (fn := ?f10_5_6) (args := ?a10_5_6) (v := ?v10_5_6) rfl rfl (by kernel_rfl) (by kernel_rfl) (by kernel_rfl) (by rfl) (fun w9 hS => ?h10_5_6) (Grew.call fun w9 qS => ?c10_5_6) ?r10_5_6
          case h10_5_6 => go_simp; refine ⟨?_, ?_⟩ <;> rfl
          case c10_5_6 => exact H2.out _
          try simp only [Act.put, List.setIfInBounds_toArray, List.set_cons_zero, List.set_cons_succ]
          refine Good.val (i := 6) (d := some 34) (v := ?v10_6_7) rfl rfl (by kernel_rfl) (by kernel_rfl) (by kernel_rfl) (by rfl) (fun w9 hS => ?h10_6_7) ?r10_6_7
          case h10_6_7 => go_simp; try rfl
          try simp only [Act.put, List.setIfInBounds_toArray, List.set_cons_zero, List.set_cons_succ]
          refine Good.done (by kernel_rfl) (fun x2 qx2 => ?_) _
          replace hB := hB.ca qx2
          replace qq := bl_ca qq qx2
          clear qx2
          have hA_0 : x2.cell? ⟨GA, 0, none⟩ = some (.int .i64 v.k) := (hA.below qq hA.lt).cell 0
          have hA_1 : x2.cell? ⟨GA, 1, none⟩ = some (.int .i64 v.n) := (hA.below qq hA.lt).cell 1
          have hA_2 : x2.cell? ⟨GA, 2, none⟩ = some (.int .u64 v.u) := (hA.below qq hA.lt).cell 2
          have hA_3 : x2.cell? ⟨GA, 3, none⟩ = some (.string v.s) := (hA.below qq hA.lt).cell 3
          have hB_0 : x2.cell? ⟨wr.heap.size, 0, none⟩ = some (.int .i64 u.k) := hB.cell 0
          have hB_1 : x2.cell? ⟨wr.heap.size, 1, none⟩ = some (.int .i64 u.n) := hB.cell 1
          have hB_2 : x2.cell? ⟨wr.heap.size, 2, none⟩ = some (.int .u64 u.u) := hB.cell 2
          have hB_3 : x2.cell? ⟨wr.heap.size, 3, none⟩ = some (.string u.s) := hB.cell 3
          go_wp2_with fail
          clear hA_0 hA_1 hA_2 hA_3 hB_0 hB_1 hB_2 hB_3
          refine (H3.out _).mono ?_
          rintro e x3 ⟨rfl, qx3⟩
          simp only [resT]
          replace hB := hB.ca qx3
          replace qq := bl_ca qq qx3
          clear qx3
          have lhP_hB := hB.lt
          replace hB := hB.alloc (.cells #[.int .i64 P.1.k, .int .i64 P.1.n, .int .u64 P.1.u, .string P.1.s] 28)
          have hP := Blk.new x3 28 #[.int .i64 P.1.k, .int .i64 P.1.n, .int .u64 P.1.u, .string P.1.s]
          have zhP_qq := qq.size
          replace qq := bl_al qq (.cells #[.int .i64 P.1.k, .int .i64 P.1.n, .int .u64 P.1.u, .string P.1.s] 28)
          have hA_0 : (x3.alloc (.cells #[.int .i64 P.1.k, .int .i64 P.1.n, .int .u64 P.1.u, .string P.1.s] 28)).cell? ⟨GA, 0, none⟩ = some (.int .i64 v.k) := (hA.below qq hA.lt).cell 0
          have hA_1 : (x3.alloc (.cells #[.int .i64 P.1.k, .int .i64 P.1.n, .int .u64 P.1.u, .string P.1.s] 28)).cell? ⟨GA, 1, none⟩ = some (.int .i64 v.n) := (hA.below qq hA.lt).cell 1
          have hA_2 : (x3.alloc (.cells #[.int .i64 P.1.k, .int .i64 P.1.n, .int .u64 P.1.u, .string P.1.s] 28)).cell? ⟨GA, 2, none⟩ = some (.int .u64 v.u) := (hA.below qq hA.lt).cell 2
          have hA_3 : (x3.alloc (.cells #[.int .i64 P.1.k, .int .i64 P.1.n, .int .u64 P.1.u, .string P.1.s] 28)).cell? ⟨GA, 3, none⟩ = some (.string v.s) := (hA.below qq hA.lt).cell 3
          have hB_0 : (x3.alloc (.cells #[.int .i64 P.1.k, .int .i64 P.1.n, .int .u64 P.1.u, .string P.1.s] 28)).cell? ⟨wr.heap.size, 0, none⟩ = some (.int .i64 u.k) := hB.cell 0
          have hB_1 : (x3.alloc (.cells #[.int .i64 P.1.k, .int .i64 P.1.n, .int .u64 P.1.u, .string P.1.s] 28)).cell? ⟨wr.heap.size, 1, none⟩ = some (.int .i64 u.n) := hB.cell 1
          have hB_2 : (x3.alloc (.cells #[.int .i64 P.1.k, .int .i64 P.1.n, .int .u64 P.1.u, .string P.1.s] 28)).cell? ⟨wr.heap.size, 2, none⟩ = some (.int .u64 u.u) := hB.cell 2
          have hB_3 : (x3.alloc (.cells #[.int .i64 P.1.k, .int .i64 P.1.n, .int .u64 P.1.u, .string P.1.s] 28)).cell? ⟨wr.heap.size, 3, none⟩ = some (.string u.s) := hB.cell 3
          go_wp2_with fail
          clear hA_0 hA_1 hA_2 hA_3 hB_0 hB_1 hB_2 hB_3
          generalize (x3.alloc (.cells #[.int .i64 P.1.k, .int .i64 P.1.n, .int .u64 P.1.u, .string P.1.s] 28)) = x4 at *
          generalize x3.heap.size = Gx4 at *
          refine (H4.out _).mono ?_
          rintro e x5 ⟨rfl, qx5⟩
          simp only [resT]
          replace hB := hB.ca qx5
          replace hP := hP.ca qx5
          replace qq := bl_ca qq qx5
          clear qx5
          have lhQ_hB := hB.lt
          replace hB := hB.alloc (.cells #[.int .i64 P.1.k, .int .i64 P.1.n, .int .u64 P.1.u, .string P.1.s] 28)
          have lhQ_hP := hP.lt
          replace hP := hP.alloc (.cells #[.int .i64 P.1.k, .int .i64 P.1.n, .int .u64 P.1.u, .string P.1.s] 28)
          have hQ := Blk.new x5 28 #[.int .i64 P.1.k, .int .i64 P.1.n, .int .u64 P.1.u, .string P.1.s]
          have zhQ_qq := qq.size
          replace qq := bl_al qq (.cells #[.int .i64 P.1.k, .int .i64 P.1.n, .int .u64 P.1.u, .string P.1.s] 28)
          have hA_0 : (x5.alloc (.cells #[.int .i64 P.1.k, .int .i64 P.1.n, .int .u64 P.1.u, .string P.1.s] 28)).cell? ⟨GA, 0, none⟩ = some (.int .i64 v.k) := (hA.below qq hA.lt).cell 0
          have hA_1 : (x5.alloc (.cells #[.int .i64 P.1.k, .int .i64 P.1.n, .int .u64 P.1.u, .string P.1.s] 28)).cell? ⟨GA, 1, none⟩ = some (.int .i64 v.n) := (hA.below qq hA.lt).cell 1
          have hA_2 : (x5.alloc (.cells #[.int .i64 P.1.k, .int .i64 P.1.n, .int .u64 P.1.u, .string P.1.s] 28)).cell? ⟨GA, 2, none⟩ = some (.int .u64 v.u) := (hA.below qq hA.lt).cell 2
          have hA_3 : (x5.alloc (.cells #[.int .i64 P.1.k, .int .i64 P.1.n, .int .u64 P.1.u, .string P.1.s] 28)).cell? ⟨GA, 3, none⟩ = some (.string v.s) := (hA.below qq hA.lt).cell 3
          have hB_0 : (x5.alloc (.cells #[.int .i64 P.1.k, .int .i64 P.1.n, .int .u64 P.1.u, .string P.1.s] 28)).cell? ⟨wr.heap.size, 0, none⟩ = some (.int .i64 u.k) := hB.cell 0
          have hB_1 : (x5.alloc (.cells #[.int .i64 P.1.k, .int .i64 P.1.n, .int .u64 P.1.u, .string P.1.s] 28)).cell? ⟨wr.heap.size, 1, none⟩ = some (.int .i64 u.n) := hB.cell 1
          have hB_2 : (x5.alloc (.cells #[.int .i64 P.1.k, .int .i64 P.1.n, .int .u64 P.1.u, .string P.1.s] 28)).cell? ⟨wr.heap.size, 2, none⟩ = some (.int .u64 u.u) := hB.cell 2
          have hB_3 : (x5.alloc (.cells #[.int .i64 P.1.k, .int .i64 P.1.n, .int .u64 P.1.u, .string P.1.s] 28)).cell? ⟨wr.heap.size, 3, none⟩ = some (.string u.s) := hB.cell 3
          have hP_0 : (x5.alloc (.cells #[.int .i64 P.1.k, .int .i64 P.1.n, .int .u64 P.1.u, .string P.1.s] 28)).cell? ⟨Gx4, 0, none⟩ = some (.int .i64 P.1.k) := hP.cell 0
          have hP_1 : (x5.alloc (.cells #[.int .i64 P.1.k, .int .i64 P.1.n, .int .u64 P.1.u, .string P.1.s] 28)).cell? ⟨Gx4, 1, none⟩ = some (.int .i64 P.1.n) := hP.cell 1
          have hP_2 : (x5.alloc (.cells #[.int .i64 P.1.k, .int .i64 P.1.n, .int .u64 P.1.u, .string P.1.s] 28)).cell? ⟨Gx4, 2, none⟩ = some (.int .u64 P.1.u) := hP.cell 2
          have hP_3 : (x5.alloc (.cells #[.int .i64 P.1.k, .int .i64 P.1.n, .int .u64 P.1.u, .string P.1.s] 28)).cell? ⟨Gx4, 3, none⟩ = some (.string P.1.s) := hP.cell 3
          go_wp2_with fail
          clear hA_0 hA_1 hA_2 hA_3 hB_0 hB_1 hB_2 hB_3 hP_0 hP_1 hP_2 hP_3
          generalize (x5.alloc (.cells #[.int .i64 P.1.k, .int .i64 P.1.n, .int .u64 P.1.u, .string P.1.s] 28)) = x6 at *
          generalize x5.heap.size = Gx6 at *
          refine (H5.out _).mono ?_
          rintro e x7 ⟨rfl, qx7⟩
          simp only [resT]
          replace hB := hB.ca qx7
          replace hP := hP.ca qx7
          replace hQ := hQ.ca qx7
          replace qq := bl_ca qq qx7
          clear qx7
          have KhP := Lib.hid hP
          clear hP
          go_wp2_with (refine wpList_store_blk rfl 28 (.tmp 8) (.tmp 59) rfl (Gx4) 28 _ _ rfl rfl KhP.out rfl valI (one4 _ _ _ _) ?_; intro x8 hP gx8; replace hB := hB.apart gx8 (by omega); replace hQ := hQ.apart gx8 (by omega); replace qq := bl_gr qq gx8 (by omega); have hA_0 : x8.cell? ⟨GA, 0, none⟩ = some (.int .i64 v.k) := (hA.below qq hA.lt).cell 0; have hA_1 : x8.cell? ⟨GA, 1, none⟩ = some (.int .i64 v.n) := (hA.below qq hA.lt).cell 1; have hA_2 : x8.cell? ⟨GA, 2, none⟩ = some (.int .u64 v.u) := (hA.below qq hA.lt).cell 2; have hA_3 : x8.cell? ⟨GA, 3, none⟩ = some (.string v.s) := (hA.below qq hA.lt).cell 3; have hB_0 : x8.cell? ⟨wr.heap.size, 0, none⟩ = some (.int .i64 u.k) := hB.cell 0; have hB_1 : x8.cell? ⟨wr.heap.size, 1, none⟩ = some (.int .i64 u.n) := hB.cell 1; have hB_2 : x8.cell? ⟨wr.heap.size, 2, none⟩ = some (.int .u64 u.u) := hB.cell 2; have hB_3 : x8.cell? ⟨wr.heap.size, 3, none⟩ = some (.string u.s) := hB.cell 3)
          clear hA_0 hA_1 hA_2 hA_3 hB_0 hB_1 hB_2 hB_3
          clear KhP
          have hA_0 : x8.cell? ⟨GA, 0, none⟩ = some (.int .i64 v.k) := (hA.below qq hA.lt).cell 0
          have hA_1 : x8.cell? ⟨GA, 1, none⟩ = some (.int .i64 v.n) := (hA.below qq hA.lt).cell 1
          have hA_2 : x8.cell? ⟨GA, 2, none⟩ = some (.int .u64 v.u) := (hA.below qq hA.lt).cell 2
          have hA_3 : x8.cell? ⟨GA, 3, none⟩ = some (.string v.s) := (hA.below qq hA.lt).cell 3
          have hB_0 : x8.cell? ⟨wr.heap.size, 0, none⟩ = some (.int .i64 u.k) := hB.cell 0
          have hB_1 : x8.cell? ⟨wr.heap.size, 1, none⟩ = some (.int .i64 u.n) := hB.cell 1
          have hB_2 : x8.cell? ⟨wr.heap.size, 2, none⟩ = some (.int .u64 u.u) := hB.cell 2
          have hB_3 : x8.cell? ⟨wr.heap.size, 3, none⟩ = some (.string u.s) := hB.cell 3
          go_wp2_with fail
          clear hA_0 hA_1 hA_2 hA_3 hB_0 hB_1 hB_2 hB_3
          refine (H6.out _).mono ?_
          rintro e x9 ⟨rfl, qx9⟩
          simp only [resT]
          replace hB := hB.ca qx9
          replace hP := hP.ca qx9
          replace hQ := hQ.ca qx9
          replace qq := bl_ca qq qx9
          clear qx9
          have KhQ := Lib.hid hQ
          clear hQ
          go_wp2_with (refine wpList_store_blk rfl 28 (.tmp 10) (.tmp 65) rfl (Gx6) 28 _ _ rfl rfl KhQ.out rfl valI (one4 _ _ _ _) ?_; intro x10 hQ gx10; replace hB := hB.apart gx10 (by omega); replace hP := hP.apart gx10 (by omega); replace qq := bl_gr qq gx10 (by omega); have hP_0 : x10.cell? ⟨Gx4, 0, none⟩ = some (.int .i64 O.1.k) := hP.cell 0; have hP_1 : x10.cell? ⟨Gx4, 1, none⟩ = some (.int .i64 O.1.n) := hP.cell 1; have hP_2 : x10.cell? ⟨Gx4, 2, none⟩ = some (.int .u64 O.1.u) := hP.cell 2; have hP_3 : x10.cell? ⟨Gx4, 3, none⟩ = some (.string O.1.s) := hP.cell 3; have hQ_0 : x10.cell? ⟨Gx6, 0, none⟩ = some (.int .i64 O.1.k) := hQ.cell 0; have hQ_1 : x10.cell? ⟨Gx6, 1, none⟩ = some (.int .i64 O.1.n) := hQ.cell 1; have hQ_2 : x10.cell? ⟨Gx6, 2, none⟩ = some (.int .u64 O.1.u) := hQ.cell 2; have hQ_3 : x10.cell? ⟨Gx6, 3, none⟩ = some (.string O.1.s) := hQ.cell 3)
          clear hP_0 hP_1 hP_2 hP_3 hQ_0 hQ_1 hQ_2 hQ_3
          clear KhQ
          have hP_0 : x10.cell? ⟨Gx4, 0, none⟩ = some (.int .i64 O.1.k) := hP.cell 0
          have hP_1 : x10.cell? ⟨Gx4, 1, none⟩ = some (.int .i64 O.1.n) := hP.cell 1
          have hP_2 : x10.cell? ⟨Gx4, 2, none⟩ = some (.int .u64 O.1.u) := hP.cell 2
          have hP_3 : x10.cell? ⟨Gx4, 3, none⟩ = some (.string O.1.s) := hP.cell 3
          have hQ_0 : x10.cell? ⟨Gx6, 0, none⟩ = some (.int .i64 O.1.k) := hQ.cell 0
          have hQ_1 : x10.cell? ⟨Gx6, 1, none⟩ = some (.int .i64 O.1.n) := hQ.cell 1
          have hQ_2 : x10.cell? ⟨Gx6, 2, none⟩ = some (.int .u64 O.1.u) := hQ.cell 2
          have hQ_3 : x10.cell? ⟨Gx6, 3, none⟩ = some (.string O.1.s) := hQ.cell 3
          go_wp2
          clear hP_0 hP_1 hP_2 hP_3 hQ_0 hQ_1 hQ_2 hQ_3
          go_roundg (gk - 1)
          · exact ⟨k + 1, by omega, by omega, by go_num, hv.below qq, hT.below qq, hA.below qq hA.lt, bl_ca bb qq⟩
          · omega
        · go_wp2
          go_roundg (g1 - 1)
          · exact ⟨i + 1, by omega, by omega, by go_num, hv, hT, bb⟩
          · omega
    · go_wp2
      go_ret
      exact ⟨rfl, bb⟩
end Go.Proofs.YtabbiepafibmmaaDoor
