/- The law ValueTells: which values may be, are plain, and true; those of numbers and texts. Conditions: the slices read as these; the tables. -/
import Derived.Test.YtabbiepafibmmaaDoorFrameC
import Derived.Test.YtabbiepafibmmaaDoorOrderVL
import Derived.Test.YtabbiepafibmmaaDoorRdT
namespace Go.Proofs.YtabbiepafibmmaaDoor
open Go.RowKit
set_option maxHeartbeats 1000000 in
theorem rint_any (n : Int) (w : World) : Calls Tryd.prog 23 #[.int .i64 n] w fun e w' => e = .returned (.agg #[.int .i64 2, .int .i64 n, .int .u64 0, .string ⟨#[]⟩]) ∧ Below w.heap.size w w' := by
  go_enter Tryd.func23, Tryd.ntmps23
  go_wp2
  refine bodyPost_ret (v := .agg #[.int .i64 2, .int .i64 n, .int .u64 0, .string ⟨#[]⟩]) (by simp [results, Tryd.results23, go_sem]) rfl ⟨rfl, ?_⟩
  first | exact Below.refl _ _ | exact (Below.refl _ _).alloc (Nat.le_refl _) _ | exact ((Below.refl _ _).alloc (Nat.le_refl _) _).alloc (by simp) _
set_option maxHeartbeats 1000000 in
theorem rtext_any (s : ByteArray) (w : World) : Calls Tryd.prog 25 #[.string s] w fun e w' => e = .returned (.agg #[.int .i64 3, .int .i64 0, .int .u64 0, .string s]) ∧ Below w.heap.size w w' := by
  go_enter Tryd.func25, Tryd.ntmps25
  go_wp2
  refine bodyPost_ret (v := .agg #[.int .i64 3, .int .i64 0, .int .u64 0, .string s]) (by simp [results, Tryd.results25, go_sem]) rfl ⟨rfl, ?_⟩
  first | exact Below.refl _ _ | exact (Below.refl _ _).alloc (Nat.le_refl _) _ | exact ((Below.refl _ _).alloc (Nat.le_refl _) _).alloc (by simp) _
theorem trueB_eq (v : VV) : eqVV v VB1 = trueB v := by
  unfold eqVV trueB VB1
  by_cases h1 : v.k = 1 <;> by_cases h2 : v.n = 1 <;> by_cases h3 : v.u = 0 <;> by_cases h4 : v.s.toList = [] <;> simp [h1, h2, h3, h4, ByteArray.toList_eq]
  all_goals (rw [Bool.eq_iff_iff]; simp [Array.isEmpty_iff])
def cut200 (s : ByteArray) : ByteArray := s.extract 0 (min (s.size : Int) 200).toNat
theorem cut200_size (s : ByteArray) : (cut200 s).size ≤ 200 := by unfold cut200; rw [ByteArray.size_extract]; omega
set_option maxRecDepth 100000 in
set_option maxHeartbeats 16000000 in
theorem valueTells_walk (A : Option Addr) (n c : Nat) (vs : List VV) (A1 : Option Addr) (n1 c1 : Nat) (zs : List Int) (A2 : Option Addr) (n2 c2 : Nat) (ss : List ByteArray) (w : World)
    (h : RdV w A n vs) (hn : n ≤ 9223372036854775807) (_hr : ∀ v ∈ vs, v.rng) (hz : RdI w A1 n1 zs) (hn1 : n1 ≤ 9223372036854775807) (_hz : ∀ z ∈ zs, I64 z) (hs : RdT w A2 n2 ss) (hn2 : n2 ≤ 9223372036854775807) (hT : Tab w) :
    Calls Tryd.prog 5 #[.slice A n c, .slice A1 n1 c1, .slice A2 n2 c2] w fun e w' => e = .returned (.bool true) ∧ Below w.heap.size w w' := by
  clear _hr _hz
  go_enter Tryd.func5, Tryd.ntmps5
  go_wp2_with fail
  refine (wakes2_any w hT).mono ?_
  rintro e w1 ⟨rfl, b1⟩
  have h1 := h.below b1
  go_wp2_with fail
  refine (few_any A n c vs w1 h1 hn).mono ?_
  rintro e w2 ⟨A', n', c', rfl, ho, q2⟩
  have bb := bl_ca b1 q2
  have hv := ho.rd
  have hlt := ho.len
  have hn10 : n' ≤ 10 := by
    rw [← hlt]
    simp only [fewV, List.length_map, List.length_take]
    omega
  generalize fewV 10 vs = xs at *
  clear b1 h1 h ho q2 hlt hT
  go_wp2
  go_loopg [22] n' (fun g s wr => ∃ (i : Nat), i + g ≤ n' ∧ n' ≤ i + g ∧ s = .int .i64 i ∧ RdV wr A' n' xs ∧ Below w.heap.size w wr)
  case atStart => exact ⟨0, by omega, by omega, rfl, hv, bb⟩
  case round =>
    clear hv bb
    obtain ⟨i, hi1, hi2, rfl, hv, bb⟩ := hrel
    by_cases hi : i < n'
    · obtain ⟨ad, v, hA, hvi, hal, c0, c1, c2, c3⟩ := hv.2 i hi
      subst hA
      clear hvi
      have qq := Below.refl wr.heap.size wr
      have HP := Lib.hid (fun w => plain_any v.k v.n v.u v.s w)
      have HRP := Lib.hid (fun w => rplain_any v.k v.n v.u v.s w)
      have HT := Lib.hid (fun w => true_any v w)
      have HQ : ∀ W, (Op.equalIn 10000 28 (.agg #[.int .i64 v.k, .int .i64 v.n, .int .u64 v.u, .string v.s]) (.agg #[.int .i64 1, .int .i64 1, .int .u64 0, .string ⟨#[]⟩])).run Tryd.prog W = .ok (trueB v) W := fun W => by rw [← trueB_eq]; exact run_eqVV v VB1 W
      generalize plainB v.k v.n v.u v.s = pb at *
      generalize trueB v = tb at *
      cases hok : v.ok
      · have HRR := Lib.hid (fun w => r_n v hok w)
        have HCK := Lib.hid (fun w => check_x v.k v.n v.u v.s hok w)
        clear hok
        have hV := Blk.new wr 28 #[.int .i64 v.k, .int .i64 v.n, .int .u64 v.u, .string v.s]
        have zhV_qq := qq.size
        replace qq := bl_al qq (.cells #[.int .i64 v.k, .int .i64 v.n, .int .u64 v.u, .string v.s] 28)
        go_wp2_with fail
        clear c0 c1 c2 c3 hal
        generalize (wr.alloc (.cells #[.int .i64 v.k, .int .i64 v.n, .int .u64 v.u, .string v.s] 28)) = u1 at *
        refine (HRR.out _).mono ?_
        rintro e u2 ⟨rfl, qu2⟩
        replace hV := hV.ca qu2
        replace qq := bl_ca qq qu2
        clear qu2
        have hV_0 : u2.cell? ⟨wr.heap.size, 0, none⟩ = some (.int .i64 v.k) := hV.cell 0
        have hV_1 : u2.cell? ⟨wr.heap.size, 1, none⟩ = some (.int .i64 v.n) := hV.cell 1
        have hV_2 : u2.cell? ⟨wr.heap.size, 2, none⟩ = some (.int .u64 v.u) := hV.cell 2
        have hV_3 : u2.cell? ⟨wr.heap.size, 3, none⟩ = some (.string v.s) := hV.cell 3
        go_wp2_with fail
        clear hV_0 hV_1 hV_2 hV_3
        refine (HCK.out _).mono ?_
        rintro e u3 ⟨rfl, qu3⟩
        replace hV := hV.ca qu3
        replace qq := bl_ca qq qu3
        clear qu3
        go_wp2_with fail
        refine wp_region_lin (S := Grew u3) (by kernel_rfl) (Grew.start _) ?_
        refine Good.val (i := 0) (d := some 30) (v := ?v8_0_1) rfl rfl (by kernel_rfl) (by kernel_rfl) (by kernel_rfl) (by rfl) (fun w9 hS => ?h8_0_1) ?r8_0_1
        case h8_0_1 => go_simp; try rfl
        try simp only [Act.put, List.setIfInBounds_toArray, List.set_cons_zero, List.set_cons_succ]
        refine Good.val (i := 1) (d := some 31) (v := ?v8_1_2) rfl rfl (by kernel_rfl) (by kernel_rfl) (by kernel_rfl) (by rfl) (fun w9 hS => ?h8_1_2) ?r8_1_2
        case h8_1_2 => go_simp; try rfl
        try simp only [Act.put, List.setIfInBounds_toArray, List.set_cons_zero, List.set_cons_succ]
        refine Good.val (i := 2) (d := some 32) (v := ?v8_2_3) rfl rfl (by kernel_rfl) (by kernel_rfl) (by kernel_rfl) (by rfl) (fun w9 hS => ?h8_2_3) ?r8_2_3
        case h8_2_3 => go_simp; try rfl
        try simp only [Act.put, List.setIfInBounds_toArray, List.set_cons_zero, List.set_cons_succ]
        refine Good.val (i := 3) (d := some 33) (v := ?v8_3_4) rfl rfl (by kernel_rfl) (by kernel_rfl) (by kernel_rfl) (by rfl) (fun w9 hS => ?h8_3_4) ?r8_3_4
        case h8_3_4 => go_simp; try rfl
        try simp only [Act.put, List.setIfInBounds_toArray, List.set_cons_zero, List.set_cons_succ]
        refine Good.val (i := 4) (d := some 34) (v := ?v8_4_5) rfl rfl (by kernel_rfl) (by kernel_rfl) (by kernel_rfl) (by rfl) (fun w9 hS => ?h8_4_5) ?r8_4_5
        case h8_4_5 => go_simp; try rfl
        try simp only [Act.put, List.setIfInBounds_toArray, List.set_cons_zero, List.set_cons_succ]
        refine Good.val (i := 5) (d := some 35) (v := ?v8_5_6) rfl rfl (by kernel_rfl) (by kernel_rfl) (by kernel_rfl) (by rfl) (fun w9 hS => ?h8_5_6) ?r8_5_6
        case h8_5_6 => go_simp; try rfl
        try simp only [Act.put, List.setIfInBounds_toArray, List.set_cons_zero, List.set_cons_succ]
        refine Good.val (i := 6) (d := some 36) (v := ?v8_6_7) rfl rfl (by kernel_rfl) (by kernel_rfl) (by kernel_rfl) (by rfl) (fun w9 hS => ?h8_6_7) ?r8_6_7
        case h8_6_7 => go_simp; try rfl
        try simp only [Act.put, List.setIfInBounds_toArray, List.set_cons_zero, List.set_cons_succ]
        refine Good.val (i := 7) (d := some 37) (v := ?v8_7_8) rfl rfl (by kernel_rfl) (by kernel_rfl) (by kernel_rfl) (by rfl) (fun w9 hS => ?h8_7_8) ?r8_7_8
        case h8_7_8 => go_simp; try rfl
        try simp only [Act.put, List.setIfInBounds_toArray, List.set_cons_zero, List.set_cons_succ]
        refine Good.val (i := 8) (d := some 38) (v := ?v8_8_9) rfl rfl (by kernel_rfl) (by kernel_rfl) (by kernel_rfl) (by rfl) (fun w9 hS => ?h8_8_9) ?r8_8_9
        case h8_8_9 => go_simp; try rfl
        try simp only [Act.put, List.setIfInBounds_toArray, List.set_cons_zero, List.set_cons_succ]
        refine Good.val (i := 9) (d := some 39) (v := ?v8_9_10) rfl rfl (by kernel_rfl) (by kernel_rfl) (by kernel_rfl) (by rfl) (fun w9 hS => ?h8_9_10) ?r8_9_10
        case h8_9_10 => go_simp; try rfl
        try simp only [Act.put, List.setIfInBounds_toArray, List.set_cons_zero, List.set_cons_succ]
        refine Good.val (i := 10) (d := some 40) (v := ?v8_10_11) rfl rfl (by kernel_rfl) (by kernel_rfl) (by kernel_rfl) (by rfl) (fun w9 hS => ?h8_10_11) ?r8_10_11
        case h8_10_11 => go_simp; try rfl
        try simp only [Act.put, List.setIfInBounds_toArray, List.set_cons_zero, List.set_cons_succ]
        refine Good.val (i := 11) (d := some 41) (v := ?v8_11_12) rfl rfl (by kernel_rfl) (by kernel_rfl) (by kernel_rfl) (by rfl) (fun w9 hS => ?h8_11_12) ?r8_11_12
        case h8_11_12 => go_simp; try rfl
        try simp only [Act.put, List.setIfInBounds_toArray, List.set_cons_zero, List.set_cons_succ]
        refine Good.val (i := 12) (d := some 42) (v := ?v8_12_13) rfl rfl (by kernel_rfl) (by kernel_rfl) (by kernel_rfl) (by rfl) (fun w9 hS => ?h8_12_13) ?r8_12_13
        case h8_12_13 => go_simp; try rfl
        try simp only [Act.put, List.setIfInBounds_toArray, List.set_cons_zero, List.set_cons_succ]
        refine Good.val (i := 13) (d := some 43) (v := ?v8_13_14) rfl rfl (by kernel_rfl) (by kernel_rfl) (by kernel_rfl) (by rfl) (fun w9 hS => ?h8_13_14) ?r8_13_14
        case h8_13_14 =>
          have hb9 := (Blk.below hV hS hV.lt)
          have b9_0 : w9.cell? ⟨wr.heap.size, 0, none⟩ = some (.int .i64 v.k) := hb9.cell 0
          have b9_1 : w9.cell? ⟨wr.heap.size, 1, none⟩ = some (.int .i64 v.n) := hb9.cell 1
          have b9_2 : w9.cell? ⟨wr.heap.size, 2, none⟩ = some (.int .u64 v.u) := hb9.cell 2
          have b9_3 : w9.cell? ⟨wr.heap.size, 3, none⟩ = some (.string v.s) := hb9.cell 3
          go_simp
          try rfl
        try simp only [Act.put, List.setIfInBounds_toArray, List.set_cons_zero, List.set_cons_succ]
        refine Good.call (i := 14) (d := some 44) (fn := ?f8_14_15) (args := ?a8_14_15) (v := ?v8_14_15) rfl rfl (by kernel_rfl) (by kernel_rfl) (by kernel_rfl) (by rfl) (fun w9 hS => ?h8_14_15) (Grew.call fun w9 qS => ?c8_14_15) ?r8_14_15
        case h8_14_15 => go_simp; refine ⟨?_, ?_⟩ <;> rfl
        case c8_14_15 => exact HP.out _
        try simp only [Act.put, List.setIfInBounds_toArray, List.set_cons_zero, List.set_cons_succ]
        refine Good.val (i := 15) (d := some 45) (v := ?v8_15_16) rfl rfl (by kernel_rfl) (by kernel_rfl) (by kernel_rfl) (by rfl) (fun w9 hS => ?h8_15_16) ?r8_15_16
        case h8_15_16 =>
          have hb9 := (Blk.below hV hS hV.lt)
          have b9_0 : w9.cell? ⟨wr.heap.size, 0, none⟩ = some (.int .i64 v.k) := hb9.cell 0
          have b9_1 : w9.cell? ⟨wr.heap.size, 1, none⟩ = some (.int .i64 v.n) := hb9.cell 1
          have b9_2 : w9.cell? ⟨wr.heap.size, 2, none⟩ = some (.int .u64 v.u) := hb9.cell 2
          have b9_3 : w9.cell? ⟨wr.heap.size, 3, none⟩ = some (.string v.s) := hb9.cell 3
          go_simp
          try rfl
        try simp only [Act.put, List.setIfInBounds_toArray, List.set_cons_zero, List.set_cons_succ]
        refine Good.call (i := 16) (d := some 46) (fn := ?f8_16_17) (args := ?a8_16_17) (v := ?v8_16_17) rfl rfl (by kernel_rfl) (by kernel_rfl) (by kernel_rfl) (by rfl) (fun w9 hS => ?h8_16_17) (Grew.call fun w9 qS => ?c8_16_17) ?r8_16_17
        case h8_16_17 => go_simp; refine ⟨?_, ?_⟩ <;> rfl
        case c8_16_17 => exact HRP.out _
        try simp only [Act.put, List.setIfInBounds_toArray, List.set_cons_zero, List.set_cons_succ]
        refine Good.val (i := 17) (d := some 47) (v := ?v8_17_18) rfl rfl (by kernel_rfl) (by kernel_rfl) (by kernel_rfl) (by rfl) (fun w9 hS => ?h8_17_18) ?r8_17_18
        case h8_17_18 => go_simp; try rfl
        try simp only [Act.put, List.setIfInBounds_toArray, List.set_cons_zero, List.set_cons_succ]
        refine Good.val (i := 18) (d := some 48) (v := ?v8_18_19) rfl rfl (by kernel_rfl) (by kernel_rfl) (by kernel_rfl) (by rfl) (fun w9 hS => ?h8_18_19) ?r8_18_19
        case h8_18_19 => go_simp; try rfl
        try simp only [Act.put, List.setIfInBounds_toArray, List.set_cons_zero, List.set_cons_succ]
        refine Good.val (i := 19) (d := some 49) (v := ?v8_19_20) rfl rfl (by kernel_rfl) (by kernel_rfl) (by kernel_rfl) (by rfl) (fun w9 hS => ?h8_19_20) ?r8_19_20
        case h8_19_20 => go_simp; try rfl
        try simp only [Act.put, List.setIfInBounds_toArray, List.set_cons_zero, List.set_cons_succ]
        refine Good.val (i := 20) (d := some 50) (v := ?v8_20_21) rfl rfl (by kernel_rfl) (by kernel_rfl) (by kernel_rfl) (by rfl) (fun w9 hS => ?h8_20_21) ?r8_20_21
        case h8_20_21 =>
          have hb9 := (Blk.below hV hS hV.lt)
          have b9_0 : w9.cell? ⟨wr.heap.size, 0, none⟩ = some (.int .i64 v.k) := hb9.cell 0
          have b9_1 : w9.cell? ⟨wr.heap.size, 1, none⟩ = some (.int .i64 v.n) := hb9.cell 1
          have b9_2 : w9.cell? ⟨wr.heap.size, 2, none⟩ = some (.int .u64 v.u) := hb9.cell 2
          have b9_3 : w9.cell? ⟨wr.heap.size, 3, none⟩ = some (.string v.s) := hb9.cell 3
          go_simp
          try rfl
        try simp only [Act.put, List.setIfInBounds_toArray, List.set_cons_zero, List.set_cons_succ]
        refine Good.call (i := 21) (d := some 51) (fn := ?f8_21_22) (args := ?a8_21_22) (v := ?v8_21_22) rfl rfl (by kernel_rfl) (by kernel_rfl) (by kernel_rfl) (by rfl) (fun w9 hS => ?h8_21_22) (Grew.call fun w9 qS => ?c8_21_22) ?r8_21_22
        case h8_21_22 => go_simp; refine ⟨?_, ?_⟩ <;> rfl
        case c8_21_22 => exact HT.out _
        try simp only [Act.put, List.setIfInBounds_toArray, List.set_cons_zero, List.set_cons_succ]
        refine Good.val (i := 22) (d := some 52) (v := ?v8_22_23) rfl rfl (by kernel_rfl) (by kernel_rfl) (by kernel_rfl) (by rfl) (fun w9 hS => ?h8_22_23) ?r8_22_23
        case h8_22_23 =>
          have hb9 := (Blk.below hV hS hV.lt)
          have b9_0 : w9.cell? ⟨wr.heap.size, 0, none⟩ = some (.int .i64 v.k) := hb9.cell 0
          have b9_1 : w9.cell? ⟨wr.heap.size, 1, none⟩ = some (.int .i64 v.n) := hb9.cell 1
          have b9_2 : w9.cell? ⟨wr.heap.size, 2, none⟩ = some (.int .u64 v.u) := hb9.cell 2
          have b9_3 : w9.cell? ⟨wr.heap.size, 3, none⟩ = some (.string v.s) := hb9.cell 3
          go_simp
          try rfl
        try simp only [Act.put, List.setIfInBounds_toArray, List.set_cons_zero, List.set_cons_succ]
        refine Good.call (i := 23) (d := some 53) (fn := ?f8_23_24) (args := ?a8_23_24) (v := ?v8_23_24) rfl rfl (by kernel_rfl) (by kernel_rfl) (by kernel_rfl) (by rfl) (fun w9 hS => ?h8_23_24) (Grew.call fun w9 qS => ?c8_23_24) ?r8_23_24
        case h8_23_24 => go_simp; refine ⟨?_, ?_⟩ <;> rfl
        case c8_23_24 => exact rbool_true _
        try simp only [Act.put, List.setIfInBounds_toArray, List.set_cons_zero, List.set_cons_succ]
        refine Good.val (i := 24) (d := some 54) (v := ?v8_24_25) rfl rfl (by kernel_rfl) (by kernel_rfl) (by kernel_rfl) (by rfl) (fun w9 hS => ?h8_24_25) ?r8_24_25
        case h8_24_25 => go_simp; try rfl
        try simp only [Act.put, List.setIfInBounds_toArray, List.set_cons_zero, List.set_cons_succ]
        refine Good.val (i := 25) (d := some 55) (v := ?v8_25_26) rfl rfl (by kernel_rfl) (by kernel_rfl) (by kernel_rfl) (by rfl) (fun w9 hS => ?h8_25_26) ?r8_25_26
        case h8_25_26 => go_simp; try rfl
        try simp only [Act.put, List.setIfInBounds_toArray, List.set_cons_zero, List.set_cons_succ]
        refine Good.val (i := 26) (d := some 56) (v := ?v8_26_27) rfl rfl (by kernel_rfl) (by kernel_rfl) (by kernel_rfl) (by rfl) (fun w9 hS => ?h8_26_27) ?r8_26_27
        case h8_26_27 => go_simp; try rfl
        try simp only [Act.put, List.setIfInBounds_toArray, List.set_cons_zero, List.set_cons_succ]
        refine Good.done (by kernel_rfl) (fun u4 qu4 => ?_) _
        replace hV := hV.ca qu4
        replace qq := bl_ca qq qu4
        clear qu4
        go_wp2
        go_roundg (gk - 1)
        · exact ⟨i + 1, by omega, by omega, by go_num, hv.below qq, bl_ca bb qq⟩
        · omega
      · have HRR := Lib.hid (fun w => r_y v hok w)
        have HCK := Lib.hid (fun w => check_y v.k v.n v.u v.s hok w)
        clear hok
        have hV := Blk.new wr 28 #[.int .i64 v.k, .int .i64 v.n, .int .u64 v.u, .string v.s]
        have zhV_qq := qq.size
        replace qq := bl_al qq (.cells #[.int .i64 v.k, .int .i64 v.n, .int .u64 v.u, .string v.s] 28)
        go_wp2_with fail
        clear c0 c1 c2 c3 hal
        generalize (wr.alloc (.cells #[.int .i64 v.k, .int .i64 v.n, .int .u64 v.u, .string v.s] 28)) = u1 at *
        refine (HRR.out _).mono ?_
        rintro e u2 ⟨rfl, qu2⟩
        replace hV := hV.ca qu2
        replace qq := bl_ca qq qu2
        clear qu2
        have hV_0 : u2.cell? ⟨wr.heap.size, 0, none⟩ = some (.int .i64 v.k) := hV.cell 0
        have hV_1 : u2.cell? ⟨wr.heap.size, 1, none⟩ = some (.int .i64 v.n) := hV.cell 1
        have hV_2 : u2.cell? ⟨wr.heap.size, 2, none⟩ = some (.int .u64 v.u) := hV.cell 2
        have hV_3 : u2.cell? ⟨wr.heap.size, 3, none⟩ = some (.string v.s) := hV.cell 3
        go_wp2_with fail
        clear hV_0 hV_1 hV_2 hV_3
        refine (HCK.out _).mono ?_
        rintro e u3 ⟨rfl, qu3⟩
        replace hV := hV.ca qu3
        replace qq := bl_ca qq qu3
        clear qu3
        go_wp2_with fail
        refine wp_region_lin (S := Grew u3) (by kernel_rfl) (Grew.start _) ?_
        refine Good.val (i := 0) (d := some 30) (v := ?v8_0_28) rfl rfl (by kernel_rfl) (by kernel_rfl) (by kernel_rfl) (by rfl) (fun w9 hS => ?h8_0_28) ?r8_0_28
        case h8_0_28 => go_simp; try rfl
        try simp only [Act.put, List.setIfInBounds_toArray, List.set_cons_zero, List.set_cons_succ]
        refine Good.val (i := 1) (d := some 31) (v := ?v8_1_29) rfl rfl (by kernel_rfl) (by kernel_rfl) (by kernel_rfl) (by rfl) (fun w9 hS => ?h8_1_29) ?r8_1_29
        case h8_1_29 => go_simp; try rfl
        try simp only [Act.put, List.setIfInBounds_toArray, List.set_cons_zero, List.set_cons_succ]
        refine Good.val (i := 2) (d := some 32) (v := ?v8_2_30) rfl rfl (by kernel_rfl) (by kernel_rfl) (by kernel_rfl) (by rfl) (fun w9 hS => ?h8_2_30) ?r8_2_30
        case h8_2_30 => go_simp; try rfl
        try simp only [Act.put, List.setIfInBounds_toArray, List.set_cons_zero, List.set_cons_succ]
        refine Good.val (i := 3) (d := some 33) (v := ?v8_3_31) rfl rfl (by kernel_rfl) (by kernel_rfl) (by kernel_rfl) (by rfl) (fun w9 hS => ?h8_3_31) ?r8_3_31
        case h8_3_31 => go_simp; try rfl
        try simp only [Act.put, List.setIfInBounds_toArray, List.set_cons_zero, List.set_cons_succ]
        refine Good.val (i := 4) (d := some 34) (v := ?v8_4_32) rfl rfl (by kernel_rfl) (by kernel_rfl) (by kernel_rfl) (by rfl) (fun w9 hS => ?h8_4_32) ?r8_4_32
        case h8_4_32 => go_simp; try rfl
        try simp only [Act.put, List.setIfInBounds_toArray, List.set_cons_zero, List.set_cons_succ]
        refine Good.val (i := 5) (d := some 35) (v := ?v8_5_33) rfl rfl (by kernel_rfl) (by kernel_rfl) (by kernel_rfl) (by rfl) (fun w9 hS => ?h8_5_33) ?r8_5_33
        case h8_5_33 => go_simp; try rfl
        try simp only [Act.put, List.setIfInBounds_toArray, List.set_cons_zero, List.set_cons_succ]
        refine Good.val (i := 6) (d := some 36) (v := ?v8_6_34) rfl rfl (by kernel_rfl) (by kernel_rfl) (by kernel_rfl) (by rfl) (fun w9 hS => ?h8_6_34) ?r8_6_34
        case h8_6_34 => go_simp; try rfl
        try simp only [Act.put, List.setIfInBounds_toArray, List.set_cons_zero, List.set_cons_succ]
        refine Good.val (i := 7) (d := some 37) (v := ?v8_7_35) rfl rfl (by kernel_rfl) (by kernel_rfl) (by kernel_rfl) (by rfl) (fun w9 hS => ?h8_7_35) ?r8_7_35
        case h8_7_35 => go_simp; try rfl
        try simp only [Act.put, List.setIfInBounds_toArray, List.set_cons_zero, List.set_cons_succ]
        refine Good.skip (i := 8) (d := some 38) rfl rfl (by kernel_rfl) (by kernel_rfl) (by kernel_rfl) (by rfl) ?_
        try simp only [Act.put, List.setIfInBounds_toArray, List.set_cons_zero, List.set_cons_succ]
        refine Good.skip (i := 9) (d := some 39) rfl rfl (by kernel_rfl) (by kernel_rfl) (by kernel_rfl) (by rfl) ?_
        try simp only [Act.put, List.setIfInBounds_toArray, List.set_cons_zero, List.set_cons_succ]
        refine Good.val (i := 10) (d := some 40) (v := ?v8_10_38) rfl rfl (by kernel_rfl) (by kernel_rfl) (by kernel_rfl) (by rfl) (fun w9 hS => ?h8_10_38) ?r8_10_38
        case h8_10_38 => go_simp; try rfl
        try simp only [Act.put, List.setIfInBounds_toArray, List.set_cons_zero, List.set_cons_succ]
        refine Good.val (i := 11) (d := some 41) (v := ?v8_11_39) rfl rfl (by kernel_rfl) (by kernel_rfl) (by kernel_rfl) (by rfl) (fun w9 hS => ?h8_11_39) ?r8_11_39
        case h8_11_39 => go_simp; try rfl
        try simp only [Act.put, List.setIfInBounds_toArray, List.set_cons_zero, List.set_cons_succ]
        refine Good.val (i := 12) (d := some 42) (v := ?v8_12_40) rfl rfl (by kernel_rfl) (by kernel_rfl) (by kernel_rfl) (by rfl) (fun w9 hS => ?h8_12_40) ?r8_12_40
        case h8_12_40 => go_simp; try rfl
        try simp only [Act.put, List.setIfInBounds_toArray, List.set_cons_zero, List.set_cons_succ]
        refine Good.val (i := 13) (d := some 43) (v := ?v8_13_41) rfl rfl (by kernel_rfl) (by kernel_rfl) (by kernel_rfl) (by rfl) (fun w9 hS => ?h8_13_41) ?r8_13_41
        case h8_13_41 =>
          have hb9 := (Blk.below hV hS hV.lt)
          have b9_0 : w9.cell? ⟨wr.heap.size, 0, none⟩ = some (.int .i64 v.k) := hb9.cell 0
          have b9_1 : w9.cell? ⟨wr.heap.size, 1, none⟩ = some (.int .i64 v.n) := hb9.cell 1
          have b9_2 : w9.cell? ⟨wr.heap.size, 2, none⟩ = some (.int .u64 v.u) := hb9.cell 2
          have b9_3 : w9.cell? ⟨wr.heap.size, 3, none⟩ = some (.string v.s) := hb9.cell 3
          go_simp
          try rfl
        try simp only [Act.put, List.setIfInBounds_toArray, List.set_cons_zero, List.set_cons_succ]
        refine Good.call (i := 14) (d := some 44) (fn := ?f8_14_42) (args := ?a8_14_42) (v := ?v8_14_42) rfl rfl (by kernel_rfl) (by kernel_rfl) (by kernel_rfl) (by rfl) (fun w9 hS => ?h8_14_42) (Grew.call fun w9 qS => ?c8_14_42) ?r8_14_42
        case h8_14_42 => go_simp; refine ⟨?_, ?_⟩ <;> rfl
        case c8_14_42 => exact HP.out _
        try simp only [Act.put, List.setIfInBounds_toArray, List.set_cons_zero, List.set_cons_succ]
        refine Good.val (i := 15) (d := some 45) (v := ?v8_15_43) rfl rfl (by kernel_rfl) (by kernel_rfl) (by kernel_rfl) (by rfl) (fun w9 hS => ?h8_15_43) ?r8_15_43
        case h8_15_43 =>
          have hb9 := (Blk.below hV hS hV.lt)
          have b9_0 : w9.cell? ⟨wr.heap.size, 0, none⟩ = some (.int .i64 v.k) := hb9.cell 0
          have b9_1 : w9.cell? ⟨wr.heap.size, 1, none⟩ = some (.int .i64 v.n) := hb9.cell 1
          have b9_2 : w9.cell? ⟨wr.heap.size, 2, none⟩ = some (.int .u64 v.u) := hb9.cell 2
          have b9_3 : w9.cell? ⟨wr.heap.size, 3, none⟩ = some (.string v.s) := hb9.cell 3
          go_simp
          try rfl
        try simp only [Act.put, List.setIfInBounds_toArray, List.set_cons_zero, List.set_cons_succ]
        refine Good.call (i := 16) (d := some 46) (fn := ?f8_16_44) (args := ?a8_16_44) (v := ?v8_16_44) rfl rfl (by kernel_rfl) (by kernel_rfl) (by kernel_rfl) (by rfl) (fun w9 hS => ?h8_16_44) (Grew.call fun w9 qS => ?c8_16_44) ?r8_16_44
        case h8_16_44 => go_simp; refine ⟨?_, ?_⟩ <;> rfl
        case c8_16_44 => exact HRP.out _
        try simp only [Act.put, List.setIfInBounds_toArray, List.set_cons_zero, List.set_cons_succ]
        refine Good.val (i := 17) (d := some 47) (v := ?v8_17_45) rfl rfl (by kernel_rfl) (by kernel_rfl) (by kernel_rfl) (by rfl) (fun w9 hS => ?h8_17_45) ?r8_17_45
        case h8_17_45 => go_simp; try rfl
        try simp only [Act.put, List.setIfInBounds_toArray, List.set_cons_zero, List.set_cons_succ]
        refine Good.val (i := 18) (d := some 48) (v := ?v8_18_46) rfl rfl (by kernel_rfl) (by kernel_rfl) (by kernel_rfl) (by rfl) (fun w9 hS => ?h8_18_46) ?r8_18_46
        case h8_18_46 => go_simp; try rfl
        try simp only [Act.put, List.setIfInBounds_toArray, List.set_cons_zero, List.set_cons_succ]
        refine Good.val (i := 19) (d := some 49) (v := ?v8_19_47) rfl rfl (by kernel_rfl) (by kernel_rfl) (by kernel_rfl) (by rfl) (fun w9 hS => ?h8_19_47) ?r8_19_47
        case h8_19_47 => go_simp; try rfl
        try simp only [Act.put, List.setIfInBounds_toArray, List.set_cons_zero, List.set_cons_succ]
        refine Good.val (i := 20) (d := some 50) (v := ?v8_20_48) rfl rfl (by kernel_rfl) (by kernel_rfl) (by kernel_rfl) (by rfl) (fun w9 hS => ?h8_20_48) ?r8_20_48
        case h8_20_48 =>
          have hb9 := (Blk.below hV hS hV.lt)
          have b9_0 : w9.cell? ⟨wr.heap.size, 0, none⟩ = some (.int .i64 v.k) := hb9.cell 0
          have b9_1 : w9.cell? ⟨wr.heap.size, 1, none⟩ = some (.int .i64 v.n) := hb9.cell 1
          have b9_2 : w9.cell? ⟨wr.heap.size, 2, none⟩ = some (.int .u64 v.u) := hb9.cell 2
          have b9_3 : w9.cell? ⟨wr.heap.size, 3, none⟩ = some (.string v.s) := hb9.cell 3
          go_simp
          try rfl
        try simp only [Act.put, List.setIfInBounds_toArray, List.set_cons_zero, List.set_cons_succ]
        refine Good.call (i := 21) (d := some 51) (fn := ?f8_21_49) (args := ?a8_21_49) (v := ?v8_21_49) rfl rfl (by kernel_rfl) (by kernel_rfl) (by kernel_rfl) (by rfl) (fun w9 hS => ?h8_21_49) (Grew.call fun w9 qS => ?c8_21_49) ?r8_21_49
        case h8_21_49 => go_simp; refine ⟨?_, ?_⟩ <;> rfl
        case c8_21_49 => exact HT.out _
        try simp only [Act.put, List.setIfInBounds_toArray, List.set_cons_zero, List.set_cons_succ]
        refine Good.val (i := 22) (d := some 52) (v := ?v8_22_50) rfl rfl (by kernel_rfl) (by kernel_rfl) (by kernel_rfl) (by rfl) (fun w9 hS => ?h8_22_50) ?r8_22_50
        case h8_22_50 =>
          have hb9 := (Blk.below hV hS hV.lt)
          have b9_0 : w9.cell? ⟨wr.heap.size, 0, none⟩ = some (.int .i64 v.k) := hb9.cell 0
          have b9_1 : w9.cell? ⟨wr.heap.size, 1, none⟩ = some (.int .i64 v.n) := hb9.cell 1
          have b9_2 : w9.cell? ⟨wr.heap.size, 2, none⟩ = some (.int .u64 v.u) := hb9.cell 2
          have b9_3 : w9.cell? ⟨wr.heap.size, 3, none⟩ = some (.string v.s) := hb9.cell 3
          go_simp
          try rfl
        try simp only [Act.put, List.setIfInBounds_toArray, List.set_cons_zero, List.set_cons_succ]
        refine Good.call (i := 23) (d := some 53) (fn := ?f8_23_51) (args := ?a8_23_51) (v := ?v8_23_51) rfl rfl (by kernel_rfl) (by kernel_rfl) (by kernel_rfl) (by rfl) (fun w9 hS => ?h8_23_51) (Grew.call fun w9 qS => ?c8_23_51) ?r8_23_51
        case h8_23_51 => go_simp; refine ⟨?_, ?_⟩ <;> rfl
        case c8_23_51 => exact rbool_true _
        try simp only [Act.put, List.setIfInBounds_toArray, List.set_cons_zero, List.set_cons_succ]
        refine Good.val (i := 24) (d := some 54) (v := ?v8_24_52) rfl rfl (by kernel_rfl) (by kernel_rfl) (by kernel_rfl) (by rfl) (fun w9 hS => ?h8_24_52) ?r8_24_52
        case h8_24_52 => go_simp; try rfl
        try simp only [Act.put, List.setIfInBounds_toArray, List.set_cons_zero, List.set_cons_succ]
        refine Good.val (i := 25) (d := some 55) (v := ?v8_25_53) rfl rfl (by kernel_rfl) (by kernel_rfl) (by kernel_rfl) (by rfl) (fun w9 hS => ?h8_25_53) ?r8_25_53
        case h8_25_53 => go_simp; try rfl
        try simp only [Act.put, List.setIfInBounds_toArray, List.set_cons_zero, List.set_cons_succ]
        refine Good.val (i := 26) (d := some 56) (v := ?v8_26_54) rfl rfl (by kernel_rfl) (by kernel_rfl) (by kernel_rfl) (by rfl) (fun w9 hS => ?h8_26_54) ?r8_26_54
        case h8_26_54 => go_simp; try rfl
        try simp only [Act.put, List.setIfInBounds_toArray, List.set_cons_zero, List.set_cons_succ]
        refine Good.done (by kernel_rfl) (fun u4 qu4 => ?_) _
        replace hV := hV.ca qu4
        replace qq := bl_ca qq qu4
        clear qu4
        go_wp2
        go_roundg (gk - 1)
        · exact ⟨i + 1, by omega, by omega, by go_num, hv.below qq, bl_ca bb qq⟩
        · omega
    · have hz1 := hz.below bb
      have hid : decide (i < n') = false := decide_eq_false hi
      clear hv hi hi1 hi2 hn10
      go_wp2
      go_loopg [60] n1 (fun g s wr => ∃ (i : Nat), i + g ≤ n1 ∧ n1 ≤ i + g ∧ s = .int .i64 i ∧ RdI wr A1 n1 zs ∧ Below w.heap.size w wr)
      case atStart => exact ⟨0, by omega, by omega, rfl, hz1, bb⟩
      case round =>
        clear hz1 bb
        obtain ⟨i, hi1, hi2, rfl, hz1, bb⟩ := hrel
        by_cases hi : i < n1
        · obtain ⟨ad, z, hA, _, cz⟩ := hz1.at_ hi
          subst hA
          have qq := Below.refl wr.heap.size wr
          by_cases h20 : (i : Int) < 20
          · go_wp2_with fail
            clear cz
            refine (vint_any z _).mono ?_
            rintro e w3 ⟨rfl, q3⟩
            replace qq := bl_ca qq q3
            clear q3
            go_wp2_with fail
            refine (rint_any z _).mono ?_
            rintro e w4 ⟨rfl, q4⟩
            replace qq := bl_ca qq q4
            clear q4
            go_wp2
            go_roundg (gk - 1)
            · exact ⟨i + 1, by omega, by omega, by go_num, hz1.below qq, bl_ca bb qq⟩
            · omega
          · have h21 : decide ((i : Int) < 20) = false := decide_eq_false h20
            go_wp2
            go_roundg (gk - 1)
            · exact ⟨i + 1, by omega, by omega, by go_num, hz1.below qq, bl_ca bb qq⟩
            · omega
        · have hid2 : decide (i < n1) = false := decide_eq_false hi
          have hs1 := hs.below bb
          clear hz1 hi hi1 hi2
          go_wp2
          go_loopg [77] n2 (fun g s wr => ∃ (i : Nat), i + g ≤ n2 ∧ n2 ≤ i + g ∧ s = .int .i64 i ∧ RdT wr A2 n2 ss ∧ Below w.heap.size w wr)
          case atStart => exact ⟨0, by omega, by omega, rfl, hs1, bb⟩
          case round =>
            clear hs1 bb
            obtain ⟨i, hi1, hi2, rfl, hs1, bb⟩ := hrel
            by_cases hi : i < n2
            · obtain ⟨ad, s, hA, _, cz⟩ := hs1.at_ hi
              subst hA
              have qq := Below.refl wr.heap.size wr
              by_cases h20 : i = 20
              · have h21 : ((i : Int) == 20) = true := ibeq_t (by omega)
                clear h20
                go_wp2_with fail
                clear cz h21
                refine (vnull_any _).mono ?_
                rintro e e0 ⟨rfl, r0⟩
                replace qq := bl_ca qq r0
                clear r0
                go_wp2_with fail
                refine (vbool_true _).mono ?_
                rintro e e1 ⟨rfl, r1⟩
                replace qq := bl_ca qq r1
                clear r1
                go_wp2_with fail
                refine (rbool_true _).mono ?_
                rintro e e2 ⟨rfl, r2⟩
                replace qq := bl_ca qq r2
                clear r2
                go_wp2_with fail
                refine (vbool_false _).mono ?_
                rintro e e3 ⟨rfl, r3⟩
                replace qq := bl_ca qq r3
                clear r3
                go_wp2_with fail
                refine (rbool_false _).mono ?_
                rintro e e4 ⟨rfl, r4⟩
                replace qq := bl_ca qq r4
                clear r4
                go_wp2
                go_ret
                exact ⟨rfl, bl_ca bb qq⟩
              · have h21 : ((i : Int) == 20) = false := ibeq_f (by omega)
                go_wp2_with fail
                clear cz h21
                generalize s.extract 0 (min (s.size : Int) 200).toNat = s1 at *
                by_cases h40 : s1.size ≤ 40
                · have g1 : (s1.size : Int) ≤ 40 := by omega
                  have g2 : decide ((40 : Int) < (s1.size : Int)) = false := decide_eq_false (by omega)
                  refine (vtext_any s1 h40 _).mono ?_
                  rintro e t1 ⟨rfl, q1⟩
                  replace qq := bl_ca qq q1
                  clear q1 h40
                  have hX := Blk.new t1 28 #[.int .i64 3, .int .i64 0, .int .u64 0, .string s1]
                  have zhX_qq := qq.size
                  replace qq := bl_al qq (.cells #[.int .i64 3, .int .i64 0, .int .u64 0, .string s1] 28)
                  go_wp2_with fail
                  generalize (t1.alloc (.cells #[.int .i64 3, .int .i64 0, .int .u64 0, .string s1] 28)) = t2 at *
                  refine wp_region_lin (S := Grew t2) (by kernel_rfl) (Grew.start _) ?_
                  refine Good.val (i := 0) (d := some 94) (v := ?v23_0_55) rfl rfl (by kernel_rfl) (by kernel_rfl) (by kernel_rfl) (by rfl) (fun w9 hS => ?h23_0_55) ?r23_0_55
                  case h23_0_55 => go_simp; try rfl
                  try simp only [Act.put, List.setIfInBounds_toArray, List.set_cons_zero, List.set_cons_succ]
                  refine Good.val (i := 1) (d := some 95) (v := ?v23_1_56) rfl rfl (by kernel_rfl) (by kernel_rfl) (by kernel_rfl) (by rfl) (fun w9 hS => ?h23_1_56) ?r23_1_56
                  case h23_1_56 => go_simp; try rfl
                  try simp only [Act.put, List.setIfInBounds_toArray, List.set_cons_zero, List.set_cons_succ]
                  refine Good.val (i := 2) (d := some 96) (v := ?v23_2_57) rfl rfl (by kernel_rfl) (by kernel_rfl) (by kernel_rfl) (by rfl) (fun w9 hS => ?h23_2_57) ?r23_2_57
                  case h23_2_57 => go_simp; try rfl
                  try simp only [Act.put, List.setIfInBounds_toArray, List.set_cons_zero, List.set_cons_succ]
                  refine Good.val (i := 3) (d := some 97) (v := ?v23_3_58) rfl rfl (by kernel_rfl) (by kernel_rfl) (by kernel_rfl) (by rfl) (fun w9 hS => ?h23_3_58) ?r23_3_58
                  case h23_3_58 => go_simp; try rfl
                  try simp only [Act.put, List.setIfInBounds_toArray, List.set_cons_zero, List.set_cons_succ]
                  refine Good.val (i := 4) (d := some 98) (v := ?v23_4_59) rfl rfl (by kernel_rfl) (by kernel_rfl) (by kernel_rfl) (by rfl) (fun w9 hS => ?h23_4_59) ?r23_4_59
                  case h23_4_59 => go_simp; try rfl
                  try simp only [Act.put, List.setIfInBounds_toArray, List.set_cons_zero, List.set_cons_succ]
                  refine Good.val (i := 5) (d := some 99) (v := ?v23_5_60) rfl rfl (by kernel_rfl) (by kernel_rfl) (by kernel_rfl) (by rfl) (fun w9 hS => ?h23_5_60) ?r23_5_60
                  case h23_5_60 => go_simp; try rfl
                  try simp only [Act.put, List.setIfInBounds_toArray, List.set_cons_zero, List.set_cons_succ]
                  refine Good.val (i := 6) (d := some 100) (v := ?v23_6_61) rfl rfl (by kernel_rfl) (by kernel_rfl) (by kernel_rfl) (by rfl) (fun w9 hS => ?h23_6_61) ?r23_6_61
                  case h23_6_61 => go_simp; try rfl
                  try simp only [Act.put, List.setIfInBounds_toArray, List.set_cons_zero, List.set_cons_succ]
                  refine Good.val (i := 7) (d := some 101) (v := ?v23_7_62) rfl rfl (by kernel_rfl) (by kernel_rfl) (by kernel_rfl) (by rfl) (fun w9 hS => ?h23_7_62) ?r23_7_62
                  case h23_7_62 =>
                    have hb9 := (Blk.below hX hS hX.lt)
                    have b9_0 : w9.cell? ⟨t1.heap.size, 0, none⟩ = some (.int .i64 3) := hb9.cell 0
                    have b9_1 : w9.cell? ⟨t1.heap.size, 1, none⟩ = some (.int .i64 0) := hb9.cell 1
                    have b9_2 : w9.cell? ⟨t1.heap.size, 2, none⟩ = some (.int .u64 0) := hb9.cell 2
                    have b9_3 : w9.cell? ⟨t1.heap.size, 3, none⟩ = some (.string s1) := hb9.cell 3
                    go_simp
                    try rfl
                  try simp only [Act.put, List.setIfInBounds_toArray, List.set_cons_zero, List.set_cons_succ]
                  refine Good.val (i := 8) (d := some 102) (v := ?v23_8_63) rfl rfl (by kernel_rfl) (by kernel_rfl) (by kernel_rfl) (by rfl) (fun w9 hS => ?h23_8_63) ?r23_8_63
                  case h23_8_63 => go_simp; try rfl
                  try simp only [Act.put, List.setIfInBounds_toArray, List.set_cons_zero, List.set_cons_succ]
                  refine Good.call (i := 9) (d := some 103) (fn := ?f23_9_64) (args := ?a23_9_64) (v := ?v23_9_64) rfl rfl (by kernel_rfl) (by kernel_rfl) (by kernel_rfl) (by rfl) (fun w9 hS => ?h23_9_64) (Grew.call fun w9 qS => ?c23_9_64) ?r23_9_64
                  case h23_9_64 => go_simp; refine ⟨?_, ?_⟩ <;> rfl
                  case c23_9_64 => exact rtext_any s1 _
                  try simp only [Act.put, List.setIfInBounds_toArray, List.set_cons_zero, List.set_cons_succ]
                  refine Good.val (i := 10) (d := some 104) (v := ?v23_10_65) rfl rfl (by kernel_rfl) (by kernel_rfl) (by kernel_rfl) (by rfl) (fun w9 hS => ?h23_10_65) ?r23_10_65
                  case h23_10_65 => go_simp; try rfl
                  try simp only [Act.put, List.setIfInBounds_toArray, List.set_cons_zero, List.set_cons_succ]
                  refine Good.val (i := 11) (d := some 105) (v := ?v23_11_66) rfl rfl (by kernel_rfl) (by kernel_rfl) (by kernel_rfl) (by rfl) (fun w9 hS => ?h23_11_66) ?r23_11_66
                  case h23_11_66 => go_simp; try rfl
                  try simp only [Act.put, List.setIfInBounds_toArray, List.set_cons_zero, List.set_cons_succ]
                  refine Good.val (i := 12) (d := some 106) (v := ?v23_12_67) rfl rfl (by kernel_rfl) (by kernel_rfl) (by kernel_rfl) (by rfl) (fun w9 hS => ?h23_12_67) ?r23_12_67
                  case h23_12_67 => go_simp; try rfl
                  try simp only [Act.put, List.setIfInBounds_toArray, List.set_cons_zero, List.set_cons_succ]
                  refine Good.val (i := 13) (d := some 107) (v := ?v23_13_68) rfl rfl (by kernel_rfl) (by kernel_rfl) (by kernel_rfl) (by rfl) (fun w9 hS => ?h23_13_68) ?r23_13_68
                  case h23_13_68 => go_simp; try rfl
                  try simp only [Act.put, List.setIfInBounds_toArray, List.set_cons_zero, List.set_cons_succ]
                  refine Good.val (i := 14) (d := some 108) (v := ?v23_14_69) rfl rfl (by kernel_rfl) (by kernel_rfl) (by kernel_rfl) (by rfl) (fun w9 hS => ?h23_14_69) ?r23_14_69
                  case h23_14_69 => go_simp; try rfl
                  try simp only [Act.put, List.setIfInBounds_toArray, List.set_cons_zero, List.set_cons_succ]
                  refine Good.val (i := 15) (d := some 109) (v := ?v23_15_70) rfl rfl (by kernel_rfl) (by kernel_rfl) (by kernel_rfl) (by rfl) (fun w9 hS => ?h23_15_70) ?r23_15_70
                  case h23_15_70 => go_simp; try rfl
                  try simp only [Act.put, List.setIfInBounds_toArray, List.set_cons_zero, List.set_cons_succ]
                  refine Good.val (i := 16) (d := some 110) (v := ?v23_16_71) rfl rfl (by kernel_rfl) (by kernel_rfl) (by kernel_rfl) (by rfl) (fun w9 hS => ?h23_16_71) ?r23_16_71
                  case h23_16_71 => go_simp; try rfl
                  try simp only [Act.put, List.setIfInBounds_toArray, List.set_cons_zero, List.set_cons_succ]
                  refine Good.val (i := 17) (d := some 111) (v := ?v23_17_72) rfl rfl (by kernel_rfl) (by kernel_rfl) (by kernel_rfl) (by rfl) (fun w9 hS => ?h23_17_72) ?r23_17_72
                  case h23_17_72 => go_simp; try rfl
                  try simp only [Act.put, List.setIfInBounds_toArray, List.set_cons_zero, List.set_cons_succ]
                  refine Good.skip (i := 18) (d := some 112) rfl rfl (by kernel_rfl) (by kernel_rfl) (by kernel_rfl) (by rfl) ?_
                  try simp only [Act.put, List.setIfInBounds_toArray, List.set_cons_zero, List.set_cons_succ]
                  refine Good.skip (i := 19) (d := some 113) rfl rfl (by kernel_rfl) (by kernel_rfl) (by kernel_rfl) (by rfl) ?_
                  try simp only [Act.put, List.setIfInBounds_toArray, List.set_cons_zero, List.set_cons_succ]
                  refine Good.skip (i := 20) (d := some 114) rfl rfl (by kernel_rfl) (by kernel_rfl) (by kernel_rfl) (by rfl) ?_
                  try simp only [Act.put, List.setIfInBounds_toArray, List.set_cons_zero, List.set_cons_succ]
                  refine Good.skip (i := 21) (d := some 115) rfl rfl (by kernel_rfl) (by kernel_rfl) (by kernel_rfl) (by rfl) ?_
                  try simp only [Act.put, List.setIfInBounds_toArray, List.set_cons_zero, List.set_cons_succ]
                  refine Good.skip (i := 22) (d := some 116) rfl rfl (by kernel_rfl) (by kernel_rfl) (by kernel_rfl) (by rfl) ?_
                  try simp only [Act.put, List.setIfInBounds_toArray, List.set_cons_zero, List.set_cons_succ]
                  refine Good.skip (i := 23) (d := some 117) rfl rfl (by kernel_rfl) (by kernel_rfl) (by kernel_rfl) (by rfl) ?_
                  try simp only [Act.put, List.setIfInBounds_toArray, List.set_cons_zero, List.set_cons_succ]
                  refine Good.skip (i := 24) (d := some 118) rfl rfl (by kernel_rfl) (by kernel_rfl) (by kernel_rfl) (by rfl) ?_
                  try simp only [Act.put, List.setIfInBounds_toArray, List.set_cons_zero, List.set_cons_succ]
                  refine Good.val (i := 25) (d := some 119) (v := ?v23_25_80) rfl rfl (by kernel_rfl) (by kernel_rfl) (by kernel_rfl) (by rfl) (fun w9 hS => ?h23_25_80) ?r23_25_80
                  case h23_25_80 => go_simp; try rfl
                  try simp only [Act.put, List.setIfInBounds_toArray, List.set_cons_zero, List.set_cons_succ]
                  refine Good.val (i := 26) (d := some 120) (v := ?v23_26_81) rfl rfl (by kernel_rfl) (by kernel_rfl) (by kernel_rfl) (by rfl) (fun w9 hS => ?h23_26_81) ?r23_26_81
                  case h23_26_81 => go_simp; try rfl
                  try simp only [Act.put, List.setIfInBounds_toArray, List.set_cons_zero, List.set_cons_succ]
                  refine Good.done (by kernel_rfl) (fun t3 qt3 => ?_) _
                  replace hX := hX.ca qt3
                  replace qq := bl_ca qq qt3
                  clear qt3
                  go_wp2
                  go_roundg (gk - 1)
                  · exact ⟨i + 1, by omega, by omega, by go_num, hs1.below qq, bl_ca bb qq⟩
                  · omega
                · have g1 : decide ((s1.size : Int) ≤ 40) = false := decide_eq_false (by omega)
                  have g2 : (40 : Int) < (s1.size : Int) := by omega
                  refine (vtext_long s1 (by omega) _).mono ?_
                  rintro e t1 ⟨rfl, q1⟩
                  replace qq := bl_ca qq q1
                  clear q1 h40
                  have hX := Blk.new t1 28 #[.int .i64 0, .int .i64 0, .int .u64 0, .string ⟨#[]⟩]
                  have zhX_qq := qq.size
                  replace qq := bl_al qq (.cells #[.int .i64 0, .int .i64 0, .int .u64 0, .string ⟨#[]⟩] 28)
                  go_wp2_with fail
                  generalize (t1.alloc (.cells #[.int .i64 0, .int .i64 0, .int .u64 0, .string ⟨#[]⟩] 28)) = t2 at *
                  refine wp_region_lin (S := Grew t2) (by kernel_rfl) (Grew.start _) ?_
                  refine Good.val (i := 0) (d := some 94) (v := ?v23_0_82) rfl rfl (by kernel_rfl) (by kernel_rfl) (by kernel_rfl) (by rfl) (fun w9 hS => ?h23_0_82) ?r23_0_82
                  case h23_0_82 => go_simp; try rfl
                  try simp only [Act.put, List.setIfInBounds_toArray, List.set_cons_zero, List.set_cons_succ]
                  refine Good.val (i := 1) (d := some 95) (v := ?v23_1_83) rfl rfl (by kernel_rfl) (by kernel_rfl) (by kernel_rfl) (by rfl) (fun w9 hS => ?h23_1_83) ?r23_1_83
                  case h23_1_83 => go_simp; try rfl
                  try simp only [Act.put, List.setIfInBounds_toArray, List.set_cons_zero, List.set_cons_succ]
                  refine Good.val (i := 2) (d := some 96) (v := ?v23_2_84) rfl rfl (by kernel_rfl) (by kernel_rfl) (by kernel_rfl) (by rfl) (fun w9 hS => ?h23_2_84) ?r23_2_84
                  case h23_2_84 => go_simp; try rfl
                  try simp only [Act.put, List.setIfInBounds_toArray, List.set_cons_zero, List.set_cons_succ]
                  refine Good.val (i := 3) (d := some 97) (v := ?v23_3_85) rfl rfl (by kernel_rfl) (by kernel_rfl) (by kernel_rfl) (by rfl) (fun w9 hS => ?h23_3_85) ?r23_3_85
                  case h23_3_85 => go_simp; try rfl
                  try simp only [Act.put, List.setIfInBounds_toArray, List.set_cons_zero, List.set_cons_succ]
                  refine Good.skip (i := 4) (d := some 98) rfl rfl (by kernel_rfl) (by kernel_rfl) (by kernel_rfl) (by rfl) ?_
                  try simp only [Act.put, List.setIfInBounds_toArray, List.set_cons_zero, List.set_cons_succ]
                  refine Good.skip (i := 5) (d := some 99) rfl rfl (by kernel_rfl) (by kernel_rfl) (by kernel_rfl) (by rfl) ?_
                  try simp only [Act.put, List.setIfInBounds_toArray, List.set_cons_zero, List.set_cons_succ]
                  refine Good.skip (i := 6) (d := some 100) rfl rfl (by kernel_rfl) (by kernel_rfl) (by kernel_rfl) (by rfl) ?_
                  try simp only [Act.put, List.setIfInBounds_toArray, List.set_cons_zero, List.set_cons_succ]
                  refine Good.skip (i := 7) (d := some 101) rfl rfl (by kernel_rfl) (by kernel_rfl) (by kernel_rfl) (by rfl) ?_
                  try simp only [Act.put, List.setIfInBounds_toArray, List.set_cons_zero, List.set_cons_succ]
                  refine Good.skip (i := 8) (d := some 102) rfl rfl (by kernel_rfl) (by kernel_rfl) (by kernel_rfl) (by rfl) ?_
                  try simp only [Act.put, List.setIfInBounds_toArray, List.set_cons_zero, List.set_cons_succ]
                  refine Good.skip (i := 9) (d := some 103) rfl rfl (by kernel_rfl) (by kernel_rfl) (by kernel_rfl) (by rfl) ?_
                  try simp only [Act.put, List.setIfInBounds_toArray, List.set_cons_zero, List.set_cons_succ]
                  refine Good.skip (i := 10) (d := some 104) rfl rfl (by kernel_rfl) (by kernel_rfl) (by kernel_rfl) (by rfl) ?_
                  try simp only [Act.put, List.setIfInBounds_toArray, List.set_cons_zero, List.set_cons_succ]
                  refine Good.skip (i := 11) (d := some 105) rfl rfl (by kernel_rfl) (by kernel_rfl) (by kernel_rfl) (by rfl) ?_
                  try simp only [Act.put, List.setIfInBounds_toArray, List.set_cons_zero, List.set_cons_succ]
                  refine Good.val (i := 12) (d := some 106) (v := ?v23_12_94) rfl rfl (by kernel_rfl) (by kernel_rfl) (by kernel_rfl) (by rfl) (fun w9 hS => ?h23_12_94) ?r23_12_94
                  case h23_12_94 => go_simp; try rfl
                  try simp only [Act.put, List.setIfInBounds_toArray, List.set_cons_zero, List.set_cons_succ]
                  refine Good.val (i := 13) (d := some 107) (v := ?v23_13_95) rfl rfl (by kernel_rfl) (by kernel_rfl) (by kernel_rfl) (by rfl) (fun w9 hS => ?h23_13_95) ?r23_13_95
                  case h23_13_95 => go_simp; try rfl
                  try simp only [Act.put, List.setIfInBounds_toArray, List.set_cons_zero, List.set_cons_succ]
                  refine Good.val (i := 14) (d := some 108) (v := ?v23_14_96) rfl rfl (by kernel_rfl) (by kernel_rfl) (by kernel_rfl) (by rfl) (fun w9 hS => ?h23_14_96) ?r23_14_96
                  case h23_14_96 => go_simp; try rfl
                  try simp only [Act.put, List.setIfInBounds_toArray, List.set_cons_zero, List.set_cons_succ]
                  refine Good.val (i := 15) (d := some 109) (v := ?v23_15_97) rfl rfl (by kernel_rfl) (by kernel_rfl) (by kernel_rfl) (by rfl) (fun w9 hS => ?h23_15_97) ?r23_15_97
                  case h23_15_97 => go_simp; try rfl
                  try simp only [Act.put, List.setIfInBounds_toArray, List.set_cons_zero, List.set_cons_succ]
                  refine Good.val (i := 16) (d := some 110) (v := ?v23_16_98) rfl rfl (by kernel_rfl) (by kernel_rfl) (by kernel_rfl) (by rfl) (fun w9 hS => ?h23_16_98) ?r23_16_98
                  case h23_16_98 => go_simp; try rfl
                  try simp only [Act.put, List.setIfInBounds_toArray, List.set_cons_zero, List.set_cons_succ]
                  refine Good.val (i := 17) (d := some 111) (v := ?v23_17_99) rfl rfl (by kernel_rfl) (by kernel_rfl) (by kernel_rfl) (by rfl) (fun w9 hS => ?h23_17_99) ?r23_17_99
                  case h23_17_99 => go_simp; try rfl
                  try simp only [Act.put, List.setIfInBounds_toArray, List.set_cons_zero, List.set_cons_succ]
                  refine Good.val (i := 18) (d := some 112) (v := ?v23_18_100) rfl rfl (by kernel_rfl) (by kernel_rfl) (by kernel_rfl) (by rfl) (fun w9 hS => ?h23_18_100) ?r23_18_100
                  case h23_18_100 => go_simp; try rfl
                  try simp only [Act.put, List.setIfInBounds_toArray, List.set_cons_zero, List.set_cons_succ]
                  refine Good.val (i := 19) (d := some 113) (v := ?v23_19_101) rfl rfl (by kernel_rfl) (by kernel_rfl) (by kernel_rfl) (by rfl) (fun w9 hS => ?h23_19_101) ?r23_19_101
                  case h23_19_101 => go_simp; try rfl
                  try simp only [Act.put, List.setIfInBounds_toArray, List.set_cons_zero, List.set_cons_succ]
                  refine Good.val (i := 20) (d := some 114) (v := ?v23_20_102) rfl rfl (by kernel_rfl) (by kernel_rfl) (by kernel_rfl) (by rfl) (fun w9 hS => ?h23_20_102) ?r23_20_102
                  case h23_20_102 => go_simp; try rfl
                  try simp only [Act.put, List.setIfInBounds_toArray, List.set_cons_zero, List.set_cons_succ]
                  refine Good.val (i := 21) (d := some 115) (v := ?v23_21_103) rfl rfl (by kernel_rfl) (by kernel_rfl) (by kernel_rfl) (by rfl) (fun w9 hS => ?h23_21_103) ?r23_21_103
                  case h23_21_103 =>
                    have hb9 := (Blk.below hX hS hX.lt)
                    have b9_0 : w9.cell? ⟨t1.heap.size, 0, none⟩ = some (.int .i64 0) := hb9.cell 0
                    have b9_1 : w9.cell? ⟨t1.heap.size, 1, none⟩ = some (.int .i64 0) := hb9.cell 1
                    have b9_2 : w9.cell? ⟨t1.heap.size, 2, none⟩ = some (.int .u64 0) := hb9.cell 2
                    have b9_3 : w9.cell? ⟨t1.heap.size, 3, none⟩ = some (.string ⟨#[]⟩) := hb9.cell 3
                    go_simp
                    try rfl
                  try simp only [Act.put, List.setIfInBounds_toArray, List.set_cons_zero, List.set_cons_succ]
                  refine Good.val (i := 22) (d := some 116) (v := ?v23_22_104) rfl rfl (by kernel_rfl) (by kernel_rfl) (by kernel_rfl) (by rfl) (fun w9 hS => ?h23_22_104) ?r23_22_104
                  case h23_22_104 => go_simp; try rfl
                  try simp only [Act.put, List.setIfInBounds_toArray, List.set_cons_zero, List.set_cons_succ]
                  refine Good.val (i := 23) (d := some 117) (v := ?v23_23_105) rfl rfl (by kernel_rfl) (by kernel_rfl) (by kernel_rfl) (by rfl) (fun w9 hS => ?h23_23_105) ?r23_23_105
                  case h23_23_105 => go_simp; try rfl
                  try simp only [Act.put, List.setIfInBounds_toArray, List.set_cons_zero, List.set_cons_succ]
                  refine Good.val (i := 24) (d := some 118) (v := ?v23_24_106) rfl rfl (by kernel_rfl) (by kernel_rfl) (by kernel_rfl) (by rfl) (fun w9 hS => ?h23_24_106) ?r23_24_106
                  case h23_24_106 => go_simp; try rfl
                  try simp only [Act.put, List.setIfInBounds_toArray, List.set_cons_zero, List.set_cons_succ]
                  refine Good.val (i := 25) (d := some 119) (v := ?v23_25_107) rfl rfl (by kernel_rfl) (by kernel_rfl) (by kernel_rfl) (by rfl) (fun w9 hS => ?h23_25_107) ?r23_25_107
                  case h23_25_107 => go_simp; try rfl
                  try simp only [Act.put, List.setIfInBounds_toArray, List.set_cons_zero, List.set_cons_succ]
                  refine Good.val (i := 26) (d := some 120) (v := ?v23_26_108) rfl rfl (by kernel_rfl) (by kernel_rfl) (by kernel_rfl) (by rfl) (fun w9 hS => ?h23_26_108) ?r23_26_108
                  case h23_26_108 => go_simp; try rfl
                  try simp only [Act.put, List.setIfInBounds_toArray, List.set_cons_zero, List.set_cons_succ]
                  refine Good.done (by kernel_rfl) (fun t3 qt3 => ?_) _
                  replace hX := hX.ca qt3
                  replace qq := bl_ca qq qt3
                  clear qt3
                  go_wp2
                  go_roundg (gk - 1)
                  · exact ⟨i + 1, by omega, by omega, by go_num, hs1.below qq, bl_ca bb qq⟩
                  · omega
            · have hid3 : decide (i < n2) = false := decide_eq_false hi
              have qq := Below.refl wr.heap.size wr
              go_wp2_with fail
              refine (vnull_any _).mono ?_
              rintro e e0 ⟨rfl, r0⟩
              replace qq := bl_ca qq r0
              clear r0
              go_wp2_with fail
              refine (vbool_true _).mono ?_
              rintro e e1 ⟨rfl, r1⟩
              replace qq := bl_ca qq r1
              clear r1
              go_wp2_with fail
              refine (rbool_true _).mono ?_
              rintro e e2 ⟨rfl, r2⟩
              replace qq := bl_ca qq r2
              clear r2
              go_wp2_with fail
              refine (vbool_false _).mono ?_
              rintro e e3 ⟨rfl, r3⟩
              replace qq := bl_ca qq r3
              clear r3
              go_wp2_with fail
              refine (rbool_false _).mono ?_
              rintro e e4 ⟨rfl, r4⟩
              replace qq := bl_ca qq r4
              clear r4
              go_wp2
              go_ret
              exact ⟨rfl, bl_ca bb qq⟩
end Go.Proofs.YtabbiepafibmmaaDoor
