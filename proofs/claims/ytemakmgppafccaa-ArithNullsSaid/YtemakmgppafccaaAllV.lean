/- arith.All: the sum of all. Conditions: the slice reads as these values, their fields within their kinds. -/
import Derived.Test.YtemakmgppafccaaSumAll
import Derived.Test.YtemakmgppafccaaBlk2
namespace Go.Proofs.Ytemakmgppafccaa
open Go.RowKit
/-- terms added to a sum under way, and its end -/
def runV (s : VV) : List VV → VV × Int
  | [] => endV s
  | v :: l => if (sumV s v).2 ≠ 0 then sumV s v else runV (sumV s v).1 l
theorem V0_rng : V0.rng := ⟨⟨by decide, by decide⟩, ⟨by decide, by decide⟩⟩
theorem VS_rng (z : Int) (h : fitB z = true) : (VS z).rng := by
  unfold fitB at h
  simp only [decide_eq_true_eq] at h
  refine ⟨?_, ?_⟩
  · show I64 (z / 18446744073709551616)
    unfold I64; omega
  · show U64 (z % 18446744073709551616)
    unfold U64; omega
theorem outS_rng (z : Int) : (outS z).1.rng := by
  unfold outS
  split
  · exact VS_rng z (by assumption)
  · exact V0_rng
theorem sumV_rng (a b : VV) (ha : a.rng) (hb : b.rng) : (sumV a b).1.rng := by
  unfold sumV
  split
  · exact V0_rng
  · split
    · exact V0_rng
    · split
      · exact ha
      · split
        · exact VS_rng _ (fit_n _ hb.1)
        · exact outS_rng _
set_option maxRecDepth 100000 in
set_option maxHeartbeats 4000000 in
theorem all_any (A : Option Addr) (n c : Nat) (vs : List VV) (w : World) (h : RdV w A n vs) (hn : n ≤ 1048576) (hr : ∀ v ∈ vs, v.rng) :
    Calls Try.prog 18 #[.slice A n c] w fun e w' => e = .returned (resT (runV V0 vs)) ∧ Below w.heap.size w w' := by
  have hlen := Lib.hid h.1
  have HR := Lib.hid hr
  have hn1 : (n : Int) ≤ 1048576 := by omega
  clear hr
  have hR := Blk.new w 27 #[.int .i64 0, .int .i64 0, .int .u64 0, .string ⟨#[]⟩]
  have bb := bl_al (Below.refl w.heap.size w) (.cells #[.int .i64 0, .int .i64 0, .int .u64 0, .string ⟨#[]⟩] 27)
  go_enter Try.func18, Try.ntmps18
  go_wp2_with fail
  generalize w.alloc (.cells #[.int .i64 0, .int .i64 0, .int .u64 0, .string ⟨#[]⟩] 27) = w1 at *
  refine (vnull_any w1).mono ?_
  rintro e w2 ⟨rfl, q2⟩
  replace hR := hR.ca q2
  replace bb := bl_ca bb q2
  clear q2
  have hS := Blk.new w2 27 #[.int .i64 0, .int .i64 0, .int .u64 0, .string ⟨#[]⟩]
  have lR := hR.lt
  replace hR := hR.alloc (.cells #[.int .i64 0, .int .i64 0, .int .u64 0, .string ⟨#[]⟩] 27)
  replace bb := bl_al bb (.cells #[.int .i64 0, .int .i64 0, .int .u64 0, .string ⟨#[]⟩] 27)
  go_wp2
  generalize w2.alloc (.cells #[.int .i64 0, .int .i64 0, .int .u64 0, .string ⟨#[]⟩] 27) = w3 at *
  generalize w2.heap.size = G at *
  go_loopg [16] n (fun g s wr => ∃ (i : Nat) (x : VV), i + g ≤ n ∧ n ≤ i + g ∧ s = .int .i64 i ∧ x.rng ∧ runV x (vs.drop i) = runV V0 vs ∧ Blk wr w.heap.size 27 #[.int .i64 0, .int .i64 0, .int .u64 0, .string ⟨#[]⟩] ∧ Blk wr G 27 #[.int .i64 x.k, .int .i64 x.n, .int .u64 x.u, .string x.s] ∧ Below w.heap.size w wr)
  case atStart => exact ⟨0, V0, by omega, by omega, rfl, V0_rng, rfl, hR, hS, bb⟩
  case round =>
    clear hR hS bb
    obtain ⟨i, x, hi1, hi2, rfl, hx, hrun, hR, hS, bb⟩ := hrel
    have HRUN := Lib.hid hrun
    clear hrun
    by_cases hi : i < n
    · obtain ⟨a, v, rfl, hv, hal, c0, c1, c2, c3⟩ := (h.below bb).2 i hi
      have hvr : v.rng := HR.out v (List.mem_of_getElem? hv)
      have HD := Lib.hid (show vs.drop i = v :: vs.drop (i + 1) from by
        have hil : i < vs.length := by rw [hlen.out]; exact hi
        rw [List.drop_eq_getElem_cons hil]
        rw [List.getElem?_eq_getElem hil] at hv
        injection hv with hv
        rw [hv])
      clear hv
      have hV := Blk.new wr 27 #[.int .i64 v.k, .int .i64 v.n, .int .u64 v.u, .string v.s]
      have lS := hS.lt
      replace hR := hR.alloc (.cells #[.int .i64 v.k, .int .i64 v.n, .int .u64 v.u, .string v.s] 27)
      replace hS := hS.alloc (.cells #[.int .i64 v.k, .int .i64 v.n, .int .u64 v.u, .string v.s] 27)
      replace bb := bl_al bb (.cells #[.int .i64 v.k, .int .i64 v.n, .int .u64 v.u, .string v.s] 27)
      have s0 : (wr.alloc (.cells #[.int .i64 v.k, .int .i64 v.n, .int .u64 v.u, .string v.s] 27)).cell? ⟨G, 0, none⟩ = some (.int .i64 x.k) := hS.cell 0
      have s1 : (wr.alloc (.cells #[.int .i64 v.k, .int .i64 v.n, .int .u64 v.u, .string v.s] 27)).cell? ⟨G, 1, none⟩ = some (.int .i64 x.n) := hS.cell 1
      have s2 : (wr.alloc (.cells #[.int .i64 v.k, .int .i64 v.n, .int .u64 v.u, .string v.s] 27)).cell? ⟨G, 2, none⟩ = some (.int .u64 x.u) := hS.cell 2
      have s3 : (wr.alloc (.cells #[.int .i64 v.k, .int .i64 v.n, .int .u64 v.u, .string v.s] 27)).cell? ⟨G, 3, none⟩ = some (.string x.s) := hS.cell 3
      go_wp2_with fail
      clear c0 c1 c2 c3 s0 s1 s2 s3 hal
      generalize wr.alloc (.cells #[.int .i64 v.k, .int .i64 v.n, .int .u64 v.u, .string v.s] 27) = w4 at *
      refine (sumP_any x v w4 hx hvr).mono ?_
      rintro e w5 ⟨rfl, q5⟩
      have hsr := sumV_rng x v hx hvr
      have HST := Lib.hid (show runV x (vs.drop i) = if (sumV x v).2 ≠ 0 then sumV x v else runV (sumV x v).1 (vs.drop (i + 1)) from by rw [HD.out]; rfl)
      generalize sumV x v = R at *
      replace hR := hR.ca q5
      replace hS := hS.ca q5
      replace bb := bl_ca bb q5
      clear q5 hV
      simp only [resT]
      have lR5 := hR.lt
      have lS5 := hS.lt
      have hT := Blk.new w5 27 #[.int .i64 R.1.k, .int .i64 R.1.n, .int .u64 R.1.u, .string R.1.s]
      replace hR := hR.alloc (.cells #[.int .i64 R.1.k, .int .i64 R.1.n, .int .u64 R.1.u, .string R.1.s] 27)
      replace hS := hS.alloc (.cells #[.int .i64 R.1.k, .int .i64 R.1.n, .int .u64 R.1.u, .string R.1.s] 27)
      replace bb := bl_al bb (.cells #[.int .i64 R.1.k, .int .i64 R.1.n, .int .u64 R.1.u, .string R.1.s] 27)
      by_cases he : R.2 = 0
      · have t1 : (R.2 != 0) = false := ibne_f he
        have HE := Lib.hid he
        clear he
        have KS := Lib.hid hS
        go_wp2_with (refine wpList_store_blk rfl 27 (.tmp 4) (.tmp 30) rfl G 27 _ _ rfl rfl KS.out rfl valI (one4 _ _ _ _) ?_; intro w7 hS7 g7)
        have b7 := bl_gr bb g7 (by omega)
        go_roundg (gk - 1)
        · exact ⟨i + 1, R.1, by omega, by omega, by go_num, hsr, by rw [← HRUN.out, HST.out, if_neg (by rw [HE.out]; simp)], hR.apart g7 (by omega), hS7, b7⟩
        · omega
      · have t1 : (R.2 != 0) = true := ibne_t he
        have HE := Lib.hid he
        clear he
        have KR := Lib.hid hR
        go_wp2_with (refine wpList_store_blk rfl 27 (.tmp 2) (.tmp 28) rfl w.heap.size 27 _ _ rfl rfl KR.out rfl valI (one4 _ _ _ _) ?_; intro w7 hR7 g7)
        have b7 := bl_gr bb g7 (Nat.le_refl _)
        exact bodyPost_ret (res2 Try.results18 rfl rfl hR7 Try.underlying27 rfl valI) rfl ⟨by rw [← HRUN.out, HST.out, if_pos HE.out]; rfl, b7⟩
    · have hin : n ≤ i := by omega
      have HE := Lib.hid (show endV x = runV V0 vs from by rw [← HRUN.out, List.drop_of_length_le (by rw [hlen.out]; omega)]; rfl)
      have s0 : wr.cell? ⟨G, 0, none⟩ = some (.int .i64 x.k) := hS.cell 0
      have s1 : wr.cell? ⟨G, 1, none⟩ = some (.int .i64 x.n) := hS.cell 1
      have s2 : wr.cell? ⟨G, 2, none⟩ = some (.int .u64 x.u) := hS.cell 2
      have s3 : wr.cell? ⟨G, 3, none⟩ = some (.string x.s) := hS.cell 3
      go_wp2_with fail
      refine (endP_any x wr hx).mono ?_
      rintro e w5 ⟨rfl, q5⟩
      rw [HE.out]
      replace hR := hR.ca q5
      replace bb := bl_ca bb q5
      clear q5 hS s0 s1 s2 s3
      simp only [resT]
      have KR := Lib.hid hR
      go_wp2_with (refine wpList_store_blk rfl 27 (.tmp 2) (.tmp 34) rfl w.heap.size 27 _ _ rfl rfl KR.out rfl valI (one4 _ _ _ _) ?_; intro w7 hR7 g7)
      have b7 := bl_gr bb g7 (Nat.le_refl _)
      exact bodyPost_ret (res2 Try.results18 rfl rfl hR7 Try.underlying27 rfl valI) rfl ⟨rfl, b7⟩
end Go.Proofs.Ytemakmgppafccaa
