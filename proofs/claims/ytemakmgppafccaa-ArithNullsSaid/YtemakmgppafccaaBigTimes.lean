/- The reference's product. Conditions: as each states. -/
import Derived.Test.YtemakmgppafccaaBigPlus
namespace Go.Proofs.Ytemakmgppafccaa
open Go.RowKit Go.Proofs.Big
theorem zeros_getD (j : Nat) (h : 0 + 4 ≤ j) : [0, 0, 0, 0, 0, 0, 0, 0].getD j 0 = 0 := by
  rcases Nat.lt_or_ge j 8 with h1 | h1
  · have : j = 4 ∨ j = 5 ∨ j = 6 ∨ j = 7 := by omega
    rcases this with rfl | rfl | rfl | rfl <;> rfl
  · simp [List.getD, List.getElem?_eq_none (show [0, 0, 0, 0, 0, 0, 0, 0].length ≤ j from h1)]
set_option maxRecDepth 100000 in
set_option maxHeartbeats 8000000 in
theorem times_walk (A B : List Nat) (x y : Bool) (w : World) (hA : A.length = 8) (hB : B.length = 8) (sA : Small A) (sB : Small B) :
    Calls Try.prog 48 #[.agg (bigC A x), .agg (bigC B y)] w fun e w' => e = .returned (.agg (bigC (digs 8 (val (A.take 4) * val (B.take 4))) ((x != y) && decide ((val (A.take 4) * val (B.take 4)) ≠ 0)))) ∧ Below w.heap.size w w' := by
  have hl := Lib.hid hA
  have hl' := Lib.hid hB
  clear hA hB
  have hbA := (((Blk.new w 51 (bigC A x)).alloc (.cells (bigC B y) 51)).alloc (.cells #[Value.int .u64 0, .int .u64 0, .int .u64 0, .int .u64 0, .int .u64 0, .int .u64 0, .int .u64 0, .int .u64 0, .bool false] 51)).alloc (.cells #[Value.int .u64 0, .int .u64 0, .int .u64 0, .int .u64 0, .int .u64 0, .int .u64 0, .int .u64 0, .int .u64 0, .bool false] 51)
  have hbB := ((Blk.new (w.alloc (.cells (bigC A x) 51)) 51 (bigC B y)).alloc (.cells #[Value.int .u64 0, .int .u64 0, .int .u64 0, .int .u64 0, .int .u64 0, .int .u64 0, .int .u64 0, .int .u64 0, .bool false] 51)).alloc (.cells #[Value.int .u64 0, .int .u64 0, .int .u64 0, .int .u64 0, .int .u64 0, .int .u64 0, .int .u64 0, .int .u64 0, .bool false] 51)
  have hbR := (Blk.new ((w.alloc (.cells (bigC A x) 51)).alloc (.cells (bigC B y) 51)) 51 #[Value.int .u64 0, .int .u64 0, .int .u64 0, .int .u64 0, .int .u64 0, .int .u64 0, .int .u64 0, .int .u64 0, .bool false]).alloc (.cells #[Value.int .u64 0, .int .u64 0, .int .u64 0, .int .u64 0, .int .u64 0, .int .u64 0, .int .u64 0, .int .u64 0, .bool false] 51)
  have hbO := Blk.new (((w.alloc (.cells (bigC A x) 51)).alloc (.cells (bigC B y) 51)).alloc (.cells #[Value.int .u64 0, .int .u64 0, .int .u64 0, .int .u64 0, .int .u64 0, .int .u64 0, .int .u64 0, .int .u64 0, .bool false] 51)) 51 #[Value.int .u64 0, .int .u64 0, .int .u64 0, .int .u64 0, .int .u64 0, .int .u64 0, .int .u64 0, .int .u64 0, .bool false]
  have c0 := ((((Below.refl w.heap.size w).alloc (Nat.le_refl _) (.cells (bigC A x) 51)).alloc (by simp) (.cells (bigC B y) 51)).alloc (by simp; omega) (.cells #[Value.int .u64 0, .int .u64 0, .int .u64 0, .int .u64 0, .int .u64 0, .int .u64 0, .int .u64 0, .int .u64 0, .bool false] 51)).alloc (by simp; omega) (.cells #[Value.int .u64 0, .int .u64 0, .int .u64 0, .int .u64 0, .int .u64 0, .int .u64 0, .int .u64 0, .int .u64 0, .bool false] 51)
  simp only [World.size_alloc] at hbB hbR hbO
  go_enter Try.func48, Try.ntmps48
  go_wp2
  generalize (((w.alloc (.cells (bigC A x) 51)).alloc (.cells (bigC B y) 51)).alloc (.cells #[Value.int .u64 0, .int .u64 0, .int .u64 0, .int .u64 0, .int .u64 0, .int .u64 0, .int .u64 0, .int .u64 0, .bool false] 51)).alloc (.cells #[Value.int .u64 0, .int .u64 0, .int .u64 0, .int .u64 0, .int .u64 0, .int .u64 0, .int .u64 0, .int .u64 0, .bool false] 51) = w1 at *
  have hz1 : w.heap.size + 1 + 1 < w.heap.size + 1 + 1 + 1 := by omega
  generalize w.heap.size + 1 + 1 + 1 = GO at *
  go_loopg [10] 4 (fun g s wr => ∃ (i : Nat) (O : List Nat), i + g ≤ 4 ∧ 4 ≤ i + g ∧ s = .int .i64 i ∧ O.length = 8 ∧ Small O ∧ (∀ j, i + 4 ≤ j → O.getD j 0 = 0) ∧ val O = val (A.take i) * val (B.take 4) ∧ Blk wr w.heap.size 51 (bigC A x) ∧ Blk wr (w.heap.size + 1) 51 (bigC B y) ∧ Blk wr (w.heap.size + 1 + 1) 51 #[Value.int .u64 0, .int .u64 0, .int .u64 0, .int .u64 0, .int .u64 0, .int .u64 0, .int .u64 0, .int .u64 0, .bool false] ∧ Blk wr GO 51 (bigC O false) ∧ Below w.heap.size w wr)
  case atStart => exact ⟨0, [0, 0, 0, 0, 0, 0, 0, 0], by omega, by omega, rfl, rfl, small_zeros, zeros_getD, by simp [val], hbA, hbB, hbR, hbO, c0⟩
  case round =>
    clear hbA hbB hbR hbO c0
    obtain ⟨i, O, hi1, hi2, rfl, hlO, sO, hz, hrel, hbA, hbB, hbR, hbO, bw⟩ := hrel
    have HREL := Lib.hid hrel
    have HLO := Lib.hid hlO
    have HZ := Lib.hid hz
    clear hrel hlO hz
    by_cases hi : i < 4
    · have i0 : (0 : Int) ≤ (i : Int) := by omega
      have i1 : (i : Int) < 4 := by omega
      have la := small_getD sA i
      go_wp2
      obtain ⟨g1, rfl⟩ : ∃ g1, g1 = gk := ⟨_, rfl⟩
      obtain ⟨wo, rfl⟩ : ∃ wo : World, wo = wr := ⟨_, rfl⟩
      go_loopg [7, 13] 4 (fun g c s wr => ∃ (k cc : Nat) (O : List Nat), k + g ≤ 4 ∧ 4 ≤ k + g ∧ s = .int .i64 k ∧ c = .int .u64 cc ∧ cc < 4294967296 ∧ O.length = 8 ∧ Small O ∧ (∀ j, i + 4 ≤ j → O.getD j 0 = 0) ∧ val O + 4294967296 ^ (i + k) * cc = val (A.take i) * val (B.take 4) + 4294967296 ^ i * (A.getD i 0 * val (B.take k)) ∧ Blk wr w.heap.size 51 (bigC A x) ∧ Blk wr (w.heap.size + 1) 51 (bigC B y) ∧ Blk wr (w.heap.size + 1 + 1) 51 #[Value.int .u64 0, .int .u64 0, .int .u64 0, .int .u64 0, .int .u64 0, .int .u64 0, .int .u64 0, .int .u64 0, .bool false] ∧ Blk wr GO 51 (bigC O false) ∧ Below w.heap.size w wr)
      case atStart => exact ⟨0, 0, O, by omega, by omega, rfl, rfl, by omega, HLO.out, sO, HZ.out, by simp [val, HREL.out], hbA, hbB, hbR, hbO, bw⟩
      case round =>
        clear hbA hbB hbR hbO bw HREL HLO HZ sO
        obtain ⟨k, cc, O, hk1, hk2, rfl, rfl, hcc, hlO, sO, hz, hrel, hbA, hbB, hbR, hbO, bw⟩ := hrel
        have HREL := Lib.hid hrel
        have HLO := Lib.hid hlO
        have HZ := Lib.hid hz
        clear hrel hlO hz
        by_cases hk : k < 4
        · have k0 : (0 : Int) ≤ (k : Int) := by omega
          have k1 : (k : Int) < 4 := by omega
          have cA := hbA.dig i (by rw [hl.out]; omega)
          have cB := hbB.dig k (by rw [hl'.out]; omega)
          have cO := hbO.dig (i + k) (by rw [HLO.out]; omega)
          have fO := hbO.frozen (i + k)
          have lb := small_getD sB k
          have lo := small_getD sO (i + k)
          have HR := Lib.hid (times_round A B O i k cc hi hk hl'.out HLO.out HREL.out)
          have mab := mul_small la lb
          have HQ := Lib.hid (show (O.getD (i + k) 0 + A.getD i 0 * B.getD k 0 + cc) / 4294967296 < 4294967296 from by omega)
          generalize hga : A.getD i 0 = a at *
          have HGA := Lib.hid hga
          clear hga
          generalize B.getD k 0 = b at *
          generalize O.getD (i + k) 0 = z at *
          have m1 : (a : Int) * (b : Int) ≤ 18446744065119617025 := by rw [← Int.natCast_mul]; omega
          have m0 : 0 ≤ (a : Int) * (b : Int) := Int.mul_nonneg (by omega) (by omega)
          have HX := Lib.hid (show (((z + a * b + cc) : Nat) : Int) = (z : Int) + (a : Int) * (b : Int) + (cc : Int) from by rw [Int.natCast_add, Int.natCast_add, Int.natCast_mul])
          go_wp2
          go_quiet (fail)
          go_wp2
          go_roundg (gk - 1)
          · refine ⟨k + 1, (z + a * b + cc) / 4294967296, O.set (i + k) ((z + a * b + cc) % 4294967296), by omega, by omega, by go_num, congrArg (Value.int .u64) (by rw [Int.natCast_ediv, HX.out]; rfl), HQ.out, by rw [List.length_set, HLO.out], small_set sO _ (Nat.mod_lt _ (by decide)), fun j hj => ?_, HR.out, (hbA.drewN _).far (p := ⟨GO, i + k, none⟩) (by simp; omega) _, (hbB.drewN _).far (p := ⟨GO, i + k, none⟩) (by simp; omega) _, (hbR.drewN _).far (p := ⟨GO, i + k, none⟩) (by simp; omega) _, ?_, (below_drewN bw _).setCell (p := ⟨GO, i + k, none⟩) (by simp; omega) _⟩
            · rw [gd_other (by omega)]; exact HZ.out j hj
            · refine (bigC_seti O false (i + k) _ _ (by rw [HLO.out]; omega) ?_) ▸ (hbO.drewN _).set_ (i + k) _
              rw [Int.natCast_emod, HX.out]; rfl
          · omega
        · obtain rfl : k = 4 := by omega
          have cO := hbO.dig (i + 4) (by rw [HLO.out]; omega)
          have fO := hbO.frozen (i + 4)
          have HE := Lib.hid (times_end A B O i cc hi hl.out HLO.out (HZ.out _ (Nat.le_refl _)) HREL.out)
          generalize O.getD (i + 4) 0 = z at *
          go_wp2
          go_roundg (g1 - 1)
          · refine ⟨i + 1, O.set (i + 4) cc, by omega, by omega, by go_num, by rw [List.length_set, HLO.out], small_set sO _ hcc, fun j hj => ?_, HE.out, hbA.far (p := ⟨GO, i + 4, none⟩) (by simp; omega) _, hbB.far (p := ⟨GO, i + 4, none⟩) (by simp; omega) _, hbR.far (p := ⟨GO, i + 4, none⟩) (by simp; omega) _, (bigC_seti O false (i + 4) _ _ (by rw [HLO.out]; omega) rfl) ▸ hbO.set_ (i + 4) _, bw.setCell (p := ⟨GO, i + 4, none⟩) (by simp; omega) _⟩
            rw [gd_other (by omega)]; exact HZ.out j (by omega)
          · omega
    · obtain rfl : i = 4 := by omega
      have cA8 := hbA.sign hl.out
      have cB8 := hbB.sign hl'.out
      have cO8 := hbO.sign HLO.out
      have fO8 := hbO.frozen 8
      have hfin : val O = (val (A.take 4) * val (B.take 4)) := HREL.out
      have HFIN := Lib.hid hfin
      have HO := Lib.hid (digs_of sO HLO.out hfin)
      clear hfin
      have KO := Lib.hid hbO
      rcases x with _ | _ <;> rcases y with _ | _
      · skip
        have hs0 := hbO.set_ 8 (.bool false)
        rw [bigC_set O false false HLO.out] at hs0
        have hr0 := hbR.far (p := ⟨GO, 8, none⟩) (by simp; omega) (.bool false)
        have KS := Lib.hid hs0
        have KR := Lib.hid hr0
        have b5 := bw.setCell (p := ⟨GO, 8, none⟩) (by simp; omega) (.bool false)
        clear hs0 hr0 hbO hbR
        go_wp2_with (first
          | (refine wpList_load_blk rfl 51 (.tmp 5) rfl GO rfl 51 _ _ KS.out Try.underlying51 rfl (bigI_ _ _ HLO.out) ?_)
          | (refine wpList_store_blk rfl 51 (.tmp 4) (.tmp 61) rfl (w.heap.size + 1 + 1) 51 _ (bigC O false) rfl rfl KR.out (by rw [bigC_size, HLO.out]; rfl) (bigI_ _ _ HLO.out) (bigC_one _ _) ?_; intro w7 hR7 g7))
        have b7 := below_row b5 g7 b5.size (by omega)
        rw [← HO.out]
        exact bodyPost_ret (results_cell_row Try.results48 _ w7 (w.heap.size + 1 + 1) 51 _ (0, 0) _ rfl hR7 Try.underlying51 rfl (bigI_ _ _ HLO.out)) rfl ⟨rfl, b7⟩
      · skip
        go_wp2_with (first
          | (refine wpList_load_blkG rfl 51 (.tmp 5) rfl GO rfl 51 _ _ KO.out Try.underlying51 rfl (bigI_ _ _ HLO.out) ?_))
        refine (zero_any O false wr HLO.out).mono ?_
        rintro e w6 ⟨rfl, q6⟩
        have hO6 := hbO.below q6 hbO.lt
        have hR6 := hbR.below q6 hbR.lt
        have b6 := bw.trans (q6.mono bw.size)
        have cO9 := hO6.sign HLO.out
        have fO9 := hO6.frozen 8
        have hnot : (!decide (val O = 0)) = decide ((val (A.take 4) * val (B.take 4)) ≠ 0) := by rw [HFIN.out]; simp
        generalize hsg : decide ((val (A.take 4) * val (B.take 4)) ≠ 0) = sg at *
        have HSG := Lib.hid hsg
        clear hsg
        generalize decide (val O = 0) = zg at *
        have hs0 := hO6.set_ 8 (.bool sg)
        rw [bigC_set O false sg HLO.out] at hs0
        have hr0 := hR6.far (p := ⟨GO, 8, none⟩) (by simp; omega) (.bool sg)
        have KS := Lib.hid hs0
        have KR := Lib.hid hr0
        have b5 := b6.setCell (p := ⟨GO, 8, none⟩) (by simp; omega) (.bool sg)
        clear hs0 hr0 hO6 hR6 b6 q6 hbO hbR KO cO8 fO8 cA8 cB8
        go_wp2_with (first
          | (refine wpList_load_blk rfl 51 (.tmp 5) rfl GO rfl 51 _ _ KS.out Try.underlying51 rfl (bigI_ _ _ HLO.out) ?_)
          | (refine wpList_store_blk rfl 51 (.tmp 4) (.tmp 61) rfl (w.heap.size + 1 + 1) 51 _ (bigC O sg) rfl rfl KR.out (by rw [bigC_size, HLO.out]; rfl) (bigI_ _ _ HLO.out) (bigC_one _ _) ?_; intro w7 hR7 g7))
        have b7 := below_row b5 g7 b5.size (by omega)
        rw [← HO.out, HSG.out]
        exact bodyPost_ret (results_cell_row Try.results48 _ w7 (w.heap.size + 1 + 1) 51 _ (0, 0) _ rfl hR7 Try.underlying51 rfl (bigI_ _ _ HLO.out)) rfl ⟨rfl, b7⟩
      · skip
        go_wp2_with (first
          | (refine wpList_load_blkG rfl 51 (.tmp 5) rfl GO rfl 51 _ _ KO.out Try.underlying51 rfl (bigI_ _ _ HLO.out) ?_))
        refine (zero_any O false wr HLO.out).mono ?_
        rintro e w6 ⟨rfl, q6⟩
        have hO6 := hbO.below q6 hbO.lt
        have hR6 := hbR.below q6 hbR.lt
        have b6 := bw.trans (q6.mono bw.size)
        have cO9 := hO6.sign HLO.out
        have fO9 := hO6.frozen 8
        have hnot : (!decide (val O = 0)) = decide ((val (A.take 4) * val (B.take 4)) ≠ 0) := by rw [HFIN.out]; simp
        generalize hsg : decide ((val (A.take 4) * val (B.take 4)) ≠ 0) = sg at *
        have HSG := Lib.hid hsg
        clear hsg
        generalize decide (val O = 0) = zg at *
        have hs0 := hO6.set_ 8 (.bool sg)
        rw [bigC_set O false sg HLO.out] at hs0
        have hr0 := hR6.far (p := ⟨GO, 8, none⟩) (by simp; omega) (.bool sg)
        have KS := Lib.hid hs0
        have KR := Lib.hid hr0
        have b5 := b6.setCell (p := ⟨GO, 8, none⟩) (by simp; omega) (.bool sg)
        clear hs0 hr0 hO6 hR6 b6 q6 hbO hbR KO cO8 fO8 cA8 cB8
        go_wp2_with (first
          | (refine wpList_load_blk rfl 51 (.tmp 5) rfl GO rfl 51 _ _ KS.out Try.underlying51 rfl (bigI_ _ _ HLO.out) ?_)
          | (refine wpList_store_blk rfl 51 (.tmp 4) (.tmp 61) rfl (w.heap.size + 1 + 1) 51 _ (bigC O sg) rfl rfl KR.out (by rw [bigC_size, HLO.out]; rfl) (bigI_ _ _ HLO.out) (bigC_one _ _) ?_; intro w7 hR7 g7))
        have b7 := below_row b5 g7 b5.size (by omega)
        rw [← HO.out, HSG.out]
        exact bodyPost_ret (results_cell_row Try.results48 _ w7 (w.heap.size + 1 + 1) 51 _ (0, 0) _ rfl hR7 Try.underlying51 rfl (bigI_ _ _ HLO.out)) rfl ⟨rfl, b7⟩
      · skip
        have hs0 := hbO.set_ 8 (.bool false)
        rw [bigC_set O false false HLO.out] at hs0
        have hr0 := hbR.far (p := ⟨GO, 8, none⟩) (by simp; omega) (.bool false)
        have KS := Lib.hid hs0
        have KR := Lib.hid hr0
        have b5 := bw.setCell (p := ⟨GO, 8, none⟩) (by simp; omega) (.bool false)
        clear hs0 hr0 hbO hbR
        go_wp2_with (first
          | (refine wpList_load_blk rfl 51 (.tmp 5) rfl GO rfl 51 _ _ KS.out Try.underlying51 rfl (bigI_ _ _ HLO.out) ?_)
          | (refine wpList_store_blk rfl 51 (.tmp 4) (.tmp 61) rfl (w.heap.size + 1 + 1) 51 _ (bigC O false) rfl rfl KR.out (by rw [bigC_size, HLO.out]; rfl) (bigI_ _ _ HLO.out) (bigC_one _ _) ?_; intro w7 hR7 g7))
        have b7 := below_row b5 g7 b5.size (by omega)
        rw [← HO.out]
        exact bodyPost_ret (results_cell_row Try.results48 _ w7 (w.heap.size + 1 + 1) 51 _ (0, 0) _ rfl hR7 Try.underlying51 rfl (bigI_ _ _ HLO.out)) rfl ⟨rfl, b7⟩
theorem times_any (x y : Int) (w : World) (hx : x.natAbs < 4294967296 ^ 4) (hy : y.natAbs < 4294967296 ^ 4) :
    Calls Try.prog 48 #[bigV x, bigV y] w fun e w' => e = .returned (bigV (x * y)) ∧ Below w.heap.size w w' := by
  have := times_walk (digs 8 x.natAbs) (digs 8 y.natAbs) (decide (x < 0)) (decide (y < 0)) w (digs_len _ _) (digs_len _ _) (digs_small _ _) (digs_small _ _)
  rw [val_take4 _ hx, val_take4 _ hy] at this
  have hs : ((decide (x < 0) != decide (y < 0)) && decide (x.natAbs * y.natAbs ≠ 0)) = decide (x * y < 0) := by
    rw [← Int.natAbs_mul]
    by_cases hz : x * y = 0
    · simp [hz]
    · have h1 : (x * y).natAbs ≠ 0 := by omega
      rw [decide_eq_true h1, Bool.and_true]
      rcases Int.lt_trichotomy x 0 with hx | rfl | hx <;> rcases Int.lt_trichotomy y 0 with hy | rfl | hy
      all_goals try (simp at hz; done)
      · have := Int.mul_pos_of_neg_of_neg hx hy
        rw [decide_eq_true hx, decide_eq_true hy, decide_eq_false (by omega)]; rfl
      · have := Int.mul_neg_of_neg_of_pos hx hy
        rw [decide_eq_true hx, decide_eq_false (by omega), decide_eq_true this]; rfl
      · have := Int.mul_neg_of_pos_of_neg hx hy
        rw [decide_eq_false (by omega), decide_eq_true hy, decide_eq_true this]; rfl
      · have := Int.mul_pos hx hy
        rw [decide_eq_false (by omega), decide_eq_false (by omega), decide_eq_false (by omega)]; rfl
  rw [hs] at this
  unfold bigV
  rw [Int.natAbs_mul]
  exact this
end Go.Proofs.Ytemakmgppafccaa
