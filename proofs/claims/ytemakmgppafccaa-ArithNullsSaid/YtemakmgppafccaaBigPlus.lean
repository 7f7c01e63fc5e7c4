/- The reference's sum. Conditions: as each states. -/
import Derived.Test.YtemakmgppafccaaBigTurn
namespace Go.Proofs.Ytemakmgppafccaa
open Go.RowKit Go.Proofs.Big
theorem small_zeros : Small [0, 0, 0, 0, 0, 0, 0, 0] := by intro d hd; simp at hd; omega
theorem bigC_seti (O : List Nat) (b : Bool) (i : Nat) (x : Nat) (z : Int) (hi : i < O.length) (hz : z = (x : Int)) : (bigC O b).setIfInBounds i (.int .u64 z) = bigC (O.set i x) b := by
  subst hz
  simp [bigC, List.map_set, hi]
set_option maxRecDepth 100000 in
set_option maxHeartbeats 4000000 in
theorem plus_ff (A B : List Nat) (w : World) (hA : A.length = 8) (hB : B.length = 8) (sA : Small A) (sB : Small B) (hm : val A + val B < 4294967296 ^ 8) :
    Calls Try.prog 38 #[.agg (bigC A false), .agg (bigC B false)] w fun e w' => e = .returned (.agg (bigC (digs 8 (val A + val B)) false)) ∧ Below w.heap.size w w' := by
  have hl := Lib.hid hA
  have hl' := Lib.hid hB
  have kA : (bigC A false)[8]? = some (.bool false) := bigC_sign A _ hA
  have kB : (bigC B false)[8]? = some (.bool false) := bigC_sign B _ hB
  have HM := Lib.hid hm
  clear hm
  have kI := Lib.hid (bigI_ A false hA)
  have kI' := Lib.hid (bigI_ B false hB)
  clear hA hB
  have hbA := ((Blk.new w 51 (bigC A false)).alloc (.cells (bigC B false) 51)).alloc (.cells #[Value.int .u64 0, .int .u64 0, .int .u64 0, .int .u64 0, .int .u64 0, .int .u64 0, .int .u64 0, .int .u64 0, .bool false] 51)
  have hbB := (Blk.new (w.alloc (.cells (bigC A false) 51)) 51 (bigC B false)).alloc (.cells #[Value.int .u64 0, .int .u64 0, .int .u64 0, .int .u64 0, .int .u64 0, .int .u64 0, .int .u64 0, .int .u64 0, .bool false] 51)
  have hbR := Blk.new ((w.alloc (.cells (bigC A false) 51)).alloc (.cells (bigC B false) 51)) 51 #[Value.int .u64 0, .int .u64 0, .int .u64 0, .int .u64 0, .int .u64 0, .int .u64 0, .int .u64 0, .int .u64 0, .bool false]
  have b0 := (((Below.refl w.heap.size w).alloc (Nat.le_refl _) (.cells (bigC A false) 51)).alloc (by simp) (.cells (bigC B false) 51)).alloc (by simp; omega) (.cells #[Value.int .u64 0, .int .u64 0, .int .u64 0, .int .u64 0, .int .u64 0, .int .u64 0, .int .u64 0, .int .u64 0, .bool false] 51)
  simp only [World.size_alloc] at hbB hbR
  have hz0 : (((w.alloc (.cells (bigC A false) 51)).alloc (.cells (bigC B false) 51)).alloc (.cells #[Value.int .u64 0, .int .u64 0, .int .u64 0, .int .u64 0, .int .u64 0, .int .u64 0, .int .u64 0, .int .u64 0, .bool false] 51)).heap.size = w.heap.size + 3 := by simp
  have hbO := Blk.new (((w.alloc (.cells (bigC A false) 51)).alloc (.cells (bigC B false) 51)).alloc (.cells #[Value.int .u64 0, .int .u64 0, .int .u64 0, .int .u64 0, .int .u64 0, .int .u64 0, .int .u64 0, .int .u64 0, .bool false] 51)) 51 #[Value.int .u64 0, .int .u64 0, .int .u64 0, .int .u64 0, .int .u64 0, .int .u64 0, .int .u64 0, .int .u64 0, .bool false]
  have c0 := b0.alloc (by simp; omega) (.cells #[Value.int .u64 0, .int .u64 0, .int .u64 0, .int .u64 0, .int .u64 0, .int .u64 0, .int .u64 0, .int .u64 0, .bool false] 51)
  replace hbA := hbA.alloc (.cells #[Value.int .u64 0, .int .u64 0, .int .u64 0, .int .u64 0, .int .u64 0, .int .u64 0, .int .u64 0, .int .u64 0, .bool false] 51)
  replace hbB := hbB.alloc (.cells #[Value.int .u64 0, .int .u64 0, .int .u64 0, .int .u64 0, .int .u64 0, .int .u64 0, .int .u64 0, .int .u64 0, .bool false] 51)
  replace hbR := hbR.alloc (.cells #[Value.int .u64 0, .int .u64 0, .int .u64 0, .int .u64 0, .int .u64 0, .int .u64 0, .int .u64 0, .int .u64 0, .bool false] 51)
  rw [hz0] at hbO
  clear hz0 b0
  go_enter Try.func38, Try.ntmps38
  go_wp2
  generalize (((w.alloc (.cells (bigC A false) 51)).alloc (.cells (bigC B false) 51)).alloc (.cells #[Value.int .u64 0, .int .u64 0, .int .u64 0, .int .u64 0, .int .u64 0, .int .u64 0, .int .u64 0, .int .u64 0, .bool false] 51)).alloc (.cells #[Value.int .u64 0, .int .u64 0, .int .u64 0, .int .u64 0, .int .u64 0, .int .u64 0, .int .u64 0, .int .u64 0, .bool false] 51) = w1 at *
  have hz1 : w.heap.size + 1 + 1 < w.heap.size + 3 := by omega
  generalize w.heap.size + 3 = GO at *
  go_loopg [6, 25] 8 (fun g c s wr => ∃ (i cc : Nat) (O : List Nat), i + g ≤ 8 ∧ 8 ≤ i + g ∧ s = .int .i64 i ∧ c = .int .u64 cc ∧ cc ≤ 1 ∧ O.length = 8 ∧ Small O ∧ val (O.take i) + 4294967296 ^ i * cc = val (A.take i) + val (B.take i) ∧ Blk wr w.heap.size 51 (bigC A false) ∧ Blk wr (w.heap.size + 1) 51 (bigC B false) ∧ Blk wr (w.heap.size + 1 + 1) 51 #[Value.int .u64 0, .int .u64 0, .int .u64 0, .int .u64 0, .int .u64 0, .int .u64 0, .int .u64 0, .int .u64 0, .bool false] ∧ Blk wr GO 51 (bigC O false) ∧ Below w.heap.size w wr)
  case atStart => exact ⟨0, 0, [0, 0, 0, 0, 0, 0, 0, 0], by omega, by omega, rfl, rfl, by omega, rfl, small_zeros, by simp [val], hbA, hbB, hbR, hbO, c0⟩
  case round =>
    clear hbA hbB hbR hbO c0
    obtain ⟨i, cc, O, hi1, hi2, rfl, rfl, hcc, hlO, sO, hrel, hbA, hbB, hbR, hbO, bw⟩ := hrel
    have HREL := Lib.hid hrel
    have HLO := Lib.hid hlO
    clear hrel hlO
    have cA8 := hbA.sign hl.out
    have cB8 := hbB.sign hl'.out
    have cO8 := hbO.sign HLO.out
    have fO8 := hbO.frozen 8
    by_cases hi : i < 8
    · have i0 : (0 : Int) ≤ (i : Int) := by omega
      have i1 : (i : Int) < 8 := by omega
      have cA := hbA.dig i (by rw [hl.out]; omega)
      have cB := hbB.dig i (by rw [hl'.out]; omega)
      have cO := hbO.dig i (by rw [HLO.out]; omega)
      have fO := hbO.frozen i
      have la := small_getD sA i
      have lb := small_getD sB i
      have HR := Lib.hid (add_round A B O i cc (by rw [hl.out]; omega) (by rw [hl'.out]; omega) (by rw [HLO.out]; omega) HREL.out)
      generalize A.getD i 0 = a at *
      generalize B.getD i 0 = b at *
      generalize O.getD i 0 = z at *
      go_wp2
      go_quiet (fail)
      go_wp2
      go_roundg (gk - 1)
      · refine ⟨i + 1, ((a + b + cc) / 4294967296), O.set i ((a + b + cc) % 4294967296), by omega, by omega, by go_num, congrArg (Value.int .u64) (by omega), by omega, by rw [List.length_set, HLO.out], small_set sO _ (Nat.mod_lt _ (by decide)), HR.out, (hbA.drewN _).far (p := ⟨GO, i, none⟩) (by simp; omega) _, (hbB.drewN _).far (p := ⟨GO, i, none⟩) (by simp; omega) _, (hbR.drewN _).far (p := ⟨GO, i, none⟩) (by simp; omega) _, ?_, (below_drewN bw _).setCell (p := ⟨GO, i, none⟩) (by simp; omega) _⟩
        refine (bigC_seti O false i _ _ (by rw [HLO.out]; omega) ?_) ▸ (hbO.drewN _).set_ i _
        omega
      · omega
    · obtain rfl : i = 8 := by omega
      have hv := HREL.out
      rw [List.take_of_length_le (by rw [HLO.out]; omega), List.take_of_length_le (by rw [hl.out]; omega), List.take_of_length_le (by rw [hl'.out]; omega)] at hv
      have lO := val_lt O sO
      rw [HLO.out] at lO
      have lB := val_lt B sB
      rw [hl'.out] at lB
      have hmm := HM.out
      have hfin : val O = (val A + val B) := by
        have h8 : (4294967296 ^ 8 : Nat) = 115792089237316195423570985008687907853269984665640564039457584007913129639936 := by decide
        rw [h8] at *
        omega
      have HFIN := Lib.hid hfin
      have HO := Lib.hid (digs_of sO HLO.out hfin)
      clear hv lO lB hmm hfin
      have KO := Lib.hid hbO
      have hs0 := hbO.set_ 8 (.bool false)
      rw [bigC_set O false false HLO.out] at hs0
      have hr0 := hbR.far (p := ⟨GO, 8, none⟩) (by simp; omega) (.bool false)
      have KS := Lib.hid hs0
      have KR := Lib.hid hr0
      have b5 := bw.setCell (p := ⟨GO, 8, none⟩) (by simp; omega) (.bool false)
      clear hs0 hr0 hbO hbR
      go_wp2_with (first
        | (refine wpList_load_blk rfl 51 (.tmp 5) rfl GO rfl 51 _ _ KS.out Try.underlying51 rfl (bigI_ _ _ HLO.out) ?_)
        | (refine wpList_store_blk rfl 51 (.tmp 4) (.tmp 80) rfl (w.heap.size + 1 + 1) 51 _ (bigC O false) rfl rfl KR.out (by rw [bigC_size, HLO.out]; rfl) (bigI_ _ _ HLO.out) (bigC_one _ _) ?_; intro w7 hR7 g7))
      have b7 := below_row b5 g7 b5.size (by omega)
      rw [← HO.out]
      exact bodyPost_ret (results_cell_row Try.results38 _ w7 (w.heap.size + 1 + 1) 51 _ (0, 0) _ rfl hR7 Try.underlying51 rfl (bigI_ _ _ HLO.out)) rfl ⟨rfl, b7⟩
set_option maxRecDepth 100000 in
set_option maxHeartbeats 4000000 in
theorem plus_tt (A B : List Nat) (w : World) (hA : A.length = 8) (hB : B.length = 8) (sA : Small A) (sB : Small B) (hm : val A + val B < 4294967296 ^ 8) :
    Calls Try.prog 38 #[.agg (bigC A true), .agg (bigC B true)] w fun e w' => e = .returned (.agg (bigC (digs 8 (val A + val B)) (decide ((val A + val B) ≠ 0)))) ∧ Below w.heap.size w w' := by
  have hl := Lib.hid hA
  have hl' := Lib.hid hB
  have kA : (bigC A true)[8]? = some (.bool true) := bigC_sign A _ hA
  have kB : (bigC B true)[8]? = some (.bool true) := bigC_sign B _ hB
  have HM := Lib.hid hm
  clear hm
  have kI := Lib.hid (bigI_ A true hA)
  have kI' := Lib.hid (bigI_ B true hB)
  clear hA hB
  have hbA := ((Blk.new w 51 (bigC A true)).alloc (.cells (bigC B true) 51)).alloc (.cells #[Value.int .u64 0, .int .u64 0, .int .u64 0, .int .u64 0, .int .u64 0, .int .u64 0, .int .u64 0, .int .u64 0, .bool false] 51)
  have hbB := (Blk.new (w.alloc (.cells (bigC A true) 51)) 51 (bigC B true)).alloc (.cells #[Value.int .u64 0, .int .u64 0, .int .u64 0, .int .u64 0, .int .u64 0, .int .u64 0, .int .u64 0, .int .u64 0, .bool false] 51)
  have hbR := Blk.new ((w.alloc (.cells (bigC A true) 51)).alloc (.cells (bigC B true) 51)) 51 #[Value.int .u64 0, .int .u64 0, .int .u64 0, .int .u64 0, .int .u64 0, .int .u64 0, .int .u64 0, .int .u64 0, .bool false]
  have b0 := (((Below.refl w.heap.size w).alloc (Nat.le_refl _) (.cells (bigC A true) 51)).alloc (by simp) (.cells (bigC B true) 51)).alloc (by simp; omega) (.cells #[Value.int .u64 0, .int .u64 0, .int .u64 0, .int .u64 0, .int .u64 0, .int .u64 0, .int .u64 0, .int .u64 0, .bool false] 51)
  simp only [World.size_alloc] at hbB hbR
  have hz0 : (((w.alloc (.cells (bigC A true) 51)).alloc (.cells (bigC B true) 51)).alloc (.cells #[Value.int .u64 0, .int .u64 0, .int .u64 0, .int .u64 0, .int .u64 0, .int .u64 0, .int .u64 0, .int .u64 0, .bool false] 51)).heap.size = w.heap.size + 3 := by simp
  have hbO := Blk.new (((w.alloc (.cells (bigC A true) 51)).alloc (.cells (bigC B true) 51)).alloc (.cells #[Value.int .u64 0, .int .u64 0, .int .u64 0, .int .u64 0, .int .u64 0, .int .u64 0, .int .u64 0, .int .u64 0, .bool false] 51)) 51 #[Value.int .u64 0, .int .u64 0, .int .u64 0, .int .u64 0, .int .u64 0, .int .u64 0, .int .u64 0, .int .u64 0, .bool true]
  have c0 := b0.alloc (by simp; omega) (.cells #[Value.int .u64 0, .int .u64 0, .int .u64 0, .int .u64 0, .int .u64 0, .int .u64 0, .int .u64 0, .int .u64 0, .bool true] 51)
  replace hbA := hbA.alloc (.cells #[Value.int .u64 0, .int .u64 0, .int .u64 0, .int .u64 0, .int .u64 0, .int .u64 0, .int .u64 0, .int .u64 0, .bool true] 51)
  replace hbB := hbB.alloc (.cells #[Value.int .u64 0, .int .u64 0, .int .u64 0, .int .u64 0, .int .u64 0, .int .u64 0, .int .u64 0, .int .u64 0, .bool true] 51)
  replace hbR := hbR.alloc (.cells #[Value.int .u64 0, .int .u64 0, .int .u64 0, .int .u64 0, .int .u64 0, .int .u64 0, .int .u64 0, .int .u64 0, .bool true] 51)
  rw [hz0] at hbO
  clear hz0 b0
  go_enter Try.func38, Try.ntmps38
  go_wp2
  generalize (((w.alloc (.cells (bigC A true) 51)).alloc (.cells (bigC B true) 51)).alloc (.cells #[Value.int .u64 0, .int .u64 0, .int .u64 0, .int .u64 0, .int .u64 0, .int .u64 0, .int .u64 0, .int .u64 0, .bool false] 51)).alloc (.cells #[Value.int .u64 0, .int .u64 0, .int .u64 0, .int .u64 0, .int .u64 0, .int .u64 0, .int .u64 0, .int .u64 0, .bool true] 51) = w1 at *
  have hz1 : w.heap.size + 1 + 1 < w.heap.size + 3 := by omega
  generalize w.heap.size + 3 = GO at *
  go_loopg [6, 25] 8 (fun g c s wr => ∃ (i cc : Nat) (O : List Nat), i + g ≤ 8 ∧ 8 ≤ i + g ∧ s = .int .i64 i ∧ c = .int .u64 cc ∧ cc ≤ 1 ∧ O.length = 8 ∧ Small O ∧ val (O.take i) + 4294967296 ^ i * cc = val (A.take i) + val (B.take i) ∧ Blk wr w.heap.size 51 (bigC A true) ∧ Blk wr (w.heap.size + 1) 51 (bigC B true) ∧ Blk wr (w.heap.size + 1 + 1) 51 #[Value.int .u64 0, .int .u64 0, .int .u64 0, .int .u64 0, .int .u64 0, .int .u64 0, .int .u64 0, .int .u64 0, .bool false] ∧ Blk wr GO 51 (bigC O true) ∧ Below w.heap.size w wr)
  case atStart => exact ⟨0, 0, [0, 0, 0, 0, 0, 0, 0, 0], by omega, by omega, rfl, rfl, by omega, rfl, small_zeros, by simp [val], hbA, hbB, hbR, hbO, c0⟩
  case round =>
    clear hbA hbB hbR hbO c0
    obtain ⟨i, cc, O, hi1, hi2, rfl, rfl, hcc, hlO, sO, hrel, hbA, hbB, hbR, hbO, bw⟩ := hrel
    have HREL := Lib.hid hrel
    have HLO := Lib.hid hlO
    clear hrel hlO
    have cA8 := hbA.sign hl.out
    have cB8 := hbB.sign hl'.out
    have cO8 := hbO.sign HLO.out
    have fO8 := hbO.frozen 8
    by_cases hi : i < 8
    · have i0 : (0 : Int) ≤ (i : Int) := by omega
      have i1 : (i : Int) < 8 := by omega
      have cA := hbA.dig i (by rw [hl.out]; omega)
      have cB := hbB.dig i (by rw [hl'.out]; omega)
      have cO := hbO.dig i (by rw [HLO.out]; omega)
      have fO := hbO.frozen i
      have la := small_getD sA i
      have lb := small_getD sB i
      have HR := Lib.hid (add_round A B O i cc (by rw [hl.out]; omega) (by rw [hl'.out]; omega) (by rw [HLO.out]; omega) HREL.out)
      generalize A.getD i 0 = a at *
      generalize B.getD i 0 = b at *
      generalize O.getD i 0 = z at *
      go_wp2
      go_quiet (fail)
      go_wp2
      go_roundg (gk - 1)
      · refine ⟨i + 1, ((a + b + cc) / 4294967296), O.set i ((a + b + cc) % 4294967296), by omega, by omega, by go_num, congrArg (Value.int .u64) (by omega), by omega, by rw [List.length_set, HLO.out], small_set sO _ (Nat.mod_lt _ (by decide)), HR.out, (hbA.drewN _).far (p := ⟨GO, i, none⟩) (by simp; omega) _, (hbB.drewN _).far (p := ⟨GO, i, none⟩) (by simp; omega) _, (hbR.drewN _).far (p := ⟨GO, i, none⟩) (by simp; omega) _, ?_, (below_drewN bw _).setCell (p := ⟨GO, i, none⟩) (by simp; omega) _⟩
        refine (bigC_seti O true i _ _ (by rw [HLO.out]; omega) ?_) ▸ (hbO.drewN _).set_ i _
        omega
      · omega
    · obtain rfl : i = 8 := by omega
      have hv := HREL.out
      rw [List.take_of_length_le (by rw [HLO.out]; omega), List.take_of_length_le (by rw [hl.out]; omega), List.take_of_length_le (by rw [hl'.out]; omega)] at hv
      have lO := val_lt O sO
      rw [HLO.out] at lO
      have lB := val_lt B sB
      rw [hl'.out] at lB
      have hmm := HM.out
      have hfin : val O = (val A + val B) := by
        have h8 : (4294967296 ^ 8 : Nat) = 115792089237316195423570985008687907853269984665640564039457584007913129639936 := by decide
        rw [h8] at *
        omega
      have HFIN := Lib.hid hfin
      have HO := Lib.hid (digs_of sO HLO.out hfin)
      clear hv lO lB hmm hfin
      have KO := Lib.hid hbO
      go_wp2_with (first
        | (refine wpList_load_blkG rfl 51 (.tmp 5) rfl GO rfl 51 _ _ KO.out Try.underlying51 rfl (bigI_ _ _ HLO.out) ?_))
      refine (zero_any O true wr HLO.out).mono ?_
      rintro e w6 ⟨rfl, q6⟩
      have hO6 := hbO.below q6 hbO.lt
      have hR6 := hbR.below q6 hbR.lt
      have b6 := bw.trans (q6.mono bw.size)
      have cO9 := hO6.sign HLO.out
      have fO9 := hO6.frozen 8
      have hnot : (!decide (val O = 0)) = decide ((val A + val B) ≠ 0) := by rw [HFIN.out]; simp
      generalize hsg : decide ((val A + val B) ≠ 0) = sg at *
      have HSG := Lib.hid hsg
      clear hsg
      generalize decide (val O = 0) = zg at *
      have hs0 := hO6.set_ 8 (.bool sg)
      rw [bigC_set O true sg HLO.out] at hs0
      have hr0 := hR6.far (p := ⟨GO, 8, none⟩) (by simp; omega) (.bool sg)
      have KS := Lib.hid hs0
      have KR := Lib.hid hr0
      have b5 := b6.setCell (p := ⟨GO, 8, none⟩) (by simp; omega) (.bool sg)
      clear hs0 hr0 hO6 hR6 b6 q6 hbO hbR KO cO8 fO8 cA8 cB8
      go_wp2_with (first
        | (refine wpList_load_blk rfl 51 (.tmp 5) rfl GO rfl 51 _ _ KS.out Try.underlying51 rfl (bigI_ _ _ HLO.out) ?_)
        | (refine wpList_store_blk rfl 51 (.tmp 4) (.tmp 80) rfl (w.heap.size + 1 + 1) 51 _ (bigC O sg) rfl rfl KR.out (by rw [bigC_size, HLO.out]; rfl) (bigI_ _ _ HLO.out) (bigC_one _ _) ?_; intro w7 hR7 g7))
      have b7 := below_row b5 g7 b5.size (by omega)
      rw [← HO.out, HSG.out]
      exact bodyPost_ret (results_cell_row Try.results38 _ w7 (w.heap.size + 1 + 1) 51 _ (0, 0) _ rfl hR7 Try.underlying51 rfl (bigI_ _ _ HLO.out)) rfl ⟨rfl, b7⟩
set_option maxRecDepth 100000 in
set_option maxHeartbeats 4000000 in
theorem plus_tfs (A B : List Nat) (w : World) (hA : A.length = 8) (hB : B.length = 8) (sA : Small A) (sB : Small B) (hlt : val A < val B) :
    Calls Try.prog 38 #[.agg (bigC A true), .agg (bigC B false)] w fun e w' => e = .returned (.agg (bigC (digs 8 (val B - val A)) false)) ∧ Below w.heap.size w w' := by
  have hl := Lib.hid hA
  have hl' := Lib.hid hB
  have kA : (bigC A true)[8]? = some (.bool true) := bigC_sign A _ hA
  have kB : (bigC B false)[8]? = some (.bool false) := bigC_sign B _ hB
  have HL := Lib.hid hlt
  have kI := Lib.hid (bigI_ A true hA)
  have kI' := Lib.hid (bigI_ B false hB)
  clear hlt
  clear hA hB
  have hbA := ((Blk.new w 51 (bigC A true)).alloc (.cells (bigC B false) 51)).alloc (.cells #[Value.int .u64 0, .int .u64 0, .int .u64 0, .int .u64 0, .int .u64 0, .int .u64 0, .int .u64 0, .int .u64 0, .bool false] 51)
  have hbB := (Blk.new (w.alloc (.cells (bigC A true) 51)) 51 (bigC B false)).alloc (.cells #[Value.int .u64 0, .int .u64 0, .int .u64 0, .int .u64 0, .int .u64 0, .int .u64 0, .int .u64 0, .int .u64 0, .bool false] 51)
  have hbR := Blk.new ((w.alloc (.cells (bigC A true) 51)).alloc (.cells (bigC B false) 51)) 51 #[Value.int .u64 0, .int .u64 0, .int .u64 0, .int .u64 0, .int .u64 0, .int .u64 0, .int .u64 0, .int .u64 0, .bool false]
  have b0 := (((Below.refl w.heap.size w).alloc (Nat.le_refl _) (.cells (bigC A true) 51)).alloc (by simp) (.cells (bigC B false) 51)).alloc (by simp; omega) (.cells #[Value.int .u64 0, .int .u64 0, .int .u64 0, .int .u64 0, .int .u64 0, .int .u64 0, .int .u64 0, .int .u64 0, .bool false] 51)
  simp only [World.size_alloc] at hbB hbR
  have hz0 : (((w.alloc (.cells (bigC A true) 51)).alloc (.cells (bigC B false) 51)).alloc (.cells #[Value.int .u64 0, .int .u64 0, .int .u64 0, .int .u64 0, .int .u64 0, .int .u64 0, .int .u64 0, .int .u64 0, .bool false] 51)).heap.size = w.heap.size + 3 := by simp
  have KA := Lib.hid hbA
  have KB := Lib.hid hbB
  go_enter Try.func38, Try.ntmps38
  go_wp2_with (first
    | (refine wpList_load_blkG rfl 51 (.tmp 2) rfl w.heap.size rfl 51 _ _ KA.out Try.underlying51 rfl kI.out ?_)
    | (refine wpList_load_blkG rfl 51 (.tmp 3) rfl (w.heap.size + 1) rfl 51 _ _ KB.out Try.underlying51 rfl kI'.out ?_))
  generalize ((w.alloc (.cells (bigC A true) 51)).alloc (.cells (bigC B false) 51)).alloc (.cells #[Value.int .u64 0, .int .u64 0, .int .u64 0, .int .u64 0, .int .u64 0, .int .u64 0, .int .u64 0, .int .u64 0, .bool false] 51) = w1 at *
  refine (less_any A B true false w1 hl.out hl'.out sA sB).mono ?_
  rintro e w2 ⟨rfl, q⟩
  rw [decide_eq_true HL.out]
  replace hbA := hbA.below q hbA.lt
  replace hbB := hbB.below q hbB.lt
  replace hbR := hbR.below q hbR.lt
  have b2 := b0.trans (q.mono b0.size)
  have hz2 : w.heap.size + 3 ≤ w2.heap.size := by rw [← hz0]; exact q.size
  clear KA KB b0 q hz0
  have KA := Lib.hid hbA
  have KB := Lib.hid hbB
  go_wp2_with (first
    | (refine wpList_load_blk rfl 51 (.tmp 3) rfl (w.heap.size + 1) rfl 51 _ _ KB.out Try.underlying51 rfl kI'.out ?_)
    | (refine wpList_load_blk rfl 51 (.tmp 2) rfl w.heap.size rfl 51 _ _ KA.out Try.underlying51 rfl kI.out ?_)
    | (refine wpList_store_blk rfl 51 (.tmp 2) (.tmp 20) rfl w.heap.size 51 _ (bigC B false) rfl rfl KA.out (by rw [bigC_size, bigC_size, hl.out, hl'.out]) kI'.out (bigC_one _ _) ?_; intro w3 hA3 g3; have hB3 := KB.out.apart g3 (by omega))
    | (refine wpList_store_blk rfl 51 (.tmp 3) (.tmp 21) rfl (w.heap.size + 1) 51 _ (bigC A true) rfl rfl hB3 (by rw [bigC_size, bigC_size, hl.out, hl'.out]) kI.out (bigC_one _ _) ?_; intro w4 hB4 g4; have s8 := (hA3.apart g4 (by omega)).sign hl'.out))
  have hA4 := hA3.apart g4 (by omega)
  have hR4 := (hbR.apart g3 (by omega)).apart g4 (by omega)
  have b4 := below_row (below_row b2 g3 b2.size (Nat.le_refl _)) g4 (Nat.le_trans b2.size g3.size) (by omega)
  have hz4 : w.heap.size + 3 ≤ w4.heap.size := Nat.le_trans hz2 (Nat.le_trans g3.size g4.size)
  clear hbA hbB hbR KA KB hB3 hA3 g3 g4 b2 hz2
  have c0 := b4.alloc b4.size (.cells #[Value.int .u64 0, .int .u64 0, .int .u64 0, .int .u64 0, .int .u64 0, .int .u64 0, .int .u64 0, .int .u64 0, .bool false] 51)
  have hbO := Blk.new w4 51 #[Value.int .u64 0, .int .u64 0, .int .u64 0, .int .u64 0, .int .u64 0, .int .u64 0, .int .u64 0, .int .u64 0, .bool false]
  have hbA := hA4
  have hbB := hB4
  have hbR := hR4
  clear hA4 hB4 hR4
  replace hbA := hbA.alloc (.cells #[Value.int .u64 0, .int .u64 0, .int .u64 0, .int .u64 0, .int .u64 0, .int .u64 0, .int .u64 0, .int .u64 0, .bool false] 51)
  replace hbB := hbB.alloc (.cells #[Value.int .u64 0, .int .u64 0, .int .u64 0, .int .u64 0, .int .u64 0, .int .u64 0, .int .u64 0, .int .u64 0, .bool false] 51)
  replace hbR := hbR.alloc (.cells #[Value.int .u64 0, .int .u64 0, .int .u64 0, .int .u64 0, .int .u64 0, .int .u64 0, .int .u64 0, .int .u64 0, .bool false] 51)
  generalize w4.alloc (.cells #[Value.int .u64 0, .int .u64 0, .int .u64 0, .int .u64 0, .int .u64 0, .int .u64 0, .int .u64 0, .int .u64 0, .bool false] 51) = w5 at *
  clear s8
  have hz1 : w.heap.size + 1 + 1 < w4.heap.size := by omega
  clear hz4
  generalize w4.heap.size = GO at *
  go_loopg [6, 25] 8 (fun g c s wr => ∃ (i cc : Nat) (O : List Nat), i + g ≤ 8 ∧ 8 ≤ i + g ∧ s = .int .i64 i ∧ c = .int .u64 cc ∧ cc ≤ 1 ∧ O.length = 8 ∧ Small O ∧ val (O.take i) + val (A.take i) = val (B.take i) + 4294967296 ^ i * cc ∧ Blk wr w.heap.size 51 (bigC B false) ∧ Blk wr (w.heap.size + 1) 51 (bigC A true) ∧ Blk wr (w.heap.size + 1 + 1) 51 #[Value.int .u64 0, .int .u64 0, .int .u64 0, .int .u64 0, .int .u64 0, .int .u64 0, .int .u64 0, .int .u64 0, .bool false] ∧ Blk wr GO 51 (bigC O false) ∧ Below w.heap.size w wr)
  case atStart => exact ⟨0, 0, [0, 0, 0, 0, 0, 0, 0, 0], by omega, by omega, rfl, rfl, by omega, rfl, small_zeros, by simp [val], hbA, hbB, hbR, hbO, c0⟩
  case round =>
    clear hbA hbB hbR hbO c0
    obtain ⟨i, cc, O, hi1, hi2, rfl, rfl, hcc, hlO, sO, hrel, hbA, hbB, hbR, hbO, bw⟩ := hrel
    have HREL := Lib.hid hrel
    have HLO := Lib.hid hlO
    clear hrel hlO
    have cA8 := hbA.sign hl'.out
    have cB8 := hbB.sign hl.out
    have cO8 := hbO.sign HLO.out
    have fO8 := hbO.frozen 8
    by_cases hi : i < 8
    · have i0 : (0 : Int) ≤ (i : Int) := by omega
      have i1 : (i : Int) < 8 := by omega
      have cA := hbA.dig i (by rw [hl'.out]; omega)
      have cB := hbB.dig i (by rw [hl.out]; omega)
      have cO := hbO.dig i (by rw [HLO.out]; omega)
      have fO := hbO.frozen i
      have la := small_getD sB i
      have lb := small_getD sA i
      have HR := Lib.hid (sub_round B A O i cc (by rw [hl'.out]; omega) (by rw [hl.out]; omega) (by rw [HLO.out]; omega) sB sA hcc HREL.out)
      generalize B.getD i 0 = a at *
      generalize A.getD i 0 = b at *
      generalize O.getD i 0 = z at *
      go_wp2
      go_quiet (fail)
      go_wp2
      go_roundg (gk - 1)
      · refine ⟨i + 1, (1 - (a + 4294967296 - b - cc) / 4294967296), O.set i ((a + 4294967296 - b - cc) % 4294967296), by omega, by omega, by go_num, congrArg (Value.int .u64) (by omega), by omega, by rw [List.length_set, HLO.out], small_set sO _ (Nat.mod_lt _ (by decide)), HR.out, (hbA.drewN _).far (p := ⟨GO, i, none⟩) (by simp; omega) _, (hbB.drewN _).far (p := ⟨GO, i, none⟩) (by simp; omega) _, (hbR.drewN _).far (p := ⟨GO, i, none⟩) (by simp; omega) _, ?_, (below_drewN bw _).setCell (p := ⟨GO, i, none⟩) (by simp; omega) _⟩
        refine (bigC_seti O false i _ _ (by rw [HLO.out]; omega) ?_) ▸ (hbO.drewN _).set_ i _
        omega
      · omega
    · obtain rfl : i = 8 := by omega
      have hv := HREL.out
      rw [List.take_of_length_le (by rw [HLO.out]; omega), List.take_of_length_le (by rw [hl.out]; omega), List.take_of_length_le (by rw [hl'.out]; omega)] at hv
      have lO := val_lt O sO
      rw [HLO.out] at lO
      have lB := val_lt A sA
      rw [hl.out] at lB
      have hmm := HL.out
      have hfin : val O = (val B - val A) := by
        have h8 : (4294967296 ^ 8 : Nat) = 115792089237316195423570985008687907853269984665640564039457584007913129639936 := by decide
        rw [h8] at *
        omega
      have HFIN := Lib.hid hfin
      have HO := Lib.hid (digs_of sO HLO.out hfin)
      clear hv lO lB hmm hfin
      have KO := Lib.hid hbO
      have hs0 := hbO.set_ 8 (.bool false)
      rw [bigC_set O false false HLO.out] at hs0
      have hr0 := hbR.far (p := ⟨GO, 8, none⟩) (by simp; omega) (.bool false)
      have KS := Lib.hid hs0
      have KR := Lib.hid hr0
      have b5 := bw.setCell (p := ⟨GO, 8, none⟩) (by simp; omega) (.bool false)
      clear hs0 hr0 hbO hbR
      go_wp2_with (first
        | (refine wpList_load_blk rfl 51 (.tmp 5) rfl GO rfl 51 _ _ KS.out Try.underlying51 rfl (bigI_ _ _ HLO.out) ?_)
        | (refine wpList_store_blk rfl 51 (.tmp 4) (.tmp 80) rfl (w.heap.size + 1 + 1) 51 _ (bigC O false) rfl rfl KR.out (by rw [bigC_size, HLO.out]; rfl) (bigI_ _ _ HLO.out) (bigC_one _ _) ?_; intro w7 hR7 g7))
      have b7 := below_row b5 g7 b5.size (by omega)
      rw [← HO.out]
      exact bodyPost_ret (results_cell_row Try.results38 _ w7 (w.heap.size + 1 + 1) 51 _ (0, 0) _ rfl hR7 Try.underlying51 rfl (bigI_ _ _ HLO.out)) rfl ⟨rfl, b7⟩
set_option maxRecDepth 100000 in
set_option maxHeartbeats 4000000 in
theorem plus_tf (A B : List Nat) (w : World) (hA : A.length = 8) (hB : B.length = 8) (sA : Small A) (sB : Small B) (hlt : ¬ val A < val B) :
    Calls Try.prog 38 #[.agg (bigC A true), .agg (bigC B false)] w fun e w' => e = .returned (.agg (bigC (digs 8 (val A - val B)) (decide ((val A - val B) ≠ 0)))) ∧ Below w.heap.size w w' := by
  have hl := Lib.hid hA
  have hl' := Lib.hid hB
  have kA : (bigC A true)[8]? = some (.bool true) := bigC_sign A _ hA
  have kB : (bigC B false)[8]? = some (.bool false) := bigC_sign B _ hB
  have HL := Lib.hid hlt
  have kI := Lib.hid (bigI_ A true hA)
  have kI' := Lib.hid (bigI_ B false hB)
  clear hlt
  clear hA hB
  have hbA := ((Blk.new w 51 (bigC A true)).alloc (.cells (bigC B false) 51)).alloc (.cells #[Value.int .u64 0, .int .u64 0, .int .u64 0, .int .u64 0, .int .u64 0, .int .u64 0, .int .u64 0, .int .u64 0, .bool false] 51)
  have hbB := (Blk.new (w.alloc (.cells (bigC A true) 51)) 51 (bigC B false)).alloc (.cells #[Value.int .u64 0, .int .u64 0, .int .u64 0, .int .u64 0, .int .u64 0, .int .u64 0, .int .u64 0, .int .u64 0, .bool false] 51)
  have hbR := Blk.new ((w.alloc (.cells (bigC A true) 51)).alloc (.cells (bigC B false) 51)) 51 #[Value.int .u64 0, .int .u64 0, .int .u64 0, .int .u64 0, .int .u64 0, .int .u64 0, .int .u64 0, .int .u64 0, .bool false]
  have b0 := (((Below.refl w.heap.size w).alloc (Nat.le_refl _) (.cells (bigC A true) 51)).alloc (by simp) (.cells (bigC B false) 51)).alloc (by simp; omega) (.cells #[Value.int .u64 0, .int .u64 0, .int .u64 0, .int .u64 0, .int .u64 0, .int .u64 0, .int .u64 0, .int .u64 0, .bool false] 51)
  simp only [World.size_alloc] at hbB hbR
  have hz0 : (((w.alloc (.cells (bigC A true) 51)).alloc (.cells (bigC B false) 51)).alloc (.cells #[Value.int .u64 0, .int .u64 0, .int .u64 0, .int .u64 0, .int .u64 0, .int .u64 0, .int .u64 0, .int .u64 0, .bool false] 51)).heap.size = w.heap.size + 3 := by simp
  have KA := Lib.hid hbA
  have KB := Lib.hid hbB
  go_enter Try.func38, Try.ntmps38
  go_wp2_with (first
    | (refine wpList_load_blkG rfl 51 (.tmp 2) rfl w.heap.size rfl 51 _ _ KA.out Try.underlying51 rfl kI.out ?_)
    | (refine wpList_load_blkG rfl 51 (.tmp 3) rfl (w.heap.size + 1) rfl 51 _ _ KB.out Try.underlying51 rfl kI'.out ?_))
  generalize ((w.alloc (.cells (bigC A true) 51)).alloc (.cells (bigC B false) 51)).alloc (.cells #[Value.int .u64 0, .int .u64 0, .int .u64 0, .int .u64 0, .int .u64 0, .int .u64 0, .int .u64 0, .int .u64 0, .bool false] 51) = w1 at *
  refine (less_any A B true false w1 hl.out hl'.out sA sB).mono ?_
  rintro e w2 ⟨rfl, q⟩
  rw [decide_eq_false HL.out]
  replace hbA := hbA.below q hbA.lt
  replace hbB := hbB.below q hbB.lt
  replace hbR := hbR.below q hbR.lt
  have b2 := b0.trans (q.mono b0.size)
  have hz2 : w.heap.size + 3 ≤ w2.heap.size := by rw [← hz0]; exact q.size
  clear KA KB b0 q hz0
  have KA := Lib.hid hbA
  have KB := Lib.hid hbB
  have s8 : w2.cell? ⟨w.heap.size, 8, none⟩ = some (.bool true) := hbA.sign hl.out
  have c0 := b2.alloc b2.size (.cells #[Value.int .u64 0, .int .u64 0, .int .u64 0, .int .u64 0, .int .u64 0, .int .u64 0, .int .u64 0, .int .u64 0, .bool true] 51)
  have hbO := Blk.new w2 51 #[Value.int .u64 0, .int .u64 0, .int .u64 0, .int .u64 0, .int .u64 0, .int .u64 0, .int .u64 0, .int .u64 0, .bool true]
  replace hbA := hbA.alloc (.cells #[Value.int .u64 0, .int .u64 0, .int .u64 0, .int .u64 0, .int .u64 0, .int .u64 0, .int .u64 0, .int .u64 0, .bool true] 51)
  replace hbB := hbB.alloc (.cells #[Value.int .u64 0, .int .u64 0, .int .u64 0, .int .u64 0, .int .u64 0, .int .u64 0, .int .u64 0, .int .u64 0, .bool true] 51)
  replace hbR := hbR.alloc (.cells #[Value.int .u64 0, .int .u64 0, .int .u64 0, .int .u64 0, .int .u64 0, .int .u64 0, .int .u64 0, .int .u64 0, .bool true] 51)
  clear KA KB
  go_wp2
  generalize w2.alloc (.cells #[Value.int .u64 0, .int .u64 0, .int .u64 0, .int .u64 0, .int .u64 0, .int .u64 0, .int .u64 0, .int .u64 0, .bool true] 51) = w5 at *
  clear s8
  have hz1 : w.heap.size + 1 + 1 < w2.heap.size := by omega
  clear hz2
  generalize w2.heap.size = GO at *
  go_loopg [6, 25] 8 (fun g c s wr => ∃ (i cc : Nat) (O : List Nat), i + g ≤ 8 ∧ 8 ≤ i + g ∧ s = .int .i64 i ∧ c = .int .u64 cc ∧ cc ≤ 1 ∧ O.length = 8 ∧ Small O ∧ val (O.take i) + val (B.take i) = val (A.take i) + 4294967296 ^ i * cc ∧ Blk wr w.heap.size 51 (bigC A true) ∧ Blk wr (w.heap.size + 1) 51 (bigC B false) ∧ Blk wr (w.heap.size + 1 + 1) 51 #[Value.int .u64 0, .int .u64 0, .int .u64 0, .int .u64 0, .int .u64 0, .int .u64 0, .int .u64 0, .int .u64 0, .bool false] ∧ Blk wr GO 51 (bigC O true) ∧ Below w.heap.size w wr)
  case atStart => exact ⟨0, 0, [0, 0, 0, 0, 0, 0, 0, 0], by omega, by omega, rfl, rfl, by omega, rfl, small_zeros, by simp [val], hbA, hbB, hbR, hbO, c0⟩
  case round =>
    clear hbA hbB hbR hbO c0
    obtain ⟨i, cc, O, hi1, hi2, rfl, rfl, hcc, hlO, sO, hrel, hbA, hbB, hbR, hbO, bw⟩ := hrel
    have HREL := Lib.hid hrel
    have HLO := Lib.hid hlO
    clear hrel hlO
    have cA8 := hbA.sign hl.out
    have cB8 := hbB.sign hl'.out
    have cO8 := hbO.sign HLO.out
    have fO8 := hbO.frozen 8
    by_cases hi : i < 8
    · have i0 : (0 : Int) ≤ (i : Int) := by omega
      have i1 : (i : Int) < 8 := by omega
      have cA := hbA.dig i (by rw [hl.out]; omega)
      have cB := hbB.dig i (by rw [hl'.out]; omega)
      have cO := hbO.dig i (by rw [HLO.out]; omega)
      have fO := hbO.frozen i
      have la := small_getD sA i
      have lb := small_getD sB i
      have HR := Lib.hid (sub_round A B O i cc (by rw [hl.out]; omega) (by rw [hl'.out]; omega) (by rw [HLO.out]; omega) sA sB hcc HREL.out)
      generalize A.getD i 0 = a at *
      generalize B.getD i 0 = b at *
      generalize O.getD i 0 = z at *
      go_wp2
      go_quiet (fail)
      go_wp2
      go_roundg (gk - 1)
      · refine ⟨i + 1, (1 - (a + 4294967296 - b - cc) / 4294967296), O.set i ((a + 4294967296 - b - cc) % 4294967296), by omega, by omega, by go_num, congrArg (Value.int .u64) (by omega), by omega, by rw [List.length_set, HLO.out], small_set sO _ (Nat.mod_lt _ (by decide)), HR.out, (hbA.drewN _).far (p := ⟨GO, i, none⟩) (by simp; omega) _, (hbB.drewN _).far (p := ⟨GO, i, none⟩) (by simp; omega) _, (hbR.drewN _).far (p := ⟨GO, i, none⟩) (by simp; omega) _, ?_, (below_drewN bw _).setCell (p := ⟨GO, i, none⟩) (by simp; omega) _⟩
        refine (bigC_seti O true i _ _ (by rw [HLO.out]; omega) ?_) ▸ (hbO.drewN _).set_ i _
        omega
      · omega
    · obtain rfl : i = 8 := by omega
      have hv := HREL.out
      rw [List.take_of_length_le (by rw [HLO.out]; omega), List.take_of_length_le (by rw [hl'.out]; omega), List.take_of_length_le (by rw [hl.out]; omega)] at hv
      have lO := val_lt O sO
      rw [HLO.out] at lO
      have lB := val_lt B sB
      rw [hl'.out] at lB
      have hmm := HL.out
      have hfin : val O = (val A - val B) := by
        have h8 : (4294967296 ^ 8 : Nat) = 115792089237316195423570985008687907853269984665640564039457584007913129639936 := by decide
        rw [h8] at *
        omega
      have HFIN := Lib.hid hfin
      have HO := Lib.hid (digs_of sO HLO.out hfin)
      clear hv lO lB hmm hfin
      have KO := Lib.hid hbO
      go_wp2_with (first
        | (refine wpList_load_blkG rfl 51 (.tmp 5) rfl GO rfl 51 _ _ KO.out Try.underlying51 rfl (bigI_ _ _ HLO.out) ?_))
      refine (zero_any O true wr HLO.out).mono ?_
      rintro e w6 ⟨rfl, q6⟩
      have hO6 := hbO.below q6 hbO.lt
      have hR6 := hbR.below q6 hbR.lt
      have b6 := bw.trans (q6.mono bw.size)
      have cO9 := hO6.sign HLO.out
      have fO9 := hO6.frozen 8
      have hnot : (!decide (val O = 0)) = decide ((val A - val B) ≠ 0) := by rw [HFIN.out]; simp
      generalize hsg : decide ((val A - val B) ≠ 0) = sg at *
      have HSG := Lib.hid hsg
      clear hsg
      generalize decide (val O = 0) = zg at *
      have hs0 := hO6.set_ 8 (.bool sg)
      rw [bigC_set O true sg HLO.out] at hs0
      have hr0 := hR6.far (p := ⟨GO, 8, none⟩) (by simp; omega) (.bool sg)
      have KS := Lib.hid hs0
      have KR := Lib.hid hr0
      have b5 := b6.setCell (p := ⟨GO, 8, none⟩) (by simp; omega) (.bool sg)
      clear hs0 hr0 hO6 hR6 b6 q6 hbO hbR KO cO8 fO8 cA8 cB8
      go_wp2_with (first
        | (refine wpList_load_blk rfl 51 (.tmp 5) rfl GO rfl 51 _ _ KS.out Try.underlying51 rfl (bigI_ _ _ HLO.out) ?_)
        | (refine wpList_store_blk rfl 51 (.tmp 4) (.tmp 80) rfl (w.heap.size + 1 + 1) 51 _ (bigC O sg) rfl rfl KR.out (by rw [bigC_size, HLO.out]; rfl) (bigI_ _ _ HLO.out) (bigC_one _ _) ?_; intro w7 hR7 g7))
      have b7 := below_row b5 g7 b5.size (by omega)
      rw [← HO.out, HSG.out]
      exact bodyPost_ret (results_cell_row Try.results38 _ w7 (w.heap.size + 1 + 1) 51 _ (0, 0) _ rfl hR7 Try.underlying51 rfl (bigI_ _ _ HLO.out)) rfl ⟨rfl, b7⟩
set_option maxRecDepth 100000 in
set_option maxHeartbeats 4000000 in
theorem plus_fts (A B : List Nat) (w : World) (hA : A.length = 8) (hB : B.length = 8) (sA : Small A) (sB : Small B) (hlt : val A < val B) :
    Calls Try.prog 38 #[.agg (bigC A false), .agg (bigC B true)] w fun e w' => e = .returned (.agg (bigC (digs 8 (val B - val A)) (decide ((val B - val A) ≠ 0)))) ∧ Below w.heap.size w w' := by
  have hl := Lib.hid hA
  have hl' := Lib.hid hB
  have kA : (bigC A false)[8]? = some (.bool false) := bigC_sign A _ hA
  have kB : (bigC B true)[8]? = some (.bool true) := bigC_sign B _ hB
  have HL := Lib.hid hlt
  have kI := Lib.hid (bigI_ A false hA)
  have kI' := Lib.hid (bigI_ B true hB)
  clear hlt
  clear hA hB
  have hbA := ((Blk.new w 51 (bigC A false)).alloc (.cells (bigC B true) 51)).alloc (.cells #[Value.int .u64 0, .int .u64 0, .int .u64 0, .int .u64 0, .int .u64 0, .int .u64 0, .int .u64 0, .int .u64 0, .bool false] 51)
  have hbB := (Blk.new (w.alloc (.cells (bigC A false) 51)) 51 (bigC B true)).alloc (.cells #[Value.int .u64 0, .int .u64 0, .int .u64 0, .int .u64 0, .int .u64 0, .int .u64 0, .int .u64 0, .int .u64 0, .bool false] 51)
  have hbR := Blk.new ((w.alloc (.cells (bigC A false) 51)).alloc (.cells (bigC B true) 51)) 51 #[Value.int .u64 0, .int .u64 0, .int .u64 0, .int .u64 0, .int .u64 0, .int .u64 0, .int .u64 0, .int .u64 0, .bool false]
  have b0 := (((Below.refl w.heap.size w).alloc (Nat.le_refl _) (.cells (bigC A false) 51)).alloc (by simp) (.cells (bigC B true) 51)).alloc (by simp; omega) (.cells #[Value.int .u64 0, .int .u64 0, .int .u64 0, .int .u64 0, .int .u64 0, .int .u64 0, .int .u64 0, .int .u64 0, .bool false] 51)
  simp only [World.size_alloc] at hbB hbR
  have hz0 : (((w.alloc (.cells (bigC A false) 51)).alloc (.cells (bigC B true) 51)).alloc (.cells #[Value.int .u64 0, .int .u64 0, .int .u64 0, .int .u64 0, .int .u64 0, .int .u64 0, .int .u64 0, .int .u64 0, .bool false] 51)).heap.size = w.heap.size + 3 := by simp
  have KA := Lib.hid hbA
  have KB := Lib.hid hbB
  go_enter Try.func38, Try.ntmps38
  go_wp2_with (first
    | (refine wpList_load_blkG rfl 51 (.tmp 2) rfl w.heap.size rfl 51 _ _ KA.out Try.underlying51 rfl kI.out ?_)
    | (refine wpList_load_blkG rfl 51 (.tmp 3) rfl (w.heap.size + 1) rfl 51 _ _ KB.out Try.underlying51 rfl kI'.out ?_))
  generalize ((w.alloc (.cells (bigC A false) 51)).alloc (.cells (bigC B true) 51)).alloc (.cells #[Value.int .u64 0, .int .u64 0, .int .u64 0, .int .u64 0, .int .u64 0, .int .u64 0, .int .u64 0, .int .u64 0, .bool false] 51) = w1 at *
  refine (less_any A B false true w1 hl.out hl'.out sA sB).mono ?_
  rintro e w2 ⟨rfl, q⟩
  rw [decide_eq_true HL.out]
  replace hbA := hbA.below q hbA.lt
  replace hbB := hbB.below q hbB.lt
  replace hbR := hbR.below q hbR.lt
  have b2 := b0.trans (q.mono b0.size)
  have hz2 : w.heap.size + 3 ≤ w2.heap.size := by rw [← hz0]; exact q.size
  clear KA KB b0 q hz0
  have KA := Lib.hid hbA
  have KB := Lib.hid hbB
  go_wp2_with (first
    | (refine wpList_load_blk rfl 51 (.tmp 3) rfl (w.heap.size + 1) rfl 51 _ _ KB.out Try.underlying51 rfl kI'.out ?_)
    | (refine wpList_load_blk rfl 51 (.tmp 2) rfl w.heap.size rfl 51 _ _ KA.out Try.underlying51 rfl kI.out ?_)
    | (refine wpList_store_blk rfl 51 (.tmp 2) (.tmp 20) rfl w.heap.size 51 _ (bigC B true) rfl rfl KA.out (by rw [bigC_size, bigC_size, hl.out, hl'.out]) kI'.out (bigC_one _ _) ?_; intro w3 hA3 g3; have hB3 := KB.out.apart g3 (by omega))
    | (refine wpList_store_blk rfl 51 (.tmp 3) (.tmp 21) rfl (w.heap.size + 1) 51 _ (bigC A false) rfl rfl hB3 (by rw [bigC_size, bigC_size, hl.out, hl'.out]) kI.out (bigC_one _ _) ?_; intro w4 hB4 g4; have s8 := (hA3.apart g4 (by omega)).sign hl'.out))
  have hA4 := hA3.apart g4 (by omega)
  have hR4 := (hbR.apart g3 (by omega)).apart g4 (by omega)
  have b4 := below_row (below_row b2 g3 b2.size (Nat.le_refl _)) g4 (Nat.le_trans b2.size g3.size) (by omega)
  have hz4 : w.heap.size + 3 ≤ w4.heap.size := Nat.le_trans hz2 (Nat.le_trans g3.size g4.size)
  clear hbA hbB hbR KA KB hB3 hA3 g3 g4 b2 hz2
  have c0 := b4.alloc b4.size (.cells #[Value.int .u64 0, .int .u64 0, .int .u64 0, .int .u64 0, .int .u64 0, .int .u64 0, .int .u64 0, .int .u64 0, .bool true] 51)
  have hbO := Blk.new w4 51 #[Value.int .u64 0, .int .u64 0, .int .u64 0, .int .u64 0, .int .u64 0, .int .u64 0, .int .u64 0, .int .u64 0, .bool true]
  have hbA := hA4
  have hbB := hB4
  have hbR := hR4
  clear hA4 hB4 hR4
  replace hbA := hbA.alloc (.cells #[Value.int .u64 0, .int .u64 0, .int .u64 0, .int .u64 0, .int .u64 0, .int .u64 0, .int .u64 0, .int .u64 0, .bool true] 51)
  replace hbB := hbB.alloc (.cells #[Value.int .u64 0, .int .u64 0, .int .u64 0, .int .u64 0, .int .u64 0, .int .u64 0, .int .u64 0, .int .u64 0, .bool true] 51)
  replace hbR := hbR.alloc (.cells #[Value.int .u64 0, .int .u64 0, .int .u64 0, .int .u64 0, .int .u64 0, .int .u64 0, .int .u64 0, .int .u64 0, .bool true] 51)
  generalize w4.alloc (.cells #[Value.int .u64 0, .int .u64 0, .int .u64 0, .int .u64 0, .int .u64 0, .int .u64 0, .int .u64 0, .int .u64 0, .bool true] 51) = w5 at *
  clear s8
  have hz1 : w.heap.size + 1 + 1 < w4.heap.size := by omega
  clear hz4
  generalize w4.heap.size = GO at *
  go_loopg [6, 25] 8 (fun g c s wr => ∃ (i cc : Nat) (O : List Nat), i + g ≤ 8 ∧ 8 ≤ i + g ∧ s = .int .i64 i ∧ c = .int .u64 cc ∧ cc ≤ 1 ∧ O.length = 8 ∧ Small O ∧ val (O.take i) + val (A.take i) = val (B.take i) + 4294967296 ^ i * cc ∧ Blk wr w.heap.size 51 (bigC B true) ∧ Blk wr (w.heap.size + 1) 51 (bigC A false) ∧ Blk wr (w.heap.size + 1 + 1) 51 #[Value.int .u64 0, .int .u64 0, .int .u64 0, .int .u64 0, .int .u64 0, .int .u64 0, .int .u64 0, .int .u64 0, .bool false] ∧ Blk wr GO 51 (bigC O true) ∧ Below w.heap.size w wr)
  case atStart => exact ⟨0, 0, [0, 0, 0, 0, 0, 0, 0, 0], by omega, by omega, rfl, rfl, by omega, rfl, small_zeros, by simp [val], hbA, hbB, hbR, hbO, c0⟩
  case round =>
    clear hbA hbB hbR hbO c0
    obtain ⟨i, cc, O, hi1, hi2, rfl, rfl, hcc, hlO, sO, hrel, hbA, hbB, hbR, hbO, bw⟩ := hrel
    have HREL := Lib.hid hrel
    have HLO := Lib.hid hlO
    clear hrel hlO
    have cA8 := hbA.sign hl'.out
    have cB8 := hbB.sign hl.out
    have cO8 := hbO.sign HLO.out
    have fO8 := hbO.frozen 8
    by_cases hi : i < 8
    · have i0 : (0 : Int) ≤ (i : Int) := by omega
      have i1 : (i : Int) < 8 := by omega
      have cA := hbA.dig i (by rw [hl'.out]; omega)
      have cB := hbB.dig i (by rw [hl.out]; omega)
      have cO := hbO.dig i (by rw [HLO.out]; omega)
      have fO := hbO.frozen i
      have la := small_getD sB i
      have lb := small_getD sA i
      have HR := Lib.hid (sub_round B A O i cc (by rw [hl'.out]; omega) (by rw [hl.out]; omega) (by rw [HLO.out]; omega) sB sA hcc HREL.out)
      generalize B.getD i 0 = a at *
      generalize A.getD i 0 = b at *
      generalize O.getD i 0 = z at *
      go_wp2
      go_quiet (fail)
      go_wp2
      go_roundg (gk - 1)
      · refine ⟨i + 1, (1 - (a + 4294967296 - b - cc) / 4294967296), O.set i ((a + 4294967296 - b - cc) % 4294967296), by omega, by omega, by go_num, congrArg (Value.int .u64) (by omega), by omega, by rw [List.length_set, HLO.out], small_set sO _ (Nat.mod_lt _ (by decide)), HR.out, (hbA.drewN _).far (p := ⟨GO, i, none⟩) (by simp; omega) _, (hbB.drewN _).far (p := ⟨GO, i, none⟩) (by simp; omega) _, (hbR.drewN _).far (p := ⟨GO, i, none⟩) (by simp; omega) _, ?_, (below_drewN bw _).setCell (p := ⟨GO, i, none⟩) (by simp; omega) _⟩
        refine (bigC_seti O true i _ _ (by rw [HLO.out]; omega) ?_) ▸ (hbO.drewN _).set_ i _
        omega
      · omega
    · obtain rfl : i = 8 := by omega
      have hv := HREL.out
      rw [List.take_of_length_le (by rw [HLO.out]; omega), List.take_of_length_le (by rw [hl.out]; omega), List.take_of_length_le (by rw [hl'.out]; omega)] at hv
      have lO := val_lt O sO
      rw [HLO.out] at lO
      have lB := val_lt A sA
      rw [hl.out] at lB
      have hmm := HL.out
      have hfin : val O = (val B - val A) := by
        have h8 : (4294967296 ^ 8 : Nat) = 115792089237316195423570985008687907853269984665640564039457584007913129639936 := by decide
        rw [h8] at *
        omega
      have HFIN := Lib.hid hfin
      have HO := Lib.hid (digs_of sO HLO.out hfin)
      clear hv lO lB hmm hfin
      have KO := Lib.hid hbO
      go_wp2_with (first
        | (refine wpList_load_blkG rfl 51 (.tmp 5) rfl GO rfl 51 _ _ KO.out Try.underlying51 rfl (bigI_ _ _ HLO.out) ?_))
      refine (zero_any O true wr HLO.out).mono ?_
      rintro e w6 ⟨rfl, q6⟩
      have hO6 := hbO.below q6 hbO.lt
      have hR6 := hbR.below q6 hbR.lt
      have b6 := bw.trans (q6.mono bw.size)
      have cO9 := hO6.sign HLO.out
      have fO9 := hO6.frozen 8
      have hnot : (!decide (val O = 0)) = decide ((val B - val A) ≠ 0) := by rw [HFIN.out]; simp
      generalize hsg : decide ((val B - val A) ≠ 0) = sg at *
      have HSG := Lib.hid hsg
      clear hsg
      generalize decide (val O = 0) = zg at *
      have hs0 := hO6.set_ 8 (.bool sg)
      rw [bigC_set O true sg HLO.out] at hs0
      have hr0 := hR6.far (p := ⟨GO, 8, none⟩) (by simp; omega) (.bool sg)
      have KS := Lib.hid hs0
      have KR := Lib.hid hr0
      have b5 := b6.setCell (p := ⟨GO, 8, none⟩) (by simp; omega) (.bool sg)
      clear hs0 hr0 hO6 hR6 b6 q6 hbO hbR KO cO8 fO8 cA8 cB8
      go_wp2_with (first
        | (refine wpList_load_blk rfl 51 (.tmp 5) rfl GO rfl 51 _ _ KS.out Try.underlying51 rfl (bigI_ _ _ HLO.out) ?_)
        | (refine wpList_store_blk rfl 51 (.tmp 4) (.tmp 80) rfl (w.heap.size + 1 + 1) 51 _ (bigC O sg) rfl rfl KR.out (by rw [bigC_size, HLO.out]; rfl) (bigI_ _ _ HLO.out) (bigC_one _ _) ?_; intro w7 hR7 g7))
      have b7 := below_row b5 g7 b5.size (by omega)
      rw [← HO.out, HSG.out]
      exact bodyPost_ret (results_cell_row Try.results38 _ w7 (w.heap.size + 1 + 1) 51 _ (0, 0) _ rfl hR7 Try.underlying51 rfl (bigI_ _ _ HLO.out)) rfl ⟨rfl, b7⟩
set_option maxRecDepth 100000 in
set_option maxHeartbeats 4000000 in
theorem plus_ft (A B : List Nat) (w : World) (hA : A.length = 8) (hB : B.length = 8) (sA : Small A) (sB : Small B) (hlt : ¬ val A < val B) :
    Calls Try.prog 38 #[.agg (bigC A false), .agg (bigC B true)] w fun e w' => e = .returned (.agg (bigC (digs 8 (val A - val B)) false)) ∧ Below w.heap.size w w' := by
  have hl := Lib.hid hA
  have hl' := Lib.hid hB
  have kA : (bigC A false)[8]? = some (.bool false) := bigC_sign A _ hA
  have kB : (bigC B true)[8]? = some (.bool true) := bigC_sign B _ hB
  have HL := Lib.hid hlt
  have kI := Lib.hid (bigI_ A false hA)
  have kI' := Lib.hid (bigI_ B true hB)
  clear hlt
  clear hA hB
  have hbA := ((Blk.new w 51 (bigC A false)).alloc (.cells (bigC B true) 51)).alloc (.cells #[Value.int .u64 0, .int .u64 0, .int .u64 0, .int .u64 0, .int .u64 0, .int .u64 0, .int .u64 0, .int .u64 0, .bool false] 51)
  have hbB := (Blk.new (w.alloc (.cells (bigC A false) 51)) 51 (bigC B true)).alloc (.cells #[Value.int .u64 0, .int .u64 0, .int .u64 0, .int .u64 0, .int .u64 0, .int .u64 0, .int .u64 0, .int .u64 0, .bool false] 51)
  have hbR := Blk.new ((w.alloc (.cells (bigC A false) 51)).alloc (.cells (bigC B true) 51)) 51 #[Value.int .u64 0, .int .u64 0, .int .u64 0, .int .u64 0, .int .u64 0, .int .u64 0, .int .u64 0, .int .u64 0, .bool false]
  have b0 := (((Below.refl w.heap.size w).alloc (Nat.le_refl _) (.cells (bigC A false) 51)).alloc (by simp) (.cells (bigC B true) 51)).alloc (by simp; omega) (.cells #[Value.int .u64 0, .int .u64 0, .int .u64 0, .int .u64 0, .int .u64 0, .int .u64 0, .int .u64 0, .int .u64 0, .bool false] 51)
  simp only [World.size_alloc] at hbB hbR
  have hz0 : (((w.alloc (.cells (bigC A false) 51)).alloc (.cells (bigC B true) 51)).alloc (.cells #[Value.int .u64 0, .int .u64 0, .int .u64 0, .int .u64 0, .int .u64 0, .int .u64 0, .int .u64 0, .int .u64 0, .bool false] 51)).heap.size = w.heap.size + 3 := by simp
  have KA := Lib.hid hbA
  have KB := Lib.hid hbB
  go_enter Try.func38, Try.ntmps38
  go_wp2_with (first
    | (refine wpList_load_blkG rfl 51 (.tmp 2) rfl w.heap.size rfl 51 _ _ KA.out Try.underlying51 rfl kI.out ?_)
    | (refine wpList_load_blkG rfl 51 (.tmp 3) rfl (w.heap.size + 1) rfl 51 _ _ KB.out Try.underlying51 rfl kI'.out ?_))
  generalize ((w.alloc (.cells (bigC A false) 51)).alloc (.cells (bigC B true) 51)).alloc (.cells #[Value.int .u64 0, .int .u64 0, .int .u64 0, .int .u64 0, .int .u64 0, .int .u64 0, .int .u64 0, .int .u64 0, .bool false] 51) = w1 at *
  refine (less_any A B false true w1 hl.out hl'.out sA sB).mono ?_
  rintro e w2 ⟨rfl, q⟩
  rw [decide_eq_false HL.out]
  replace hbA := hbA.below q hbA.lt
  replace hbB := hbB.below q hbB.lt
  replace hbR := hbR.below q hbR.lt
  have b2 := b0.trans (q.mono b0.size)
  have hz2 : w.heap.size + 3 ≤ w2.heap.size := by rw [← hz0]; exact q.size
  clear KA KB b0 q hz0
  have KA := Lib.hid hbA
  have KB := Lib.hid hbB
  have s8 : w2.cell? ⟨w.heap.size, 8, none⟩ = some (.bool false) := hbA.sign hl.out
  have c0 := b2.alloc b2.size (.cells #[Value.int .u64 0, .int .u64 0, .int .u64 0, .int .u64 0, .int .u64 0, .int .u64 0, .int .u64 0, .int .u64 0, .bool false] 51)
  have hbO := Blk.new w2 51 #[Value.int .u64 0, .int .u64 0, .int .u64 0, .int .u64 0, .int .u64 0, .int .u64 0, .int .u64 0, .int .u64 0, .bool false]
  replace hbA := hbA.alloc (.cells #[Value.int .u64 0, .int .u64 0, .int .u64 0, .int .u64 0, .int .u64 0, .int .u64 0, .int .u64 0, .int .u64 0, .bool false] 51)
  replace hbB := hbB.alloc (.cells #[Value.int .u64 0, .int .u64 0, .int .u64 0, .int .u64 0, .int .u64 0, .int .u64 0, .int .u64 0, .int .u64 0, .bool false] 51)
  replace hbR := hbR.alloc (.cells #[Value.int .u64 0, .int .u64 0, .int .u64 0, .int .u64 0, .int .u64 0, .int .u64 0, .int .u64 0, .int .u64 0, .bool false] 51)
  clear KA KB
  go_wp2
  generalize w2.alloc (.cells #[Value.int .u64 0, .int .u64 0, .int .u64 0, .int .u64 0, .int .u64 0, .int .u64 0, .int .u64 0, .int .u64 0, .bool false] 51) = w5 at *
  clear s8
  have hz1 : w.heap.size + 1 + 1 < w2.heap.size := by omega
  clear hz2
  generalize w2.heap.size = GO at *
  go_loopg [6, 25] 8 (fun g c s wr => ∃ (i cc : Nat) (O : List Nat), i + g ≤ 8 ∧ 8 ≤ i + g ∧ s = .int .i64 i ∧ c = .int .u64 cc ∧ cc ≤ 1 ∧ O.length = 8 ∧ Small O ∧ val (O.take i) + val (B.take i) = val (A.take i) + 4294967296 ^ i * cc ∧ Blk wr w.heap.size 51 (bigC A false) ∧ Blk wr (w.heap.size + 1) 51 (bigC B true) ∧ Blk wr (w.heap.size + 1 + 1) 51 #[Value.int .u64 0, .int .u64 0, .int .u64 0, .int .u64 0, .int .u64 0, .int .u64 0, .int .u64 0, .int .u64 0, .bool false] ∧ Blk wr GO 51 (bigC O false) ∧ Below w.heap.size w wr)
  case atStart => exact ⟨0, 0, [0, 0, 0, 0, 0, 0, 0, 0], by omega, by omega, rfl, rfl, by omega, rfl, small_zeros, by simp [val], hbA, hbB, hbR, hbO, c0⟩
  case round =>
    clear hbA hbB hbR hbO c0
    obtain ⟨i, cc, O, hi1, hi2, rfl, rfl, hcc, hlO, sO, hrel, hbA, hbB, hbR, hbO, bw⟩ := hrel
    have HREL := Lib.hid hrel
    have HLO := Lib.hid hlO
    clear hrel hlO
    have cA8 := hbA.sign hl.out
    have cB8 := hbB.sign hl'.out
    have cO8 := hbO.sign HLO.out
    have fO8 := hbO.frozen 8
    by_cases hi : i < 8
    · have i0 : (0 : Int) ≤ (i : Int) := by omega
      have i1 : (i : Int) < 8 := by omega
      have cA := hbA.dig i (by rw [hl.out]; omega)
      have cB := hbB.dig i (by rw [hl'.out]; omega)
      have cO := hbO.dig i (by rw [HLO.out]; omega)
      have fO := hbO.frozen i
      have la := small_getD sA i
      have lb := small_getD sB i
      have HR := Lib.hid (sub_round A B O i cc (by rw [hl.out]; omega) (by rw [hl'.out]; omega) (by rw [HLO.out]; omega) sA sB hcc HREL.out)
      generalize A.getD i 0 = a at *
      generalize B.getD i 0 = b at *
      generalize O.getD i 0 = z at *
      go_wp2
      go_quiet (fail)
      go_wp2
      go_roundg (gk - 1)
      · refine ⟨i + 1, (1 - (a + 4294967296 - b - cc) / 4294967296), O.set i ((a + 4294967296 - b - cc) % 4294967296), by omega, by omega, by go_num, congrArg (Value.int .u64) (by omega), by omega, by rw [List.length_set, HLO.out], small_set sO _ (Nat.mod_lt _ (by decide)), HR.out, (hbA.drewN _).far (p := ⟨GO, i, none⟩) (by simp; omega) _, (hbB.drewN _).far (p := ⟨GO, i, none⟩) (by simp; omega) _, (hbR.drewN _).far (p := ⟨GO, i, none⟩) (by simp; omega) _, ?_, (below_drewN bw _).setCell (p := ⟨GO, i, none⟩) (by simp; omega) _⟩
        refine (bigC_seti O false i _ _ (by rw [HLO.out]; omega) ?_) ▸ (hbO.drewN _).set_ i _
        omega
      · omega
    · obtain rfl : i = 8 := by omega
      have hv := HREL.out
      rw [List.take_of_length_le (by rw [HLO.out]; omega), List.take_of_length_le (by rw [hl'.out]; omega), List.take_of_length_le (by rw [hl.out]; omega)] at hv
      have lO := val_lt O sO
      rw [HLO.out] at lO
      have lB := val_lt B sB
      rw [hl'.out] at lB
      have hmm := HL.out
      have hfin : val O = (val A - val B) := by
        have h8 : (4294967296 ^ 8 : Nat) = 115792089237316195423570985008687907853269984665640564039457584007913129639936 := by decide
        rw [h8] at *
        omega
      have HFIN := Lib.hid hfin
      have HO := Lib.hid (digs_of sO HLO.out hfin)
      clear hv lO lB hmm hfin
      have KO := Lib.hid hbO
      have hs0 := hbO.set_ 8 (.bool false)
      rw [bigC_set O false false HLO.out] at hs0
      have hr0 := hbR.far (p := ⟨GO, 8, none⟩) (by simp; omega) (.bool false)
      have KS := Lib.hid hs0
      have KR := Lib.hid hr0
      have b5 := bw.setCell (p := ⟨GO, 8, none⟩) (by simp; omega) (.bool false)
      clear hs0 hr0 hbO hbR
      go_wp2_with (first
        | (refine wpList_load_blk rfl 51 (.tmp 5) rfl GO rfl 51 _ _ KS.out Try.underlying51 rfl (bigI_ _ _ HLO.out) ?_)
        | (refine wpList_store_blk rfl 51 (.tmp 4) (.tmp 80) rfl (w.heap.size + 1 + 1) 51 _ (bigC O false) rfl rfl KR.out (by rw [bigC_size, HLO.out]; rfl) (bigI_ _ _ HLO.out) (bigC_one _ _) ?_; intro w7 hR7 g7))
      have b7 := below_row b5 g7 b5.size (by omega)
      rw [← HO.out]
      exact bodyPost_ret (results_cell_row Try.results38 _ w7 (w.heap.size + 1 + 1) 51 _ (0, 0) _ rfl hR7 Try.underlying51 rfl (bigI_ _ _ HLO.out)) rfl ⟨rfl, b7⟩
theorem plus_any (x y : Int) (w : World) (hx : x.natAbs < 4294967296 ^ 7) (hy : y.natAbs < 4294967296 ^ 7) :
    Calls Try.prog 38 #[bigV x, bigV y] w fun e w' => e = .returned (bigV (x + y)) ∧ Below w.heap.size w w' := by
  have h7 : (4294967296 ^ 7 : Nat) = 26959946667150639794667015087019630673637144422540572481103610249216 := by decide
  have h8 : (4294967296 ^ 8 : Nat) = 115792089237316195423570985008687907853269984665640564039457584007913129639936 := by decide
  have vx := val_digs 8 x.natAbs (by rw [h7] at hx; rw [h8]; omega)
  have vy := val_digs 8 y.natAbs (by rw [h7] at hy; rw [h8]; omega)
  have lx := digs_len 8 x.natAbs
  have ly := digs_len 8 y.natAbs
  have sx := digs_small 8 x.natAbs
  have sy := digs_small 8 y.natAbs
  rw [h7] at hx hy
  unfold bigV
  by_cases h1 : x < 0 <;> by_cases h2 : y < 0
  · have := plus_tt _ _ w lx ly sx sy (by rw [vx, vy, h8]; omega)
    rw [vx, vy] at this
    rw [decide_eq_true h1, decide_eq_true h2, show (x + y).natAbs = x.natAbs + y.natAbs from by omega, show decide (x + y < 0) = decide (x.natAbs + y.natAbs ≠ 0) from by rw [decide_eq_decide]; omega]
    exact this
  · rw [decide_eq_true h1, decide_eq_false h2]
    by_cases hl : x.natAbs < y.natAbs
    · have := plus_tfs _ _ w lx ly sx sy (by rw [vx, vy]; exact hl)
      rw [vx, vy] at this
      rw [show (x + y).natAbs = y.natAbs - x.natAbs from by omega, show decide (x + y < 0) = false from by simp; omega]
      exact this
    · have := plus_tf _ _ w lx ly sx sy (by rw [vx, vy]; exact hl)
      rw [vx, vy] at this
      rw [show (x + y).natAbs = x.natAbs - y.natAbs from by omega, show decide (x + y < 0) = decide (x.natAbs - y.natAbs ≠ 0) from by rw [decide_eq_decide]; omega]
      exact this
  · rw [decide_eq_false h1, decide_eq_true h2]
    by_cases hl : x.natAbs < y.natAbs
    · have := plus_fts _ _ w lx ly sx sy (by rw [vx, vy]; exact hl)
      rw [vx, vy] at this
      rw [show (x + y).natAbs = y.natAbs - x.natAbs from by omega, show decide (x + y < 0) = decide (y.natAbs - x.natAbs ≠ 0) from by rw [decide_eq_decide]; omega]
      exact this
    · have := plus_ft _ _ w lx ly sx sy (by rw [vx, vy]; exact hl)
      rw [vx, vy] at this
      rw [show (x + y).natAbs = x.natAbs - y.natAbs from by omega, show decide (x + y < 0) = false from by simp; omega]
      exact this
  · have := plus_ff _ _ w lx ly sx sy (by rw [vx, vy, h8]; omega)
    rw [vx, vy] at this
    rw [decide_eq_false h1, decide_eq_false h2, show (x + y).natAbs = x.natAbs + y.natAbs from by omega, show decide (x + y < 0) = false from by simp; omega]
    exact this

end Go.Proofs.Ytemakmgppafccaa
