/- The reference's numbers back to 128 bits. Conditions: as each states. -/
import Derived.Test.YtemakmgppafccaaBigTimes
import Derived.Test.YtemakmgppafccaaBitsI
namespace Go.Proofs.Ytemakmgppafccaa
open Go.RowKit Go.Proofs.Big
def fitB (z : Int) : Bool := decide (-170141183460469231731687303715884105728 ≤ z ∧ z < 170141183460469231731687303715884105728)
set_option maxRecDepth 100000 in
set_option maxHeartbeats 2000000 in
theorem fits_pos (d0 d1 d2 d3 hi lo _ch _cl _hi2 _lo2 n : Int) (w : World) (h0 : 0 ≤ d0 ∧ d0 < 4294967296) (h1 : 0 ≤ d1 ∧ d1 < 4294967296) (h2 : 0 ≤ d2 ∧ d2 < 4294967296) (h3 : 0 ≤ d3 ∧ d3 < 4294967296)
    (hH : d3 * 4294967296 + d2 = hi) (hL : d1 * 4294967296 + d0 = lo) (hn : IntKind.i64.wrap hi = n) :
    Calls Try.prog 51 #[.agg #[.int .u64 d0, .int .u64 d1, .int .u64 d2, .int .u64 d3, .int .u64 0, .int .u64 0, .int .u64 0, .int .u64 0, .bool false]] w fun e w' => e = .returned (.tuple #[.int .i64 n, .int .u64 lo, .bool (!decide (n < 0))]) ∧ Below w.heap.size w w' := by
  have hsig : IntKind.u64.signed = false := rfl
  have hb := Blk.new w 51 #[.int .u64 d0, .int .u64 d1, .int .u64 d2, .int .u64 d3, .int .u64 0, .int .u64 0, .int .u64 0, .int .u64 0, .bool false]
  have c0 := (Below.refl w.heap.size w).alloc (Nat.le_refl _) (.cells #[.int .u64 d0, .int .u64 d1, .int .u64 d2, .int .u64 d3, .int .u64 0, .int .u64 0, .int .u64 0, .int .u64 0, .bool false] 51)
  go_enter Try.func51, Try.ntmps51
  go_wp2
  go_quiet (fail)
  generalize w.alloc (.cells #[.int .u64 d0, .int .u64 d1, .int .u64 d2, .int .u64 d3, .int .u64 0, .int .u64 0, .int .u64 0, .int .u64 0, .bool false] 51) = w1 at *
  go_wp2
  go_loopg [7] 4 (fun g s wr => ∃ (i : Nat), 4 ≤ i ∧ i + g ≤ 8 ∧ 8 ≤ i + g ∧ s = .int .i64 i ∧ Blk wr w.heap.size 51 #[.int .u64 d0, .int .u64 d1, .int .u64 d2, .int .u64 d3, .int .u64 0, .int .u64 0, .int .u64 0, .int .u64 0, .bool false] ∧ Below w.heap.size w wr)
  case atStart => exact ⟨4, by omega, by omega, by omega, rfl, hb.drewN _, below_drewN c0 _⟩
  case round =>
    clear hb c0
    obtain ⟨i, hi0, hi1, hi2, rfl, hb, bw⟩ := hrel
    by_cases hi8 : i < 8
    · have hc : i = 4 ∨ i = 5 ∨ i = 6 ∨ i = 7 := by omega
      have ci : wr.cell? ⟨w.heap.size, i, none⟩ = some (.int .u64 0) := by
        rw [hb.cell i]
        rcases hc with rfl | rfl | rfl | rfl <;> rfl
      have i0 : (0 : Int) ≤ (i : Int) := by omega
      have i1 : (i : Int) < 8 := by omega
      clear hc
      go_wp2
      go_roundg (gk - 1)
      · exact ⟨i + 1, by omega, by omega, by omega, by go_num, hb, bw⟩
      · omega
    · obtain rfl : i = 8 := by omega
      have c8 : wr.cell? ⟨w.heap.size, 8, none⟩ = some (.bool false) := hb.cell 8
      go_wp2
      go_quiet (fail)
      go_wp2
      go_ret3
      exact ⟨rfl, below_drewN bw _⟩
set_option maxRecDepth 100000 in
set_option maxHeartbeats 2000000 in
theorem fits_negc (d0 d1 d2 d3 hi lo ch cl hi2 lo2 n : Int) (w : World) (h0 : 0 ≤ d0 ∧ d0 < 4294967296) (h1 : 0 ≤ d1 ∧ d1 < 4294967296) (h2 : 0 ≤ d2 ∧ d2 < 4294967296) (h3 : 0 ≤ d3 ∧ d3 < 4294967296)
    (hH : d3 * 4294967296 + d2 = hi) (hL : d1 * 4294967296 + d0 = lo) (hch : bits .xor .u64 IntKind.u64.max hi = ch) (hcl : bits .xor .u64 IntKind.u64.max lo = cl) (hlo : IntKind.u64.wrap (cl + 1) = lo2) (ht : (lo2 == 0) = true) (hhi : IntKind.u64.wrap (ch + 1) = hi2) (hn : IntKind.i64.wrap hi2 = n) :
    Calls Try.prog 51 #[.agg #[.int .u64 d0, .int .u64 d1, .int .u64 d2, .int .u64 d3, .int .u64 0, .int .u64 0, .int .u64 0, .int .u64 0, .bool true]] w fun e w' => e = .returned (.tuple #[.int .i64 n, .int .u64 lo2, .bool (decide (n < 0))]) ∧ Below w.heap.size w w' := by
  have hsig : IntKind.u64.signed = false := rfl
  have hb := Blk.new w 51 #[.int .u64 d0, .int .u64 d1, .int .u64 d2, .int .u64 d3, .int .u64 0, .int .u64 0, .int .u64 0, .int .u64 0, .bool true]
  have c0 := (Below.refl w.heap.size w).alloc (Nat.le_refl _) (.cells #[.int .u64 d0, .int .u64 d1, .int .u64 d2, .int .u64 d3, .int .u64 0, .int .u64 0, .int .u64 0, .int .u64 0, .bool true] 51)
  go_enter Try.func51, Try.ntmps51
  go_wp2
  go_quiet (fail)
  generalize w.alloc (.cells #[.int .u64 d0, .int .u64 d1, .int .u64 d2, .int .u64 d3, .int .u64 0, .int .u64 0, .int .u64 0, .int .u64 0, .bool true] 51) = w1 at *
  go_wp2
  go_loopg [7] 4 (fun g s wr => ∃ (i : Nat), 4 ≤ i ∧ i + g ≤ 8 ∧ 8 ≤ i + g ∧ s = .int .i64 i ∧ Blk wr w.heap.size 51 #[.int .u64 d0, .int .u64 d1, .int .u64 d2, .int .u64 d3, .int .u64 0, .int .u64 0, .int .u64 0, .int .u64 0, .bool true] ∧ Below w.heap.size w wr)
  case atStart => exact ⟨4, by omega, by omega, by omega, rfl, hb.drewN _, below_drewN c0 _⟩
  case round =>
    clear hb c0
    obtain ⟨i, hi0, hi1, hi2, rfl, hb, bw⟩ := hrel
    by_cases hi8 : i < 8
    · have hc : i = 4 ∨ i = 5 ∨ i = 6 ∨ i = 7 := by omega
      have ci : wr.cell? ⟨w.heap.size, i, none⟩ = some (.int .u64 0) := by
        rw [hb.cell i]
        rcases hc with rfl | rfl | rfl | rfl <;> rfl
      have i0 : (0 : Int) ≤ (i : Int) := by omega
      have i1 : (i : Int) < 8 := by omega
      clear hc
      go_wp2
      go_roundg (gk - 1)
      · exact ⟨i + 1, by omega, by omega, by omega, by go_num, hb, bw⟩
      · omega
    · obtain rfl : i = 8 := by omega
      have c8 : wr.cell? ⟨w.heap.size, 8, none⟩ = some (.bool true) := hb.cell 8
      go_wp2
      go_quiet (fail)
      go_wp2
      go_ret3
      exact ⟨rfl, below_drewN bw _⟩
set_option maxRecDepth 100000 in
set_option maxHeartbeats 2000000 in
theorem fits_negn (d0 d1 d2 d3 hi lo ch cl _hi2 lo2 n : Int) (w : World) (h0 : 0 ≤ d0 ∧ d0 < 4294967296) (h1 : 0 ≤ d1 ∧ d1 < 4294967296) (h2 : 0 ≤ d2 ∧ d2 < 4294967296) (h3 : 0 ≤ d3 ∧ d3 < 4294967296)
    (hH : d3 * 4294967296 + d2 = hi) (hL : d1 * 4294967296 + d0 = lo) (hch : bits .xor .u64 IntKind.u64.max hi = ch) (hcl : bits .xor .u64 IntKind.u64.max lo = cl) (hlo : IntKind.u64.wrap (cl + 1) = lo2) (ht : (lo2 == 0) = false) (hn : IntKind.i64.wrap ch = n) :
    Calls Try.prog 51 #[.agg #[.int .u64 d0, .int .u64 d1, .int .u64 d2, .int .u64 d3, .int .u64 0, .int .u64 0, .int .u64 0, .int .u64 0, .bool true]] w fun e w' => e = .returned (.tuple #[.int .i64 n, .int .u64 lo2, .bool (decide (n < 0))]) ∧ Below w.heap.size w w' := by
  have hsig : IntKind.u64.signed = false := rfl
  have hb := Blk.new w 51 #[.int .u64 d0, .int .u64 d1, .int .u64 d2, .int .u64 d3, .int .u64 0, .int .u64 0, .int .u64 0, .int .u64 0, .bool true]
  have c0 := (Below.refl w.heap.size w).alloc (Nat.le_refl _) (.cells #[.int .u64 d0, .int .u64 d1, .int .u64 d2, .int .u64 d3, .int .u64 0, .int .u64 0, .int .u64 0, .int .u64 0, .bool true] 51)
  go_enter Try.func51, Try.ntmps51
  go_wp2
  go_quiet (fail)
  generalize w.alloc (.cells #[.int .u64 d0, .int .u64 d1, .int .u64 d2, .int .u64 d3, .int .u64 0, .int .u64 0, .int .u64 0, .int .u64 0, .bool true] 51) = w1 at *
  go_wp2
  go_loopg [7] 4 (fun g s wr => ∃ (i : Nat), 4 ≤ i ∧ i + g ≤ 8 ∧ 8 ≤ i + g ∧ s = .int .i64 i ∧ Blk wr w.heap.size 51 #[.int .u64 d0, .int .u64 d1, .int .u64 d2, .int .u64 d3, .int .u64 0, .int .u64 0, .int .u64 0, .int .u64 0, .bool true] ∧ Below w.heap.size w wr)
  case atStart => exact ⟨4, by omega, by omega, by omega, rfl, hb.drewN _, below_drewN c0 _⟩
  case round =>
    clear hb c0
    obtain ⟨i, hi0, hi1, hi2, rfl, hb, bw⟩ := hrel
    by_cases hi8 : i < 8
    · have hc : i = 4 ∨ i = 5 ∨ i = 6 ∨ i = 7 := by omega
      have ci : wr.cell? ⟨w.heap.size, i, none⟩ = some (.int .u64 0) := by
        rw [hb.cell i]
        rcases hc with rfl | rfl | rfl | rfl <;> rfl
      have i0 : (0 : Int) ≤ (i : Int) := by omega
      have i1 : (i : Int) < 8 := by omega
      clear hc
      go_wp2
      go_roundg (gk - 1)
      · exact ⟨i + 1, by omega, by omega, by omega, by go_num, hb, bw⟩
      · omega
    · obtain rfl : i = 8 := by omega
      have c8 : wr.cell? ⟨w.heap.size, 8, none⟩ = some (.bool true) := hb.cell 8
      go_wp2
      go_quiet (fail)
      go_wp2
      go_ret3
      exact ⟨rfl, below_drewN bw _⟩
set_option maxRecDepth 100000 in
set_option maxHeartbeats 2000000 in
theorem fits_big (D : List Nat) (x : Bool) (w : World) (hD : D.length = 8) (sD : Small D) (hne : ∃ j, 4 ≤ j ∧ j < 8 ∧ D.getD j 0 ≠ 0) :
    Calls Try.prog 51 #[.agg (bigC D x)] w fun e w' => e = .returned (.tuple #[.int .i64 0, .int .u64 0, .bool false]) ∧ Below w.heap.size w w' := by
  have hl := Lib.hid hD
  have HNE := Lib.hid hne
  have s0 := small_getD sD 0
  have s1 := small_getD sD 1
  have s2 := small_getD sD 2
  have s3 := small_getD sD 3
  have k0 : (bigC D x)[0]? = some (.int .u64 (D.getD 0 0 : Nat)) := bigC_at D x 0 (by omega)
  have k1 : (bigC D x)[1]? = some (.int .u64 (D.getD 1 0 : Nat)) := bigC_at D x 1 (by omega)
  have k2 : (bigC D x)[2]? = some (.int .u64 (D.getD 2 0 : Nat)) := bigC_at D x 2 (by omega)
  have k3 : (bigC D x)[3]? = some (.int .u64 (D.getD 3 0 : Nat)) := bigC_at D x 3 (by omega)
  clear hD hne
  generalize D.getD 0 0 = d0 at *
  generalize D.getD 1 0 = d1 at *
  generalize D.getD 2 0 = d2 at *
  generalize D.getD 3 0 = d3 at *
  have hb := Blk.new w 51 (bigC D x)
  have c0 := (Below.refl w.heap.size w).alloc (Nat.le_refl _) (.cells (bigC D x) 51)
  go_enter Try.func51, Try.ntmps51
  go_wp2
  go_quiet (fail)
  generalize w.alloc (.cells (bigC D x) 51) = w1 at *
  go_wp2
  go_loopg [7] 4 (fun g s wr => ∃ (i : Nat), 4 ≤ i ∧ i + g ≤ 8 ∧ 8 ≤ i + g ∧ s = .int .i64 i ∧ (∀ j, 4 ≤ j → j < i → D.getD j 0 = 0) ∧ Blk wr w.heap.size 51 (bigC D x) ∧ Below w.heap.size w wr)
  case atStart => exact ⟨4, by omega, by omega, by omega, rfl, fun j _ _ => by omega, hb.drewN _, below_drewN c0 _⟩
  case round =>
    clear hb c0
    obtain ⟨i, hi0, hi1, hi2, rfl, hz, hb, bw⟩ := hrel
    have HZ := Lib.hid hz
    clear hz
    by_cases hi8 : i < 8
    · have ci := hb.dig i (by rw [hl.out]; omega)
      have i0 : (0 : Int) ≤ (i : Int) := by omega
      have i1 : (i : Int) < 8 := by omega
      by_cases hd : D.getD i 0 = 0
      · have HD := Lib.hid hd
        rw [hd] at ci
        clear hd
        go_wp2
        go_roundg (gk - 1)
        · refine ⟨i + 1, by omega, by omega, by omega, by go_num, fun j h1 h2 => ?_, hb, bw⟩
          by_cases hji : j = i
          · subst hji; exact HD.out
          · exact HZ.out j h1 (by omega)
        · omega
      · have hq : (((D.getD i 0 : Nat) : Int) != 0) = true := ibne_t (by omega)
        generalize D.getD i 0 = z at *
        clear hd
        go_wp2
        go_ret3
        exact ⟨rfl, bw⟩
    · exfalso
      obtain ⟨j, h1, h2, h3⟩ := HNE.out
      exact h3 (HZ.out j h1 (by omega))
/-- what Fits answers -/
def FitsP (z : Int) (w : World) (e : Ending) (w' : World) : Prop := ∃ n u : Int, e = .returned (.tuple #[.int .i64 n, .int .u64 u, .bool (fitB z)]) ∧ (fitB z = true → n = z / 18446744073709551616 ∧ u = z % 18446744073709551616) ∧ (0 ≤ u ∧ u < 18446744073709551616) ∧ Below w.heap.size w w'
theorem ret3 {n u : Int} {b c : Bool} (h : b = c) : Ending.returned (.tuple #[.int .i64 n, .int .u64 u, .bool b]) = .returned (.tuple #[.int .i64 n, .int .u64 u, .bool c]) := by rw [h]
theorem wrap_i64 (n : Int) (h : 0 ≤ n ∧ n < 18446744073709551616) : IntKind.i64.wrap n = if n < 9223372036854775808 then n else n - 18446744073709551616 := by
  rw [wrap_i, Int.bmod_def]
  split <;> split <;> omega
theorem fits_any (z : Int) (w : World) (hz : z.natAbs < 4294967296 ^ 8) :
    Calls Try.prog 51 #[bigV z] w (FitsP z w) := by
  by_cases hm : z.natAbs < 340282366920938463463374607431768211456
  · obtain ⟨hi, lo, hhi, hlo, hzz⟩ : ∃ hi lo : Int, (0 ≤ hi ∧ hi < 18446744073709551616) ∧ (0 ≤ lo ∧ lo < 18446744073709551616) ∧ (z.natAbs : Int) = hi * 18446744073709551616 + lo := ⟨(z.natAbs : Int) / 18446744073709551616, (z.natAbs : Int) % 18446744073709551616, by omega, by omega, by omega⟩
    rw [← bigV_hl z hi lo _ hhi hlo hzz rfl]
    have eH : hi / 4294967296 * 4294967296 + hi % 4294967296 = hi := by omega
    have eL : lo / 4294967296 * 4294967296 + lo % 4294967296 = lo := by omega
    by_cases hn : z < 0
    · rw [decide_eq_true hn]
      have hch := not_u hi hhi.1 hhi.2
      have hcl := not_u lo hlo.1 hlo.2
      by_cases h0 : lo = 0
      · have w1 : IntKind.u64.wrap (18446744073709551615 - hi + 1) = 18446744073709551616 - hi := by rw [wrap_u]; omega
        refine (fits_negc _ _ _ _ hi lo _ _ _ 0 _ w (by omega) (by omega) (by omega) (by omega) eH eL hch hcl (by rw [wrap_u]; omega) rfl w1 (wrap_i64 _ (by omega))).mono ?_
        rintro e w' ⟨rfl, b⟩
        refine ⟨_, _, ret3 (show _ = fitB z from ?_), ?_, ?_, b⟩
        · unfold fitB
          rw [decide_eq_decide]
          split <;> omega
        · intro hf
          simp only [fitB, decide_eq_true_eq] at hf
          split <;> omega
        · omega
      · have w1 : IntKind.u64.wrap (18446744073709551615 - lo + 1) = 18446744073709551616 - lo := by rw [wrap_u]; omega
        refine (fits_negn _ _ _ _ hi lo _ _ 0 _ _ w (by omega) (by omega) (by omega) (by omega) eH eL hch hcl w1 (ibeq_f (by omega)) (wrap_i64 _ (by omega))).mono ?_
        rintro e w' ⟨rfl, b⟩
        refine ⟨_, _, ret3 (show _ = fitB z from ?_), ?_, ?_, b⟩
        · unfold fitB
          rw [decide_eq_decide]
          split <;> omega
        · intro hf
          simp only [fitB, decide_eq_true_eq] at hf
          split <;> omega
        · omega
    · rw [decide_eq_false hn]
      refine (fits_pos _ _ _ _ hi lo 0 0 0 0 _ w (by omega) (by omega) (by omega) (by omega) eH eL (wrap_i64 _ hhi)).mono ?_
      rintro e w' ⟨rfl, b⟩
      refine ⟨_, _, ret3 (show _ = fitB z from ?_), ?_, ?_, b⟩
      · unfold fitB
        rw [← decide_not, decide_eq_decide]
        split <;> omega
      · intro hf
        simp only [fitB, decide_eq_true_eq] at hf
        split <;> omega
      · omega
  · have hne : ∃ j, 4 ≤ j ∧ j < 8 ∧ (digs 8 z.natAbs).getD j 0 ≠ 0 := by
      refine Classical.byContradiction fun h => hm ?_
      have hall : ∀ j, 4 ≤ j → j < 8 → (digs 8 z.natAbs).getD j 0 = 0 := fun j h1 h2 => Classical.byContradiction fun h3 => h ⟨j, h1, h2, h3⟩
      have hd := digs_small 8 z.natAbs
      have hv := val_digs 8 z.natAbs hz
      obtain ⟨d0, d1, d2, d3, d4, d5, d6, d7, e⟩ := eight (digs_len 8 z.natAbs)
      rw [e] at hall hd hv
      have a4 := hall 4 (by omega) (by omega)
      have a5 := hall 5 (by omega) (by omega)
      have a6 := hall 6 (by omega) (by omega)
      have a7 := hall 7 (by omega) (by omega)
      have b0 := hd d0 (by simp)
      have b1 := hd d1 (by simp)
      have b2 := hd d2 (by simp)
      have b3 := hd d3 (by simp)
      simp only [List.getD, List.getElem?_cons_succ, List.getElem?_cons_zero, Option.getD_some] at a4 a5 a6 a7
      simp only [val] at hv
      omega
    have hf : fitB z = false := by
      unfold fitB
      rw [decide_eq_false_iff_not]
      omega
    refine (fits_big _ _ w (digs_len _ _) (digs_small _ _) hne).mono ?_
    rintro e w' ⟨rfl, b⟩
    exact ⟨0, 0, by rw [hf], (fun h => by simp [hf] at h), by omega, b⟩
end Go.Proofs.Ytemakmgppafccaa
