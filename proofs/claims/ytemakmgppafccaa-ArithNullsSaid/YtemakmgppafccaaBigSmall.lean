/- The reference's numbers back to 64 bits, and sums under way. Conditions: as each states. -/
import Derived.Test.YtemakmgppafccaaBigFits
import Derived.Test.YtemakmgppafccaaAre
namespace Go.Proofs.Ytemakmgppafccaa
open Go.RowKit Go.Proofs.Big
def smallB (z : Int) : Bool := decide (-9223372036854775808 ≤ z ∧ z < 9223372036854775808)
def SmallP (z : Int) (w : World) (e : Ending) (w' : World) : Prop := ∃ n : Int, e = .returned (.tuple #[.int .i64 n, .bool (smallB z)]) ∧ (smallB z = true → n = z) ∧ Below w.heap.size w w'
theorem ret2b {n : Int} {b c : Bool} (h : b = c) : Ending.returned (.tuple #[.int .i64 n, .bool b]) = .returned (.tuple #[.int .i64 n, .bool c]) := by rw [h]
set_option maxRecDepth 100000 in
set_option maxHeartbeats 2000000 in
theorem small_any (z : Int) (w : World) (hz : z.natAbs < 4294967296 ^ 8) :
    Calls Try.prog 31 #[bigV z] w (SmallP z w) := by
  have hb := Blk.new w 51 (bigC (digs 8 z.natAbs) (decide (z < 0)))
  have b0 := (Below.refl w.heap.size w).alloc (Nat.le_refl _) (.cells (bigC (digs 8 z.natAbs) (decide (z < 0))) 51)
  have HF := Lib.hid (fun w => fits_any z w hz)
  have hl := Lib.hid (digs_len 8 z.natAbs)
  clear hz
  unfold bigV at *
  generalize digs 8 z.natAbs = D at *
  go_enter Try.func31, Try.ntmps31
  go_wp2_with (refine wpList_load_blk rfl 51 (.tmp 1) rfl w.heap.size rfl 51 _ _ hb Try.underlying51 rfl (bigI_ _ _ hl.out) ?_)
  generalize w.alloc (.cells (bigC D (decide (z < 0))) 51) = w1 at *
  refine (HF.out w1).mono ?_
  rintro e w2 ⟨n, u, rfl, hnu, ⟨hu0, hu1⟩, q⟩
  have b2 := b0.trans (q.mono b0.size)
  clear hb b0 q HF
  by_cases hf : fitB z = true
  · obtain ⟨rfl, rfl⟩ := hnu hf
    rw [hf]
    have hf' : -170141183460469231731687303715884105728 ≤ z ∧ z < 170141183460469231731687303715884105728 := by simpa [fitB] using hf
    have HF := Lib.hid hf'
    have hw := wrap_i64 (z % 18446744073709551616) ⟨hu0, hu1⟩
    generalize hh : z / 18446744073709551616 = h at *
    generalize hm : z % 18446744073709551616 = m at *
    generalize hn : IntKind.i64.wrap m = n at *
    have HN := Lib.hid hn
    have HH := Lib.hid hh
    have HM := Lib.hid hm
    have HW := Lib.hid hw
    have HU0 := Lib.hid hu0
    have HU1 := Lib.hid hu1
    clear hf hf' hh hm hw hu0 hu1 hnu
    go_wp2
    all_goals
      go_ret2
      have h1 := HF.out
      have h2 := HH.out
      have h3 := HM.out
      have h4 := HW.out
      have h5 := HU0.out
      have h6 := HU1.out
      refine ⟨_, ret2b (show _ = smallB z from ?_), fun hs => ?_, b2⟩
      · unfold smallB
        rw [Bool.eq_iff_iff]
        split at h4 <;> (simp; omega)
      · simp only [smallB, decide_eq_true_eq] at hs
        split at h4 <;> omega
  · have hf' : fitB z = false := by simpa using hf
    rw [hf']
    have hs : smallB z = false := by
      simp only [fitB, decide_eq_false_iff_not] at hf'
      unfold smallB
      rw [decide_eq_false_iff_not]
      omega
    have HS := Lib.hid hs
    clear hf hf' hs hnu
    go_wp2
    go_ret2
    exact ⟨_, ret2b HS.out.symm, (fun h => by rw [HS.out] at h; cases h), b2⟩
end Go.Proofs.Ytemakmgppafccaa
