/- The reference's numbers: with the other sign. Conditions: as each states. -/
import Derived.Test.YtemakmgppafccaaBigInt
namespace Go.Proofs.Ytemakmgppafccaa
open Go.RowKit Go.Proofs.Big
set_option maxHeartbeats 1000000 in
theorem turned_t (D : List Nat) (w : World) (hD : D.length = 8) :
    Calls Try.prog 47 #[.agg (bigC D true)] w fun e w' => e = .returned (.agg (bigC D false)) ∧ Below w.heap.size w w' := by
  obtain ⟨d0, d1, d2, d3, d4, d5, d6, d7, rfl⟩ := eight hD
  clear hD
  rw [b8, b8]
  go_enter Try.func47, Try.ntmps47
  go_wp2
  refine bodyPost_ret (v := .agg #[.int .u64 d0, .int .u64 d1, .int .u64 d2, .int .u64 d3, .int .u64 d4, .int .u64 d5, .int .u64 d6, .int .u64 d7, .bool false]) (by simp [results, Try.results47, go_sem]) rfl ⟨rfl, ((Below.refl _ _).alloc (Nat.le_refl _) _).alloc (by simp) _⟩
set_option maxHeartbeats 1000000 in
theorem turned_f (D : List Nat) (w : World) (hD : D.length = 8) :
    Calls Try.prog 47 #[.agg (bigC D false)] w fun e w' => e = .returned (.agg (bigC D (decide (val D ≠ 0)))) ∧ Below w.heap.size w w' := by
  have hz : ∀ w, Calls Try.prog 54 #[.agg (bigC D false)] w fun e w' => e = .returned (.bool (decide (val D = 0))) ∧ Below w.heap.size w w' := fun w => zero_any D false w hD
  have hv : (!decide (val D = 0)) = decide (val D ≠ 0) := by simp
  generalize decide (val D ≠ 0) = q at *
  generalize decide (val D = 0) = z at *
  obtain ⟨d0, d1, d2, d3, d4, d5, d6, d7, rfl⟩ := eight hD
  clear hD
  rw [b8, b8]
  rw [b8] at hz
  have HZ := Lib.hid hz
  clear hz
  have hb := (Blk.new w 51 #[.int .u64 d0, .int .u64 d1, .int .u64 d2, .int .u64 d3, .int .u64 d4, .int .u64 d5, .int .u64 d6, .int .u64 d7, .bool false]).alloc (.cells #[Value.int .u64 0, .int .u64 0, .int .u64 0, .int .u64 0, .int .u64 0, .int .u64 0, .int .u64 0, .int .u64 0, .bool false] 51)
  have hr := Blk.new (w.alloc (.cells #[.int .u64 d0, .int .u64 d1, .int .u64 d2, .int .u64 d3, .int .u64 d4, .int .u64 d5, .int .u64 d6, .int .u64 d7, .bool false] 51)) 51 #[Value.int .u64 0, .int .u64 0, .int .u64 0, .int .u64 0, .int .u64 0, .int .u64 0, .int .u64 0, .int .u64 0, .bool false]
  have b0 := ((Below.refl w.heap.size w).alloc (Nat.le_refl _) (.cells #[.int .u64 d0, .int .u64 d1, .int .u64 d2, .int .u64 d3, .int .u64 d4, .int .u64 d5, .int .u64 d6, .int .u64 d7, .bool false] 51)).alloc (by simp) (.cells #[Value.int .u64 0, .int .u64 0, .int .u64 0, .int .u64 0, .int .u64 0, .int .u64 0, .int .u64 0, .int .u64 0, .bool false] 51)
  simp only [World.size_alloc] at hr
  go_enter Try.func47, Try.ntmps47
  go_wp2_with fail
  generalize (w.alloc (.cells #[.int .u64 d0, .int .u64 d1, .int .u64 d2, .int .u64 d3, .int .u64 d4, .int .u64 d5, .int .u64 d6, .int .u64 d7, .bool false] 51)).alloc (.cells #[Value.int .u64 0, .int .u64 0, .int .u64 0, .int .u64 0, .int .u64 0, .int .u64 0, .int .u64 0, .int .u64 0, .bool false] 51) = w1 at *
  refine (HZ.out _).mono ?_
  rintro e w2 ⟨rfl, q2⟩
  have hb2 := hb.below q2 hb.lt
  have hr2 := hr.below q2 hr.lt
  have b2 := b0.trans (q2.mono b0.size)
  have c8 : w2.cell? ⟨w.heap.size, 8, none⟩ = some (.bool false) := hb2.cell 8
  have f8 : w2.frozen? ⟨w.heap.size, 8, none⟩ = false := hb2.frozen 8
  have hb3 := hb2.set_ 8 (.bool q)
  have hr3 := hr2.far (p := ⟨w.heap.size, 8, none⟩) (by simp) (.bool q)
  have b3 := b2.setCell (p := ⟨w.heap.size, 8, none⟩) (Nat.le_refl _) (.bool q)
  have HR := Lib.hid hr3
  have HB := Lib.hid hb3
  clear hb hr b0 q2 b2 hb2 hr2 HZ hr3 hb3
  go_wp2_with (first
    | (refine wpList_load_blk rfl 51 (.tmp 1) rfl w.heap.size rfl 51 _ _ HB.out Try.underlying51 rfl rfl ?_)
    | (refine wpList_store_blk rfl 51 (.tmp 2) (.tmp 12) rfl (w.heap.size + 1) 51 _ (bigC [d0, d1, d2, d3, d4, d5, d6, d7] q) rfl rfl HR.out rfl (bigI_ _ _ rfl) (bigC_one _ _) ?_; intro w4 hr4 g4))
  have b4 := below_row b3 g4 b3.size (by omega)
  exact bodyPost_ret (results_cell_row Try.results47 _ w4 (w.heap.size + 1) 51 _ (0, 0) _ rfl hr4 Try.underlying51 rfl (bigI_ _ _ rfl)) rfl ⟨rfl, b4⟩
theorem bigV_len (z : Int) : (digs 8 z.natAbs).length = 8 := digs_len _ _
theorem turned_any (z : Int) (w : World) (hz : z.natAbs < 4294967296 ^ 8) :
    Calls Try.prog 47 #[bigV z] w fun e w' => e = .returned (bigV (-z)) ∧ Below w.heap.size w w' := by
  unfold bigV
  by_cases h : z < 0
  · have h1 : decide (z < 0) = true := by simpa using h
    have h2 : decide (-z < 0) = false := by simp; omega
    rw [h1, h2, Int.natAbs_neg]
    exact turned_t _ w (digs_len _ _)
  · have h1 : decide (z < 0) = false := by simpa using h
    have h2 : decide (-z < 0) = decide (val (digs 8 z.natAbs) ≠ 0) := by
      rw [val_digs _ _ hz, decide_eq_decide]; omega
    rw [h1, h2, Int.natAbs_neg]
    exact turned_f _ w (digs_len _ _)
end Go.Proofs.Ytemakmgppafccaa
