/- The reference's numbers: of 64 bits, and with the other sign. Conditions: as each states. -/
import Derived.Test.YtemakmgppafccaaBigOf
namespace Go.Proofs.Ytemakmgppafccaa
open Go.RowKit Go.Proofs.Big
theorem bigC_size (D : List Nat) (b : Bool) : (bigC D b).size = D.length + 1 := by simp [bigC]
theorem bigC_one (D : List Nat) (b : Bool) : (bigC D b).all (·.oneCell') = true := by
  rw [Array.all_eq_true_iff_forall_mem]
  intro v hv
  simp only [bigC, List.mem_toArray, List.mem_append, List.mem_map, List.mem_singleton] at hv
  rcases hv with ⟨d, _, rfl⟩ | rfl <;> rfl
theorem bigC_set (D : List Nat) (b c : Bool) (hl : D.length = 8) : (bigC D b).setIfInBounds 8 (.bool c) = bigC D c := by
  obtain ⟨d0, d1, d2, d3, d4, d5, d6, d7, rfl⟩ := eight hl
  rfl
theorem bigI : (Try.prog.info? 51).map (·.size) = some 9 := by kernel_rfl
theorem bigI_ (D : List Nat) (b : Bool) (hl : D.length = 8) : (Try.prog.info? 51).map (·.size) = some (bigC D b).size := by rw [bigC_size, hl]; exact bigI
theorem big0 : (#[Value.int .u64 0, .int .u64 0, .int .u64 0, .int .u64 0, .int .u64 0, .int .u64 0, .int .u64 0, .int .u64 0, .bool false] : Array Value) = bigC [0, 0, 0, 0, 0, 0, 0, 0] false := rfl
set_option maxHeartbeats 1000000 in
theorem int_walk (n m z : Int) (w : World) (hm : IntKind.u64.wrap n = m)
    (hof : ∀ w, Calls Try.prog 32 #[.int .i64 (if n < 0 then -1 else 0), .int .u64 m] w fun e w' => e = .returned (bigV z) ∧ Below w.heap.size w w') :
    Calls Try.prog 37 #[.int .i64 n] w fun e w' => e = .returned (bigV z) ∧ Below w.heap.size w w' := by
  have hb := Blk.new w 51 (bigC [0, 0, 0, 0, 0, 0, 0, 0] false)
  rw [← big0] at hb
  have b0 := (Below.refl w.heap.size w).alloc (Nat.le_refl _) (.cells #[Value.int .u64 0, .int .u64 0, .int .u64 0, .int .u64 0, .int .u64 0, .int .u64 0, .int .u64 0, .int .u64 0, .bool false] 51)
  by_cases hn : n < 0
  · rw [if_pos hn] at hof
    have HOF := Lib.hid hof
    clear hof
    go_enter Try.func37, Try.ntmps37
    go_wp2_with fail
    generalize w.alloc (.cells #[Value.int .u64 0, .int .u64 0, .int .u64 0, .int .u64 0, .int .u64 0, .int .u64 0, .int .u64 0, .int .u64 0, .bool false] 51) = w1 at *
    refine (HOF.out _).mono ?_
    rintro e w2 ⟨rfl, q⟩
    have hb2 := hb.below q hb.lt
    have b2 := b0.trans (q.mono b0.size)
    clear hb b0 q HOF
    go_wp2_with (refine wpList_store_blk rfl 51 (.tmp 2) (.tmp 7) rfl w.heap.size 51 _ (bigC (digs 8 z.natAbs) (decide (z < 0))) rfl rfl hb2 (by rw [bigC_size, digs_len]; rfl) (bigI_ _ _ (digs_len _ _)) (bigC_one _ _) ?_; intro w3 hb3 g3)
    have b3 := below_row b2 g3 b2.size (Nat.le_refl _)
    exact bodyPost_ret (results_cell_row Try.results37 _ w3 w.heap.size 51 _ (0, 0) _ rfl hb3 Try.underlying51 rfl (bigI_ _ _ (digs_len _ _))) rfl ⟨rfl, b3⟩
  · rw [if_neg hn] at hof
    have HOF := Lib.hid hof
    clear hof
    go_enter Try.func37, Try.ntmps37
    go_wp2_with fail
    generalize w.alloc (.cells #[Value.int .u64 0, .int .u64 0, .int .u64 0, .int .u64 0, .int .u64 0, .int .u64 0, .int .u64 0, .int .u64 0, .bool false] 51) = w1 at *
    refine (HOF.out _).mono ?_
    rintro e w2 ⟨rfl, q⟩
    have hb2 := hb.below q hb.lt
    have b2 := b0.trans (q.mono b0.size)
    clear hb b0 q HOF
    go_wp2_with (refine wpList_store_blk rfl 51 (.tmp 2) (.tmp 10) rfl w.heap.size 51 _ (bigC (digs 8 z.natAbs) (decide (z < 0))) rfl rfl hb2 (by rw [bigC_size, digs_len]; rfl) (bigI_ _ _ (digs_len _ _)) (bigC_one _ _) ?_; intro w3 hb3 g3)
    have b3 := below_row b2 g3 b2.size (Nat.le_refl _)
    exact bodyPost_ret (results_cell_row Try.results37 _ w3 w.heap.size 51 _ (0, 0) _ rfl hb3 Try.underlying51 rfl (bigI_ _ _ (digs_len _ _))) rfl ⟨rfl, b3⟩
theorem int_any (n : Int) (w : World) (hn1 : -9223372036854775808 ≤ n) (hn2 : n < 9223372036854775808) :
    Calls Try.prog 37 #[.int .i64 n] w fun e w' => e = .returned (bigV n) ∧ Below w.heap.size w w' := by
  refine int_walk n (n % 18446744073709551616) n w (wrap_u n) (fun w => ?_)
  have := of_any (if n < 0 then -1 else 0) (n % 18446744073709551616) w (by split <;> omega) (by split <;> omega) (by omega) (by omega)
  rwa [show (if n < 0 then -1 else 0) * 18446744073709551616 + n % 18446744073709551616 = n from by split <;> omega] at this
end Go.Proofs.Ytemakmgppafccaa
