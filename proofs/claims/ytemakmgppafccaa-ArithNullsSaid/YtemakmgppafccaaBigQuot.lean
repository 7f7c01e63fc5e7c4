/- The reference's quotient. Conditions: as each states. -/
import Derived.Test.YtemakmgppafccaaBigTurn
namespace Go.Proofs.Ytemakmgppafccaa
open Go.RowKit Go.Proofs.Big
set_option maxHeartbeats 1000000 in
theorem quot_ff (a0 a1 b0 b1 q : Int) (w : World) (ha0 : 0 ≤ a0 ∧ a0 < 4294967296) (ha1 : 0 ≤ a1 ∧ a1 < 4294967296) (hb0 : 0 ≤ b0 ∧ b0 < 4294967296) (hb1 : 0 ≤ b1 ∧ b1 < 4294967296) (h1 : 1 ≤ b1 * 4294967296 + b0) (hq : ((a1 * 4294967296 + a0) / (b1 * 4294967296 + b0)) = q) (h2 : 0 ≤ q) :
    Calls Try.prog 49 #[.agg #[.int .u64 a0, .int .u64 a1, .int .u64 0, .int .u64 0, .int .u64 0, .int .u64 0, .int .u64 0, .int .u64 0, .bool false], .agg #[.int .u64 b0, .int .u64 b1, .int .u64 0, .int .u64 0, .int .u64 0, .int .u64 0, .int .u64 0, .int .u64 0, .bool false]] w
      fun e w' => e = .returned (.agg #[.int .u64 (q % 4294967296), .int .u64 (q / 4294967296), .int .u64 0, .int .u64 0, .int .u64 0, .int .u64 0, .int .u64 0, .int .u64 0, .bool false]) ∧ Below w.heap.size w w' := by
  go_enter Try.func49, Try.ntmps49
  go_wp2
  go_quiet (fail)
  go_wp2
  refine bodyPost_ret (v := .agg #[.int .u64 (q % 4294967296), .int .u64 (q / 4294967296), .int .u64 0, .int .u64 0, .int .u64 0, .int .u64 0, .int .u64 0, .int .u64 0, .bool false]) (by simp [results, Try.results49, go_sem]) rfl ⟨rfl, ?_⟩
  iterate 9 refine Below.setCell ?_ (show w.heap.size ≤ w.heap.size + 1 + 1 by omega) _
  exact below_drewN ((((Below.refl _ _).alloc (Nat.le_refl _) _).alloc (by simp) _).alloc (by simp; omega) _) nq
set_option maxHeartbeats 1000000 in
theorem quot_tt (a0 a1 b0 b1 q : Int) (w : World) (ha0 : 0 ≤ a0 ∧ a0 < 4294967296) (ha1 : 0 ≤ a1 ∧ a1 < 4294967296) (hb0 : 0 ≤ b0 ∧ b0 < 4294967296) (hb1 : 0 ≤ b1 ∧ b1 < 4294967296) (h1 : 1 ≤ b1 * 4294967296 + b0) (hq : ((a1 * 4294967296 + a0) / (b1 * 4294967296 + b0)) = q) (h2 : 0 ≤ q) :
    Calls Try.prog 49 #[.agg #[.int .u64 a0, .int .u64 a1, .int .u64 0, .int .u64 0, .int .u64 0, .int .u64 0, .int .u64 0, .int .u64 0, .bool true], .agg #[.int .u64 b0, .int .u64 b1, .int .u64 0, .int .u64 0, .int .u64 0, .int .u64 0, .int .u64 0, .int .u64 0, .bool true]] w
      fun e w' => e = .returned (.agg #[.int .u64 (q % 4294967296), .int .u64 (q / 4294967296), .int .u64 0, .int .u64 0, .int .u64 0, .int .u64 0, .int .u64 0, .int .u64 0, .bool false]) ∧ Below w.heap.size w w' := by
  go_enter Try.func49, Try.ntmps49
  go_wp2
  go_quiet (fail)
  go_wp2
  refine bodyPost_ret (v := .agg #[.int .u64 (q % 4294967296), .int .u64 (q / 4294967296), .int .u64 0, .int .u64 0, .int .u64 0, .int .u64 0, .int .u64 0, .int .u64 0, .bool false]) (by simp [results, Try.results49, go_sem]) rfl ⟨rfl, ?_⟩
  iterate 9 refine Below.setCell ?_ (show w.heap.size ≤ w.heap.size + 1 + 1 by omega) _
  exact below_drewN ((((Below.refl _ _).alloc (Nat.le_refl _) _).alloc (by simp) _).alloc (by simp; omega) _) nq
set_option maxHeartbeats 1000000 in
theorem quot_tf (a0 a1 b0 b1 q : Int) (w : World) (ha0 : 0 ≤ a0 ∧ a0 < 4294967296) (ha1 : 0 ≤ a1 ∧ a1 < 4294967296) (hb0 : 0 ≤ b0 ∧ b0 < 4294967296) (hb1 : 0 ≤ b1 ∧ b1 < 4294967296) (h1 : 1 ≤ b1 * 4294967296 + b0) (hq : ((a1 * 4294967296 + a0) / (b1 * 4294967296 + b0)) = q) (h2 : 0 ≤ q) :
    Calls Try.prog 49 #[.agg #[.int .u64 a0, .int .u64 a1, .int .u64 0, .int .u64 0, .int .u64 0, .int .u64 0, .int .u64 0, .int .u64 0, .bool true], .agg #[.int .u64 b0, .int .u64 b1, .int .u64 0, .int .u64 0, .int .u64 0, .int .u64 0, .int .u64 0, .int .u64 0, .bool false]] w
      fun e w' => e = .returned (.agg #[.int .u64 (q % 4294967296), .int .u64 (q / 4294967296), .int .u64 0, .int .u64 0, .int .u64 0, .int .u64 0, .int .u64 0, .int .u64 0, .bool (q != 0)]) ∧ Below w.heap.size w w' := by
  go_enter Try.func49, Try.ntmps49
  go_wp2
  go_quiet (fail)
  go_wp2
  refine bodyPost_ret (v := .agg #[.int .u64 (q % 4294967296), .int .u64 (q / 4294967296), .int .u64 0, .int .u64 0, .int .u64 0, .int .u64 0, .int .u64 0, .int .u64 0, .bool (q != 0)]) (by simp [results, Try.results49, go_sem]) rfl ⟨rfl, ?_⟩
  iterate 9 refine Below.setCell ?_ (show w.heap.size ≤ w.heap.size + 1 + 1 by omega) _
  exact below_drewN ((((Below.refl _ _).alloc (Nat.le_refl _) _).alloc (by simp) _).alloc (by simp; omega) _) nq
set_option maxHeartbeats 1000000 in
theorem quot_ft (a0 a1 b0 b1 q : Int) (w : World) (ha0 : 0 ≤ a0 ∧ a0 < 4294967296) (ha1 : 0 ≤ a1 ∧ a1 < 4294967296) (hb0 : 0 ≤ b0 ∧ b0 < 4294967296) (hb1 : 0 ≤ b1 ∧ b1 < 4294967296) (h1 : 1 ≤ b1 * 4294967296 + b0) (hq : ((a1 * 4294967296 + a0) / (b1 * 4294967296 + b0)) = q) (h2 : 0 ≤ q) :
    Calls Try.prog 49 #[.agg #[.int .u64 a0, .int .u64 a1, .int .u64 0, .int .u64 0, .int .u64 0, .int .u64 0, .int .u64 0, .int .u64 0, .bool false], .agg #[.int .u64 b0, .int .u64 b1, .int .u64 0, .int .u64 0, .int .u64 0, .int .u64 0, .int .u64 0, .int .u64 0, .bool true]] w
      fun e w' => e = .returned (.agg #[.int .u64 (q % 4294967296), .int .u64 (q / 4294967296), .int .u64 0, .int .u64 0, .int .u64 0, .int .u64 0, .int .u64 0, .int .u64 0, .bool (q != 0)]) ∧ Below w.heap.size w w' := by
  go_enter Try.func49, Try.ntmps49
  go_wp2
  go_quiet (fail)
  go_wp2
  refine bodyPost_ret (v := .agg #[.int .u64 (q % 4294967296), .int .u64 (q / 4294967296), .int .u64 0, .int .u64 0, .int .u64 0, .int .u64 0, .int .u64 0, .int .u64 0, .bool (q != 0)]) (by simp [results, Try.results49, go_sem]) rfl ⟨rfl, ?_⟩
  iterate 9 refine Below.setCell ?_ (show w.heap.size ≤ w.heap.size + 1 + 1 by omega) _
  exact below_drewN ((((Below.refl _ _).alloc (Nat.le_refl _) _).alloc (by simp) _).alloc (by simp; omega) _) nq
theorem quot_walk (a0 a1 b0 b1 q : Int) (ab bb : Bool) (w : World) (ha0 : 0 ≤ a0 ∧ a0 < 4294967296) (ha1 : 0 ≤ a1 ∧ a1 < 4294967296) (hb0 : 0 ≤ b0 ∧ b0 < 4294967296) (hb1 : 0 ≤ b1 ∧ b1 < 4294967296) (h1 : 1 ≤ b1 * 4294967296 + b0) (hq : ((a1 * 4294967296 + a0) / (b1 * 4294967296 + b0)) = q) (h2 : 0 ≤ q) :
    Calls Try.prog 49 #[.agg #[.int .u64 a0, .int .u64 a1, .int .u64 0, .int .u64 0, .int .u64 0, .int .u64 0, .int .u64 0, .int .u64 0, .bool ab], .agg #[.int .u64 b0, .int .u64 b1, .int .u64 0, .int .u64 0, .int .u64 0, .int .u64 0, .int .u64 0, .int .u64 0, .bool bb]] w
      fun e w' => e = .returned (.agg #[.int .u64 (q % 4294967296), .int .u64 (q / 4294967296), .int .u64 0, .int .u64 0, .int .u64 0, .int .u64 0, .int .u64 0, .int .u64 0, .bool ((ab != bb) && q != 0)]) ∧ Below w.heap.size w w' := by
  cases ab <;> cases bb
  · exact quot_ff a0 a1 b0 b1 q w ha0 ha1 hb0 hb1 h1 hq h2
  · exact quot_ft a0 a1 b0 b1 q w ha0 ha1 hb0 hb1 h1 hq h2
  · exact quot_tf a0 a1 b0 b1 q w ha0 ha1 hb0 hb1 h1 hq h2
  · exact quot_tt a0 a1 b0 b1 q w ha0 ha1 hb0 hb1 h1 hq h2
theorem quot_any (x y : Int) (w : World) (hx : x.natAbs < 18446744073709551616) (hy : y.natAbs < 18446744073709551616) (h0 : y ≠ 0) :
    Calls Try.prog 49 #[bigV x, bigV y] w fun e w' => e = .returned (bigV (x.tdiv y)) ∧ Below w.heap.size w w' := by
  have ex := bigV_hl x 0 x.natAbs (decide (x < 0)) (by omega) (by omega) (by omega) rfl
  have ey := bigV_hl y 0 y.natAbs (decide (y < 0)) (by omega) (by omega) (by omega) rfl
  have hdiv : ((x.tdiv y).natAbs : Int) = (x.natAbs : Int) / (y.natAbs : Int) := by
    rw [Int.natAbs_tdiv]; rfl
  have hle : x.natAbs / y.natAbs ≤ x.natAbs := Nat.div_le_self _ _
  have eq := bigV_hl (x.tdiv y) 0 (x.tdiv y).natAbs (decide (x.tdiv y < 0)) (by omega) (by rw [hdiv]; omega) (by omega) rfl
  rw [← ex, ← ey, ← eq]
  have ax : (x.natAbs : Int) / 4294967296 * 4294967296 + (x.natAbs : Int) % 4294967296 = x.natAbs := by omega
  have ay : (y.natAbs : Int) / 4294967296 * 4294967296 + (y.natAbs : Int) % 4294967296 = y.natAbs := by omega
  have hs : ((decide (x < 0) != decide (y < 0)) && ((x.natAbs : Int) / (y.natAbs : Int)) != 0) = decide (x.tdiv y < 0) := by
    rw [← hdiv]
    by_cases hz : x.tdiv y = 0
    · simp [hz]
    · have h3 : (((x.tdiv y).natAbs : Int) != 0) = true := ibne_t (by omega)
      rw [h3, Bool.and_true]
      exact tdiv_sign x y hz
  have := quot_walk ((x.natAbs : Int) % 4294967296) ((x.natAbs : Int) / 4294967296) ((y.natAbs : Int) % 4294967296) ((y.natAbs : Int) / 4294967296) ((x.tdiv y).natAbs : Int) (decide (x < 0)) (decide (y < 0)) w (by omega) (by omega) (by omega) (by omega) (by omega) (by rw [ax, ay, hdiv]) (by omega)
  rw [← hdiv] at hs
  rw [hs] at this
  exact this
end Go.Proofs.Ytemakmgppafccaa
