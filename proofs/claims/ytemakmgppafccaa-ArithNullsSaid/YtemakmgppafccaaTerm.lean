/- bowspritref04.Term, Under. Conditions: a value of whatever fields. -/
import Derived.Test.YtemakmgppafccaaAre
import Derived.Test.YtemakmgppafccaaBig
namespace Go.Proofs.Ytemakmgppafccaa
open Go.RowKit
def kindB (kind k : Int) : Bool := k == 0 || k == kind
theorem kindB_mis (kind : Int) (v : VV) : kindB kind v.k = !misB kind v := by
  by_cases h0 : v.k = 0 <;> by_cases h1 : v.k = kind <;> simp [kindB, misB, h0, h1]
set_option maxHeartbeats 1000000 in
theorem term_any (k n u : Int) (s : ByteArray) (w : World) : Calls Try.prog 35 #[.agg #[.int .i64 k, .int .i64 n, .int .u64 u, .string s]] w fun e w' => e = .returned (.bool (rightB k n u s && kindB 2 k)) ∧ Below w.heap.size w w' := by
  have hb := Blk.new w 27 #[.int .i64 k, .int .i64 n, .int .u64 u, .string s]
  have b0 := (Below.refl w.heap.size w).alloc (Nat.le_refl _) (.cells #[.int .i64 k, .int .i64 n, .int .u64 u, .string s] 27)
  go_enter Try.func35, Try.ntmps35
  go_wp2_with fail
  generalize w.alloc (.cells #[.int .i64 k, .int .i64 n, .int .u64 u, .string s] 27) = w1 at *
  refine (right_any k n u s w1).mono ?_
  rintro e w2 ⟨rfl, q⟩
  have hb2 := hb.below q hb.lt
  have b2 := b0.trans (q.mono b0.size)
  have t0 : w2.cell? ⟨w.heap.size, 0, none⟩ = some (.int .i64 k) := hb2.cell 0
  clear hb b0 q
  by_cases hr : rightB k n u s = true
  · have HR := Lib.hid hr
    rw [hr]
    clear hr
    go_wp2
    all_goals (go_ret; exact ⟨ret_b (by have hr := HR.out; simp_all [kindB]), b2⟩)
  · have hr' : rightB k n u s = false := by simpa using hr
    have HR := Lib.hid hr'
    rw [hr']
    clear hr hr'
    go_wp2
    go_ret
    exact ⟨ret_b (by rw [HR.out]; rfl), b2⟩
set_option maxHeartbeats 1000000 in
theorem under_any (k n u : Int) (s : ByteArray) (w : World) : Calls Try.prog 30 #[.agg #[.int .i64 k, .int .i64 n, .int .u64 u, .string s]] w fun e w' => e = .returned (.bool (rightB k n u s && kindB 4 k)) ∧ Below w.heap.size w w' := by
  have hb := Blk.new w 27 #[.int .i64 k, .int .i64 n, .int .u64 u, .string s]
  have b0 := (Below.refl w.heap.size w).alloc (Nat.le_refl _) (.cells #[.int .i64 k, .int .i64 n, .int .u64 u, .string s] 27)
  go_enter Try.func30, Try.ntmps30
  go_wp2_with fail
  generalize w.alloc (.cells #[.int .i64 k, .int .i64 n, .int .u64 u, .string s] 27) = w1 at *
  refine (right_any k n u s w1).mono ?_
  rintro e w2 ⟨rfl, q⟩
  have hb2 := hb.below q hb.lt
  have b2 := b0.trans (q.mono b0.size)
  have t0 : w2.cell? ⟨w.heap.size, 0, none⟩ = some (.int .i64 k) := hb2.cell 0
  clear hb b0 q
  by_cases hr : rightB k n u s = true
  · have HR := Lib.hid hr
    rw [hr]
    clear hr
    go_wp2
    all_goals (go_ret; exact ⟨ret_b (by have hr := HR.out; simp_all [kindB]), b2⟩)
  · have hr' : rightB k n u s = false := by simpa using hr
    have HR := Lib.hid hr'
    rw [hr']
    clear hr hr'
    go_wp2
    go_ret
    exact ⟨ret_b (by rw [HR.out]; rfl), b2⟩
end Go.Proofs.Ytemakmgppafccaa
