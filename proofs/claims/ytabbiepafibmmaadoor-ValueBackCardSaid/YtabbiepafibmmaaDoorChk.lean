/- value.Check. Conditions: a value of whatever fields. -/
import Derived.Test.YtabbiepafibmmaaDoorVal
namespace Go.Proofs.YtabbiepafibmmaaDoor
open Go.RowKit
set_option maxHeartbeats 1000000 in
theorem check_0 (n u : Int) (s : ByteArray) (w : World) : Calls Tryd.prog 19 #[.agg #[.int .i64 0, .int .i64 n, .int .u64 u, .string s]] w fun e w' => e = .returned (.int .i64 (if rightB 0 n u s then 0 else 120)) ∧ Below w.heap.size w w' := by
  have b0 : Below w.heap.size w (w.alloc (.cells #[.int .i64 0, .int .i64 n, .int .u64 u, .string s] 28)) := (Below.refl _ _).alloc (Nat.le_refl _) _
  generalize hr : (if rightB 0 n u s then (0 : Int) else 120) = r
  have HR := Lib.hid hr
  clear hr
  go_enter Tryd.func19, Tryd.ntmps19
  go_wp2_with fail
  refine (blank_0 n u s _).mono ?_
  rintro e w1 ⟨rfl, b1⟩
  have b2 := b0.trans (b1.mono b0.size)
  clear b0 b1
  go_wp2
  all_goals (go_ret; refine ⟨?_, b2⟩; rw [← HR.out]; simp_all [rightB] <;> omega)
set_option maxHeartbeats 1000000 in
theorem check_1 (n u : Int) (s : ByteArray) (hn : n = 0 ∨ n = 1) (w : World) : Calls Tryd.prog 19 #[.agg #[.int .i64 1, .int .i64 n, .int .u64 u, .string s]] w fun e w' => e = .returned (.int .i64 (if rightB 1 n u s then 0 else 120)) ∧ Below w.heap.size w w' := by
  have b0 : Below w.heap.size w (w.alloc (.cells #[.int .i64 1, .int .i64 n, .int .u64 u, .string s] 28)) := (Below.refl _ _).alloc (Nat.le_refl _) _
  generalize hr : (if rightB 1 n u s then (0 : Int) else 120) = r
  have HR := Lib.hid hr
  clear hr
  go_enter Tryd.func19, Tryd.ntmps19
  go_wp2_with fail
  refine (blank_1 n u s hn _).mono ?_
  rintro e w1 ⟨rfl, b1⟩
  have b2 := b0.trans (b1.mono b0.size)
  clear b0 b1
  go_wp2
  all_goals (go_ret; refine ⟨?_, b2⟩; rw [← HR.out]; simp_all [rightB] <;> omega)
set_option maxHeartbeats 1000000 in
theorem check_2 (n u : Int) (s : ByteArray) (w : World) : Calls Tryd.prog 19 #[.agg #[.int .i64 2, .int .i64 n, .int .u64 u, .string s]] w fun e w' => e = .returned (.int .i64 (if rightB 2 n u s then 0 else 120)) ∧ Below w.heap.size w w' := by
  have b0 : Below w.heap.size w (w.alloc (.cells #[.int .i64 2, .int .i64 n, .int .u64 u, .string s] 28)) := (Below.refl _ _).alloc (Nat.le_refl _) _
  generalize hr : (if rightB 2 n u s then (0 : Int) else 120) = r
  have HR := Lib.hid hr
  clear hr
  go_enter Tryd.func19, Tryd.ntmps19
  go_wp2_with fail
  refine (blank_2 n u s _).mono ?_
  rintro e w1 ⟨rfl, b1⟩
  have b2 := b0.trans (b1.mono b0.size)
  clear b0 b1
  go_wp2
  all_goals (go_ret; refine ⟨?_, b2⟩; rw [← HR.out]; simp_all [rightB] <;> omega)
set_option maxHeartbeats 1000000 in
theorem check_4 (n u : Int) (s : ByteArray) (w : World) : Calls Tryd.prog 19 #[.agg #[.int .i64 4, .int .i64 n, .int .u64 u, .string s]] w fun e w' => e = .returned (.int .i64 (if rightB 4 n u s then 0 else 120)) ∧ Below w.heap.size w w' := by
  have b0 : Below w.heap.size w (w.alloc (.cells #[.int .i64 4, .int .i64 n, .int .u64 u, .string s] 28)) := (Below.refl _ _).alloc (Nat.le_refl _) _
  generalize hr : (if rightB 4 n u s then (0 : Int) else 120) = r
  have HR := Lib.hid hr
  clear hr
  go_enter Tryd.func19, Tryd.ntmps19
  go_wp2_with fail
  refine (blank_4 n u s _).mono ?_
  rintro e w1 ⟨rfl, b1⟩
  have b2 := b0.trans (b1.mono b0.size)
  clear b0 b1
  go_wp2
  all_goals (go_ret; refine ⟨?_, b2⟩; rw [← HR.out]; simp_all [rightB] <;> omega)
set_option maxHeartbeats 1000000 in
theorem check_1n (n u : Int) (s : ByteArray) (h1 : (n != 0) = true) (h2 : (n != 1) = true) (w : World) : Calls Tryd.prog 19 #[.agg #[.int .i64 1, .int .i64 n, .int .u64 u, .string s]] w fun e w' => e = .returned (.int .i64 (if rightB 1 n u s then 0 else 120)) ∧ Below w.heap.size w w' := by
  have b0 : Below w.heap.size w (w.alloc (.cells #[.int .i64 1, .int .i64 n, .int .u64 u, .string s] 28)) := (Below.refl _ _).alloc (Nat.le_refl _) _
  generalize hr : (if rightB 1 n u s then (0 : Int) else 120) = r
  have HR := Lib.hid hr
  clear hr
  go_enter Tryd.func19, Tryd.ntmps19
  go_wp2_with fail
  refine (blank_1n n u s h1 h2 _).mono ?_
  rintro e w1 ⟨rfl, b1⟩
  have b2 := b0.trans (b1.mono b0.size)
  clear b0 b1
  go_wp2
  all_goals (go_ret; refine ⟨?_, b2⟩; rw [← HR.out]; simp_all [rightB] <;> omega)
set_option maxHeartbeats 1000000 in
theorem check_3 (n u : Int) (s : ByteArray) (h1 : s.size ≤ 40) (w : World) : Calls Tryd.prog 19 #[.agg #[.int .i64 3, .int .i64 n, .int .u64 u, .string s]] w fun e w' => e = .returned (.int .i64 (if rightB 3 n u s then 0 else 120)) ∧ Below w.heap.size w w' := by
  have b0 : Below w.heap.size w (w.alloc (.cells #[.int .i64 3, .int .i64 n, .int .u64 u, .string s] 28)) := (Below.refl _ _).alloc (Nat.le_refl _) _
  generalize hr : (if rightB 3 n u s then (0 : Int) else 120) = r
  have HR := Lib.hid hr
  clear hr
  go_enter Tryd.func19, Tryd.ntmps19
  go_wp2_with fail
  refine (blank_3 n u s (by omega) _).mono ?_
  rintro e w1 ⟨rfl, b1⟩
  have b2 := b0.trans (b1.mono b0.size)
  clear b0 b1
  go_wp2
  all_goals (go_ret; refine ⟨?_, b2⟩; rw [← HR.out]; simp_all [rightB] <;> omega)
set_option maxHeartbeats 1000000 in
theorem check_3n (n u : Int) (s : ByteArray) (h1 : 40 < s.size) (w : World) : Calls Tryd.prog 19 #[.agg #[.int .i64 3, .int .i64 n, .int .u64 u, .string s]] w fun e w' => e = .returned (.int .i64 (if rightB 3 n u s then 0 else 120)) ∧ Below w.heap.size w w' := by
  have b0 : Below w.heap.size w (w.alloc (.cells #[.int .i64 3, .int .i64 n, .int .u64 u, .string s] 28)) := (Below.refl _ _).alloc (Nat.le_refl _) _
  generalize hr : (if rightB 3 n u s then (0 : Int) else 120) = r
  have HR := Lib.hid hr
  clear hr
  go_enter Tryd.func19, Tryd.ntmps19
  go_wp2_with fail
  refine (blank_3n n u s (by omega) _).mono ?_
  rintro e w1 ⟨rfl, b1⟩
  have b2 := b0.trans (b1.mono b0.size)
  clear b0 b1
  go_wp2
  all_goals (go_ret; refine ⟨?_, b2⟩; rw [← HR.out]; simp_all [rightB] <;> omega)
set_option maxHeartbeats 1000000 in
theorem check_n (k n u : Int) (s : ByteArray) (h0 : (k == 0) = false) (h1 : (k == 1) = false) (h2 : (k == 2) = false) (h3 : (k == 3) = false) (h4 : (k == 4) = false) (w : World) : Calls Tryd.prog 19 #[.agg #[.int .i64 k, .int .i64 n, .int .u64 u, .string s]] w fun e w' => e = .returned (.int .i64 (if rightB k n u s then 0 else 120)) ∧ Below w.heap.size w w' := by
  have b0 : Below w.heap.size w (w.alloc (.cells #[.int .i64 k, .int .i64 n, .int .u64 u, .string s] 28)) := (Below.refl _ _).alloc (Nat.le_refl _) _
  generalize hr : (if rightB k n u s then (0 : Int) else 120) = r
  have HR := Lib.hid hr
  clear hr
  go_enter Tryd.func19, Tryd.ntmps19
  go_wp2_with fail
  refine (blank_n k n u s h0 h1 h2 h3 h4 _).mono ?_
  rintro e w1 ⟨rfl, b1⟩
  have b2 := b0.trans (b1.mono b0.size)
  clear b0 b1
  go_wp2
  all_goals (go_ret; refine ⟨?_, b2⟩; rw [← HR.out]; simp_all [rightB] <;> omega)
theorem check_any (k n u : Int) (s : ByteArray) (w : World) : Calls Tryd.prog 19 #[.agg #[.int .i64 k, .int .i64 n, .int .u64 u, .string s]] w fun e w' => e = .returned (.int .i64 (if rightB k n u s then 0 else 120)) ∧ Below w.heap.size w w' := by
  by_cases h0 : k = 0
  · subst h0; exact check_0 n u s w
  by_cases h1 : k = 1
  · subst h1
    by_cases hn : n = 0 ∨ n = 1
    · exact check_1 n u s hn w
    · exact check_1n n u s (by rw [bne_iff_ne]; omega) (by rw [bne_iff_ne]; omega) w
  by_cases h2 : k = 2
  · subst h2; exact check_2 n u s w
  by_cases h3 : k = 3
  · subst h3
    by_cases hs : s.size ≤ 40
    · exact check_3 n u s hs w
    · exact check_3n n u s (by omega) w
  by_cases h4 : k = 4
  · subst h4; exact check_4 n u s w
  exact check_n k n u s (by simp [h0]) (by simp [h1]) (by simp [h2]) (by simp [h3]) (by simp [h4]) w
end Go.Proofs.YtabbiepafibmmaaDoor
