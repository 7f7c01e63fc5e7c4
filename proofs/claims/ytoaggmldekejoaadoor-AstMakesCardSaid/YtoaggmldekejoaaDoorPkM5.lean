/- value.Check. Conditions: a value of whatever fields. -/
import Derived.Test.YtoaggmldekejoaaDoorPkM4
namespace Go.Proofs.YtoaggmldekejoaaDoor
open Go.RowKit
set_option maxHeartbeats 1000000 in
theorem check_0 (n u : Int) (s : ByteArray) (w : World) : Calls Tryd.prog 45 #[.agg #[.int .i64 0, .int .i64 n, .int .u64 u, .string s]] w fun e w' => e = .returned (.int .i64 (if rightB 0 n u s then 0 else 120)) ∧ Below w.heap.size w w' := by
  have b0 : Below w.heap.size w (w.alloc (.cells #[.int .i64 0, .int .i64 n, .int .u64 u, .string s] 25)) := (Below.refl _ _).alloc (Nat.le_refl _) _
  generalize hr : (if rightB 0 n u s then (0 : Int) else 120) = r
  have HR := Lib.hid hr
  clear hr
  go_enter Tryd.func45, Tryd.ntmps45
  go_wp2_with fail
  refine (blank_0 n u s _).mono ?_
  rintro e w1 ⟨rfl, b1⟩
  have b2 := b0.trans (b1.mono b0.size)
  clear b0 b1
  go_wp2
  all_goals (go_ret; refine ⟨?_, b2⟩; rw [← HR.out]; simp_all [rightB] <;> omega)
set_option maxHeartbeats 1000000 in
theorem check_1 (n u : Int) (s : ByteArray) (hn : n = 0 ∨ n = 1) (w : World) : Calls Tryd.prog 45 #[.agg #[.int .i64 1, .int .i64 n, .int .u64 u, .string s]] w fun e w' => e = .returned (.int .i64 (if rightB 1 n u s then 0 else 120)) ∧ Below w.heap.size w w' := by
  have b0 : Below w.heap.size w (w.alloc (.cells #[.int .i64 1, .int .i64 n, .int .u64 u, .string s] 25)) := (Below.refl _ _).alloc (Nat.le_refl _) _
  generalize hr : (if rightB 1 n u s then (0 : Int) else 120) = r
  have HR := Lib.hid hr
  clear hr
  go_enter Tryd.func45, Tryd.ntmps45
  go_wp2_with fail
  refine (blank_1 n u s hn _).mono ?_
  rintro e w1 ⟨rfl, b1⟩
  have b2 := b0.trans (b1.mono b0.size)
  clear b0 b1
  go_wp2
  all_goals (go_ret; refine ⟨?_, b2⟩; rw [← HR.out]; simp_all [rightB] <;> omega)
set_option maxHeartbeats 1000000 in
theorem check_2 (n u : Int) (s : ByteArray) (w : World) : Calls Tryd.prog 45 #[.agg #[.int .i64 2, .int .i64 n, .int .u64 u, .string s]] w fun e w' => e = .returned (.int .i64 (if rightB 2 n u s then 0 else 120)) ∧ Below w.heap.size w w' := by
  have b0 : Below w.heap.size w (w.alloc (.cells #[.int .i64 2, .int .i64 n, .int .u64 u, .string s] 25)) := (Below.refl _ _).alloc (Nat.le_refl _) _
  generalize hr : (if rightB 2 n u s then (0 : Int) else 120) = r
  have HR := Lib.hid hr
  clear hr
  go_enter Tryd.func45, Tryd.ntmps45
  go_wp2_with fail
  refine (blank_2 n u s _).mono ?_
  rintro e w1 ⟨rfl, b1⟩
  have b2 := b0.trans (b1.mono b0.size)
  clear b0 b1
  go_wp2
  all_goals (go_ret; refine ⟨?_, b2⟩; rw [← HR.out]; simp_all [rightB] <;> omega)
set_option maxHeartbeats 1000000 in
theorem check_4 (n u : Int) (s : ByteArray) (w : World) : Calls Tryd.prog 45 #[.agg #[.int .i64 4, .int .i64 n, .int .u64 u, .string s]] w fun e w' => e = .returned (.int .i64 (if rightB 4 n u s then 0 else 120)) ∧ Below w.heap.size w w' := by
  have b0 : Below w.heap.size w (w.alloc (.cells #[.int .i64 4, .int .i64 n, .int .u64 u, .string s] 25)) := (Below.refl _ _).alloc (Nat.le_refl _) _
  generalize hr : (if rightB 4 n u s then (0 : Int) else 120) = r
  have HR := Lib.hid hr
  clear hr
  go_enter Tryd.func45, Tryd.ntmps45
  go_wp2_with fail
  refine (blank_4 n u s _).mono ?_
  rintro e w1 ⟨rfl, b1⟩
  have b2 := b0.trans (b1.mono b0.size)
  clear b0 b1
  go_wp2
  all_goals (go_ret; refine ⟨?_, b2⟩; rw [← HR.out]; simp_all [rightB] <;> omega)
set_option maxHeartbeats 1000000 in
theorem check_1n (n u : Int) (s : ByteArray) (h1 : (n != 0) = true) (h2 : (n != 1) = true) (w : World) : Calls Tryd.prog 45 #[.agg #[.int .i64 1, .int .i64 n, .int .u64 u, .string s]] w fun e w' => e = .returned (.int .i64 (if rightB 1 n u s then 0 else 120)) ∧ Below w.heap.size w w' := by
  have b0 : Below w.heap.size w (w.alloc (.cells #[.int .i64 1, .int .i64 n, .int .u64 u, .string s] 25)) := (Below.refl _ _).alloc (Nat.le_refl _) _
  generalize hr : (if rightB 1 n u s then (0 : Int) else 120) = r
  have HR := Lib.hid hr
  clear hr
  go_enter Tryd.func45, Tryd.ntmps45
  go_wp2_with fail
  refine (blank_1n n u s h1 h2 _).mono ?_
  rintro e w1 ⟨rfl, b1⟩
  have b2 := b0.trans (b1.mono b0.size)
  clear b0 b1
  go_wp2
  all_goals (go_ret; refine ⟨?_, b2⟩; rw [← HR.out]; simp_all [rightB] <;> omega)
set_option maxHeartbeats 1000000 in
theorem check_3 (n u : Int) (s : ByteArray) (h1 : s.size ≤ 40) (w : World) : Calls Tryd.prog 45 #[.agg #[.int .i64 3, .int .i64 n, .int .u64 u, .string s]] w fun e w' => e = .returned (.int .i64 (if rightB 3 n u s then 0 else 120)) ∧ Below w.heap.size w w' := by
  have b0 : Below w.heap.size w (w.alloc (.cells #[.int .i64 3, .int .i64 n, .int .u64 u, .string s] 25)) := (Below.refl _ _).alloc (Nat.le_refl _) _
  generalize hr : (if rightB 3 n u s then (0 : Int) else 120) = r
  have HR := Lib.hid hr
  clear hr
  go_enter Tryd.func45, Tryd.ntmps45
  go_wp2_with fail
  refine (blank_3 n u s (by omega) _).mono ?_
  rintro e w1 ⟨rfl, b1⟩
  have b2 := b0.trans (b1.mono b0.size)
  clear b0 b1
  go_wp2
  all_goals (go_ret; refine ⟨?_, b2⟩; rw [← HR.out]; simp_all [rightB] <;> omega)
set_option maxHeartbeats 1000000 in
theorem check_3n (n u : Int) (s : ByteArray) (h1 : 40 < s.size) (w : World) : Calls Tryd.prog 45 #[.agg #[.int .i64 3, .int .i64 n, .int .u64 u, .string s]] w fun e w' => e = .returned (.int .i64 (if rightB 3 n u s then 0 else 120)) ∧ Below w.heap.size w w' := by
  have b0 : Below w.heap.size w (w.alloc (.cells #[.int .i64 3, .int .i64 n, .int .u64 u, .string s] 25)) := (Below.refl _ _).alloc (Nat.le_refl _) _
  generalize hr : (if rightB 3 n u s then (0 : Int) else 120) = r
  have HR := Lib.hid hr
  clear hr
  go_enter Tryd.func45, Tryd.ntmps45
  go_wp2_with fail
  refine (blank_3n n u s (by omega) _).mono ?_
  rintro e w1 ⟨rfl, b1⟩
  have b2 := b0.trans (b1.mono b0.size)
  clear b0 b1
  go_wp2
  all_goals (go_ret; refine ⟨?_, b2⟩; rw [← HR.out]; simp_all [rightB] <;> omega)
set_option maxHeartbeats 1000000 in
theorem check_n (k n u : Int) (s : ByteArray) (h0 : (k == 0) = false) (h1 : (k == 1) = false) (h2 : (k == 2) = false) (h3 : (k == 3) = false) (h4 : (k == 4) = false) (w : World) : Calls Tryd.prog 45 #[.agg #[.int .i64 k, .int .i64 n, .int .u64 u, .string s]] w fun e w' => e = .returned (.int .i64 (if rightB k n u s then 0 else 120)) ∧ Below w.heap.size w w' := by
  have b0 : Below w.heap.size w (w.alloc (.cells #[.int .i64 k, .int .i64 n, .int .u64 u, .string s] 25)) := (Below.refl _ _).alloc (Nat.le_refl _) _
  generalize hr : (if rightB k n u s then (0 : Int) else 120) = r
  have HR := Lib.hid hr
  clear hr
  go_enter Tryd.func45, Tryd.ntmps45
  go_wp2_with fail
  refine (blank_n k n u s h0 h1 h2 h3 h4 _).mono ?_
  rintro e w1 ⟨rfl, b1⟩
  have b2 := b0.trans (b1.mono b0.size)
  clear b0 b1
  go_wp2
  all_goals (go_ret; refine ⟨?_, b2⟩; rw [← HR.out]; simp_all [rightB] <;> omega)
theorem check_any (k n u : Int) (s : ByteArray) (w : World) : Calls Tryd.prog 45 #[.agg #[.int .i64 k, .int .i64 n, .int .u64 u, .string s]] w fun e w' => e = .returned (.int .i64 (if rightB k n u s then 0 else 120)) ∧ Below w.heap.size w w' := by
  by_cases h0 : k = 0
  · subst h0; exact check_0 n u s w
  by_cases h1 : k = 1
  · subst h1
    by_cases hn : n = 0 ∨ n = 1
    · exact check_1 n u s hn w
    · exact check_1n n u s (by rw [bne_iff_ne]; omega) (by rw [bne_iff_ne]; omega) w
  by_cases h2 : k = 2
  · subst h2; exact check_2 n u s w
  by_cases h3 : k = 3
  · subst h3
    by_cases hs : s.size ≤ 40
    · exact check_3 n u s hs w
    · exact check_3n n u s (by omega) w
  by_cases h4 : k = 4
  · subst h4; exact check_4 n u s w
  exact check_n k n u s (by simp [h0]) (by simp [h1]) (by simp [h2]) (by simp [h3]) (by simp [h4]) w
end Go.Proofs.YtoaggmldekejoaaDoor
/- bowspritref02.Right. Conditions: a value of whatever fields. -/
namespace Go.Proofs.YtoaggmldekejoaaDoor
open Go.RowKit
set_option maxHeartbeats 2000000 in
theorem right_any (k n u : Int) (s : ByteArray) (w : World) : Calls Tryd.prog 58 #[.agg #[.int .i64 k, .int .i64 n, .int .u64 u, .string s]] w fun e w' => e = .returned (.bool (rightB k n u s)) ∧ Below w.heap.size w w' := by
  generalize hr : rightB k n u s = r
  have HR := Lib.hid hr
  clear hr
  go_enter Tryd.func58, Tryd.ntmps58
  go_wp2
  all_goals (go_ret; refine ⟨?_, (Below.refl _ _).alloc (Nat.le_refl _) _⟩; rw [← HR.out]; simp_all [rightB] <;> first | omega | grind)
end Go.Proofs.YtoaggmldekejoaaDoor
/- value.Text, Bool, Plain, True, and the reference's Bool, Plain. Conditions: none. -/
namespace Go.Proofs.YtoaggmldekejoaaDoor
open Go.RowKit
theorem ibne_t {a b : Int} (h : a ≠ b) : (a != b) = true := by simpa using h
theorem ibne_f {a b : Int} (h : a = b) : (a != b) = false := by simpa using h
theorem ibeq_t {a b : Int} (h : a = b) : (a == b) = true := by simpa using h
theorem ibeq_f {a b : Int} (h : a ≠ b) : (a == b) = false := by simpa using h
def plainB (k n u : Int) (s : ByteArray) : Bool := rightB k n u s && k != 4
end Go.Proofs.YtoaggmldekejoaaDoor
/- value.Plain, value.True, and the reference's Plain. Conditions: none. -/
namespace Go.Proofs.YtoaggmldekejoaaDoor
open Go.RowKit
theorem check_y (k n u : Int) (s : ByteArray) (h : rightB k n u s = true) (w : World) : Calls Tryd.prog 45 #[.agg #[.int .i64 k, .int .i64 n, .int .u64 u, .string s]] w fun e w' => e = .returned (.int .i64 0) ∧ Below w.heap.size w w' := by
  have := check_any k n u s w
  rw [h] at this
  exact this
theorem check_x (k n u : Int) (s : ByteArray) (h : rightB k n u s = false) (w : World) : Calls Tryd.prog 45 #[.agg #[.int .i64 k, .int .i64 n, .int .u64 u, .string s]] w fun e w' => e = .returned (.int .i64 120) ∧ Below w.heap.size w w' := by
  have := check_any k n u s w
  rw [h] at this
  exact this
set_option maxHeartbeats 2000000 in
theorem plain_any (k n u : Int) (s : ByteArray) (w : World) : Calls Tryd.prog 41 #[.agg #[.int .i64 k, .int .i64 n, .int .u64 u, .string s]] w fun e w' => e = .returned (.bool (plainB k n u s)) ∧ Below w.heap.size w w' := by
  cases hr : rightB k n u s
  · rw [show plainB k n u s = false from by unfold plainB; rw [hr]; rfl]
    have hV := (Blk.new w 25 #[.int .i64 k, .int .i64 n, .int .u64 u, .string s])
    have bb := (bl_al (Below.refl w.heap.size w) (.cells #[.int .i64 k, .int .i64 n, .int .u64 u, .string s] 25))
    go_enter Tryd.func41, Tryd.ntmps41
    go_wp2_with fail
    generalize (w.alloc (.cells #[.int .i64 k, .int .i64 n, .int .u64 u, .string s] 25)) = w1 at *
    have hV_0 : w1.cell? ⟨w.heap.size, 0, none⟩ = some (.int .i64 k) := hV.cell 0
    have hV_1 : w1.cell? ⟨w.heap.size, 1, none⟩ = some (.int .i64 n) := hV.cell 1
    have hV_2 : w1.cell? ⟨w.heap.size, 2, none⟩ = some (.int .u64 u) := hV.cell 2
    have hV_3 : w1.cell? ⟨w.heap.size, 3, none⟩ = some (.string s) := hV.cell 3
    go_wp2_with fail
    refine (check_x k n u s hr _).mono ?_
    rintro e w2 ⟨rfl, q2⟩
    replace hV := hV.ca q2
    replace bb := bl_ca bb q2
    clear hV_0 hV_1 hV_2 hV_3
    clear q2
    have hV_0 : w2.cell? ⟨w.heap.size, 0, none⟩ = some (.int .i64 k) := hV.cell 0
    go_wp2
    go_ret
    exact ⟨rfl, bb⟩
  · cases hk : (k != 4)
    · rw [show plainB k n u s = false from by unfold plainB; rw [hr, hk]; rfl]
      have hV := (Blk.new w 25 #[.int .i64 k, .int .i64 n, .int .u64 u, .string s])
      have bb := (bl_al (Below.refl w.heap.size w) (.cells #[.int .i64 k, .int .i64 n, .int .u64 u, .string s] 25))
      go_enter Tryd.func41, Tryd.ntmps41
      go_wp2_with fail
      generalize (w.alloc (.cells #[.int .i64 k, .int .i64 n, .int .u64 u, .string s] 25)) = w1 at *
      have hV_0 : w1.cell? ⟨w.heap.size, 0, none⟩ = some (.int .i64 k) := hV.cell 0
      have hV_1 : w1.cell? ⟨w.heap.size, 1, none⟩ = some (.int .i64 n) := hV.cell 1
      have hV_2 : w1.cell? ⟨w.heap.size, 2, none⟩ = some (.int .u64 u) := hV.cell 2
      have hV_3 : w1.cell? ⟨w.heap.size, 3, none⟩ = some (.string s) := hV.cell 3
      go_wp2_with fail
      refine (check_y k n u s hr _).mono ?_
      rintro e w2 ⟨rfl, q2⟩
      replace hV := hV.ca q2
      replace bb := bl_ca bb q2
      clear hV_0 hV_1 hV_2 hV_3
      clear q2
      have hV_0 : w2.cell? ⟨w.heap.size, 0, none⟩ = some (.int .i64 k) := hV.cell 0
      go_wp2
      go_ret
      exact ⟨rfl, bb⟩
    · rw [show plainB k n u s = true from by unfold plainB; rw [hr, hk]; rfl]
      have hV := (Blk.new w 25 #[.int .i64 k, .int .i64 n, .int .u64 u, .string s])
      have bb := (bl_al (Below.refl w.heap.size w) (.cells #[.int .i64 k, .int .i64 n, .int .u64 u, .string s] 25))
      go_enter Tryd.func41, Tryd.ntmps41
      go_wp2_with fail
      generalize (w.alloc (.cells #[.int .i64 k, .int .i64 n, .int .u64 u, .string s] 25)) = w1 at *
      have hV_0 : w1.cell? ⟨w.heap.size, 0, none⟩ = some (.int .i64 k) := hV.cell 0
      have hV_1 : w1.cell? ⟨w.heap.size, 1, none⟩ = some (.int .i64 n) := hV.cell 1
      have hV_2 : w1.cell? ⟨w.heap.size, 2, none⟩ = some (.int .u64 u) := hV.cell 2
      have hV_3 : w1.cell? ⟨w.heap.size, 3, none⟩ = some (.string s) := hV.cell 3
      go_wp2_with fail
      refine (check_y k n u s hr _).mono ?_
      rintro e w2 ⟨rfl, q2⟩
      replace hV := hV.ca q2
      replace bb := bl_ca bb q2
      clear hV_0 hV_1 hV_2 hV_3
      clear q2
      have hV_0 : w2.cell? ⟨w.heap.size, 0, none⟩ = some (.int .i64 k) := hV.cell 0
      go_wp2
      go_ret
      exact ⟨rfl, bb⟩
set_option maxHeartbeats 2000000 in
theorem rplain_any (k n u : Int) (s : ByteArray) (w : World) : Calls Tryd.prog 49 #[.agg #[.int .i64 k, .int .i64 n, .int .u64 u, .string s]] w fun e w' => e = .returned (.bool (plainB k n u s)) ∧ Below w.heap.size w w' := by
  cases hr : rightB k n u s
  · rw [show plainB k n u s = false from by unfold plainB; rw [hr]; rfl]
    have hV := (Blk.new w 25 #[.int .i64 k, .int .i64 n, .int .u64 u, .string s])
    have bb := (bl_al (Below.refl w.heap.size w) (.cells #[.int .i64 k, .int .i64 n, .int .u64 u, .string s] 25))
    go_enter Tryd.func49, Tryd.ntmps49
    go_wp2_with fail
    generalize (w.alloc (.cells #[.int .i64 k, .int .i64 n, .int .u64 u, .string s] 25)) = w1 at *
    have hV_0 : w1.cell? ⟨w.heap.size, 0, none⟩ = some (.int .i64 k) := hV.cell 0
    have hV_1 : w1.cell? ⟨w.heap.size, 1, none⟩ = some (.int .i64 n) := hV.cell 1
    have hV_2 : w1.cell? ⟨w.heap.size, 2, none⟩ = some (.int .u64 u) := hV.cell 2
    have hV_3 : w1.cell? ⟨w.heap.size, 3, none⟩ = some (.string s) := hV.cell 3
    go_wp2_with fail
    refine (right_any k n u s _).mono ?_
    rintro e w2 ⟨rfl, q2⟩
    rw [hr]
    replace hV := hV.ca q2
    replace bb := bl_ca bb q2
    clear hV_0 hV_1 hV_2 hV_3
    clear q2
    have hV_0 : w2.cell? ⟨w.heap.size, 0, none⟩ = some (.int .i64 k) := hV.cell 0
    go_wp2
    go_ret
    exact ⟨rfl, bb⟩
  · cases hk : (k != 4)
    · rw [show plainB k n u s = false from by unfold plainB; rw [hr, hk]; rfl]
      have hV := (Blk.new w 25 #[.int .i64 k, .int .i64 n, .int .u64 u, .string s])
      have bb := (bl_al (Below.refl w.heap.size w) (.cells #[.int .i64 k, .int .i64 n, .int .u64 u, .string s] 25))
      go_enter Tryd.func49, Tryd.ntmps49
      go_wp2_with fail
      generalize (w.alloc (.cells #[.int .i64 k, .int .i64 n, .int .u64 u, .string s] 25)) = w1 at *
      have hV_0 : w1.cell? ⟨w.heap.size, 0, none⟩ = some (.int .i64 k) := hV.cell 0
      have hV_1 : w1.cell? ⟨w.heap.size, 1, none⟩ = some (.int .i64 n) := hV.cell 1
      have hV_2 : w1.cell? ⟨w.heap.size, 2, none⟩ = some (.int .u64 u) := hV.cell 2
      have hV_3 : w1.cell? ⟨w.heap.size, 3, none⟩ = some (.string s) := hV.cell 3
      go_wp2_with fail
      refine (right_any k n u s _).mono ?_
      rintro e w2 ⟨rfl, q2⟩
      rw [hr]
      replace hV := hV.ca q2
      replace bb := bl_ca bb q2
      clear hV_0 hV_1 hV_2 hV_3
      clear q2
      have hV_0 : w2.cell? ⟨w.heap.size, 0, none⟩ = some (.int .i64 k) := hV.cell 0
      go_wp2
      go_ret
      exact ⟨rfl, bb⟩
    · rw [show plainB k n u s = true from by unfold plainB; rw [hr, hk]; rfl]
      have hV := (Blk.new w 25 #[.int .i64 k, .int .i64 n, .int .u64 u, .string s])
      have bb := (bl_al (Below.refl w.heap.size w) (.cells #[.int .i64 k, .int .i64 n, .int .u64 u, .string s] 25))
      go_enter Tryd.func49, Tryd.ntmps49
      go_wp2_with fail
      generalize (w.alloc (.cells #[.int .i64 k, .int .i64 n, .int .u64 u, .string s] 25)) = w1 at *
      have hV_0 : w1.cell? ⟨w.heap.size, 0, none⟩ = some (.int .i64 k) := hV.cell 0
      have hV_1 : w1.cell? ⟨w.heap.size, 1, none⟩ = some (.int .i64 n) := hV.cell 1
      have hV_2 : w1.cell? ⟨w.heap.size, 2, none⟩ = some (.int .u64 u) := hV.cell 2
      have hV_3 : w1.cell? ⟨w.heap.size, 3, none⟩ = some (.string s) := hV.cell 3
      go_wp2_with fail
      refine (right_any k n u s _).mono ?_
      rintro e w2 ⟨rfl, q2⟩
      rw [hr]
      replace hV := hV.ca q2
      replace bb := bl_ca bb q2
      clear hV_0 hV_1 hV_2 hV_3
      clear q2
      have hV_0 : w2.cell? ⟨w.heap.size, 0, none⟩ = some (.int .i64 k) := hV.cell 0
      go_wp2
      go_ret
      exact ⟨rfl, bb⟩
end Go.Proofs.YtoaggmldekejoaaDoor
/- How many parts a tag has; what may be written; names that may be missing. Conditions: what the tables hold. -/
namespace Go.Proofs.YtoaggmldekejoaaDoor
open Go.RowKit
theorem ret_i {a b : Int} (h : a = b) : Ending.returned (.int .i64 a) = Ending.returned (.int .i64 b) := by rw [h]
set_option maxRecDepth 100000 in
theorem parts_any (t : Int) (w : World) : Calls Tryd.prog 31 #[.int .i64 t] w fun e w' => e = .returned (.int .i64 (partsI t)) ∧ w = w' := by
  have HP := Lib.hid (show partsI t = if t < 1 then -1 else if 23 < t then -1 else if t ≤ 3 then 0 else if t ≤ 11 then 1 else 2 from rfl)
  generalize partsI t = r at *
  by_cases h1 : t < 1
  · have HF := Lib.hid (show r = -1 from by rw [HP.out, if_pos h1])
    go_enter Tryd.func31, Tryd.ntmps31
    go_wp2
    go_ret
    exact ⟨ret_i HF.out.symm, rfl⟩
  have h1' : 1 ≤ t := by omega
  by_cases h2 : 23 < t
  · have HF := Lib.hid (show r = -1 from by rw [HP.out, if_neg h1, if_pos h2])
    clear h1
    go_enter Tryd.func31, Tryd.ntmps31
    go_wp2
    go_ret
    exact ⟨ret_i HF.out.symm, rfl⟩
  have h2' : t ≤ 23 := by omega
  by_cases h3 : t ≤ 3
  · have HF := Lib.hid (show r = 0 from by rw [HP.out, if_neg h1, if_neg h2, if_pos h3])
    clear h1 h2
    go_enter Tryd.func31, Tryd.ntmps31
    go_wp2
    go_ret
    exact ⟨ret_i HF.out.symm, rfl⟩
  have h3' : 3 < t := by omega
  by_cases h4 : t ≤ 11
  · have HF := Lib.hid (show r = 1 from by rw [HP.out, if_neg h1, if_neg h2, if_neg h3, if_pos h4])
    clear h1 h2 h3
    go_enter Tryd.func31, Tryd.ntmps31
    go_wp2
    go_ret
    exact ⟨ret_i HF.out.symm, rfl⟩
  have h4' : 11 < t := by omega
  have HF := Lib.hid (show r = 2 from by rw [HP.out, if_neg h1, if_neg h2, if_neg h3, if_neg h4])
  clear h1 h2 h3 h4
  go_enter Tryd.func31, Tryd.ntmps31
  go_wp2
  go_ret
  exact ⟨ret_i HF.out.symm, rfl⟩
set_option maxRecDepth 100000 in
theorem rparts_any (t : Int) (w : World) : Calls Tryd.prog 29 #[.int .i64 t] w fun e w' => e = .returned (.int .i64 (partsI t)) ∧ w = w' := by
  have HP := Lib.hid (show partsI t = if t < 1 then -1 else if 23 < t then -1 else if t ≤ 3 then 0 else if t ≤ 11 then 1 else 2 from rfl)
  generalize partsI t = r at *
  by_cases h1 : t < 1
  · have HF := Lib.hid (show r = -1 from by rw [HP.out, if_pos h1])
    go_enter Tryd.func29, Tryd.ntmps29
    go_wp2
    go_ret
    exact ⟨ret_i HF.out.symm, rfl⟩
  have h1' : 1 ≤ t := by omega
  by_cases h2 : 23 < t
  · have HF := Lib.hid (show r = -1 from by rw [HP.out, if_neg h1, if_pos h2])
    clear h1
    go_enter Tryd.func29, Tryd.ntmps29
    go_wp2
    go_ret
    exact ⟨ret_i HF.out.symm, rfl⟩
  have h2' : t ≤ 23 := by omega
  by_cases h3 : t ≤ 3
  · have HF := Lib.hid (show r = 0 from by rw [HP.out, if_neg h1, if_neg h2, if_pos h3])
    clear h1 h2
    go_enter Tryd.func29, Tryd.ntmps29
    go_wp2
    go_ret
    exact ⟨ret_i HF.out.symm, rfl⟩
  have h3' : 3 < t := by omega
  by_cases h4 : t ≤ 11
  · have HF := Lib.hid (show r = 1 from by rw [HP.out, if_neg h1, if_neg h2, if_neg h3, if_pos h4])
    clear h1 h2 h3
    go_enter Tryd.func29, Tryd.ntmps29
    go_wp2
    go_ret
    exact ⟨ret_i HF.out.symm, rfl⟩
  have h4' : 11 < t := by omega
  have HF := Lib.hid (show r = 2 from by rw [HP.out, if_neg h1, if_neg h2, if_neg h3, if_neg h4])
  clear h1 h2 h3 h4
  go_enter Tryd.func29, Tryd.ntmps29
  go_wp2
  go_ret
  exact ⟨ret_i HF.out.symm, rfl⟩
/-- may a text be written alone? -/
def wriB (s : ByteArray) : Bool := s.data.toList.all plU
theorem all_drop {l : List UInt8} {i : Nat} {b : UInt8} (p : UInt8 → Bool) (h : l[i]? = some b) : (l.drop i).all p = (p b && (l.drop (i + 1)).all p) := by
  have hlt : i < l.length := (List.getElem?_eq_some_iff.1 h).1
  rw [List.drop_eq_getElem_cons hlt, List.all_cons]
  have e : l[i] = b := by rw [List.getElem?_eq_getElem hlt] at h; injection h
  rw [e]
set_option maxRecDepth 100000 in
theorem written_any (s : ByteArray) (w : World) (hs : s.size ≤ 9223372036854775807) : Calls Tryd.prog 42 #[.string s] w fun e w' => e = .returned (.bool (wriB s)) ∧ Below w.heap.size w w' := by
  have HR := Lib.hid (show wriB s = (s.data.toList.drop 0).all plU from by rw [List.drop_zero]; rfl)
  generalize wriB s = r at *
  have HL := Lib.hid (show s.data.toList.length = s.size from by simp)
  go_enter Tryd.func42, Tryd.ntmps42
  go_wp2_with fail
  go_loopg [6] s.size (fun g a wr => ∃ i : Nat, i + g = s.size ∧ a = .int .i64 i ∧ Hid (r = (s.data.toList.drop i).all plU) ∧ Below w.heap.size w wr)
  case atStart => exact ⟨0, by omega, rfl, HR, Below.refl _ _⟩
  case round =>
    obtain ⟨i, hig, rfl, HI, hb⟩ := hrel
    have HB := Lib.hid hb
    clear hb
    by_cases hlt : i < s.size
    · have hi1 : (i : Int) < (s.size : Int) := by omega
      obtain ⟨b, hbt⟩ := byte_at hlt
      have hix := run_bt hbt
      have HA := Lib.hid (all_drop plU hbt)
      have HPL := Lib.hid (show plU b = (decide (32 ≤ (b.toNat : Int)) && decide ((b.toNat : Int) ≤ 126)) from rfl)
      obtain ⟨cc, hc⟩ : ∃ cc, cc = (b.toNat : Int) := ⟨_, rfl⟩
      rw [← hc] at hix HPL
      clear hbt hc
      by_cases h1 : cc < 32
      · have HF := Lib.hid (show r = false from by rw [HI.out, HA.out, HPL.out, decide_eq_false (by omega)]; rfl)
        go_wp2
        go_ret
        exact ⟨ret_bool HF.out.symm, HB.out⟩
      · have h1' : 32 ≤ cc := by omega
        by_cases h2 : 126 < cc
        · have HF := Lib.hid (show r = false from by rw [HI.out, HA.out, HPL.out, decide_eq_false (show ¬ cc ≤ 126 by omega), Bool.and_false]; rfl)
          clear h1
          go_wp2
          go_ret
          exact ⟨ret_bool HF.out.symm, HB.out⟩
        · have h2' : cc ≤ 126 := by omega
          have HF := Lib.hid (show r = (s.data.toList.drop (i + 1)).all plU from by rw [HI.out, HA.out, HPL.out, decide_eq_true h1', decide_eq_true h2']; rfl)
          clear h1 h2
          go_wp2
          go_roundg (gk - 1)
          · exact ⟨i + 1, by omega, by go_num, HF, HB.out⟩
          · omega
    · obtain rfl : i = s.size := by omega
      have hi1 : (s.size : Int) ≤ (s.size : Int) := by omega
      have HF := Lib.hid (show r = true from by rw [HI.out, List.drop_of_length_le (by rw [HL.out]; exact Nat.le_refl _)]; rfl)
      go_wp2
      go_ret
      exact ⟨ret_bool HF.out.symm, HB.out⟩
/-- is a text a name, or empty? -/
def mayB (s : ByteArray) : Bool := decide (s.data.toList = []) || nameB s
theorem toList_data (s : ByteArray) : s.toList = s.data.toList := ByteArray.toList_eq s
set_option maxRecDepth 100000 in
theorem maybe_any (s : ByteArray) (w : World) (hT : Tab w) (hs : s.size ≤ 9223372036854775807) : Calls Tryd.prog 44 #[.string s] w fun e w' => e = .returned (.bool (mayB s)) ∧ Below w.heap.size w w' := by
  have HR := Lib.hid (show mayB s = (decide (s.data.toList = []) || nameB s) from rfl)
  have HC := Lib.hid (isname_any s w hT hs)
  generalize mayB s = r at *
  generalize nameB s = q at *
  clear hT hs
  by_cases h0 : s.data.toList = []
  · have HF := Lib.hid (show r = true from by rw [HR.out, decide_eq_true h0]; rfl)
    have hs0 : s = ⟨#[]⟩ := by rw [show s = ⟨s.data.toList.toArray⟩ from rfl, h0]
    subst hs0
    clear h0
    go_enter Tryd.func44, Tryd.ntmps44
    go_wp2
    go_ret
    exact ⟨ret_bool HF.out.symm, Below.refl _ _⟩
  · have HF := Lib.hid (show r = q from by rw [HR.out, decide_eq_false h0]; rfl)
    have e1 : s.toList.isEmpty = false := by rw [toList_data]; cases h : s.data.toList with | nil => exact absurd h h0 | cons => rfl
    have e2 : (s.toList == []) = false := by rw [toList_data]; simpa using h0
    have e3 : ¬ s.toList = [] := by rw [toList_data]; exact h0
    clear h0
    go_enter Tryd.func44, Tryd.ntmps44
    go_wp2_with fail
    refine HC.out.mono ?_
    rintro e w2 ⟨rfl, q2⟩
    go_wp2
    go_ret
    exact ⟨ret_bool HF.out.symm, q2⟩
end Go.Proofs.YtoaggmldekejoaaDoor
/- Regions whose order Go leaves open, walked in one order: each operation that may come up yields the same value in every world that meets S, and leaves such a world. Conditions: none. -/
namespace Go.Proofs.YtoaggmldekejoaaDoor
open Go.RowKit
section
variable {P : Program} {ops : Array Oper} {Q : Exit → Act → World → Prop} {md : Region.Mode} {S : World → Prop}
/-- in every world that meets S the operation yields v, and leaves a world that meets S -/
def Runs (P : Program) (S : World → Prop) (o : Oper) (v : Value) (ρ : Operand → Value) : Prop :=
  ∀ w, S w → match (execOp ρ o).run P w with
    | .ok (.value u) w' => u = v ∧ S w'
    | .ok (.enter f args) w' => Calls P f args w' fun e w'' => e = .returned v ∧ S w''
    | _ => False
def StepsIf (P : Program) (ops : Array Oper) (S : World → Prop) (o : Oper) (v : Value) (a : Act) : Prop :=
  (Region.wanted o (yielded ops a.tmps) = true ∧ Runs P S o v a.eval) ∨ (Region.wanted o (yielded ops a.tmps) = false ∧ v = undef)
theorem StepsIf.of_same {o : Oper} {v : Value} {a a' : Act} (hy : StepsIf P ops S o v a) (he : execOp a'.eval o = execOp a.eval o)
    (hw : Region.wanted o (yielded ops a'.tmps) = Region.wanted o (yielded ops a.tmps)) : StepsIf P ops S o v a' := by
  unfold StepsIf Runs at *
  rw [he, hw]
  exact hy
theorem StepsIf.wpOp {i : Nat} {o : Oper} {v : Value} {a : Act} (hi : ops[i]? = some o) (hy : StepsIf P ops S o v a)
    {K : Act → World → Prop} {w : World} (hS : S w) (h : ∀ w', S w' → K (a.put o.dst v) w') : wpOp P ops Q i K a w := by
  unfold Go.wpOp
  simp only [hi]
  rcases hy with ⟨hw, hv⟩ | ⟨hw, rfl⟩
  · simp only [hw, if_true]
    refine .inl ?_
    have hr := hv w hS
    unfold Oper.wp
    generalize (execOp a.eval o).run P w = r at *
    cases r with
    | ok n w' =>
      cases n <;> simp only [Oper.upon] at hr ⊢
      case value u => obtain ⟨rfl, hs⟩ := hr; exact h _ hs
      case enter f args =>
        refine Calls.mono hr fun e w'' ⟨he, hs⟩ => ?_
        subst he
        exact h _ hs
    | halt x w' => exact hr.elim
  · simp only [hw, Bool.false_eq_true, if_false]; exact h _ hS
/-- Each operation that may come up steps so, whatever order is picked. -/
def Good (P : Program) (md : Region.Mode) (ops : Array Oper) (Q : Exit → Act → World → Prop) (S : World → Prop) : Nat → Array Bool → Act → Prop
  | 0, listed, a => Region.ready md ops listed = [] ∧ ∀ w, S w → Q .normal a w
  | f + 1, listed, a => (Region.ready md ops listed = [] → ∀ w, S w → Q .normal a w) ∧
    ∀ i ∈ Region.ready md ops listed, ∃ o v, ops[i]? = some o ∧ StepsIf P ops S o v a ∧ Good P md ops Q S f (listed.setIfInBounds i true) (a.put o.dst v)
theorem wpAny_of_good : ∀ (f : Nat) (listed : Array Bool) (a : Act), Good P md ops Q S f listed a → ∀ w, S w → wpAny P md ops Q f listed a w
  | 0, _, _, h, w, hS => ⟨h.1, h.2 w hS⟩
  | f + 1, listed, a, h, w, hS => ⟨fun e => h.1 e w hS, fun i hi => by
    obtain ⟨o, v, ho, hs, hg⟩ := h.2 i hi
    exact hs.wpOp ho hS fun w' hS' => wpAny_of_good f _ _ hg w' hS'⟩
theorem Good.first {i : Nat} {oi : Oper} {v : Value} (hi : ops[i]? = some oi) (hsel : ∀ (j : Nat) (o : Oper) cs b, ops[j]? = some o → o.op ≠ .select cs b) :
    ∀ (f : Nat) (listed : Array Bool) (a : Act),
      (∀ j oj, ops[j]? = some oj → j ≠ i → listed.getD j true = false → (∀ e ∈ oj.after, Region.binds md e = true → e.on ≠ i) → oi.apart ops oj = true) →
      i ∈ Region.ready md ops listed → StepsIf P ops S oi v a →
      Good P md ops Q S f (listed.setIfInBounds i true) (a.put oi.dst v) → Good P md ops Q S (f + 1) listed a := by
  intro f
  induction f with
  | zero =>
    intro listed a _ hr hy H
    refine ⟨fun h => (by rw [h] at hr; cases hr), fun j hj => ?_⟩
    by_cases hji : j = i
    · subst hji; exact ⟨oi, v, hi, hy, H⟩
    · have := ready_mono hj hji
      rw [H.1] at this
      cases this
  | succ f ih =>
    intro listed a hfree hr hy H
    refine ⟨fun h => (by rw [h] at hr; cases hr), fun j hj => ?_⟩
    by_cases hji : j = i
    · subst hji; exact ⟨oi, v, hi, hy, H⟩
    · obtain ⟨oj, u, hoj, hju, hg⟩ := H.2 j (ready_mono hj hji)
      obtain ⟨hjun, oj', hoj', hall⟩ := mem_ready.1 hj
      rw [hoj] at hoj'
      injection hoj' with hoj'
      subst hoj'
      have hnot : ∀ e ∈ oj.after, Region.binds md e = true → e.on ≠ i := fun e he hb heq => by
        have h1 := hall e he hb
        have h0 := (mem_ready.1 hr).1
        rw [heq] at h1
        rcases Nat.lt_or_ge i listed.size with h' | h'
        · simp [h'] at h0 h1; rw [h0] at h1; cases h1
        · simp [Array.getElem?_eq_none h'] at h1
      obtain ⟨h1, h2, h3⟩ := Oper.apart_spec (hfree j oj hoj hji hjun hnot)
      have hsi := fun cs b => hsel i oi cs b hi
      have hsj := fun cs b => hsel j oj cs b hoj
      have hju' : StepsIf P ops S oj u a := hju.of_same (execOp_put oj hsj a oi.dst v h1).symm (wanted_put oj a oi.dst v h1).symm
      have hy' : StepsIf P ops S oi v (a.put oj.dst u) := hy.of_same (execOp_put oi hsi a oj.dst u h3) (wanted_put oi a oj.dst u h3)
      have hfree' : ∀ k ok, ops[k]? = some ok → k ≠ i → (listed.setIfInBounds j true).getD k true = false →
          (∀ e ∈ ok.after, Region.binds md e = true → e.on ≠ i) → oi.apart ops ok = true := fun k ok hk hki hun hno => by
        refine hfree k ok hk hki ?_ hno
        by_cases hjk : j = k
        · subst hjk; exact hjun
        · rw [getD_set_ne true hjk] at hun; exact hun
      refine ⟨oj, u, hoj, hju', ih (listed.setIfInBounds j true) (a.put oj.dst u) hfree' (ready_mono hr (Ne.symm hji)) hy' ?_⟩
      rw [Array.setIfInBounds_comm _ _ hji, ← Act.put_comm a v u h2]
      exact hg
theorem Good.val {i : Nat} {oi : Oper} {v : Value} {f : Nat} {listed : Array Bool} {a : Act} {d : Option Tmp} (hi : ops[i]? = some oi) (hd : oi.dst = d)
    (hs : Region.noSelect ops = true) (hf : Region.free md ops listed i = true) (hr : (Region.ready md ops listed).contains i = true)
    (hw : Region.wanted oi (yielded ops a.tmps) = true) (hv : ∀ w, S w → (execOp a.eval oi).run P w = .ok (.value v) w)
    (h : Good P md ops Q S f (listed.setIfInBounds i true) (a.put d v)) : Good P md ops Q S (f + 1) listed a :=
  Good.first hi (Region.noSelect_spec hs) f listed a (Region.free_spec hi hf) (by simpa using hr) (.inl ⟨hw, fun w hS => by rw [hv w hS]; exact ⟨rfl, hS⟩⟩) (hd ▸ h)
theorem Good.call {i : Nat} {oi : Oper} {v : Value} {fn : FuncId} {args : Array Value} {f : Nat} {listed : Array Bool} {a : Act} {d : Option Tmp} (hi : ops[i]? = some oi) (hd : oi.dst = d)
    (hs : Region.noSelect ops = true) (hf : Region.free md ops listed i = true) (hr : (Region.ready md ops listed).contains i = true)
    (hw : Region.wanted oi (yielded ops a.tmps) = true) (hv : ∀ w, S w → (execOp a.eval oi).run P w = .ok (.enter fn args) w)
    (hc : ∀ w, S w → Calls P fn args w fun e w' => e = .returned v ∧ S w')
    (h : Good P md ops Q S f (listed.setIfInBounds i true) (a.put d v)) : Good P md ops Q S (f + 1) listed a :=
  Good.first hi (Region.noSelect_spec hs) f listed a (Region.free_spec hi hf) (by simpa using hr) (.inl ⟨hw, fun w hS => by rw [hv w hS]; exact hc w hS⟩) (hd ▸ h)
theorem Good.skip {i : Nat} {oi : Oper} {f : Nat} {listed : Array Bool} {a : Act} {d : Option Tmp} (hi : ops[i]? = some oi) (hd : oi.dst = d)
    (hs : Region.noSelect ops = true) (hf : Region.free md ops listed i = true) (hr : (Region.ready md ops listed).contains i = true)
    (hw : Region.wanted oi (yielded ops a.tmps) = false)
    (h : Good P md ops Q S f (listed.setIfInBounds i true) (a.put d undef)) : Good P md ops Q S (f + 1) listed a :=
  Good.first hi (Region.noSelect_spec hs) f listed a (Region.free_spec hi hf) (by simpa using hr) (.inr ⟨hw, rfl⟩) (hd ▸ h)
theorem Good.done {listed : Array Bool} {a : Act} (hr : Region.ready md ops listed = []) (h : ∀ w, S w → Q .normal a w) : ∀ f, Good P md ops Q S f listed a
  | 0 => ⟨hr, h⟩
  | _ + 1 => ⟨fun _ => h, by rw [hr]; simp⟩
theorem wp_region_lin {id : Nat} {a : Act} {w : World} (hm : P.follows .mixedOrders = true) (hS : S w.drew)
    (h : Good P .any ops Q S ops.size (Array.replicate ops.size false) a) : (Code.region id ops true).wp P Q a w :=
  wp_region_any hm (wpAny_of_good _ _ _ h _ hS)
end
section
variable {P : Program}
/-- the region's condition: the world grew -/
abbrev Grew (w0 : World) : World → Prop := fun w' => Below w0.heap.size w0 w'
theorem Grew.start (w : World) : Grew w w.drew := (Below.refl _ _).drew
theorem Grew.call {w0 : World} {fn : FuncId} {args : Array Value} {v : Value} (h : ∀ w, Below w0.heap.size w0 w → Calls P fn args w fun e w' => e = .returned v ∧ Below w.heap.size w w') :
    ∀ w, Grew w0 w → Calls P fn args w fun e w' => e = .returned v ∧ Grew w0 w' :=
  fun w q => (h w q).mono fun _ _ ⟨he, b⟩ => ⟨he, bl_ca q b⟩
end
end Go.Proofs.YtoaggmldekejoaaDoor
