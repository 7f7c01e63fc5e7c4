/- value.Plain, value.True, and the reference's Plain. Conditions: none. -/
import Derived.Test.YtabbiepafibmmaaDoorV2
namespace Go.Proofs.YtabbiepafibmmaaDoor
open Go.RowKit
theorem check_y (k n u : Int) (s : ByteArray) (h : rightB k n u s = true) (w : World) : Calls Tryd.prog 19 #[.agg #[.int .i64 k, .int .i64 n, .int .u64 u, .string s]] w fun e w' => e = .returned (.int .i64 0) ∧ Below w.heap.size w w' := by
  have := check_any k n u s w
  rw [h] at this
  exact this
theorem check_x (k n u : Int) (s : ByteArray) (h : rightB k n u s = false) (w : World) : Calls Tryd.prog 19 #[.agg #[.int .i64 k, .int .i64 n, .int .u64 u, .string s]] w fun e w' => e = .returned (.int .i64 120) ∧ Below w.heap.size w w' := by
  have := check_any k n u s w
  rw [h] at this
  exact this
set_option maxHeartbeats 2000000 in
theorem plain_any (k n u : Int) (s : ByteArray) (w : World) : Calls Tryd.prog 18 #[.agg #[.int .i64 k, .int .i64 n, .int .u64 u, .string s]] w fun e w' => e = .returned (.bool (plainB k n u s)) ∧ Below w.heap.size w w' := by
  cases hr : rightB k n u s
  · rw [show plainB k n u s = false from by unfold plainB; rw [hr]; rfl]
    have hV := (Blk.new w 28 #[.int .i64 k, .int .i64 n, .int .u64 u, .string s])
    have bb := (bl_al (Below.refl w.heap.size w) (.cells #[.int .i64 k, .int .i64 n, .int .u64 u, .string s] 28))
    go_enter Tryd.func18, Tryd.ntmps18
    go_wp2_with fail
    generalize (w.alloc (.cells #[.int .i64 k, .int .i64 n, .int .u64 u, .string s] 28)) = w1 at *
    have hV_0 : w1.cell? ⟨w.heap.size, 0, none⟩ = some (.int .i64 k) := hV.cell 0
    have hV_1 : w1.cell? ⟨w.heap.size, 1, none⟩ = some (.int .i64 n) := hV.cell 1
    have hV_2 : w1.cell? ⟨w.heap.size, 2, none⟩ = some (.int .u64 u) := hV.cell 2
    have hV_3 : w1.cell? ⟨w.heap.size, 3, none⟩ = some (.string s) := hV.cell 3
    go_wp2_with fail
    refine (check_x k n u s hr _).mono ?_
    rintro e w2 ⟨rfl, q2⟩
    replace hV := hV.ca q2
    replace bb := bl_ca bb q2
    clear hV_0 hV_1 hV_2 hV_3
    clear q2
    have hV_0 : w2.cell? ⟨w.heap.size, 0, none⟩ = some (.int .i64 k) := hV.cell 0
    go_wp2
    go_ret
    exact ⟨rfl, bb⟩
  · cases hk : (k != 4)
    · rw [show plainB k n u s = false from by unfold plainB; rw [hr, hk]; rfl]
      have hV := (Blk.new w 28 #[.int .i64 k, .int .i64 n, .int .u64 u, .string s])
      have bb := (bl_al (Below.refl w.heap.size w) (.cells #[.int .i64 k, .int .i64 n, .int .u64 u, .string s] 28))
      go_enter Tryd.func18, Tryd.ntmps18
      go_wp2_with fail
      generalize (w.alloc (.cells #[.int .i64 k, .int .i64 n, .int .u64 u, .string s] 28)) = w1 at *
      have hV_0 : w1.cell? ⟨w.heap.size, 0, none⟩ = some (.int .i64 k) := hV.cell 0
      have hV_1 : w1.cell? ⟨w.heap.size, 1, none⟩ = some (.int .i64 n) := hV.cell 1
      have hV_2 : w1.cell? ⟨w.heap.size, 2, none⟩ = some (.int .u64 u) := hV.cell 2
      have hV_3 : w1.cell? ⟨w.heap.size, 3, none⟩ = some (.string s) := hV.cell 3
      go_wp2_with fail
      refine (check_y k n u s hr _).mono ?_
      rintro e w2 ⟨rfl, q2⟩
      replace hV := hV.ca q2
      replace bb := bl_ca bb q2
      clear hV_0 hV_1 hV_2 hV_3
      clear q2
      have hV_0 : w2.cell? ⟨w.heap.size, 0, none⟩ = some (.int .i64 k) := hV.cell 0
      go_wp2
      go_ret
      exact ⟨rfl, bb⟩
    · rw [show plainB k n u s = true from by unfold plainB; rw [hr, hk]; rfl]
      have hV := (Blk.new w 28 #[.int .i64 k, .int .i64 n, .int .u64 u, .string s])
      have bb := (bl_al (Below.refl w.heap.size w) (.cells #[.int .i64 k, .int .i64 n, .int .u64 u, .string s] 28))
      go_enter Tryd.func18, Tryd.ntmps18
      go_wp2_with fail
      generalize (w.alloc (.cells #[.int .i64 k, .int .i64 n, .int .u64 u, .string s] 28)) = w1 at *
      have hV_0 : w1.cell? ⟨w.heap.size, 0, none⟩ = some (.int .i64 k) := hV.cell 0
      have hV_1 : w1.cell? ⟨w.heap.size, 1, none⟩ = some (.int .i64 n) := hV.cell 1
      have hV_2 : w1.cell? ⟨w.heap.size, 2, none⟩ = some (.int .u64 u) := hV.cell 2
      have hV_3 : w1.cell? ⟨w.heap.size, 3, none⟩ = some (.string s) := hV.cell 3
      go_wp2_with fail
      refine (check_y k n u s hr _).mono ?_
      rintro e w2 ⟨rfl, q2⟩
      replace hV := hV.ca q2
      replace bb := bl_ca bb q2
      clear hV_0 hV_1 hV_2 hV_3
      clear q2
      have hV_0 : w2.cell? ⟨w.heap.size, 0, none⟩ = some (.int .i64 k) := hV.cell 0
      go_wp2
      go_ret
      exact ⟨rfl, bb⟩
set_option maxHeartbeats 2000000 in
theorem rplain_any (k n u : Int) (s : ByteArray) (w : World) : Calls Tryd.prog 14 #[.agg #[.int .i64 k, .int .i64 n, .int .u64 u, .string s]] w fun e w' => e = .returned (.bool (plainB k n u s)) ∧ Below w.heap.size w w' := by
  cases hr : rightB k n u s
  · rw [show plainB k n u s = false from by unfold plainB; rw [hr]; rfl]
    have hV := (Blk.new w 28 #[.int .i64 k, .int .i64 n, .int .u64 u, .string s])
    have bb := (bl_al (Below.refl w.heap.size w) (.cells #[.int .i64 k, .int .i64 n, .int .u64 u, .string s] 28))
    go_enter Tryd.func14, Tryd.ntmps14
    go_wp2_with fail
    generalize (w.alloc (.cells #[.int .i64 k, .int .i64 n, .int .u64 u, .string s] 28)) = w1 at *
    have hV_0 : w1.cell? ⟨w.heap.size, 0, none⟩ = some (.int .i64 k) := hV.cell 0
    have hV_1 : w1.cell? ⟨w.heap.size, 1, none⟩ = some (.int .i64 n) := hV.cell 1
    have hV_2 : w1.cell? ⟨w.heap.size, 2, none⟩ = some (.int .u64 u) := hV.cell 2
    have hV_3 : w1.cell? ⟨w.heap.size, 3, none⟩ = some (.string s) := hV.cell 3
    go_wp2_with fail
    refine (right_any k n u s _).mono ?_
    rintro e w2 ⟨rfl, q2⟩
    rw [hr]
    replace hV := hV.ca q2
    replace bb := bl_ca bb q2
    clear hV_0 hV_1 hV_2 hV_3
    clear q2
    have hV_0 : w2.cell? ⟨w.heap.size, 0, none⟩ = some (.int .i64 k) := hV.cell 0
    go_wp2
    go_ret
    exact ⟨rfl, bb⟩
  · cases hk : (k != 4)
    · rw [show plainB k n u s = false from by unfold plainB; rw [hr, hk]; rfl]
      have hV := (Blk.new w 28 #[.int .i64 k, .int .i64 n, .int .u64 u, .string s])
      have bb := (bl_al (Below.refl w.heap.size w) (.cells #[.int .i64 k, .int .i64 n, .int .u64 u, .string s] 28))
      go_enter Tryd.func14, Tryd.ntmps14
      go_wp2_with fail
      generalize (w.alloc (.cells #[.int .i64 k, .int .i64 n, .int .u64 u, .string s] 28)) = w1 at *
      have hV_0 : w1.cell? ⟨w.heap.size, 0, none⟩ = some (.int .i64 k) := hV.cell 0
      have hV_1 : w1.cell? ⟨w.heap.size, 1, none⟩ = some (.int .i64 n) := hV.cell 1
      have hV_2 : w1.cell? ⟨w.heap.size, 2, none⟩ = some (.int .u64 u) := hV.cell 2
      have hV_3 : w1.cell? ⟨w.heap.size, 3, none⟩ = some (.string s) := hV.cell 3
      go_wp2_with fail
      refine (right_any k n u s _).mono ?_
      rintro e w2 ⟨rfl, q2⟩
      rw [hr]
      replace hV := hV.ca q2
      replace bb := bl_ca bb q2
      clear hV_0 hV_1 hV_2 hV_3
      clear q2
      have hV_0 : w2.cell? ⟨w.heap.size, 0, none⟩ = some (.int .i64 k) := hV.cell 0
      go_wp2
      go_ret
      exact ⟨rfl, bb⟩
    · rw [show plainB k n u s = true from by unfold plainB; rw [hr, hk]; rfl]
      have hV := (Blk.new w 28 #[.int .i64 k, .int .i64 n, .int .u64 u, .string s])
      have bb := (bl_al (Below.refl w.heap.size w) (.cells #[.int .i64 k, .int .i64 n, .int .u64 u, .string s] 28))
      go_enter Tryd.func14, Tryd.ntmps14
      go_wp2_with fail
      generalize (w.alloc (.cells #[.int .i64 k, .int .i64 n, .int .u64 u, .string s] 28)) = w1 at *
      have hV_0 : w1.cell? ⟨w.heap.size, 0, none⟩ = some (.int .i64 k) := hV.cell 0
      have hV_1 : w1.cell? ⟨w.heap.size, 1, none⟩ = some (.int .i64 n) := hV.cell 1
      have hV_2 : w1.cell? ⟨w.heap.size, 2, none⟩ = some (.int .u64 u) := hV.cell 2
      have hV_3 : w1.cell? ⟨w.heap.size, 3, none⟩ = some (.string s) := hV.cell 3
      go_wp2_with fail
      refine (right_any k n u s _).mono ?_
      rintro e w2 ⟨rfl, q2⟩
      rw [hr]
      replace hV := hV.ca q2
      replace bb := bl_ca bb q2
      clear hV_0 hV_1 hV_2 hV_3
      clear q2
      have hV_0 : w2.cell? ⟨w.heap.size, 0, none⟩ = some (.int .i64 k) := hV.cell 0
      go_wp2
      go_ret
      exact ⟨rfl, bb⟩
end Go.Proofs.YtabbiepafibmmaaDoor
