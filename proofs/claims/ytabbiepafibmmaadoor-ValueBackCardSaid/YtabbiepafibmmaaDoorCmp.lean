/- cmp.Compare[int64], cmp.Or[int] at three numbers. Conditions: the three lie in a block. -/
import Derived.Test.YtabbiepafibmmaaDoorV3
import Derived.Test.YtabbiepafibmmaaDoorShelf
namespace Go.Proofs.YtabbiepafibmmaaDoor
open Go.RowKit
set_option maxHeartbeats 2000000 in
theorem cmp64_any (x y : Int) (w : World) : Calls Tryd.prog 56 #[.int .i64 x, .int .i64 y] w fun e w' => e = .returned (.int .i64 (Lib.compareInt x y)) ∧ w' = w := by
  by_cases h1 : x < y
  · rw [show Lib.compareInt x y = -1 from by unfold Lib.compareInt; rw [if_pos h1]]
    go_enter Tryd.func56, Tryd.ntmps56
    go_wp2
    go_ret
    exact ⟨rfl, rfl⟩
  · by_cases h2 : y < x
    · rw [show Lib.compareInt x y = 1 from by unfold Lib.compareInt; rw [if_neg h1, if_pos h2]]
      go_enter Tryd.func56, Tryd.ntmps56
      go_wp2
      go_ret
      exact ⟨rfl, rfl⟩
    · rw [show Lib.compareInt x y = 0 from by unfold Lib.compareInt; rw [if_neg h1, if_neg h2]]
      go_enter Tryd.func56, Tryd.ntmps56
      go_wp2
      go_ret
      exact ⟨rfl, rfl⟩
def orI (a b c : Int) : Int := if a != 0 then a else if b != 0 then b else c
set_option maxHeartbeats 2000000 in
theorem cmpor_any (g : Nat) (t : TypeId) (a b c : Int) (w : World) (h : Blk w g t #[.int .i64 a, .int .i64 b, .int .i64 c]) :
    Calls Tryd.prog 54 #[.slice (some ⟨g, 0, none⟩) 3 3] w fun e w' => e = .returned (.int .i64 (orI a b c)) ∧ w' = w := by
  have c0 := h.cell 0
  have c1 := h.cell 1
  have c2 := h.cell 2
  have HO := Lib.hid (show orI a b c = if a != 0 then a else if b != 0 then b else c from rfl)
  generalize orI a b c = r at *
  go_enter Tryd.func54, Tryd.ntmps54
  go_wp2
  go_loopg [8] 3 (fun g' s wr => ∃ (i : Nat), i + g' ≤ 3 ∧ 3 ≤ i + g' ∧ s = .int .i64 i ∧ wr = w ∧ (1 ≤ i → a = 0) ∧ (2 ≤ i → b = 0) ∧ (3 ≤ i → c = 0))
  case atStart => exact ⟨0, by omega, by omega, rfl, rfl, by omega, by omega, by omega⟩
  case round =>
    obtain ⟨i, hi1, hi2, rfl, rfl, ha, hb, hc⟩ := hrel
    have d0 : wr.cell? ⟨g, 0, none⟩ = some (.int .i64 a) := c0
    have d1 : wr.cell? ⟨g, 1, none⟩ = some (.int .i64 b) := c1
    have d2 : wr.cell? ⟨g, 2, none⟩ = some (.int .i64 c) := c2
    clear c0 c1 c2 h
    rcases (show i = 0 ∨ i = 1 ∨ i = 2 ∨ i = 3 from by omega) with rfl | rfl | rfl | rfl
    · by_cases z : a = 0
      · have t : (a != 0) = false := ibne_f z
        go_wp2
        go_roundg (gk - 1)
        · exact ⟨1, by omega, by omega, by go_num, rfl, by omega, by omega, by omega⟩
        · omega
      · have t : (a != 0) = true := ibne_t z
        have hr : r = a := by rw [HO.out, if_pos t]
        clear HO ha hb hc
        go_wp2
        go_ret
        exact ⟨by rw [hr]; rfl, rfl⟩
    · by_cases z : b = 0
      · have t : (b != 0) = false := ibne_f z
        go_wp2
        go_roundg (gk - 1)
        · exact ⟨2, by omega, by omega, by go_num, rfl, by omega, by omega, by omega⟩
        · omega
      · have t : (b != 0) = true := ibne_t z
        have hr : r = b := by have za := ha (by omega); rw [HO.out, if_neg (by rw [za]; simp), if_pos t]
        clear HO ha hb hc
        go_wp2
        go_ret
        exact ⟨by rw [hr]; rfl, rfl⟩
    · by_cases z : c = 0
      · have t : (c != 0) = false := ibne_f z
        go_wp2
        go_roundg (gk - 1)
        · exact ⟨3, by omega, by omega, by go_num, rfl, by omega, by omega, by omega⟩
        · omega
      · have t : (c != 0) = true := ibne_t z
        have hr : r = c := by have za := ha (by omega); have zb := hb (by omega); rw [HO.out, if_neg (by rw [za]; simp), if_neg (by rw [zb]; simp)]
        clear HO ha hb hc
        go_wp2
        go_ret
        exact ⟨by rw [hr]; rfl, rfl⟩
    · have hr : r = 0 := by have za := ha (by omega); have zb := hb (by omega); have zc := hc (by omega); rw [HO.out, if_neg (by rw [za]; simp), if_neg (by rw [zb]; simp), zc]
      clear HO ha hb hc
      go_wp2
      go_ret
      exact ⟨by rw [hr]; rfl, rfl⟩
end Go.Proofs.YtabbiepafibmmaaDoor
