/- The layer's word. Conditions: what the tables hold. -/
import Derived.Test.YthgcdilkkldgjaaDoorCFind
namespace Go.Proofs.YthgcdilkkldgjaaDoor
open Go.RowKit
theorem kix0 (W : World) : Sem.run Tryd.prog (Instr.index 96 (.agg #[.string sBool, .int .i64 1, .string sInt, .int .i64 2, .string sText, .int .i64 3]) (.int .i64 0)) W = .ok (.agg #[.string sBool, .int .i64 1]) W := by kernel_rfl
theorem kix1 (W : World) : Sem.run Tryd.prog (Instr.index 96 (.agg #[.string sBool, .int .i64 1, .string sInt, .int .i64 2, .string sText, .int .i64 3]) (.int .i64 1)) W = .ok (.agg #[.string sInt, .int .i64 2]) W := by kernel_rfl
theorem kix2 (W : World) : Sem.run Tryd.prog (Instr.index 96 (.agg #[.string sBool, .int .i64 1, .string sInt, .int .i64 2, .string sText, .int .i64 3]) (.int .i64 2)) W = .ok (.agg #[.string sText, .int .i64 3]) W := by kernel_rfl
set_option maxRecDepth 100000 in
set_option maxHeartbeats 1000000 in
theorem word_any (k : Int) (w : World) (hT : Tab w) : Calls Tryd.prog 46 #[.int .i64 k] w fun e w' => e = .returned (.string (wordS k)) ∧ Below w.heap.size w w' := by
  have HR := Lib.hid (show wordS k = if k = 1 then sBool else if k = 2 then sInt else if k = 3 then sText else ⟨#[]⟩ from rfl)
  generalize wordS k = r at *
  have k0 := hT.k0
  have k1 := hT.k1
  have k2 := hT.k2
  have k3 := hT.k3
  have k4 := hT.k4
  have k5 := hT.k5
  clear hT
  go_enter Tryd.func46, Tryd.ntmps46
  go_wp2_with fail
  clear k0 k1 k2 k3 k4 k5
  go_loopg [6] 3 (fun g s wr => ∃ (i : Nat), i + g ≤ 3 ∧ 3 ≤ i + g ∧ s = .int .i64 i ∧ (∀ j : Nat, j < i → k ≠ ((j + 1 : Nat) : Int)) ∧ Below w.heap.size w wr)
  case atStart => exact ⟨0, by omega, by omega, rfl, fun j hj => by omega, Below.refl _ _⟩
  case round =>
    obtain ⟨i, hi1, hi2, rfl, hne, hb⟩ := hrel
    have HNE := Lib.hid hne
    have HB := Lib.hid hb
    clear hne hb
    rcases (show i = 0 ∨ i = 1 ∨ i = 2 ∨ i = 3 from by omega) with rfl | rfl | rfl | rfl
    · have hw := kix0 wr
      by_cases h : k = 1
      · have e1 : ((1 : Int) == k) = true := by simp; omega
        have HQ := Lib.hid (show r = sBool from by rw [HR.out, if_pos h])
        clear h
        go_wp2
        go_ret
        exact ⟨by rw [HQ.out]; rfl, bl_al HB.out _⟩
      · have e1 : ((1 : Int) == k) = false := by simp; omega
        have HN := Lib.hid (show ∀ j : Nat, j < 1 → k ≠ ((j + 1 : Nat) : Int) from fun j hj => by omega)
        clear h
        go_wp2_with fail
        go_roundg (gk - 1)
        · exact ⟨1, by omega, by omega, by go_num, HN.out, bl_al HB.out _⟩
        · omega
    · have hw := kix1 wr
      have h1 := HNE.out 0 (by omega)
      by_cases h : k = 2
      · have e1 : ((2 : Int) == k) = true := by simp; omega
        have HQ := Lib.hid (show r = sInt from by rw [HR.out, if_neg (by omega), if_pos h])
        clear h h1
        go_wp2
        go_ret
        exact ⟨by rw [HQ.out]; rfl, bl_al HB.out _⟩
      · have e1 : ((2 : Int) == k) = false := by simp; omega
        have HN := Lib.hid (show ∀ j : Nat, j < 2 → k ≠ ((j + 1 : Nat) : Int) from fun j hj => by omega)
        clear h h1
        go_wp2_with fail
        go_roundg (gk - 1)
        · exact ⟨2, by omega, by omega, by go_num, HN.out, bl_al HB.out _⟩
        · omega
    · have hw := kix2 wr
      have h1 := HNE.out 0 (by omega)
      have h2 := HNE.out 1 (by omega)
      by_cases h : k = 3
      · have e1 : ((3 : Int) == k) = true := by simp; omega
        have HQ := Lib.hid (show r = sText from by rw [HR.out, if_neg (by omega), if_neg (by omega), if_pos h])
        clear h h1 h2
        go_wp2
        go_ret
        exact ⟨by rw [HQ.out]; rfl, bl_al HB.out _⟩
      · have e1 : ((3 : Int) == k) = false := by simp; omega
        have HN := Lib.hid (show ∀ j : Nat, j < 3 → k ≠ ((j + 1 : Nat) : Int) from fun j hj => by omega)
        clear h h1 h2
        go_wp2_with fail
        go_roundg (gk - 1)
        · exact ⟨3, by omega, by omega, by go_num, HN.out, bl_al HB.out _⟩
        · omega
    · have h1 := HNE.out 0 (by omega)
      have h2 := HNE.out 1 (by omega)
      have h3 := HNE.out 2 (by omega)
      have HQ := Lib.hid (show r = ⟨#[]⟩ from by rw [HR.out, if_neg (by omega), if_neg (by omega), if_neg (by omega)])
      clear h1 h2 h3
      go_wp2
      go_ret
      exact ⟨by rw [HQ.out]; rfl, HB.out⟩
end Go.Proofs.YthgcdilkkldgjaaDoor
