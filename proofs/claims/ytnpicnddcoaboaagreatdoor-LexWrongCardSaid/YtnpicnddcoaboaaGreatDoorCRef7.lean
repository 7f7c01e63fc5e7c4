/- Names: the reference's IsName and what it calls. Conditions: none. -/
import Derived.Test.YtnpicnddcoaboaaGreatDoorLxD
import Derived.Lib.SlicesS
namespace Go.Proofs.YtnpicnddcoaboaaGreatDoor
open Go.RowKit
set_option maxRecDepth 100000 in
theorem rsmall_any (c : Int) (w : World) : Calls Tryz.prog 42 #[.int .u8 c] w fun e w' => e = .returned (.bool (smI c)) ∧ w = w' := by
  have HR := Lib.hid (show smI c = (decide (97 ≤ c) && decide (c ≤ 122)) from rfl)
  generalize smI c = r at *
  go_enter Tryz.func42, Tryz.ntmps42
  go_wp2
  all_goals
    go_ret
    exact ⟨by rw [HR.out]; simp [*] <;> omega, rfl⟩
set_option maxRecDepth 100000 in
theorem rdigit_any (c : Int) (w : World) : Calls Tryz.prog 43 #[.int .u8 c] w fun e w' => e = .returned (.bool (dgI c)) ∧ w = w' := by
  have HR := Lib.hid (show dgI c = (decide (48 ≤ c) && decide (c ≤ 57)) from rfl)
  generalize dgI c = r at *
  go_enter Tryz.func43, Tryz.ntmps43
  go_wp2
  all_goals
    go_ret
    exact ⟨by rw [HR.out]; simp [*] <;> omega, rfl⟩
set_option maxRecDepth 100000 in
theorem lsmall_any (c : Int) (w : World) : Calls Tryz.prog 66 #[.int .i32 c] w fun e w' => e = .returned (.bool (smI c)) ∧ w = w' := by
  have HR := Lib.hid (show smI c = (decide (97 ≤ c) && decide (c ≤ 122)) from rfl)
  generalize smI c = r at *
  go_enter Tryz.func66, Tryz.ntmps66
  go_wp2
  all_goals
    go_ret
    exact ⟨by rw [HR.out]; simp [*] <;> omega, rfl⟩
set_option maxRecDepth 100000 in
theorem ldigit_any (c : Int) (w : World) : Calls Tryz.prog 67 #[.int .i32 c] w fun e w' => e = .returned (.bool (dgI c)) ∧ w = w' := by
  have HR := Lib.hid (show dgI c = (decide (48 ≤ c) && decide (c ≤ 57)) from rfl)
  generalize dgI c = r at *
  go_enter Tryz.func67, Tryz.ntmps67
  go_wp2
  all_goals
    go_ret
    exact ⟨by rw [HR.out]; simp [*] <;> omega, rfl⟩
theorem seq_iff (a b : ByteArray) : (a.toList == b.toList) = decide (a = b) := by
  rw [ByteArray.toList_eq, ByteArray.toList_eq, Bool.eq_iff_iff, beq_iff_eq, decide_eq_true_eq]
  constructor
  · intro h
    cases a; cases b
    simp only [Array.toList_inj] at h
    subst h; rfl
  · rintro rfl; rfl
set_option maxRecDepth 100000 in
theorem has_any (F : Nat → Prop) (A : Option Addr) (m c : Nat) (l : List ByteArray) (s : ByteArray) (w : World) (h : LS.rd w F A m l) (hm : m ≤ 9223372036854775807) :
    Calls Tryz.prog 20 #[.slice A m c, .string s] w fun e w' => e = .returned (.bool (Lib.containsS l s)) ∧ w = w' := by
  have HL := Lib.hid (Lay.rd_len h)
  have HR := Lib.hid (show Lib.containsS l s = true ↔ s ∈ l from Lib.containsS_iff l s)
  generalize Lib.containsS l s = r at *
  go_enter Tryz.func20, Tryz.ntmps20
  go_wp2_with fail
  go_loopg [5] m (fun g a wr => ∃ i : Nat, i + g = m ∧ a = .int .i64 i ∧ (∀ (k : Nat) (q : ByteArray), k < i → l[k]? = some q → q ≠ s) ∧ w = wr)
  case atStart => exact ⟨0, by omega, rfl, fun k q hk => by omega, rfl⟩
  case round =>
    obtain ⟨i, hig, rfl, hlo, rfl⟩ := hrel
    have HLO := Lib.hid hlo
    clear hlo
    by_cases hlt : i < m
    · have hi1 : (i : Int) < (m : Int) := by omega
      obtain ⟨p, q, rfl, hx, e0⟩ := LS_at h hlt
      have HX := Lib.hid hx
      clear hx
      by_cases hq : q = s
      · have e1 : (q.toList == s.toList) = true := by rw [seq_iff]; simpa using hq
        have HQ := Lib.hid hq
        clear hq
        go_wp2
        go_ret
        exact ⟨ret_bool (HR.out.2 (by rw [← HQ.out]; exact List.mem_of_getElem? HX.out)).symm, rfl⟩
      · have e1 : (q.toList == s.toList) = false := by rw [seq_iff]; simpa using hq
        have HQ := Lib.hid hq
        clear hq
        go_wp2
        go_roundg (gk - 1)
        · refine ⟨i + 1, by omega, by go_num, fun k r hk hr => ?_, rfl⟩
          rcases Nat.lt_or_ge k i with h1 | h1
          · exact HLO.out k r h1 hr
          · obtain rfl : k = i := by omega
            have h2 := HX.out
            rw [hr] at h2
            injection h2 with h2
            subst h2
            exact HQ.out
        · omega
    · obtain rfl : i = m := by omega
      have hi1 : (i : Int) ≤ (i : Int) := by omega
      have HF := Lib.hid (show r = false from by
        cases r
        · rfl
        · obtain ⟨k, hk, e⟩ := List.getElem_of_mem (HR.out.1 rfl)
          exact absurd e (HLO.out k _ (by have := HL.out; omega) (List.getElem?_eq_getElem hk)))
      clear HR
      go_wp2
      go_ret
      exact ⟨ret_bool HF.out.symm, rfl⟩
end Go.Proofs.YtnpicnddcoaboaaGreatDoor
