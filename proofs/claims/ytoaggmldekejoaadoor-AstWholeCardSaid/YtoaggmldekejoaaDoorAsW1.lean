/- How many parts a tag has; what may be written; names that may be missing. Conditions: what the tables hold. -/
import Derived.Test.YtoaggmldekejoaaDoorAsD
import Derived.Test.YtoaggmldekejoaaDoorCName
import Derived.Test.YtoaggmldekejoaaDoorV3
namespace Go.Proofs.YtoaggmldekejoaaDoor
open Go.RowKit
theorem ret_i {a b : Int} (h : a = b) : Ending.returned (.int .i64 a) = Ending.returned (.int .i64 b) := by rw [h]
set_option maxRecDepth 100000 in
theorem parts_any (t : Int) (w : World) : Calls Tryd.prog 31 #[.int .i64 t] w fun e w' => e = .returned (.int .i64 (partsI t)) ∧ w = w' := by
  have HP := Lib.hid (show partsI t = if t < 1 then -1 else if 23 < t then -1 else if t ≤ 3 then 0 else if t ≤ 11 then 1 else 2 from rfl)
  generalize partsI t = r at *
  by_cases h1 : t < 1
  · have HF := Lib.hid (show r = -1 from by rw [HP.out, if_pos h1])
    go_enter Tryd.func31, Tryd.ntmps31
    go_wp2
    go_ret
    exact ⟨ret_i HF.out.symm, rfl⟩
  have h1' : 1 ≤ t := by omega
  by_cases h2 : 23 < t
  · have HF := Lib.hid (show r = -1 from by rw [HP.out, if_neg h1, if_pos h2])
    clear h1
    go_enter Tryd.func31, Tryd.ntmps31
    go_wp2
    go_ret
    exact ⟨ret_i HF.out.symm, rfl⟩
  have h2' : t ≤ 23 := by omega
  by_cases h3 : t ≤ 3
  · have HF := Lib.hid (show r = 0 from by rw [HP.out, if_neg h1, if_neg h2, if_pos h3])
    clear h1 h2
    go_enter Tryd.func31, Tryd.ntmps31
    go_wp2
    go_ret
    exact ⟨ret_i HF.out.symm, rfl⟩
  have h3' : 3 < t := by omega
  by_cases h4 : t ≤ 11
  · have HF := Lib.hid (show r = 1 from by rw [HP.out, if_neg h1, if_neg h2, if_neg h3, if_pos h4])
    clear h1 h2 h3
    go_enter Tryd.func31, Tryd.ntmps31
    go_wp2
    go_ret
    exact ⟨ret_i HF.out.symm, rfl⟩
  have h4' : 11 < t := by omega
  have HF := Lib.hid (show r = 2 from by rw [HP.out, if_neg h1, if_neg h2, if_neg h3, if_neg h4])
  clear h1 h2 h3 h4
  go_enter Tryd.func31, Tryd.ntmps31
  go_wp2
  go_ret
  exact ⟨ret_i HF.out.symm, rfl⟩
set_option maxRecDepth 100000 in
theorem rparts_any (t : Int) (w : World) : Calls Tryd.prog 29 #[.int .i64 t] w fun e w' => e = .returned (.int .i64 (partsI t)) ∧ w = w' := by
  have HP := Lib.hid (show partsI t = if t < 1 then -1 else if 23 < t then -1 else if t ≤ 3 then 0 else if t ≤ 11 then 1 else 2 from rfl)
  generalize partsI t = r at *
  by_cases h1 : t < 1
  · have HF := Lib.hid (show r = -1 from by rw [HP.out, if_pos h1])
    go_enter Tryd.func29, Tryd.ntmps29
    go_wp2
    go_ret
    exact ⟨ret_i HF.out.symm, rfl⟩
  have h1' : 1 ≤ t := by omega
  by_cases h2 : 23 < t
  · have HF := Lib.hid (show r = -1 from by rw [HP.out, if_neg h1, if_pos h2])
    clear h1
    go_enter Tryd.func29, Tryd.ntmps29
    go_wp2
    go_ret
    exact ⟨ret_i HF.out.symm, rfl⟩
  have h2' : t ≤ 23 := by omega
  by_cases h3 : t ≤ 3
  · have HF := Lib.hid (show r = 0 from by rw [HP.out, if_neg h1, if_neg h2, if_pos h3])
    clear h1 h2
    go_enter Tryd.func29, Tryd.ntmps29
    go_wp2
    go_ret
    exact ⟨ret_i HF.out.symm, rfl⟩
  have h3' : 3 < t := by omega
  by_cases h4 : t ≤ 11
  · have HF := Lib.hid (show r = 1 from by rw [HP.out, if_neg h1, if_neg h2, if_neg h3, if_pos h4])
    clear h1 h2 h3
    go_enter Tryd.func29, Tryd.ntmps29
    go_wp2
    go_ret
    exact ⟨ret_i HF.out.symm, rfl⟩
  have h4' : 11 < t := by omega
  have HF := Lib.hid (show r = 2 from by rw [HP.out, if_neg h1, if_neg h2, if_neg h3, if_neg h4])
  clear h1 h2 h3 h4
  go_enter Tryd.func29, Tryd.ntmps29
  go_wp2
  go_ret
  exact ⟨ret_i HF.out.symm, rfl⟩
/-- may a text be written alone? -/
def wriB (s : ByteArray) : Bool := s.data.toList.all plU
theorem all_drop {l : List UInt8} {i : Nat} {b : UInt8} (p : UInt8 → Bool) (h : l[i]? = some b) : (l.drop i).all p = (p b && (l.drop (i + 1)).all p) := by
  have hlt : i < l.length := (List.getElem?_eq_some_iff.1 h).1
  rw [List.drop_eq_getElem_cons hlt, List.all_cons]
  have e : l[i] = b := by rw [List.getElem?_eq_getElem hlt] at h; injection h
  rw [e]
set_option maxRecDepth 100000 in
theorem written_any (s : ByteArray) (w : World) (hs : s.size ≤ 9223372036854775807) : Calls Tryd.prog 42 #[.string s] w fun e w' => e = .returned (.bool (wriB s)) ∧ Below w.heap.size w w' := by
  have HR := Lib.hid (show wriB s = (s.data.toList.drop 0).all plU from by rw [List.drop_zero]; rfl)
  generalize wriB s = r at *
  have HL := Lib.hid (show s.data.toList.length = s.size from by simp)
  go_enter Tryd.func42, Tryd.ntmps42
  go_wp2_with fail
  go_loopg [6] s.size (fun g a wr => ∃ i : Nat, i + g = s.size ∧ a = .int .i64 i ∧ Hid (r = (s.data.toList.drop i).all plU) ∧ Below w.heap.size w wr)
  case atStart => exact ⟨0, by omega, rfl, HR, Below.refl _ _⟩
  case round =>
    obtain ⟨i, hig, rfl, HI, hb⟩ := hrel
    have HB := Lib.hid hb
    clear hb
    by_cases hlt : i < s.size
    · have hi1 : (i : Int) < (s.size : Int) := by omega
      obtain ⟨b, hbt⟩ := byte_at hlt
      have hix := run_bt hbt
      have HA := Lib.hid (all_drop plU hbt)
      have HPL := Lib.hid (show plU b = (decide (32 ≤ (b.toNat : Int)) && decide ((b.toNat : Int) ≤ 126)) from rfl)
      obtain ⟨cc, hc⟩ : ∃ cc, cc = (b.toNat : Int) := ⟨_, rfl⟩
      rw [← hc] at hix HPL
      clear hbt hc
      by_cases h1 : cc < 32
      · have HF := Lib.hid (show r = false from by rw [HI.out, HA.out, HPL.out, decide_eq_false (by omega)]; rfl)
        go_wp2
        go_ret
        exact ⟨ret_bool HF.out.symm, HB.out⟩
      · have h1' : 32 ≤ cc := by omega
        by_cases h2 : 126 < cc
        · have HF := Lib.hid (show r = false from by rw [HI.out, HA.out, HPL.out, decide_eq_false (show ¬ cc ≤ 126 by omega), Bool.and_false]; rfl)
          clear h1
          go_wp2
          go_ret
          exact ⟨ret_bool HF.out.symm, HB.out⟩
        · have h2' : cc ≤ 126 := by omega
          have HF := Lib.hid (show r = (s.data.toList.drop (i + 1)).all plU from by rw [HI.out, HA.out, HPL.out, decide_eq_true h1', decide_eq_true h2']; rfl)
          clear h1 h2
          go_wp2
          go_roundg (gk - 1)
          · exact ⟨i + 1, by omega, by go_num, HF, HB.out⟩
          · omega
    · obtain rfl : i = s.size := by omega
      have hi1 : (s.size : Int) ≤ (s.size : Int) := by omega
      have HF := Lib.hid (show r = true from by rw [HI.out, List.drop_of_length_le (by rw [HL.out]; exact Nat.le_refl _)]; rfl)
      go_wp2
      go_ret
      exact ⟨ret_bool HF.out.symm, HB.out⟩
/-- is a text a name, or empty? -/
def mayB (s : ByteArray) : Bool := decide (s.data.toList = []) || nameB s
theorem toList_data (s : ByteArray) : s.toList = s.data.toList := ByteArray.toList_eq s
set_option maxRecDepth 100000 in
theorem maybe_any (s : ByteArray) (w : World) (hT : Tab w) (hs : s.size ≤ 9223372036854775807) : Calls Tryd.prog 44 #[.string s] w fun e w' => e = .returned (.bool (mayB s)) ∧ Below w.heap.size w w' := by
  have HR := Lib.hid (show mayB s = (decide (s.data.toList = []) || nameB s) from rfl)
  have HC := Lib.hid (isname_any s w hT hs)
  generalize mayB s = r at *
  generalize nameB s = q at *
  clear hT hs
  by_cases h0 : s.data.toList = []
  · have HF := Lib.hid (show r = true from by rw [HR.out, decide_eq_true h0]; rfl)
    have hs0 : s = ⟨#[]⟩ := by rw [show s = ⟨s.data.toList.toArray⟩ from rfl, h0]
    subst hs0
    clear h0
    go_enter Tryd.func44, Tryd.ntmps44
    go_wp2
    go_ret
    exact ⟨ret_bool HF.out.symm, Below.refl _ _⟩
  · have HF := Lib.hid (show r = q from by rw [HR.out, decide_eq_false h0]; rfl)
    have e1 : s.toList.isEmpty = false := by rw [toList_data]; cases h : s.data.toList with | nil => exact absurd h h0 | cons => rfl
    have e2 : (s.toList == []) = false := by rw [toList_data]; simpa using h0
    have e3 : ¬ s.toList = [] := by rw [toList_data]; exact h0
    clear h0
    go_enter Tryd.func44, Tryd.ntmps44
    go_wp2_with fail
    refine HC.out.mono ?_
    rintro e w2 ⟨rfl, q2⟩
    go_wp2
    go_ret
    exact ⟨ret_bool HF.out.symm, q2⟩
end Go.Proofs.YtoaggmldekejoaaDoor
