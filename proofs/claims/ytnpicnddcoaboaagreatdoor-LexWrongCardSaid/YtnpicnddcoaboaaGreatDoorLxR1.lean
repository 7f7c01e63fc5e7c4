/- The reference's part, Plain, Number, quoted. Conditions: texts of at most 100000 bytes. -/
import Derived.Test.YtnpicnddcoaboaaGreatDoorCRef7b
namespace Go.Proofs.YtnpicnddcoaboaaGreatDoor
open Go.RowKit
theorem alls_at {p : UInt8 → Bool} {l : List UInt8} {i : Nat} {b : UInt8} (h : l[i]? = some b) : (l.drop i).all p = (p b && (l.drop (i + 1)).all p) := by
  have hi : i < l.length := by
    rcases Nat.lt_or_ge i l.length with h1 | h1
    · exact h1
    · rw [List.getElem?_eq_none h1] at h; cases h
  rw [List.getElem?_eq_getElem hi] at h
  injection h with h
  rw [List.drop_eq_getElem_cons hi, h, List.all_cons]
theorem drop_at {l : List UInt8} {i : Nat} {b : UInt8} (h : l[i]? = some b) : l.drop i = b :: l.drop (i + 1) := by
  have hi : i < l.length := by
    rcases Nat.lt_or_ge i l.length with h1 | h1
    · exact h1
    · rw [List.getElem?_eq_none h1] at h; cases h
  rw [List.getElem?_eq_getElem hi] at h
  injection h with h
  rw [List.drop_eq_getElem_cons hi, h]
theorem pa_split (c : Int) : paI c = (smI c || (dgI c || ((decide (65 ≤ c) && decide (c ≤ 90)) || decide (c = 95)))) := by
  unfold paI cpI
  cases smI c <;> cases dgI c <;> rfl
set_option maxRecDepth 100000 in
theorem rpart_any (c : Int) (w : World) : Calls Tryz.prog 38 #[.int .u8 c] w fun e w' => e = .returned (.bool (paI c)) ∧ w = w' := by
  have HR := Lib.hid (pa_split c)
  generalize paI c = r at *
  go_enter Tryz.func38, Tryz.ntmps38
  go_wp2_with fail
  refine (rsmall_any c _).mono ?_
  rintro e w2 ⟨rfl, rfl⟩
  obtain ⟨q, hq⟩ : ∃ q, q = smI c := ⟨_, rfl⟩
  rw [← hq] at HR ⊢
  clear hq
  cases q
  · go_wp2_with fail
    refine (rdigit_any c _).mono ?_
    rintro e w2 ⟨rfl, rfl⟩
    obtain ⟨q, hq⟩ : ∃ q, q = dgI c := ⟨_, rfl⟩
    rw [← hq] at HR ⊢
    clear hq
    cases q
    · by_cases h1 : 65 ≤ c
      · by_cases h2 : c ≤ 90
        · have HF := Lib.hid (show r = true from by rw [HR.out, decide_eq_true h1, decide_eq_true h2]; rfl)
          go_wp2
          go_ret
          exact ⟨ret_bool HF.out.symm, rfl⟩
        · have HF := Lib.hid (show r = decide (c = 95) from by rw [HR.out, decide_eq_false h2, Bool.and_false]; rfl)
          go_wp2
          go_ret
          exact ⟨ret_bool (by rw [HF.out, decide_eq_false (show ¬ c ≤ 90 by omega)]; rfl), rfl⟩
      · have HF := Lib.hid (show r = decide (c = 95) from by rw [HR.out, decide_eq_false h1]; rfl)
        go_wp2
        go_ret
        exact ⟨ret_bool HF.out.symm, rfl⟩
    · go_wp2
      go_ret
      exact ⟨ret_bool (by rw [HR.out]; rfl), rfl⟩
  · go_wp2
    go_ret
    exact ⟨ret_bool (by rw [HR.out]; rfl), rfl⟩
set_option maxRecDepth 100000 in
theorem rplain_any (s : ByteArray) (w : World) (hs : s.size ≤ 100000) : Calls Tryz.prog 19 #[.string s] w fun e w' => e = .returned (.bool (plainU s.data.toList)) ∧ w = w' := by
  have HR := Lib.hid (show plainU s.data.toList = (decide (s.size ≤ 40) && s.data.toList.all plU) from by unfold plainU; simp)
  generalize plainU s.data.toList = r at *
  go_enter Tryz.func19, Tryz.ntmps19
  go_wp2_with fail
  go_loopg [3] s.size (fun g a wr => ∃ i : Nat, i + g = s.size ∧ a = .int .i64 i ∧ s.data.toList.all plU = (s.data.toList.drop i).all plU ∧ w = wr)
  case atStart => exact ⟨0, by omega, rfl, by simp, rfl⟩
  case round =>
    obtain ⟨i, hig, rfl, hri, rfl⟩ := hrel
    have HRI := Lib.hid hri
    clear hri
    by_cases hlt : i < s.size
    · have hi1 : (i : Int) < (s.size : Int) := by omega
      obtain ⟨b, hb⟩ := byte_at hlt
      have hix := run_bt hb
      have HA := Lib.hid (alls_at (p := plU) hb)
      have HP := Lib.hid (show plU b = (decide (32 ≤ (b.toNat : Int)) && decide ((b.toNat : Int) ≤ 126)) from rfl)
      clear hb
      obtain ⟨c, hc⟩ : ∃ c, c = (b.toNat : Int) := ⟨_, rfl⟩
      rw [← hc] at hix HP
      clear hc
      by_cases h1 : c < 32
      · go_wp2
        go_ret
        exact ⟨ret_bool (by rw [HR.out, HRI.out, HA.out, HP.out]; simp; omega), rfl⟩
      · by_cases h2 : 126 < c
        · go_wp2
          go_ret
          exact ⟨ret_bool (by rw [HR.out, HRI.out, HA.out, HP.out]; simp; omega), rfl⟩
        · have HK := Lib.hid (show plU b = true from by rw [HP.out]; simp; omega)
          have h1' : 32 ≤ c := by omega
          have h2' : c ≤ 126 := by omega
          clear h1 h2
          go_wp2
          go_roundg (gk - 1)
          · exact ⟨i + 1, by omega, by go_num, by rw [HRI.out, HA.out, HK.out]; rfl, rfl⟩
          · omega
    · obtain rfl : i = s.size := by omega
      have hi1 : (s.size : Int) ≤ (s.size : Int) := by omega
      have HF := Lib.hid (show r = decide (s.size ≤ 40) from by rw [HR.out, HRI.out, List.drop_of_length_le (by simp)]; simp)
      clear HRI HR
      go_wp2
      all_goals
        go_ret
        exact ⟨ret_bool (by rw [HF.out]; simp [*] <;> omega), rfl⟩
/-- what a number's reading returns -/
def NumE (l : List UInt8) (e : Ending) : Prop := ∃ v : Int, e = .returned (.tuple #[.int .u64 v, .bool (numU l).isSome]) ∧ ∀ k, numU l = some k → v = (k : Int)
theorem NumE.no {l : List UInt8} {v : Int} (h : numU l = none) : NumE l (.returned (.tuple #[.int .u64 v, .bool false])) := ⟨v, by rw [h]; rfl, by rw [h]; intro k hk; cases hk⟩
theorem numU_iff (l : List UInt8) : (numU l).isSome = decide (l.all dgU = true ∧ valU 0 l < 9223372036854775808 ∧ (l.length = 1 ∨ l.head? ≠ some 48)) := by
  unfold numU
  split
  · rename_i h; rw [decide_eq_true h]; rfl
  · rename_i h; rw [decide_eq_false h]; rfl
theorem NumE.yes {l : List UInt8} {b : Bool} {v : Int} (h : b = (numU l).isSome) (hv : v = (valU 0 l : Int)) : NumE l (.returned (.tuple #[.int .u64 v, .bool b])) := by
  refine ⟨v, by rw [h], fun k hk => ?_⟩
  unfold numU at hk
  split at hk
  · cases hk; exact hv
  · cases hk
theorem valU_mono : ∀ (l : List UInt8) (a : Nat), a * 10 ^ l.length ≤ valU a l
  | [], a => by rw [valU_nil]; simp
  | b :: l, a => by
    rw [valU_cons]
    refine Nat.le_trans ?_ (valU_mono l _)
    rw [List.length_cons, Nat.pow_succ, Nat.mul_comm (10 ^ l.length) 10, ← Nat.mul_assoc]
    exact Nat.mul_le_mul_right _ (by omega)
theorem num_long {l : List UInt8} (h : 20 ≤ l.length) : numU l = none := by
  unfold numU
  rw [if_neg]
  rintro ⟨h1, h2, h3⟩
  match l, h with
  | b :: r, h =>
    simp only [List.length_cons] at h
    have h4 : b ≠ 48 := by
      rcases h3 with h3 | h3
      · simp only [List.length_cons] at h3; omega
      · intro e; rw [e] at h3; exact h3 rfl
    rw [List.all_cons, Bool.and_eq_true] at h1
    have h5 := h1.1
    unfold dgU dgI at h5
    simp only [Bool.and_eq_true, decide_eq_true_eq] at h5
    have h6 : b.toNat ≠ 48 := fun e => h4 (UInt8.toNat_inj.1 (by rw [e]; rfl))
    rw [valU_cons] at h2
    have h7 := valU_mono r (0 * 10 + (b.toNat - 48))
    have h8 : 10 ^ 19 ≤ 10 ^ r.length := Nat.pow_le_pow_right (by decide) (by omega)
    have h9 : 1 * 10 ^ r.length ≤ (0 * 10 + (b.toNat - 48)) * 10 ^ r.length := Nat.mul_le_mul_right _ (by omega)
    have ha : 10 ^ 19 < 9223372036854775808 := by omega
    exact absurd ha (by decide)
theorem num_zero {l : List UInt8} (h : 2 ≤ l.length) (h0 : l.head? = some 48) : numU l = none := by
  unfold numU
  rw [if_neg]
  rintro ⟨_, _, h3⟩
  rcases h3 with h3 | h3
  · omega
  · exact h3 h0
theorem valU_lt : ∀ (l : List UInt8) (a n : Nat), l.all dgU = true → a < 10 ^ n → valU a l < 10 ^ (n + l.length)
  | [], a, n, _, h => by rw [valU_nil]; exact h
  | b :: l, a, n, h, ha => by
    rw [List.all_cons, Bool.and_eq_true] at h
    have h5 := h.1
    unfold dgU dgI at h5
    simp only [Bool.and_eq_true, decide_eq_true_eq] at h5
    rw [valU_cons, List.length_cons, show n + (l.length + 1) = (n + 1) + l.length from by omega]
    refine valU_lt l _ (n + 1) h.2 ?_
    rw [Nat.pow_succ]
    omega
theorem take_snoc {l : List UInt8} {i : Nat} {b : UInt8} (h : l[i]? = some b) : l.take (i + 1) = l.take i ++ [b] := by rw [List.take_add_one, h]; rfl
end Go.Proofs.YtnpicnddcoaboaaGreatDoor
