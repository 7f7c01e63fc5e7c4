/- The layer's part, plain, run. Conditions: none. -/
import Derived.Test.YtnpicnddcoaboaaGreatDoorLxR3
import Derived.Test.YtnpicnddcoaboaaGreatDoorCName
namespace Go.Proofs.YtnpicnddcoaboaaGreatDoor
open Go.RowKit
set_option maxRecDepth 100000 in
theorem lcapital_any (c : Int) (w : World) : Calls Tryz.prog 94 #[.int .i32 c] w fun e w' => e = .returned (.bool (cpI c)) ∧ w = w' := by
  have HR := Lib.hid (show cpI c = (decide (65 ≤ c) && decide (c ≤ 90)) from rfl)
  generalize cpI c = r at *
  go_enter Tryz.func94, Tryz.ntmps94
  go_wp2
  all_goals
    go_ret
    exact ⟨by rw [HR.out]; simp [*] <;> omega, rfl⟩
set_option maxRecDepth 100000 in
theorem lpart_any (c : Int) (w : World) : Calls Tryz.prog 80 #[.int .i32 c] w fun e w' => e = .returned (.bool (paI c)) ∧ w = w' := by
  have HR := Lib.hid (show paI c = (dgI c || (smI c || (cpI c || decide (c = 95)))) from rfl)
  generalize paI c = r at *
  go_enter Tryz.func80, Tryz.ntmps80
  go_wp2_with fail
  refine (ldigit_any c _).mono ?_
  rintro e w2 ⟨rfl, rfl⟩
  obtain ⟨q, hq⟩ : ∃ q, q = dgI c := ⟨_, rfl⟩
  rw [← hq] at HR ⊢
  clear hq
  cases q
  case true =>
    have HF := Lib.hid (show r = true from by rw [HR.out]; rfl)
    go_wp2
    go_ret
    exact ⟨ret_bool HF.out.symm, rfl⟩
  go_wp2_with fail
  refine (lsmall_any c _).mono ?_
  rintro e w2 ⟨rfl, rfl⟩
  obtain ⟨q, hq⟩ : ∃ q, q = smI c := ⟨_, rfl⟩
  rw [← hq] at HR ⊢
  clear hq
  cases q
  case true =>
    have HF := Lib.hid (show r = true from by rw [HR.out]; rfl)
    go_wp2
    go_ret
    exact ⟨ret_bool HF.out.symm, rfl⟩
  go_wp2_with fail
  refine (lcapital_any c _).mono ?_
  rintro e w2 ⟨rfl, rfl⟩
  obtain ⟨q, hq⟩ : ∃ q, q = cpI c := ⟨_, rfl⟩
  rw [← hq] at HR ⊢
  clear hq
  cases q
  case true =>
    have HF := Lib.hid (show r = true from by rw [HR.out]; rfl)
    go_wp2
    go_ret
    exact ⟨ret_bool HF.out.symm, rfl⟩
  have HF := Lib.hid (show r = (c == 95) from by rw [HR.out]; rfl)
  go_wp2
  go_ret
  exact ⟨ret_bool HF.out.symm, rfl⟩
set_option maxRecDepth 100000 in
theorem plain1_any (c : Int) (w : World) : Calls Tryz.prog 68 #[.int .i32 c] w fun e w' => e = .returned (.bool (!plI c)) ∧ w = w' := by
  have HR := Lib.hid (show (!plI c) = !(decide (32 ≤ c) && decide (c ≤ 126)) from rfl)
  generalize (!plI c) = r at *
  by_cases h1 : c < 32
  · have HF := Lib.hid (show r = true from by rw [HR.out, decide_eq_false (by omega)]; rfl)
    go_enter Tryz.func68, Tryz.ntmps68
    go_wp2
    go_ret
    exact ⟨ret_bool HF.out.symm, rfl⟩
  · have h1' : 32 ≤ c := by omega
    clear h1
    by_cases h2 : 126 < c
    · have HF := Lib.hid (show r = true from by rw [HR.out, decide_eq_false (show ¬ c ≤ 126 by omega), Bool.and_false]; rfl)
      go_enter Tryz.func68, Tryz.ntmps68
      go_wp2
      go_ret
      exact ⟨ret_bool HF.out.symm, rfl⟩
    · have h2' : c ≤ 126 := by omega
      have HF := Lib.hid (show r = false from by rw [HR.out, decide_eq_true h1', decide_eq_true h2']; rfl)
      clear h2
      go_enter Tryz.func68, Tryz.ntmps68
      go_wp2
      go_ret
      exact ⟨ret_bool (by rw [HF.out, decide_eq_false (show ¬ c < 32 by omega), decide_eq_false (show ¬ 126 < c by omega)]; rfl), rfl⟩
set_option maxRecDepth 100000 in
theorem run1_any (c : Int) (w : World) : Calls Tryz.prog 79 #[.int .i32 c] w fun e w' => e = .returned (.bool (!paI c)) ∧ w = w' := by
  go_enter Tryz.func79, Tryz.ntmps79
  go_wp2_with fail
  refine (lpart_any c _).mono ?_
  rintro e w2 ⟨rfl, rfl⟩
  obtain ⟨r, hr⟩ : ∃ r, r = paI c := ⟨_, rfl⟩
  rw [← hr]
  have HR := Lib.hid hr
  clear hr
  go_wp2
  go_ret
  exact ⟨ret_bool (by rw [HR.out]), rfl⟩
/-- where the first byte lies that is not so; what is no ASCII is not so -/
theorem idx_byte (q : Nat → Bool) (p : UInt8 → Bool) (hq : ∀ b : UInt8, b.toNat < 128 → q b.toNat = !p b) (h1 : ∀ x, 128 ≤ x → q x = true) (h2 : ∀ b : UInt8, 128 ≤ b.toNat → p b = false) (s : ByteArray) :
    ∀ (f pos : Nat), s.size ≤ pos + f → pos ≤ s.size → Lib.idxFuncFrom q true s f pos = if pos + ((s.data.toList.drop pos).takeWhile p).length = s.size then -1 else ((pos + ((s.data.toList.drop pos).takeWhile p).length : Nat) : Int)
  | 0, pos, h, hle => by
    have : pos = s.size := by omega
    subst this
    rw [drop_end (by rw [len_data]; exact Nat.le_refl _)]
    simp [Lib.idxFuncFrom]
  | f + 1, pos, h, hle => by
    by_cases hp : pos < s.size
    · obtain ⟨b, hb⟩ := byte_at hp
      have hbe : s[pos]'hp = b := by
        have h9 : s.data.toList[pos]? = some (s[pos]'hp) := by
          rw [List.getElem?_eq_getElem (by simpa using hp)]
          simp
          rfl
        rw [h9] at hb
        injection hb
      rw [Lib.idxFuncFrom, if_pos hp, drop_at hb, List.takeWhile_cons]
      by_cases h128 : b.toNat < 128
      · rw [decode_ascii s pos hp (by rw [hbe]; exact h128), hbe]
        simp only
        rw [hq b h128]
        cases hpb : p b
        · rw [if_pos (show (!false) = true from rfl), if_neg (show ¬ false = true by simp)]
          simp only [List.length_nil, Nat.add_zero]
          rw [if_neg (by omega)]
        · rw [if_neg (show ¬ (!true) = true by simp), if_pos rfl, idx_byte q p hq h1 h2 s f (pos + 1) (by omega) (by omega), List.length_cons]
          rw [show pos + 1 + ((s.data.toList.drop (pos + 1)).takeWhile p).length = pos + (((s.data.toList.drop (pos + 1)).takeWhile p).length + 1) from by omega]
      · have hd := (decode_high s pos hp (by rw [hbe]; omega)).1
        rw [if_pos (h1 _ hd), h2 b (by omega), if_neg (show ¬ false = true by simp)]
        simp only [List.length_nil, Nat.add_zero]
        rw [if_neg (by omega)]
    · have : pos = s.size := by omega
      subst this
      rw [Lib.idxFuncFrom_end _ _ _ _ _ (by omega), drop_end (by rw [len_data]; exact Nat.le_refl _)]
      simp
theorem idx_run (s : ByteArray) : Lib.idxFunc (fun x => !paI (x : Int)) true s = if (s.data.toList.takeWhile paU).length = s.size then -1 else ((s.data.toList.takeWhile paU).length : Int) := by
  have := idx_byte (fun x => !paI (x : Int)) paU (fun b _ => rfl) (fun x hx => by
    show (!paI (x : Int)) = true
    unfold paI dgI smI cpI
    rw [decide_eq_false (show ¬ (x : Int) ≤ 57 by omega), decide_eq_false (show ¬ (x : Int) ≤ 122 by omega), decide_eq_false (show ¬ (x : Int) ≤ 90 by omega), decide_eq_false (show ¬ (x : Int) = 95 by omega)]
    simp) (fun b hb => by
    unfold paU paI dgI smI cpI
    rw [decide_eq_false (show ¬ (b.toNat : Int) ≤ 57 by omega), decide_eq_false (show ¬ (b.toNat : Int) ≤ 122 by omega), decide_eq_false (show ¬ (b.toNat : Int) ≤ 90 by omega), decide_eq_false (show ¬ (b.toNat : Int) = 95 by omega)]
    simp) s s.size 0 (by omega) (by omega)
  simpa [Lib.idxFunc] using this
theorem takeWhile_len_all {p : UInt8 → Bool} : ∀ l : List UInt8, (l.takeWhile p).length = l.length ↔ l.all p = true
  | [] => by simp
  | a :: l => by
    rw [List.takeWhile_cons, List.all_cons]
    cases h : p a
    · simp
    · rw [if_pos rfl, List.length_cons, List.length_cons, Bool.true_and, ← takeWhile_len_all l]; omega
theorem idx_plain (s : ByteArray) : (decide (Lib.idxFunc (fun x => !plI (x : Int)) true s < 0)) = s.data.toList.all plU := by
  have := idx_byte (fun x => !plI (x : Int)) plU (fun b _ => rfl) (fun x hx => by
    show (!plI (x : Int)) = true
    unfold plI
    rw [decide_eq_false (show ¬ (x : Int) ≤ 126 by omega)]
    simp) (fun b hb => by
    unfold plU plI
    rw [decide_eq_false (show ¬ (b.toNat : Int) ≤ 126 by omega)]
    simp) s s.size 0 (by omega) (by omega)
  simp only [List.drop_zero, Nat.zero_add] at this
  have e : Lib.idxFunc (fun x => !plI (x : Int)) true s = if (s.data.toList.takeWhile plU).length = s.size then -1 else ((s.data.toList.takeWhile plU).length : Int) := this
  rw [e]
  have h1 := takeWhile_len_all (p := plU) s.data.toList
  rw [len_data] at h1
  by_cases h : (s.data.toList.takeWhile plU).length = s.size
  · rw [if_pos h, h1.1 h]; rfl
  · rw [if_neg h, decide_eq_false (by omega)]
    cases h9 : s.data.toList.all plU
    · rfl
    · exact absurd (h1.2 h9) h
theorem plain1_at (w : World) : PredAt Tryz.prog 68 #[] encR (fun x => !plI (x : Int)) w := fun W x _ => (plain1_any (x : Int) W).mono fun _ _ ⟨h1, h2⟩ => ⟨h1, 0, h2.symm⟩
theorem run1_at (w : World) : PredAt Tryz.prog 79 #[] encR (fun x => !paI (x : Int)) w := fun W x _ => (run1_any (x : Int) W).mono fun _ _ ⟨h1, h2⟩ => ⟨h1, 0, h2.symm⟩
set_option maxRecDepth 100000 in
theorem lplain_any (s : ByteArray) (w : World) (hs : s.size ≤ 9223372036854775807) : Calls Tryz.prog 46 #[.string s] w fun e w' => e = .returned (.bool (plainU s.data.toList)) ∧ Below w.heap.size w w' := by
  have HR := Lib.hid (show plainU s.data.toList = (decide (s.size ≤ 40) && s.data.toList.all plU) from by unfold plainU; rw [len_data])
  generalize plainU s.data.toList = r at *
  by_cases h : 40 < s.size
  · have h1 : 40 < (s.size : Int) := by omega
    have HF := Lib.hid (show r = false from by rw [HR.out, decide_eq_false (by omega)]; rfl)
    clear h
    go_enter Tryz.func46, Tryz.ntmps46
    go_wp2
    go_ret
    exact ⟨ret_bool HF.out.symm, Below.refl _ _⟩
  · have h1 : (s.size : Int) ≤ 40 := by omega
    have HF := Lib.hid (show r = decide (Lib.idxFunc (fun x => !plI (x : Int)) true s < 0) from by rw [HR.out, decide_eq_true (show s.size ≤ 40 by omega), idx_plain]; rfl)
    clear h
    go_enter Tryz.func46, Tryz.ntmps46
    go_wp2_with fail
    refine (Tryz.strings_IndexFunc 68 #[] (fun args w => enters_of Tryz.func68 (by kernel_rfl) rfl args w) (fun x => !plI (x : Int)) s _ (plain1_at _)).mono ?_
    rintro e w2 ⟨rfl, q2⟩
    generalize Lib.idxFunc (fun x => !plI (x : Int)) true s = z at *
    go_wp2
    go_ret
    exact ⟨ret_bool HF.out.symm, q2⟩
set_option maxRecDepth 100000 in
theorem lrun_any (s : ByteArray) (w : World) (_hs : s.size ≤ 9223372036854775807) : Calls Tryz.prog 60 #[.string s] w fun e w' => e = .returned (.int .i64 ((s.data.toList.takeWhile paU).length : Int)) ∧ Below w.heap.size w w' := by
  go_enter Tryz.func60, Tryz.ntmps60
  go_wp2_with fail
  refine (Tryz.strings_IndexFunc 79 #[] (fun args w => enters_of Tryz.func79 (by kernel_rfl) rfl args w) (fun x => !paI (x : Int)) s _ (run1_at _)).mono ?_
  rintro e w2 ⟨rfl, q2⟩
  rw [idx_run]
  by_cases h : (s.data.toList.takeWhile paU).length = s.size
  · rw [if_pos h]
    have H := Lib.hid h
    clear h
    go_wp2
    go_ret
    exact ⟨ret_int (by rw [H.out]), q2⟩
  · rw [if_neg h]
    clear h
    obtain ⟨z, hz⟩ : ∃ z, z = (s.data.toList.takeWhile paU).length := ⟨_, rfl⟩
    rw [← hz]
    have HZ := Lib.hid hz
    clear hz
    go_wp2
    go_ret
    exact ⟨ret_int (by rw [HZ.out]), q2⟩
end Go.Proofs.YtnpicnddcoaboaaGreatDoor
