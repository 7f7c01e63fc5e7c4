/- The walk of the law LexBack. Conditions: the slice reads so; what the tables hold. -/
import Derived.Test.YtnpicnddcoaboaaDoorLxQ
import Derived.Deep.CutBlock
namespace Go.Proofs.YtnpicnddcoaboaaDoor
open Go.RowKit
set_option maxRecDepth 100000 in
set_option maxHeartbeats 16000000 in
theorem back_walk (A : Option Addr) (n c : Nat) (l : List Tk) (s : ByteArray) (w : World) (hl : LT.rd w AllB A n l) (hn : n ≤ 9223372036854775807) (hr : ∀ x ∈ l, x.n < 18446744073709551616) (hs : s.size ≤ 9223372036854775807) (hT : Tab w) :
    Calls Tryd.prog 3 #[.slice A n c, .string s] w fun e w' => e = .returned (.bool true) ∧ Below w.heap.size w w' := by
  have HT := Lib.hid hT
  have HL := Lib.hid hl
  have HR := Lib.hid hr
  have HS := Lib.hid hs
  clear hT hl hr hs
  go_enter Tryd.func3, Tryd.ntmps3
  go_wp2_with fail
  refine (wakes_any _ HT.out).mono ?_
  rintro e w2 ⟨rfl, q2⟩
  have HT2 := Lib.hid (HT.out.below q2)
  have HL2 := Lib.hid (Lay.rd_below HL.out q2)
  have HQ2 := Lib.hid q2
  clear q2 HT HL
  by_cases h300 : 300 < n
  · have h3 : 300 < (n : Int) := by omega
    clear h300
    go_wp2
    go_ret
    exact ⟨rfl, HQ2.out⟩
  have h3 : (n : Int) ≤ 300 := by omega
  by_cases h301 : 5000 < s.size
  · have h4 : 5000 < (s.size : Int) := by omega
    clear h300 h301
    go_wp2
    go_ret
    exact ⟨rfl, HQ2.out⟩
  have h4 : (s.size : Int) ≤ 5000 := by omega
  have HN := Lib.hid (show n ≤ 300 by omega)
  clear h300 h301 hn
  go_wp2_with fail
  go_loopg [30] n (fun g b wr => ∃ (i : Nat), i + g = n ∧ b = .int .i64 i ∧ Hid (∀ t ∈ l.take i, t.text.length ≤ 1000) ∧ Below w2.heap.size w2 wr)
  case atStart => exact ⟨0, by omega, rfl, Lib.hid (by simp), Below.refl _ _⟩
  case round =>
    obtain ⟨i, hig, rfl, HI, hb⟩ := hrel
    have HB := Lib.hid hb
    by_cases hlt : i < n
    · have hi1 : (i : Int) < (n : Int) := by omega
      obtain ⟨ad, t, rfl, hx, st⟩ := LT_at (Lay.rd_below HL2.out hb) hlt
      have e0 := st.c0
      have e1 := st.c1
      have e2 := st.c2
      have e3 := st.c3
      have HTK := Lib.hid (take_one hx)
      have q5 := bl_al (Below.refl wr.heap.size wr) (.cells #[.int .i64 t.kind, .int .i64 t.at_, .string (bS t.text), .int .u64 (t.n : Int)] 26)
      have HQ5 := Lib.hid q5
      clear st hx hb q5
      obtain ⟨k, a, tx, tn⟩ := t
      simp only at *
      by_cases h1000 : 1000 < tx.length
      · have z1 : 1000 < ((bS tx).size : Int) := by have := len_data (bS tx); simp only [bS] at *; omega
        have z2 : 1000 < (tx.length : Int) := by omega
        clear h1000
        go_wp2
        go_ret
        exact ⟨rfl, bl_ca HQ2.out (bl_ca HB.out HQ5.out)⟩
      · have z1 : ((bS tx).size : Int) ≤ 1000 := by have := len_data (bS tx); simp only [bS] at *; omega
        have z2 : (tx.length : Int) ≤ 1000 := by omega
        have HZ := Lib.hid (show tx.length ≤ 1000 by omega)
        clear h1000
        go_wp2
        go_roundg (gk - 1)
        · exact ⟨i + 1, by omega, by go_num, Lib.hid (fun t ht => by
              rw [HTK.out] at ht
              rcases List.mem_append.1 ht with ht | ht
              · exact HI.out t ht
              · rw [List.mem_singleton.1 ht]; exact HZ.out), bl_ca HB.out HQ5.out⟩
        · omega
    · obtain rfl : i = n := by omega
      have hi1 : (i : Int) ≤ (i : Int) := by omega
      have HI2 := Lib.hid (show ∀ t ∈ l, t.text.length ≤ 1000 ∧ t.n < 18446744073709551616 from by
        have h1 := HI.out
        rw [List.take_of_length_le (by rw [Lay.rd_len HL2.out]; exact Nat.le_refl _)] at h1
        exact fun t ht => ⟨h1 t ht, HR.out t ht⟩)
      have HT3 := Lib.hid (HT2.out.below hb)
      have HL3 := Lib.hid (Lay.rd_below HL2.out hb)
      have HQ3 := Lib.hid (bl_ca HQ2.out hb)
      clear hb HI HT2 HL2 HB HQ2 HR
      go_wp2_with fail
      refine (lprint_any A i c l _ HL3.out (by have := HN.out; omega) HI2.out HT3.out).mono ?_
      rintro e w4 ⟨hp, q4⟩
      unfold PrE at hp
      have HQ4 := Lib.hid (bl_ca HQ3.out q4)
      have HT4 := Lib.hid (HT3.out.below q4)
      have HL4 := Lib.hid (Lay.rd_below HL3.out q4)
      clear q4 HT3 HQ3 HL3
      by_cases hal : l.all rightU = true
      case neg =>
        rw [if_neg hal] at hp
        subst hp
        have HT5 := Lib.hid HT4.out
        have HQ5 := Lib.hid HQ4.out
        clear HT4 HQ4 hal
        go_wp2_with fail
        refine (ltokens_any s _ HS.out HT5.out).mono ?_
        rintro e w6 ⟨⟨A6, n6, c6, rfl, ho6⟩, q6⟩
        have HQ6 := Lib.hid (bl_ca HQ5.out q6)
        have HT6 := Lib.hid (HT5.out.below q6)
        have HLE := Lib.hid (tok_len s.data.toList)
        have HRI := Lib.hid (tok_right s.data.toList)
        have HNO := Lib.hid (fun h => tok_none (l := s.data.toList) h)
        obtain ⟨⟨ts, pl, er⟩, hR⟩ : ∃ R, R = tokM s.data.toList := ⟨_, rfl⟩
        rw [← hR] at ho6 HLE HRI HNO ⊢
        simp only at ho6 HLE HRI HNO ⊢
        have HLN := Lib.hid (Lay.own_len ho6)
        have HO6 := Lib.hid (OwnT.rdA ho6)
        clear q6 hR ho6 HT5 HQ5
        by_cases her : er = 0
        case neg =>
          have hts := HNO.out her
          subst hts
          have h6 : 0 = n6 := HLN.out
          subst h6
          have x1 : (er == 0) = false := by simpa using her
          have x2 : (er != 0) = true := by simpa using her
          have x3 : decide (er = 0) = false := by simpa using her
          clear her
          go_wp2
          go_ret
          exact ⟨rfl, HQ6.out⟩
        subst her
        have hle6 : n6 ≤ 600 := by rw [← HLN.out]; exact HLE.out
        have HLE6 := Lib.hid hle6
        have HRS := Lib.hid (fun t ht => right_small (HRI.out t ht))
        clear hle6
        go_wp2_with fail
        refine (lprint_any A6 n6 c6 ts _ HO6.out HLE6.out HRS.out HT6.out).mono ?_
        rintro e w7 ⟨hp, q7⟩
        unfold PrE at hp
        rw [if_pos (all_of HRI.out)] at hp
        subst hp
        have HQ7 := Lib.hid (bl_ca HQ6.out q7)
        have HT7 := Lib.hid (HT6.out.below q7)
        have HO7 := Lib.hid (Lay.rd_below HO6.out q7)
        have HJL := Lib.hid (joinU_len ts HRS.out)
        have HJ2 := Lib.hid (show (bS (joinU ts)).size ≤ 9223372036854775807 from by rw [← len_data]; have h9 : (joinU ts).length ≤ 2003 * ts.length := HJL.out; have h8 := HLN.out; have h7 := HLE6.out; show (joinU ts).length ≤ _; omega)
        clear q7 HT6 HQ6 HO6
        go_wp2_with fail
        refine (ltokens_any (bS (joinU ts)) _ HJ2.out HT7.out).mono ?_
        rintro e w8 ⟨⟨A8, n8, c8, rfl, ho8⟩, q8⟩
        have HQ8 := Lib.hid (bl_ca HQ7.out q8)
        have HO8 := Lib.hid (Lay.rd_below HO7.out q8)
        have hd8 : (bS (joinU ts)).data.toList = joinU ts := rfl
        rw [hd8] at ho8 ⊢
        clear hd8
        by_cases hj : 600 < (joinU ts).length
        case pos =>
          rw [tokM_long hj]
          have z1 : 600 < ((bS (joinU ts)).size : Int) := by have := len_data (bS (joinU ts)); simp only [bS] at *; omega
          have z2 : 600 < ((joinU ts).length : Int) := by omega
          clear hj ho8 q8
          simp only
          go_wp2
          go_ret
          exact ⟨rfl, HQ8.out⟩
        case neg =>
          obtain ⟨us, hu, hsame⟩ := tok_join (all_of HRI.out) (Nat.le_of_not_lt hj)
          rw [hu] at ho8 ⊢
          have z1 : ((bS (joinU ts)).size : Int) ≤ 600 := by have := len_data (bS (joinU ts)); simp only [bS] at *; omega
          have z2 : ((joinU ts).length : Int) ≤ 600 := by omega
          have HO9 := Lib.hid (OwnT.rdA ho8)
          have HSM := Lib.hid hsame
          clear hj ho8 q8 hu hsame
          simp only
          go_wp2_with fail
          refine (lsame_any ts us A6 n6 c6 A8 n8 c8 _ HO8.out HO9.out (by have := HLE6.out; omega)).mono ?_
          rintro e w9 ⟨rfl, q9⟩
          rw [HSM.out]
          have HQ9 := Lib.hid (bl_ca HQ8.out q9)
          clear q9
          go_wp2
          go_ret
          exact ⟨rfl, HQ9.out⟩
      case pos =>
        rw [if_pos hal] at hp
        subst hp
        have HJL := Lib.hid (joinU_len l HI2.out)
        have HJ2 := Lib.hid (show (bS (joinU l)).size ≤ 9223372036854775807 from by rw [← len_data]; have h9 : (joinU l).length ≤ 2003 * l.length := HJL.out; have h8 := Lay.rd_len HL4.out; have h7 := HN.out; show (joinU l).length ≤ _; omega)
        have HAL := Lib.hid hal
        clear hal
        go_wp2_with fail
        refine (ltokens_any (bS (joinU l)) _ HJ2.out HT4.out).mono ?_
        rintro e w5 ⟨⟨A5, n5, c5, rfl, ho5⟩, q5⟩
        have HQ5 := Lib.hid (bl_ca HQ4.out q5)
        have HT5 := Lib.hid (HT4.out.below q5)
        have HL5 := Lib.hid (Lay.rd_below HL4.out q5)
        have hd5 : (bS (joinU l)).data.toList = joinU l := rfl
        rw [hd5] at ho5 ⊢
        clear hd5 q5 HT4 HQ4 HL4
        by_cases hj : 600 < (joinU l).length
        case pos =>
          rw [tokM_long hj]
          have z1 : 600 < ((bS (joinU l)).size : Int) := by have := len_data (bS (joinU l)); simp only [bS] at *; omega
          have z2 : 600 < ((joinU l).length : Int) := by omega
          clear hj ho5
          simp only
          go_wp2
          go_ret
          exact ⟨rfl, HQ5.out⟩
        case neg =>
          obtain ⟨us, hu, hsame⟩ := tok_join HAL.out (Nat.le_of_not_lt hj)
          rw [hu] at ho5 ⊢
          have z1 : ((bS (joinU l)).size : Int) ≤ 600 := by have := len_data (bS (joinU l)); simp only [bS] at *; omega
          have z2 : ((joinU l).length : Int) ≤ 600 := by omega
          have HO5 := Lib.hid (OwnT.rdA ho5)
          have HSM := Lib.hid hsame
          clear hj ho5 hu hsame
          simp only
          go_wp2_with fail
          refine (lsame_any l us A i c A5 n5 c5 _ HL5.out HO5.out (by have := HN.out; omega)).mono ?_
          rintro e w4' ⟨rfl, q9⟩
          rw [HSM.out]
          have HQ9 := Lib.hid (bl_ca HQ5.out q9)
          have HT9 := Lib.hid (HT5.out.below q9)
          clear q9 HT5 HQ5 HL5 HO5
          have HT5 := Lib.hid HT9.out
          have HQ5 := Lib.hid HQ9.out
          clear HT9 HQ9
          go_wp2_with fail
          refine (ltokens_any s _ HS.out HT5.out).mono ?_
          rintro e w6 ⟨⟨A6, n6, c6, rfl, ho6⟩, q6⟩
          have HQ6 := Lib.hid (bl_ca HQ5.out q6)
          have HT6 := Lib.hid (HT5.out.below q6)
          have HLE := Lib.hid (tok_len s.data.toList)
          have HRI := Lib.hid (tok_right s.data.toList)
          have HNO := Lib.hid (fun h => tok_none (l := s.data.toList) h)
          obtain ⟨⟨ts, pl, er⟩, hR⟩ : ∃ R, R = tokM s.data.toList := ⟨_, rfl⟩
          rw [← hR] at ho6 HLE HRI HNO ⊢
          simp only at ho6 HLE HRI HNO ⊢
          have HLN := Lib.hid (Lay.own_len ho6)
          have HO6 := Lib.hid (OwnT.rdA ho6)
          clear q6 hR ho6 HT5 HQ5
          by_cases her : er = 0
          case neg =>
            have hts := HNO.out her
            subst hts
            have h6 : 0 = n6 := HLN.out
            subst h6
            have x1 : (er == 0) = false := by simpa using her
            have x2 : (er != 0) = true := by simpa using her
            have x3 : decide (er = 0) = false := by simpa using her
            clear her
            go_wp2
            go_ret
            exact ⟨rfl, HQ6.out⟩
          subst her
          have hle6 : n6 ≤ 600 := by rw [← HLN.out]; exact HLE.out
          have HLE6 := Lib.hid hle6
          have HRS := Lib.hid (fun t ht => right_small (HRI.out t ht))
          clear hle6
          go_wp2_with fail
          refine (lprint_any A6 n6 c6 ts _ HO6.out HLE6.out HRS.out HT6.out).mono ?_
          rintro e w7 ⟨hp, q7⟩
          unfold PrE at hp
          rw [if_pos (all_of HRI.out)] at hp
          subst hp
          have HQ7 := Lib.hid (bl_ca HQ6.out q7)
          have HT7 := Lib.hid (HT6.out.below q7)
          have HO7 := Lib.hid (Lay.rd_below HO6.out q7)
          have HJL := Lib.hid (joinU_len ts HRS.out)
          have HJ2 := Lib.hid (show (bS (joinU ts)).size ≤ 9223372036854775807 from by rw [← len_data]; have h9 : (joinU ts).length ≤ 2003 * ts.length := HJL.out; have h8 := HLN.out; have h7 := HLE6.out; show (joinU ts).length ≤ _; omega)
          clear q7 HT6 HQ6 HO6
          go_wp2_with fail
          refine (ltokens_any (bS (joinU ts)) _ HJ2.out HT7.out).mono ?_
          rintro e w8 ⟨⟨A8, n8, c8, rfl, ho8⟩, q8⟩
          have HQ8 := Lib.hid (bl_ca HQ7.out q8)
          have HO8 := Lib.hid (Lay.rd_below HO7.out q8)
          have hd8 : (bS (joinU ts)).data.toList = joinU ts := rfl
          rw [hd8] at ho8 ⊢
          clear hd8
          by_cases hj : 600 < (joinU ts).length
          case pos =>
            rw [tokM_long hj]
            have z1 : 600 < ((bS (joinU ts)).size : Int) := by have := len_data (bS (joinU ts)); simp only [bS] at *; omega
            have z2 : 600 < ((joinU ts).length : Int) := by omega
            clear hj ho8 q8
            simp only
            go_wp2
            go_ret
            exact ⟨rfl, HQ8.out⟩
          case neg =>
            obtain ⟨us, hu, hsame⟩ := tok_join (all_of HRI.out) (Nat.le_of_not_lt hj)
            rw [hu] at ho8 ⊢
            have z1 : ((bS (joinU ts)).size : Int) ≤ 600 := by have := len_data (bS (joinU ts)); simp only [bS] at *; omega
            have z2 : ((joinU ts).length : Int) ≤ 600 := by omega
            have HO9 := Lib.hid (OwnT.rdA ho8)
            have HSM := Lib.hid hsame
            clear hj ho8 q8 hu hsame
            simp only
            go_wp2_with fail
            refine (lsame_any ts us A6 n6 c6 A8 n8 c8 _ HO8.out HO9.out (by have := HLE6.out; omega)).mono ?_
            rintro e w9 ⟨rfl, q9⟩
            rw [HSM.out]
            have HQ9 := Lib.hid (bl_ca HQ8.out q9)
            clear q9
            go_wp2
            go_ret
            exact ⟨rfl, HQ9.out⟩
end Go.Proofs.YtnpicnddcoaboaaDoor
