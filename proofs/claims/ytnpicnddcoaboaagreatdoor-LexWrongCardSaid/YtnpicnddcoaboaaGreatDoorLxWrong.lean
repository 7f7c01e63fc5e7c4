/- The walk of the law LexWrong. Conditions: what the tables hold. -/
import Derived.Test.YtnpicnddcoaboaaGreatDoorLxQ
namespace Go.Proofs.YtnpicnddcoaboaaGreatDoor
open Go.RowKit
/-- a token written, a word in small letters -/
def lowU (t : Tk) : List UInt8 := if t.kind = 1 then loL (wrU t) else wrU t
theorem lay_snoc (f : Tk → List UInt8) (g : List UInt8) : ∀ (l : List Tk) (t : Tk), layU f g (l ++ [t]) = layU f g l ++ (f t ++ (32 :: g))
  | [], t => by simp [layU]
  | u :: l, t => by rw [List.cons_append, layU, layU, lay_snoc f g l t]; simp
theorem wr_word {t : Tk} (h : t.kind = 1) : wrU t = t.text := by unfold wrU; rw [if_neg (by omega), if_neg (by omega)]
theorem right_word {t : Tk} (h : rightU t = true) (hk : t.kind = 1) : isWordB (bS t.text) = true ∧ t.n = 0 := by
  unfold rightU at h
  rw [Bool.and_eq_true, if_neg (by omega), Bool.and_eq_true, if_pos hk, decide_eq_true_eq, decide_eq_true_eq] at h
  exact ⟨h.2.2, h.2.1⟩
theorem says_low {t : Tk} (h : rightU t = true) : Says (lowU t) t := by
  unfold lowU
  by_cases hk : t.kind = 1
  · rw [if_pos hk, wr_word hk]
    have hw := right_word h hk
    refine says_lower hw.1 ?_
    obtain ⟨k, a, x, n⟩ := t
    obtain rfl : k = 1 := hk
    obtain rfl : n = 0 := hw.2
    rfl
  · rw [if_neg hk]; exact says_wr h
theorem words_lower : ∀ s ∈ wordsL, Lib.toLowerD s.data.toList = loL s.data.toList := by decide +kernel
theorem low_word {t : Tk} (h : rightU t = true) (hk : t.kind = 1) : Lib.toLowerD (wrU t) = lowU t := by
  unfold lowU
  rw [if_pos hk, wr_word hk]
  have := words_lower _ (isWord_mem (right_word h hk).1)
  exact this
theorem lo_len (l : List UInt8) : (loL l).length = l.length := by unfold loL; rw [List.length_map]
theorem low_len {t : Tk} (h : rightU t = true) : (lowU t).length ≤ 2002 := by
  have h1 := wr_len (right_small h).1 (right_small h).2
  unfold lowU
  split
  · rw [lo_len]; exact h1
  · exact h1
/-- a text that is wrong stays wrong at its place -/
theorem tok_wrong {s m : ByteArray} (hs : s.size ≤ 400) (hm : m.size ≤ 100) (he : (tokM s.data.toList).2.2 ≠ 0) : ∃ q : Nat, tokM s.data.toList = ([], (q : Int), 170) ∧ q < s.size ∧ ((∀ b, s.data.toList[q]? = some b → b ≠ 39) → tokM (s ++ ⟨#[32]⟩ ++ m : ByteArray).data.toList = ([], (q : Int), 170)) := by
  have hl := len_data s
  have hml := len_data m
  cases hq : (lexF s.data.toList 0).2 with
  | none => rw [tokM_ok (by omega) hq] at he; exact absurd rfl he
  | some q =>
    refine ⟨q, tokM_bad (by omega) hq, ?_⟩
    obtain ⟨_, h2, h3⟩ := lexF_wrong s.data.toList.length s.data.toList 0 q (Nat.le_refl _) hq
    have hqs : q < s.size := by omega
    refine ⟨hqs, fun hb => ?_⟩
    have hd : (s ++ ⟨#[32]⟩ ++ m : ByteArray).data.toList = s.data.toList ++ 32 :: m.data.toList := by rw [app_data, app_data]; simp
    rw [hd]
    refine tokM_bad (by rw [List.length_append, List.length_cons]; omega) (h3 _ (fun e => ?_))
    rw [Nat.sub_zero] at e
    exact hb _ e rfl
theorem tok_good {s : ByteArray} (hs : s.size ≤ 400) (he : (tokM s.data.toList).2.2 = 0) : (tokM s.data.toList).2.1 = 0 := by
  have hl := len_data s
  cases hq : (lexF s.data.toList 0).2 with
  | none => rw [tokM_ok (by omega) hq]
  | some q => rw [tokM_bad (by omega) hq] at he; cases he
theorem tok_lay {l : List Tk} (h : ∀ t ∈ l, rightU t = true) (h2 : (layU lowU [] l).length ≤ 600) : ∃ ts, tokM (layU lowU [] l) = (ts, 0, 0) ∧ sameU l ts = true := by
  have hj := lay_lex (f := lowU) (g := []) rfl l (fun t ht => says_low (h t ht)) 0
  exact ⟨_, tokM_ok h2 hj.1, decide_eq_true hj.2.symm⟩
set_option maxRecDepth 100000 in
set_option maxHeartbeats 16000000 in
theorem wrong_walk (s m : ByteArray) (w : World) (hs : s.size ≤ 9223372036854775807) (_hm : m.size ≤ 9223372036854775807) (hT : Tab w) :
    Calls Tryz.prog 5 #[.string s, .string m] w fun e w' => e = .returned (.bool true) ∧ Below w.heap.size w w' := by
  have HT := Lib.hid hT
  have HS := Lib.hid hs
  clear hT hs
  go_enter Tryz.func5, Tryz.ntmps5
  go_wp2_with fail
  refine (wakes_any _ HT.out).mono ?_
  rintro e w2 ⟨rfl, q2⟩
  have HT2 := Lib.hid (HT.out.below q2)
  have HQ2 := Lib.hid q2
  clear q2 HT
  by_cases h300 : 400 < s.size
  · have h3 : 400 < (s.size : Int) := by omega
    clear h300
    go_wp2
    go_ret
    exact ⟨rfl, HQ2.out⟩
  have h3 : (s.size : Int) ≤ 400 := by omega
  by_cases h301 : 100 < m.size
  · have h4 : 100 < (m.size : Int) := by omega
    clear h300 h301
    go_wp2
    go_ret
    exact ⟨rfl, HQ2.out⟩
  have h4 : (m.size : Int) ≤ 100 := by omega
  have HSZ := Lib.hid (show s.size ≤ 400 by omega)
  have HMZ := Lib.hid (show m.size ≤ 100 by omega)
  clear h300 h301
  go_wp2_with fail
  refine (ltokens_any s _ HS.out HT2.out).mono ?_
  rintro e w3 ⟨⟨A, n, c, rfl, ho⟩, q3⟩
  have HQ3 := Lib.hid (bl_ca HQ2.out q3)
  have HT3 := Lib.hid (HT2.out.below q3)
  clear q3 HT2 HQ2
  by_cases her : (tokM s.data.toList).2.2 = 0
  case neg =>
    obtain ⟨q, hR, hq, hmore⟩ := tok_wrong HSZ.out HMZ.out her
    rw [hR] at ho ⊢
    have hn : 0 = n := Lay.own_len ho
    subst hn
    have HMO := Lib.hid hmore
    clear ho her hR hmore
    simp only
    have hq0 : 0 ≤ (q : Int) := by omega
    have hq1 : (q : Int) < (s.size : Int) := by omega
    obtain ⟨b, hb⟩ := byte_at hq
    have hix := run_bt hb
    have HBB := Lib.hid hb
    have HQS := Lib.hid hq
    clear hb hq
    by_cases h39 : b = 39
    · subst h39
      go_wp2
      go_ret
      exact ⟨rfl, HQ3.out⟩
    · have hcc : ¬ ((b.toNat : Int) = 39) := fun h => h39 (byte_inj (k := 39) (by omega) h)
      obtain ⟨cc, hc⟩ : ∃ cc, cc = (b.toNat : Int) := ⟨_, rfl⟩
      rw [← hc] at hix hcc
      have e1 : (cc == 39) = false := by simpa using hcc
      have HMO2 := Lib.hid (HMO.out (fun b' hb' e => h39 (by have := HBB.out; rw [hb'] at this; injection this with this; rw [← this]; exact e)))
      have hsa : (s ++ ⟨#[32]⟩ : ByteArray).size ≤ 401 := by rw [app_size]; have h1 : (⟨#[32]⟩ : ByteArray).size = 1 := rfl; have := HSZ.out; omega
      have hsm : m.size ≤ 100 := HMZ.out
      have hss : s.size ≤ 400 := HSZ.out
      have HZ2 := Lib.hid (show (s ++ ⟨#[32]⟩ ++ m : ByteArray).size ≤ 9223372036854775807 from by rw [app_size]; omega)
      clear hc hcc h39 HMO
      go_wp2_with fail
      obtain ⟨Y, hY⟩ : ∃ Y : ByteArray, Y = s ++ ⟨#[32]⟩ ++ m := ⟨_, rfl⟩
      have hm3 := HMO2.out
      have hz3 := HZ2.out
      rw [← hY] at hm3 hz3 ⊢
      clear hY HMO2 HZ2 hsa hsm hss
      refine (ltokens_any Y _ hz3 HT3.out).mono ?_
      rintro e w4 ⟨⟨A4, n4, c4, rfl, ho4⟩, q4⟩
      rw [hm3]
      have HQ4 := Lib.hid (bl_ca HQ3.out q4)
      clear ho4 q4 hm3 hz3
      simp only
      go_wp2
      go_ret
      exact ⟨rfl, HQ4.out⟩
  have hpl := tok_good HSZ.out her
  have HLE := Lib.hid (tok_len s.data.toList)
  have HRI := Lib.hid (tok_right s.data.toList)
  obtain ⟨⟨ts, pl, er⟩, hR⟩ : ∃ R, R = tokM s.data.toList := ⟨_, rfl⟩
  rw [← hR] at ho HLE HRI her hpl ⊢
  simp only at ho HLE HRI her hpl ⊢
  subst her hpl
  have HLN := Lib.hid (Lay.own_len ho)
  have HO := Lib.hid (OwnT.rdA ho)
  have HN := Lib.hid (show n ≤ 600 by rw [← HLN.out]; exact HLE.out)
  have hn6 : (n : Int) ≤ 600 := by have := HN.out; omega
  clear hR ho h3 h4 HMZ
  go_wp2_with fail
  go_loopg [11, 70] n (fun g a b wr => ∃ (i : Nat) (S : ByteArray), i + g = n ∧ a = .string S ∧ b = .int .i64 i ∧ Hid (S.size ≤ 2003 * i ∧ S.data.toList = layU lowU [] (ts.take i)) ∧ Below w3.heap.size w3 wr)
  case atStart => exact ⟨0, ⟨#[]⟩, by omega, rfl, rfl, Lib.hid ⟨Nat.le_refl _, rfl⟩, Below.refl _ _⟩
  case round =>
    obtain ⟨i, S, hig, rfl, rfl, HI, hb⟩ := hrel
    have HB := Lib.hid hb
    by_cases hlt : i < n
    · have hi1 : (i : Int) < (n : Int) := by omega
      obtain ⟨ad, t, rfl, hx, st⟩ := LT_at (Lay.rd_below HO.out hb) hlt
      have e0 := st.c0
      have e1 := st.c1
      have e2 := st.c2
      have e3 := st.c3
      have HRT := Lib.hid (HRI.out t (List.mem_of_getElem? hx))
      have HTK := Lib.hid (take_one hx)
      have HTW := Lib.hid (HT3.out.below hb)
      have q5 := bl_al (Below.refl wr.heap.size wr) (.cells #[.int .i64 t.kind, .int .i64 t.at_, .string (bS t.text), .int .u64 (t.n : Int)] 29)
      have q55 := bl_al q5 (.cells #[.int .i64 t.kind, .int .i64 t.at_, .string (bS t.text), .int .u64 (t.n : Int)] 29)
      have HQ5 := Lib.hid q55
      have hg0 := (Blk.new wr 29 #[.int .i64 t.kind, .int .i64 t.at_, .string (bS t.text), .int .u64 (t.n : Int)])
      have HK := Lib.hid ((hg0.alloc (.cells #[.int .i64 t.kind, .int .i64 t.at_, .string (bS t.text), .int .u64 (t.n : Int)] 29)).cell 0)
      have hbn := Blk.new (wr.alloc (.cells #[.int .i64 t.kind, .int .i64 t.at_, .string (bS t.text), .int .u64 (t.n : Int)] 29)) 29 t.cells
      rw [World.size_alloc] at hbn
      have HPR := Lib.hid (lprint_any (some ⟨wr.heap.size + 1, 0, none⟩) 1 1 [t] _ (LT_one hbn) (by decide) (by intro u hu; rw [List.mem_singleton.1 hu]; exact right_small HRT.out) (HTW.out.below q55))
      have HJ := Lib.hid (show [t].all rightU = true ∧ joinU [t] = wrU t from ⟨by rw [List.all_cons, HRT.out]; rfl, rfl⟩)
      have HLW := Lib.hid (low_len HRT.out)
      have HWL := Lib.hid (wr_len (right_small HRT.out).1 (right_small HRT.out).2)
      clear st hx hb q5 q55 hg0 hbn
      go_wp2_with fail
      refine HPR.out.mono ?_
      rintro e w6 ⟨hp, q6⟩
      unfold PrE at hp
      rw [if_pos HJ.out.1, HJ.out.2] at hp
      obtain ⟨X, hX⟩ : ∃ X, X = bS (wrU t) := ⟨_, rfl⟩
      rw [← hX] at hp
      subst hp
      have HXE := Lib.hid (show X.size = (wrU t).length ∧ X.data.toList = wrU t from ⟨by rw [hX, ← len_data], by rw [hX]⟩)
      clear hX
      have HQ6 := Lib.hid (bl_ca HQ5.out q6)
      have HT6 := Lib.hid ((HTW.out.below HQ5.out).below q6)
      have k6 := ce HK.out q6
      clear q6 e0 e1 e2 e3 HPR HK HQ5 HTW
      have hS1 : S.size ≤ 1201800 := by have := HI.out.1; have := HN.out; omega
      by_cases hk : t.kind = 1
      · have HW := Lib.hid (low_word HRT.out hk)
        have e1 : (t.kind == 1) = true := by simpa using hk
        have HLT := Lib.hid (Tryz.strings_ToLower_any X w6 (by rw [HXE.out.1]; have := HWL.out; omega) HT6.out.cv HT6.out.u8)
        rw [hk] at k6 e1
        clear hk e1
        go_wp2_with fail
        refine HLT.out.mono ?_
        rintro e w7 ⟨he, q7⟩
        obtain ⟨Z, hZ⟩ : ∃ Z, Z = bS (lowU t) := ⟨_, rfl⟩
        have he2 : e = .returned (.string Z) := by rw [he, hZ, ← HW.out, HXE.out.2]
        subst he2
        have HZE := Lib.hid (show Z.size = (lowU t).length ∧ Z.data.toList = lowU t from ⟨by rw [hZ, ← len_data], by rw [hZ]⟩)
        clear hZ
        have HQ7 := Lib.hid (bl_ca HQ6.out q7)
        have hS2 : Z.size ≤ 2002 := by rw [HZE.out.1]; exact HLW.out
        have hS3 : (Z ++ ⟨#[32]⟩ : ByteArray).size ≤ 2003 := by rw [app_size]; have h1 : (⟨#[32]⟩ : ByteArray).size = 1 := rfl; omega
        have HSA := Lib.hid (show (S ++ (Z ++ ⟨#[32]⟩) : ByteArray).size ≤ 2003 * (i + 1) ∧ (S ++ (Z ++ ⟨#[32]⟩) : ByteArray).data.toList = layU lowU [] (ts.take (i + 1)) from ⟨by rw [app_size]; have := HI.out.1; omega, by rw [app_data, app_data, HZE.out.2, HTK.out, lay_snoc, HI.out.2]⟩)
        clear he q7 k6
        go_wp2
        go_roundg (gk - 1)
        · exact ⟨i + 1, _, by omega, rfl, by go_num, HSA.out, bl_ca HB.out HQ7.out⟩
        · omega
      · have e1 : (t.kind == 1) = false := by simpa using hk
        have HW := Lib.hid (show wrU t = lowU t from by unfold lowU; rw [if_neg hk])
        have hS2 : X.size ≤ 2002 := by rw [HXE.out.1]; exact HWL.out
        have hS3 : (X ++ ⟨#[32]⟩ : ByteArray).size ≤ 2003 := by rw [app_size]; have h1 : (⟨#[32]⟩ : ByteArray).size = 1 := rfl; omega
        have HSA := Lib.hid (show (S ++ (X ++ ⟨#[32]⟩) : ByteArray).size ≤ 2003 * (i + 1) ∧ (S ++ (X ++ ⟨#[32]⟩) : ByteArray).data.toList = layU lowU [] (ts.take (i + 1)) from ⟨by rw [app_size]; have := HI.out.1; omega, by rw [app_data, app_data, HXE.out.2, HTK.out, lay_snoc, HI.out.2, ← HW.out]⟩)
        clear hk
        go_wp2
        go_roundg (gk - 1)
        · exact ⟨i + 1, _, by omega, rfl, by go_num, HSA.out, bl_ca HB.out HQ6.out⟩
        · omega
    · obtain rfl : i = n := by omega
      have hi1 : (i : Int) ≤ (i : Int) := by omega
      have HFIN := Lib.hid (show S = bS (layU lowU [] ts) from bS_of (by rw [HI.out.2, List.take_of_length_le (by rw [HLN.out]; exact Nat.le_refl _)]))
      have HQW := Lib.hid (bl_ca HQ3.out hb)
      have HTW := Lib.hid (HT3.out.below hb)
      have HOW := Lib.hid (Lay.rd_below HO.out hb)
      have HSS := Lib.hid (show S.size ≤ 9223372036854775807 from by have := HI.out.1; have := HN.out; omega)
      clear hb HB
      go_wp2_with fail
      refine (ltokens_any S _ HSS.out HTW.out).mono ?_
      rintro e w5 ⟨⟨A5, n5, c5, rfl, ho5⟩, q5⟩
      have HQ5 := Lib.hid (bl_ca HQW.out q5)
      have HO5' := Lib.hid (Lay.rd_below HOW.out q5)
      have hd5 : S.data.toList = layU lowU [] ts := by rw [HFIN.out]
      rw [hd5] at ho5 ⊢
      have hsz := len_data S
      rw [hd5] at hsz
      clear q5
      by_cases hj : 600 < (layU lowU [] ts).length
      case pos =>
        rw [tokM_long hj]
        have z1 : 600 < (S.size : Int) := by omega
        clear hj ho5 hd5 hsz
        simp only
        go_wp2
        go_ret
        exact ⟨rfl, HQ5.out⟩
      case neg =>
        obtain ⟨us, hu, hsame⟩ := tok_lay HRI.out (Nat.le_of_not_lt hj)
        rw [hu] at ho5 ⊢
        have z1 : (S.size : Int) ≤ 600 := by omega
        have HO5 := Lib.hid (OwnT.rdA ho5)
        have HSM := Lib.hid hsame
        clear hj ho5 hu hsame hd5 hsz
        simp only
        go_wp2_with fail
        refine (lsame_any ts us A i c A5 n5 c5 _ HO5'.out HO5.out (by have := HN.out; omega)).mono ?_
        rintro e w9 ⟨rfl, q9⟩
        rw [HSM.out]
        have HQ9 := Lib.hid (bl_ca HQ5.out q9)
        clear q9
        go_wp2
        go_ret
        exact ⟨rfl, HQ9.out⟩
end Go.Proofs.YtnpicnddcoaboaaGreatDoor
