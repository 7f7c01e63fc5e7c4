/- Names: the reference's Words, IsWord, Upper, IsName. Conditions: none. -/
import Derived.Test.YtnpicnddcoaboaaGreatDoorCRef7
import Derived.Test.YtnpicnddcoaboaaGreatDoorBytes
namespace Go.Proofs.YtnpicnddcoaboaaGreatDoor
open Go.RowKit
theorem run_bt {s : ByteArray} {i : Nat} {b : UInt8} (h : s.data.toList[i]? = some b) (W : World) : (Instr.index 9 (.string s) (.int .i64 (i : Int))).run Tryz.prog W = .ok (.int .u8 (b.toNat : Int)) W := by
  have hi : i < s.data.toList.length := by
    rcases Nat.lt_or_ge i s.data.toList.length with h1 | h1
    · exact h1
    · rw [List.getElem?_eq_none h1] at h; cases h
  have hs : i < s.size := by simpa using hi
  rw [run_index_string W 9 s .i64 (i : Int) Tryz.underlying9, dif_pos ⟨by omega, by omega⟩]
  rw [List.getElem?_eq_getElem hi] at h
  injection h with h
  have e : s[((i : Int)).toNat]'(by simpa using hs) = b := by
    rw [← h]
    simp only [Int.toNat_natCast]
    simp
    rfl
  rw [e]
theorem bt_of {s : ByteArray} {i : Nat} {b : UInt8} (h : s.data.toList[i]? = some b) : bt s i = (b.toNat : Int) := by unfold bt; rw [List.getD, h]; rfl
theorem byte_at {s : ByteArray} {i : Nat} (h : i < s.size) : ∃ b, s.data.toList[i]? = some b := ⟨s.data.toList[i]'(by simpa using h), List.getElem?_eq_getElem (by simpa using h)⟩
set_option maxRecDepth 100000 in
theorem words_any (w : World) : Calls Tryz.prog 41 #[] w fun e w' => e = .returned (.slice (some ⟨w.heap.size, 0, none⟩) 28 28) ∧ LS.rd w' AllB (some ⟨w.heap.size, 0, none⟩) 28 wordsL ∧ Below w.heap.size w w' := by
  go_enter Tryz.func41, Tryz.ntmps41
  go_wp2
  go_ret
  exact ⟨rfl, LS_blk (Blk.new w 9 _) rfl trivial, bl_al (Below.refl _ _) _⟩
set_option maxRecDepth 100000 in
theorem risword_any (s : ByteArray) (w : World) : Calls Tryz.prog 17 #[.string s] w fun e w' => e = .returned (.bool (isWordB s)) ∧ Below w.heap.size w w' := by
  go_enter Tryz.func17, Tryz.ntmps17
  go_wp2_with fail
  refine (words_any _).mono ?_
  rintro e w2 ⟨rfl, hr, q2⟩
  go_wp2_with fail
  refine (has_any AllB _ 28 28 wordsL s w2 hr (by omega)).mono ?_
  rintro e w3 ⟨rfl, rfl⟩
  go_wp2
  go_ret
  exact ⟨rfl, q2⟩
set_option maxRecDepth 100000 in
theorem rupper_any (s : ByteArray) (w : World) (hs : s.size ≤ 100000) : Calls Tryz.prog 40 #[.string s] w fun e w' => e = .returned (.string ⟨(upL s.data.toList).toArray⟩) ∧ Below w.heap.size w w' := by
  go_enter Tryz.func40, Tryz.ntmps40
  go_wp2_with fail
  go_loopg [3, 4] s.size (fun g a b wr => ∃ (i : Nat) (A : Option Addr) (c : Nat), i + g = s.size ∧ a = .slice A i c ∧ b = .int .i64 i ∧ OwnB wr w.heap.size A i c (upL (s.data.toList.take i)) ∧ Below w.heap.size w wr)
  case atStart => exact ⟨0, none, 0, by omega, rfl, rfl, OwnB.none_ _ _, Below.refl _ _⟩
  case round =>
    obtain ⟨i, A, c, hig, rfl, rfl, ho, bb⟩ := hrel
    have HO := Lib.hid ho
    have HBB := Lib.hid bb
    clear ho bb
    by_cases hlt : i < s.size
    · have hi1 : (i : Int) < (s.size : Int) := by omega
      obtain ⟨b, hb⟩ := byte_at hlt
      have hix := run_bt hb
      have HT := Lib.hid (show upL (s.data.toList.take (i + 1)) = upL (s.data.toList.take i) ++ [upB b] from by unfold upL; rw [List.take_add_one, hb]; simp)
      have HB := Lib.hid (show upB b = if smI (b.toNat : Int) then b - 32 else b from rfl)
      have hb255 : (b.toNat : Int) < 256 := by have := b.toNat_lt; omega
      clear hb
      go_wp2_with fail
      refine (rsmall_any _ _).mono ?_
      rintro e w2 ⟨rfl, rfl⟩
      obtain ⟨q, hq⟩ : ∃ q, q = smI (b.toNat : Int) := ⟨_, rfl⟩
      rw [← hq] at HB ⊢
      have HQ := Lib.hid hq
      clear hq
      have hsz := HBB.out.size
      cases q
      · have HV := Lib.hid (show Value.int .u8 (b.toNat : Int) = vb (upB b) from by rw [HB.out]; rfl)
        go_wp2_with (at_builtin; refine wpList_appB rfl (.tmp 20) (.tmp 22) rfl w.heap.size A i c _ (some ⟨wr.heap.size, 0, none⟩) 1 1 [upB b] rfl rfl (HO.out.alloc _) (RdB.one wr (upB b) _ HV.out _) (by omega) (by simp only [World.size_alloc]; omega) ?_; intro A1 c1 w1 ho1 hb1)
        go_roundg (gk - 1)
        · exact ⟨i + 1, A1, c1, by omega, rfl, by go_num, by rw [HT.out]; exact ho1, HBB.out.trans (((Below.refl _ _).alloc hsz _).trans hb1)⟩
        · omega
      · have HV := Lib.hid (show Value.int .u8 (((b.toNat : Int) - 97) % 256 + 65) = vb (upB b) from by
          rw [HB.out]
          have h9 := HQ.out
          unfold smI at h9
          simp only [Bool.true_eq, Bool.and_eq_true, decide_eq_true_eq] at h9
          unfold vb
          rw [if_pos rfl, UInt8.toNat_sub_of_le _ _ (by rw [UInt8.le_iff_toNat_le]; show 32 ≤ b.toNat; omega)]
          show _ = Value.int .u8 ((b.toNat - 32 : Nat) : Int)
          congr 1
          omega)
        have hlo : 97 ≤ (b.toNat : Int) := by
          have h9 := HQ.out
          unfold smI at h9
          simp only [Bool.true_eq, Bool.and_eq_true, decide_eq_true_eq] at h9
          omega
        have hhi : (b.toNat : Int) ≤ 122 := by
          have h9 := HQ.out
          unfold smI at h9
          simp only [Bool.true_eq, Bool.and_eq_true, decide_eq_true_eq] at h9
          omega
        go_wp2_with (at_builtin; refine wpList_appB rfl (.tmp 20) (.tmp 22) rfl w.heap.size A i c _ (some ⟨wr.heap.size, 0, none⟩) 1 1 [upB b] rfl rfl (HO.out.alloc _) (RdB.one wr (upB b) _ (by refine Eq.trans ?_ HV.out; congr 1; omega) _) (by omega) (by simp only [World.size_alloc]; omega) ?_; intro A1 c1 w1 ho1 hb1)
        go_roundg (gk - 1)
        · exact ⟨i + 1, A1, c1, by omega, rfl, by go_num, by rw [HT.out]; exact ho1, HBB.out.trans (((Below.refl _ _).alloc hsz _).trans hb1)⟩
        · omega
    · obtain rfl : i = s.size := by omega
      have hi1 : (s.size : Int) ≤ (s.size : Int) := by omega
      have hcv := (HO.out.rd).str c
      rw [List.take_of_length_le (by simp)] at hcv
      go_wp2
      go_ret
      exact ⟨rfl, HBB.out⟩
theorem allok_at {l : List Int} {i : Nat} {x : Int} (h : l[i]? = some x) : (l.drop i).all okI = (okI x && (l.drop (i + 1)).all okI) := by
  have hi : i < l.length := by
    rcases Nat.lt_or_ge i l.length with h1 | h1
    · exact h1
    · rw [List.getElem?_eq_none h1] at h; cases h
  rw [List.getElem?_eq_getElem hi] at h
  injection h with h
  rw [List.drop_eq_getElem_cons hi, h, List.all_cons]
theorem bts_at {s : ByteArray} {i : Nat} {b : UInt8} (h : s.data.toList[i]? = some b) : (bts s)[i]? = some (b.toNat : Int) := by unfold bts; rw [List.getElem?_map, h]; rfl
theorem bts_len (s : ByteArray) : (bts s).length = s.size := by unfold bts; simp
set_option maxRecDepth 100000 in
set_option maxHeartbeats 4000000 in
theorem risname_any (s : ByteArray) (w : World) (hs : s.size ≤ 9223372036854775807) : Calls Tryz.prog 18 #[.string s] w fun e w' => e = .returned (.bool (nameB s)) ∧ Below w.heap.size w w' := by
  have HR := Lib.hid (show nameB s = (decide (1 ≤ s.size) && (decide (s.size ≤ 16) && (smI (bt s 0) && ((bts s).all okI && !isWordB ⟨(upL s.data.toList).toArray⟩)))) from rfl)
  generalize nameB s = r at *
  by_cases h1 : s.size < 1
  · have h2 : (s.size : Int) < 1 := by omega
    go_enter Tryz.func18, Tryz.ntmps18
    go_wp2
    go_ret
    exact ⟨ret_bool (by rw [HR.out]; simp; omega), Below.refl _ _⟩
  by_cases h16 : 16 < s.size
  · have h2 : 1 ≤ (s.size : Int) := by omega
    have h3 : 16 < (s.size : Int) := by omega
    go_enter Tryz.func18, Tryz.ntmps18
    go_wp2
    go_ret
    exact ⟨ret_bool (by rw [HR.out]; simp; omega), Below.refl _ _⟩
  have h2 : 1 ≤ (s.size : Int) := by omega
  have h3 : (s.size : Int) ≤ 16 := by omega
  obtain ⟨b, hb⟩ := byte_at (s := s) (i := 0) (by omega)
  have hix : ∀ W, (Instr.index 9 (.string s) (.int .i64 0)).run Tryz.prog W = .ok (.int .u8 (b.toNat : Int)) W := run_bt hb
  have HR2 := Lib.hid (show r = (smI (b.toNat : Int) && ((bts s).all okI && !isWordB ⟨(upL s.data.toList).toArray⟩)) from by rw [HR.out, bt_of hb, decide_eq_true (show 1 ≤ s.size by omega), decide_eq_true (show s.size ≤ 16 by omega)]; rfl)
  clear hb HR h1 h16
  go_enter Tryz.func18, Tryz.ntmps18
  go_wp2_with fail
  refine (rsmall_any _ _).mono ?_
  rintro e w2 ⟨rfl, rfl⟩
  obtain ⟨q, hq⟩ : ∃ q, q = smI (b.toNat : Int) := ⟨_, rfl⟩
  rw [← hq] at HR2 ⊢
  clear hq hix
  cases q
  · go_wp2
    go_ret
    exact ⟨ret_bool (by rw [HR2.out]; rfl), Below.refl _ _⟩
  go_wp2_with fail
  refine (rupper_any s _ (by omega)).mono ?_
  rintro e w3 ⟨rfl, q3⟩
  go_wp2_with fail
  refine (risword_any _ _).mono ?_
  rintro e w4 ⟨rfl, q4⟩
  have HB := Lib.hid (bl_ca q3 q4)
  clear q3 q4
  obtain ⟨q, hq⟩ : ∃ q, q = isWordB ⟨(upL s.data.toList).toArray⟩ := ⟨_, rfl⟩
  rw [← hq] at HR2 ⊢
  clear hq
  cases q
  · go_wp2_with fail
    go_loopg [3] s.size (fun g a wr => ∃ i : Nat, i + g = s.size ∧ a = .int .i64 i ∧ r = ((bts s).drop i).all okI ∧ Below w.heap.size w wr)
    case atStart => exact ⟨0, by omega, rfl, by rw [HR2.out]; simp, HB.out⟩
    case round =>
      obtain ⟨i, hig, rfl, hri, bb⟩ := hrel
      have HRI := Lib.hid hri
      have HBB := Lib.hid bb
      clear hri bb HB HR2
      by_cases hlt : i < s.size
      · have hi1 : (i : Int) < (s.size : Int) := by omega
        obtain ⟨b, hb⟩ := byte_at hlt
        have hix := run_bt hb
        have HA := Lib.hid (allok_at (bts_at hb))
        clear hb
        obtain ⟨c, hc⟩ : ∃ c, c = (b.toNat : Int) := ⟨_, rfl⟩
        rw [← hc] at hix HA
        clear hc
        go_wp2_with fail
        refine (rsmall_any c _).mono ?_
        rintro e w2 ⟨rfl, rfl⟩
        have HO := Lib.hid (show okI c = (smI c || (dgI c || decide (c = 95))) from rfl)
        obtain ⟨ok, hok⟩ : ∃ ok, ok = okI c := ⟨_, rfl⟩
        rw [← hok] at HO HA
        clear hok
        obtain ⟨q, hq⟩ : ∃ q, q = smI c := ⟨_, rfl⟩
        rw [← hq] at HO ⊢
        clear hq
        cases q
        · go_wp2_with fail
          refine (rdigit_any c _).mono ?_
          rintro e w2 ⟨rfl, rfl⟩
          obtain ⟨q, hq⟩ : ∃ q, q = dgI c := ⟨_, rfl⟩
          rw [← hq] at HO ⊢
          clear hq
          cases q
          · by_cases h95 : c = 95
            · have e1 : (c == 95) = true := by simpa using h95
              have HK := Lib.hid (show ok = true from by rw [HO.out]; simpa using h95)
              clear h95
              go_wp2
              go_roundg (gk - 1)
              · exact ⟨i + 1, by omega, by go_num, by rw [HRI.out, HA.out, HK.out]; rfl, HBB.out⟩
              · omega
            · have e1 : (c == 95) = false := by simpa using h95
              have HK := Lib.hid (show ok = false from by rw [HO.out]; simpa using h95)
              clear h95
              go_wp2
              go_ret
              exact ⟨ret_bool (by rw [HRI.out, HA.out, HK.out]; rfl), HBB.out⟩
          · have HK := Lib.hid (show ok = true from by rw [HO.out]; rfl)
            go_wp2
            go_roundg (gk - 1)
            · exact ⟨i + 1, by omega, by go_num, by rw [HRI.out, HA.out, HK.out]; rfl, HBB.out⟩
            · omega
        · have HK := Lib.hid (show ok = true from by rw [HO.out]; rfl)
          go_wp2
          go_roundg (gk - 1)
          · exact ⟨i + 1, by omega, by go_num, by rw [HRI.out, HA.out, HK.out]; rfl, HBB.out⟩
          · omega
      · obtain rfl : i = s.size := by omega
        have hi1 : (s.size : Int) ≤ (s.size : Int) := by omega
        go_wp2
        go_ret
        exact ⟨ret_bool (by rw [HRI.out, List.drop_of_length_le (by rw [bts_len]; exact Nat.le_refl _)]; rfl), HBB.out⟩
  · go_wp2
    go_ret
    exact ⟨ret_bool (by rw [HR2.out]; simp), HB.out⟩
end Go.Proofs.YtnpicnddcoaboaaGreatDoor
