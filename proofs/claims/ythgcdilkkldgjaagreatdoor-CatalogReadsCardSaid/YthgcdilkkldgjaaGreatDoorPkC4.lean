/- Names: the reference's Words, IsWord, Upper, IsName. Conditions: none. -/
import Derived.Test.YthgcdilkkldgjaaGreatDoorPkC3
import Derived.Laws.RangeAny
namespace Go.Proofs.YthgcdilkkldgjaaGreatDoor
open Go.RowKit
theorem run_bt {s : ByteArray} {i : Nat} {b : UInt8} (h : s.data.toList[i]? = some b) (W : World) : (Instr.index 9 (.string s) (.int .i64 (i : Int))).run Tryz.prog W = .ok (.int .u8 (b.toNat : Int)) W := by
  have hi : i < s.data.toList.length := by
    rcases Nat.lt_or_ge i s.data.toList.length with h1 | h1
    · exact h1
    · rw [List.getElem?_eq_none h1] at h; cases h
  have hs : i < s.size := by simpa using hi
  rw [run_index_string W 9 s .i64 (i : Int) Tryz.underlying9, dif_pos ⟨by omega, by omega⟩]
  rw [List.getElem?_eq_getElem hi] at h
  injection h with h
  have e : s[((i : Int)).toNat]'(by simpa using hs) = b := by
    rw [← h]
    simp only [Int.toNat_natCast]
    simp
    rfl
  rw [e]
theorem bt_of {s : ByteArray} {i : Nat} {b : UInt8} (h : s.data.toList[i]? = some b) : bt s i = (b.toNat : Int) := by unfold bt; rw [List.getD, h]; rfl
theorem byte_at {s : ByteArray} {i : Nat} (h : i < s.size) : ∃ b, s.data.toList[i]? = some b := ⟨s.data.toList[i]'(by simpa using h), List.getElem?_eq_getElem (by simpa using h)⟩
set_option maxRecDepth 100000 in
theorem words_any (w : World) : Calls Tryz.prog 77 #[] w fun e w' => e = .returned (.slice (some ⟨w.heap.size, 0, none⟩) 28 28) ∧ LS.rd w' AllB (some ⟨w.heap.size, 0, none⟩) 28 wordsL ∧ Below w.heap.size w w' := by
  go_enter Tryz.func77, Tryz.ntmps77
  go_wp2
  go_ret
  exact ⟨rfl, LS_blk (Blk.new w 9 _) rfl trivial, bl_al (Below.refl _ _) _⟩
set_option maxRecDepth 100000 in
theorem risword_any (s : ByteArray) (w : World) : Calls Tryz.prog 62 #[.string s] w fun e w' => e = .returned (.bool (isWordB s)) ∧ Below w.heap.size w w' := by
  go_enter Tryz.func62, Tryz.ntmps62
  go_wp2_with fail
  refine (words_any _).mono ?_
  rintro e w2 ⟨rfl, hr, q2⟩
  go_wp2_with fail
  refine (has_any AllB _ 28 28 wordsL s w2 hr (by omega)).mono ?_
  rintro e w3 ⟨rfl, rfl⟩
  go_wp2
  go_ret
  exact ⟨rfl, q2⟩
set_option maxRecDepth 100000 in
theorem rupper_any (s : ByteArray) (w : World) (hs : s.size ≤ 100000) : Calls Tryz.prog 63 #[.string s] w fun e w' => e = .returned (.string ⟨(upL s.data.toList).toArray⟩) ∧ Below w.heap.size w w' := by
  go_enter Tryz.func63, Tryz.ntmps63
  go_wp2_with fail
  go_loopg [3, 4] s.size (fun g a b wr => ∃ (i : Nat) (A : Option Addr) (c : Nat), i + g = s.size ∧ a = .slice A i c ∧ b = .int .i64 i ∧ OwnB wr w.heap.size A i c (upL (s.data.toList.take i)) ∧ Below w.heap.size w wr)
  case atStart => exact ⟨0, none, 0, by omega, rfl, rfl, OwnB.none_ _ _, Below.refl _ _⟩
  case round =>
    obtain ⟨i, A, c, hig, rfl, rfl, ho, bb⟩ := hrel
    have HO := Lib.hid ho
    have HBB := Lib.hid bb
    clear ho bb
    by_cases hlt : i < s.size
    · have hi1 : (i : Int) < (s.size : Int) := by omega
      obtain ⟨b, hb⟩ := byte_at hlt
      have hix := run_bt hb
      have HT := Lib.hid (show upL (s.data.toList.take (i + 1)) = upL (s.data.toList.take i) ++ [upB b] from by unfold upL; rw [List.take_add_one, hb]; simp)
      have HB := Lib.hid (show upB b = if smI (b.toNat : Int) then b - 32 else b from rfl)
      have hb255 : (b.toNat : Int) < 256 := by have := b.toNat_lt; omega
      clear hb
      go_wp2_with fail
      refine (rsmall_any _ _).mono ?_
      rintro e w2 ⟨rfl, rfl⟩
      obtain ⟨q, hq⟩ : ∃ q, q = smI (b.toNat : Int) := ⟨_, rfl⟩
      rw [← hq] at HB ⊢
      have HQ := Lib.hid hq
      clear hq
      have hsz := HBB.out.size
      cases q
      · have HV := Lib.hid (show Value.int .u8 (b.toNat : Int) = vb (upB b) from by rw [HB.out]; rfl)
        go_wp2_with (at_builtin; refine wpList_appB rfl (.tmp 20) (.tmp 22) rfl w.heap.size A i c _ (some ⟨wr.heap.size, 0, none⟩) 1 1 [upB b] rfl rfl (HO.out.alloc _) (RdB.one wr (upB b) _ HV.out _) (by omega) (by simp only [World.size_alloc]; omega) ?_; intro A1 c1 w1 ho1 hb1)
        go_roundg (gk - 1)
        · exact ⟨i + 1, A1, c1, by omega, rfl, by go_num, by rw [HT.out]; exact ho1, HBB.out.trans (((Below.refl _ _).alloc hsz _).trans hb1)⟩
        · omega
      · have HV := Lib.hid (show Value.int .u8 (((b.toNat : Int) - 97) % 256 + 65) = vb (upB b) from by
          rw [HB.out]
          have h9 := HQ.out
          unfold smI at h9
          simp only [Bool.true_eq, Bool.and_eq_true, decide_eq_true_eq] at h9
          unfold vb
          rw [if_pos rfl, UInt8.toNat_sub_of_le _ _ (by rw [UInt8.le_iff_toNat_le]; show 32 ≤ b.toNat; omega)]
          show _ = Value.int .u8 ((b.toNat - 32 : Nat) : Int)
          congr 1
          omega)
        have hlo : 97 ≤ (b.toNat : Int) := by
          have h9 := HQ.out
          unfold smI at h9
          simp only [Bool.true_eq, Bool.and_eq_true, decide_eq_true_eq] at h9
          omega
        have hhi : (b.toNat : Int) ≤ 122 := by
          have h9 := HQ.out
          unfold smI at h9
          simp only [Bool.true_eq, Bool.and_eq_true, decide_eq_true_eq] at h9
          omega
        go_wp2_with (at_builtin; refine wpList_appB rfl (.tmp 20) (.tmp 22) rfl w.heap.size A i c _ (some ⟨wr.heap.size, 0, none⟩) 1 1 [upB b] rfl rfl (HO.out.alloc _) (RdB.one wr (upB b) _ (by refine Eq.trans ?_ HV.out; congr 1; omega) _) (by omega) (by simp only [World.size_alloc]; omega) ?_; intro A1 c1 w1 ho1 hb1)
        go_roundg (gk - 1)
        · exact ⟨i + 1, A1, c1, by omega, rfl, by go_num, by rw [HT.out]; exact ho1, HBB.out.trans (((Below.refl _ _).alloc hsz _).trans hb1)⟩
        · omega
    · obtain rfl : i = s.size := by omega
      have hi1 : (s.size : Int) ≤ (s.size : Int) := by omega
      have hcv := (HO.out.rd).str c
      rw [List.take_of_length_le (by simp)] at hcv
      go_wp2
      go_ret
      exact ⟨rfl, HBB.out⟩
theorem allok_at {l : List Int} {i : Nat} {x : Int} (h : l[i]? = some x) : (l.drop i).all okI = (okI x && (l.drop (i + 1)).all okI) := by
  have hi : i < l.length := by
    rcases Nat.lt_or_ge i l.length with h1 | h1
    · exact h1
    · rw [List.getElem?_eq_none h1] at h; cases h
  rw [List.getElem?_eq_getElem hi] at h
  injection h with h
  rw [List.drop_eq_getElem_cons hi, h, List.all_cons]
theorem bts_at {s : ByteArray} {i : Nat} {b : UInt8} (h : s.data.toList[i]? = some b) : (bts s)[i]? = some (b.toNat : Int) := by unfold bts; rw [List.getElem?_map, h]; rfl
theorem bts_len (s : ByteArray) : (bts s).length = s.size := by unfold bts; simp
set_option maxRecDepth 100000 in
set_option maxHeartbeats 4000000 in
theorem risname_any (s : ByteArray) (w : World) (hs : s.size ≤ 9223372036854775807) : Calls Tryz.prog 42 #[.string s] w fun e w' => e = .returned (.bool (nameB s)) ∧ Below w.heap.size w w' := by
  have HR := Lib.hid (show nameB s = (decide (1 ≤ s.size) && (decide (s.size ≤ 16) && (smI (bt s 0) && ((bts s).all okI && !isWordB ⟨(upL s.data.toList).toArray⟩)))) from rfl)
  generalize nameB s = r at *
  by_cases h1 : s.size < 1
  · have h2 : (s.size : Int) < 1 := by omega
    go_enter Tryz.func42, Tryz.ntmps42
    go_wp2
    go_ret
    exact ⟨ret_bool (by rw [HR.out]; simp; omega), Below.refl _ _⟩
  by_cases h16 : 16 < s.size
  · have h2 : 1 ≤ (s.size : Int) := by omega
    have h3 : 16 < (s.size : Int) := by omega
    go_enter Tryz.func42, Tryz.ntmps42
    go_wp2
    go_ret
    exact ⟨ret_bool (by rw [HR.out]; simp; omega), Below.refl _ _⟩
  have h2 : 1 ≤ (s.size : Int) := by omega
  have h3 : (s.size : Int) ≤ 16 := by omega
  obtain ⟨b, hb⟩ := byte_at (s := s) (i := 0) (by omega)
  have hix : ∀ W, (Instr.index 9 (.string s) (.int .i64 0)).run Tryz.prog W = .ok (.int .u8 (b.toNat : Int)) W := run_bt hb
  have HR2 := Lib.hid (show r = (smI (b.toNat : Int) && ((bts s).all okI && !isWordB ⟨(upL s.data.toList).toArray⟩)) from by rw [HR.out, bt_of hb, decide_eq_true (show 1 ≤ s.size by omega), decide_eq_true (show s.size ≤ 16 by omega)]; rfl)
  clear hb HR h1 h16
  go_enter Tryz.func42, Tryz.ntmps42
  go_wp2_with fail
  refine (rsmall_any _ _).mono ?_
  rintro e w2 ⟨rfl, rfl⟩
  obtain ⟨q, hq⟩ : ∃ q, q = smI (b.toNat : Int) := ⟨_, rfl⟩
  rw [← hq] at HR2 ⊢
  clear hq hix
  cases q
  · go_wp2
    go_ret
    exact ⟨ret_bool (by rw [HR2.out]; rfl), Below.refl _ _⟩
  go_wp2_with fail
  refine (rupper_any s _ (by omega)).mono ?_
  rintro e w3 ⟨rfl, q3⟩
  go_wp2_with fail
  refine (risword_any _ _).mono ?_
  rintro e w4 ⟨rfl, q4⟩
  have HB := Lib.hid (bl_ca q3 q4)
  clear q3 q4
  obtain ⟨q, hq⟩ : ∃ q, q = isWordB ⟨(upL s.data.toList).toArray⟩ := ⟨_, rfl⟩
  rw [← hq] at HR2 ⊢
  clear hq
  cases q
  · go_wp2_with fail
    go_loopg [3] s.size (fun g a wr => ∃ i : Nat, i + g = s.size ∧ a = .int .i64 i ∧ r = ((bts s).drop i).all okI ∧ Below w.heap.size w wr)
    case atStart => exact ⟨0, by omega, rfl, by rw [HR2.out]; simp, HB.out⟩
    case round =>
      obtain ⟨i, hig, rfl, hri, bb⟩ := hrel
      have HRI := Lib.hid hri
      have HBB := Lib.hid bb
      clear hri bb HB HR2
      by_cases hlt : i < s.size
      · have hi1 : (i : Int) < (s.size : Int) := by omega
        obtain ⟨b, hb⟩ := byte_at hlt
        have hix := run_bt hb
        have HA := Lib.hid (allok_at (bts_at hb))
        clear hb
        obtain ⟨c, hc⟩ : ∃ c, c = (b.toNat : Int) := ⟨_, rfl⟩
        rw [← hc] at hix HA
        clear hc
        go_wp2_with fail
        refine (rsmall_any c _).mono ?_
        rintro e w2 ⟨rfl, rfl⟩
        have HO := Lib.hid (show okI c = (smI c || (dgI c || decide (c = 95))) from rfl)
        obtain ⟨ok, hok⟩ : ∃ ok, ok = okI c := ⟨_, rfl⟩
        rw [← hok] at HO HA
        clear hok
        obtain ⟨q, hq⟩ : ∃ q, q = smI c := ⟨_, rfl⟩
        rw [← hq] at HO ⊢
        clear hq
        cases q
        · go_wp2_with fail
          refine (rdigit_any c _).mono ?_
          rintro e w2 ⟨rfl, rfl⟩
          obtain ⟨q, hq⟩ : ∃ q, q = dgI c := ⟨_, rfl⟩
          rw [← hq] at HO ⊢
          clear hq
          cases q
          · by_cases h95 : c = 95
            · have e1 : (c == 95) = true := by simpa using h95
              have HK := Lib.hid (show ok = true from by rw [HO.out]; simpa using h95)
              clear h95
              go_wp2
              go_roundg (gk - 1)
              · exact ⟨i + 1, by omega, by go_num, by rw [HRI.out, HA.out, HK.out]; rfl, HBB.out⟩
              · omega
            · have e1 : (c == 95) = false := by simpa using h95
              have HK := Lib.hid (show ok = false from by rw [HO.out]; simpa using h95)
              clear h95
              go_wp2
              go_ret
              exact ⟨ret_bool (by rw [HRI.out, HA.out, HK.out]; rfl), HBB.out⟩
          · have HK := Lib.hid (show ok = true from by rw [HO.out]; rfl)
            go_wp2
            go_roundg (gk - 1)
            · exact ⟨i + 1, by omega, by go_num, by rw [HRI.out, HA.out, HK.out]; rfl, HBB.out⟩
            · omega
        · have HK := Lib.hid (show ok = true from by rw [HO.out]; rfl)
          go_wp2
          go_roundg (gk - 1)
          · exact ⟨i + 1, by omega, by go_num, by rw [HRI.out, HA.out, HK.out]; rfl, HBB.out⟩
          · omega
      · obtain rfl : i = s.size := by omega
        have hi1 : (s.size : Int) ≤ (s.size : Int) := by omega
        go_wp2
        go_ret
        exact ⟨ret_bool (by rw [HRI.out, List.drop_of_length_le (by rw [bts_len]; exact Nat.le_refl _)]; rfl), HBB.out⟩
  · go_wp2
    go_ret
    exact ⟨ret_bool (by rw [HR2.out]; simp), HB.out⟩
end Go.Proofs.YthgcdilkkldgjaaGreatDoor
/- Names: the layer's IsWord, IsName. Conditions: what the tables hold. -/
namespace Go.Proofs.YthgcdilkkldgjaaGreatDoor
open Go.RowKit
set_option maxRecDepth 100000 in
theorem isword_any (s : ByteArray) (w : World) (hT : Tab w) : Calls Tryz.prog 72 #[.string s] w fun e w' => e = .returned (.bool (isWordB s)) ∧ w = w' := by
  have HT := Lib.hid hT.wd
  clear hT
  go_enter Tryz.func72, Tryz.ntmps72
  go_wp2_with fail
  refine (Tryz.slices_Contains_string 1 0 28 28 wordsL s w (by decide) (by decide) (fun j hj => by rw [Nat.zero_add]; exact HT.out j _ (by rw [List.getD_eq_getElem?_getD, List.getElem?_eq_getElem hj]; rfl))).mono ?_
  rintro e w2 ⟨rfl, rfl⟩
  go_wp2
  go_ret
  exact ⟨rfl, rfl⟩
theorem isLower_smI : ∀ b : UInt8, Lib.isLowerB b = smI (b.toNat : Int) := by
  intro b
  unfold Lib.isLowerB smI
  rw [Bool.eq_iff_iff, Bool.and_eq_true, Bool.and_eq_true, decide_eq_true_eq, decide_eq_true_eq, decide_eq_true_eq, decide_eq_true_eq, UInt8.le_iff_toNat_le, UInt8.le_iff_toNat_le]
  show 97 ≤ b.toNat ∧ b.toNat ≤ 122 ↔ _
  omega
theorem upA_eq (l : List UInt8) : Lib.toUpperA l = upL l := by
  unfold Lib.toUpperA upL
  refine List.map_congr_left fun b _ => ?_
  unfold Lib.upperB upB
  rw [isLower_smI]
theorem okI_high {c : Int} (h : 128 ≤ c) : okI c = false := by
  unfold okI smI dgI
  rw [decide_eq_false (show ¬ c ≤ 122 by omega), decide_eq_false (show ¬ c ≤ 57 by omega), decide_eq_false (show ¬ c = 95 by omega)]
  simp
theorem iter_below (w : World) (s : ByteArray) (p : Nat) : Below w.heap.size w (w.iter s p) := by
  unfold World.iter
  exact bl_al (Below.refl _ _) _
set_option maxRecDepth 100000 in
set_option maxHeartbeats 4000000 in
theorem isname_any (s : ByteArray) (w : World) (hT : Tab w) (hs : s.size ≤ 9223372036854775807) : Calls Tryz.prog 52 #[.string s] w fun e w' => e = .returned (.bool (nameB s)) ∧ Below w.heap.size w w' := by
  have HR := Lib.hid (show nameB s = (decide (1 ≤ s.size) && (decide (s.size ≤ 16) && (smI (bt s 0) && ((bts s).all okI && !isWordB ⟨(upL s.data.toList).toArray⟩)))) from rfl)
  generalize nameB s = r at *
  by_cases h1 : s.size < 1
  · have h2 : s.toList.isEmpty = true := by rw [ByteArray.toList_eq, List.isEmpty_iff]; exact List.eq_nil_of_length_eq_zero (by rw [show s.data.toList.length = s.size from by simp]; omega)
    go_enter Tryz.func52, Tryz.ntmps52
    go_wp2
    go_ret
    exact ⟨ret_bool (by rw [HR.out]; simp; omega), Below.refl _ _⟩
  have h2 : s.toList.isEmpty = false := by
    rw [ByteArray.toList_eq, List.isEmpty_eq_false_iff]
    intro e
    have h9 := congrArg List.length e
    rw [show s.data.toList.length = s.size from by simp] at h9
    simp only [List.length_nil] at h9
    omega
  by_cases h16 : 16 < s.size
  · have h3 : 16 < (s.size : Int) := by omega
    go_enter Tryz.func52, Tryz.ntmps52
    go_wp2
    go_ret
    exact ⟨ret_bool (by rw [HR.out]; simp; omega), Below.refl _ _⟩
  have h3 : (s.size : Int) ≤ 16 := by omega
  obtain ⟨b, hb⟩ := byte_at (s := s) (i := 0) (by omega)
  have hix : ∀ W, (Instr.index 9 (.string s) (.int .i64 0)).run Tryz.prog W = .ok (.int .u8 (b.toNat : Int)) W := run_bt hb
  have HR2 := Lib.hid (show r = (smI (b.toNat : Int) && ((bts s).all okI && !isWordB ⟨(upL s.data.toList).toArray⟩)) from by rw [HR.out, bt_of hb, decide_eq_true (show 1 ≤ s.size by omega), decide_eq_true (show s.size ≤ 16 by omega)]; rfl)
  have hb0 : 0 ≤ (b.toNat : Int) := by omega
  have hb255 : (b.toNat : Int) < 256 := by have := b.toNat_lt; omega
  have HS := Lib.hid (show s.size ≤ 16 by omega)
  clear hb HR h1 h16
  obtain ⟨c, hc⟩ : ∃ c, c = (b.toNat : Int) := ⟨_, rfl⟩
  rw [← hc] at hix HR2 hb0 hb255
  clear hc
  go_enter Tryz.func52, Tryz.ntmps52
  go_wp2_with fail
  have hw : (c + 2147483648) % 4294967296 - 2147483648 = c := by omega
  try rw [hw]
  refine (lsmall_any c _).mono ?_
  rintro e w2 ⟨rfl, rfl⟩
  obtain ⟨q, hq⟩ : ∃ q, q = smI c := ⟨_, rfl⟩
  rw [← hq] at HR2 ⊢
  clear hq hix
  cases q
  · go_wp2
    go_ret
    exact ⟨ret_bool (by rw [HR2.out]; rfl), Below.refl _ _⟩
  go_wp2_with fail
  refine (Tryz.strings_ToUpper_any s _ (by have := HS.out; omega) hT.cv hT.u8).mono ?_
  rintro e w3 ⟨rfl, q3⟩
  have HT3 := hT.below q3
  have HQ3 := Lib.hid q3
  clear q3 hT
  go_wp2_with fail
  refine (isword_any _ _ HT3).mono ?_
  rintro e w4 ⟨rfl, rfl⟩
  clear HT3
  have HA := Lib.hid (show (bts s).all okI = false ∨ (isWordB ⟨(Lib.toUpperD s.data.toList).toArray⟩ = isWordB ⟨(upL s.data.toList).toArray⟩) from by
    by_cases ha : ∀ b ∈ s.data.toList, b.toNat < 128
    · right; rw [Lib.toUpperD_ascii _ ha, upA_eq]
    · left
      rw [Bool.eq_false_iff]
      intro h9
      apply ha
      intro b hb
      rcases Nat.lt_or_ge b.toNat 128 with h8 | h8
      · exact h8
      · have h7 := List.all_eq_true.1 h9 (b.toNat : Int) (by unfold bts; exact List.mem_map.2 ⟨b, hb, rfl⟩)
        rw [okI_high (by omega)] at h7
        cases h7)
  obtain ⟨q, hq⟩ : ∃ q, q = isWordB ⟨(Lib.toUpperD s.data.toList).toArray⟩ := ⟨_, rfl⟩
  rw [← hq] at HA ⊢
  clear hq
  cases q
  case true =>
    have HF := Lib.hid (show r = false from by
      rcases HA.out with h | h
      · rw [HR2.out, h]; rfl
      · rw [HR2.out, ← h]; simp)
    go_wp2
    go_ret
    exact ⟨ret_bool HF.out.symm, HQ3.out⟩
  case false =>
    have HF := Lib.hid (show r = (bts s).all okI from by
      rcases HA.out with h | h
      · rw [HR2.out, h]; rfl
      · rw [HR2.out, ← h]; simp)
    clear HR2 HA
    go_wp2_with fail
    clear h2 h3 hb0 hb255 hw
    go_loopw [4] (fun _ w' => ∃ pos : Nat, w' = w3.iter s pos ∧ r = ((bts s).drop pos).all okI) (fun _ w' => s.size - w'.iterPos w3.heap.size)
    case atStart => exact ⟨0, rfl, by rw [HF.out]; simp⟩
    case round =>
      obtain ⟨pos, rfl, hri⟩ := hrel
      have HRI := Lib.hid hri
      clear hri HF
      by_cases hp : pos < s.size
      · obtain ⟨b, hb⟩ := byte_at hp
        have hbe : s[pos]'hp = b := by
          have h9 : s.data.toList[pos]? = some (s[pos]'hp) := by
            rw [List.getElem?_eq_getElem (by simpa using hp)]
            simp
            rfl
          rw [h9] at hb
          injection hb
        have HA := Lib.hid (allok_at (bts_at hb))
        have hnx : ∀ ty, (Instr.next (.pointer (some ⟨w3.heap.size, 0, none⟩)) true ty).run Tryz.prog (w3.iter s pos) = _ := fun ty => run_next_any w3 s pos ty hp
        by_cases h128 : b.toNat < 128
        · rw [decode_ascii s pos hp (by rw [hbe]; exact h128), hbe] at hnx
          obtain ⟨c, hc⟩ : ∃ c : Int, c = ((b.toNat : Nat) : Int) := ⟨_, rfl⟩
          rw [← hc] at HA
          dsimp only at hnx
          rw [← hc] at hnx
          clear hb hbe hc h128
          have HO := Lib.hid (show okI c = (smI c || (dgI c || decide (c = 95))) from rfl)
          obtain ⟨ok, hok⟩ : ∃ ok, ok = okI c := ⟨_, rfl⟩
          rw [← hok] at HO HA
          clear hok
          go_wp2_with fail
          refine (ldigit_any c _).mono ?_
          rintro e w2 ⟨rfl, rfl⟩
          clear hnx
          obtain ⟨q, hq⟩ : ∃ q, q = dgI c := ⟨_, rfl⟩
          rw [← hq] at HO ⊢
          clear hq
          cases q
          case true =>
            have HK := Lib.hid (show ok = true from by rw [HO.out]; simp)
            go_wp2
            go_roundw
            case rel => exact ⟨pos + 1, rfl, by rw [HRI.out, HA.out, HK.out]; rfl⟩
            all_goals simp only [World.iterPos_iter]; omega
          case false =>
            go_wp2_with fail
            refine (lsmall_any c _).mono ?_
            rintro e w2 ⟨rfl, rfl⟩
            obtain ⟨q, hq⟩ : ∃ q, q = smI c := ⟨_, rfl⟩
            rw [← hq] at HO ⊢
            clear hq
            cases q
            case true =>
              have HK := Lib.hid (show ok = true from by rw [HO.out]; rfl)
              go_wp2
              go_roundw
              case rel => exact ⟨pos + 1, rfl, by rw [HRI.out, HA.out, HK.out]; rfl⟩
              all_goals simp only [World.iterPos_iter]; omega
            case false =>
              by_cases h95 : c = 95
              · have e1 : (c == 95) = true := by simpa using h95
                have HK := Lib.hid (show ok = true from by rw [HO.out]; simpa using h95)
                clear h95
                go_wp2
                go_roundw
                case rel => exact ⟨pos + 1, rfl, by rw [HRI.out, HA.out, HK.out]; rfl⟩
                all_goals simp only [World.iterPos_iter]; omega
              · have e1 : (c == 95) = false := by simpa using h95
                have HK := Lib.hid (show ok = false from by rw [HO.out]; simpa using h95)
                clear h95
                go_wp2
                go_ret
                exact ⟨ret_bool (by rw [HRI.out, HA.out, HK.out]; rfl), bl_ca HQ3.out (iter_below _ _ _)⟩
        · have hd := (decode_high s pos hp (by rw [hbe]; omega)).1
          obtain ⟨c, hc⟩ : ∃ c : Int, c = (((Utf8.decode s pos).1 : Nat) : Int) := ⟨_, rfl⟩
          rw [← hc] at hnx
          have hc128 : 128 ≤ c := by omega
          have HF := Lib.hid (show r = false from by rw [HRI.out, HA.out, okI_high (show (128 : Int) ≤ (b.toNat : Int) by omega)]; rfl)
          have hd1 : dgI c = false := by unfold dgI; rw [decide_eq_false (show ¬ c ≤ 57 by omega)]; simp
          have hd2 : smI c = false := by unfold smI; rw [decide_eq_false (show ¬ c ≤ 122 by omega)]; simp
          have hd3 : (c == 95) = false := by simp; omega
          clear hc hd hb hbe h128
          go_wp2_with fail
          refine (ldigit_any c _).mono ?_
          rintro e w2 ⟨rfl, rfl⟩
          rw [hd1]
          clear hnx
          go_wp2_with fail
          refine (lsmall_any c _).mono ?_
          rintro e w2 ⟨rfl, rfl⟩
          rw [hd2]
          go_wp2
          go_ret
          exact ⟨ret_bool HF.out.symm, bl_ca HQ3.out (iter_below _ _ _)⟩
      · have hnx : ∀ ty, (Instr.next (.pointer (some ⟨w3.heap.size, 0, none⟩)) true ty).run Tryz.prog (w3.iter s pos) = _ := fun ty => run_next_end w3 s pos ty hp
        have HF := Lib.hid (show r = true from by rw [HRI.out, List.drop_of_length_le (by rw [bts_len]; omega)]; rfl)
        go_wp2
        go_ret
        exact ⟨ret_bool HF.out.symm, bl_ca HQ3.out (iter_below _ _ _)⟩
end Go.Proofs.YthgcdilkkldgjaaGreatDoor
/- The reference's Word, Find, Column; the law's large, over. Conditions: the slices read so. -/
namespace Go.Proofs.YthgcdilkkldgjaaGreatDoor
open Go.RowKit
def wordS (k : Int) : ByteArray := if k = 1 then sBool else if k = 2 then sInt else if k = 3 then sText else ⟨#[]⟩
instance : DecidableEq CO := fun a b => decidable_of_iff (a.name = b.name ∧ a.kind = b.kind) (by cases a; cases b; simp)
instance : DecidableEq TC := fun a b => decidable_of_iff (a.name = b.name ∧ a.cols = b.cols ∧ a.keys = b.keys) (by cases a; cases b; simp)
theorem idxL_hit {α : Type} {f : α → Bool} {l : List α} {i : Nat} {x : α} (h : l[i]? = some x) (hf : f x = true) (hlo : ∀ (k : Nat) (q : α), k < i → l[k]? = some q → f q = false) : idxL f l = (i : Int) := by
  have hi : i < l.length := by
    rcases Nat.lt_or_ge i l.length with h1 | h1
    · exact h1
    · rw [List.getElem?_eq_none h1] at h; cases h
  rw [List.getElem?_eq_getElem hi] at h
  injection h with h
  have e : l.findIdx f = i := by
    rw [List.findIdx_eq hi]
    exact ⟨by rw [h]; exact hf, fun j hj => hlo j _ hj (List.getElem?_eq_getElem (by omega))⟩
  unfold idxL
  rw [e, if_pos hi]
theorem idxL_miss {α : Type} {f : α → Bool} {l : List α} (hlo : ∀ (k : Nat) (q : α), k < l.length → l[k]? = some q → f q = false) : idxL f l = -1 := by
  have e : ¬ l.findIdx f < l.length := by
    rw [List.findIdx_lt_length]
    rintro ⟨x, hx, hf⟩
    obtain ⟨k, hk, rfl⟩ := List.getElem_of_mem hx
    rw [hlo k _ hk (List.getElem?_eq_getElem hk)] at hf
    cases hf
  unfold idxL
  rw [if_neg e]
theorem lo_next {α : Type} {f : α → Bool} {l : List α} {i : Nat} {x : α} (hx : l[i]? = some x) (hf : f x = false) (hlo : ∀ (k : Nat) (q : α), k < i → l[k]? = some q → f q = false) : ∀ (k : Nat) (q : α), k < i + 1 → l[k]? = some q → f q = false := fun k r hk hr => by
  rcases Nat.lt_or_ge k i with h1 | h1
  · exact hlo k r h1 hr
  · obtain rfl : k = i := by omega
    rw [hr] at hx
    injection hx with hx
    subst hx
    exact hf
set_option maxRecDepth 100000 in
theorem rword_any (k : Int) (w : World) : Calls Tryz.prog 43 #[.int .i64 k] w fun e w' => e = .returned (.string (wordS k)) ∧ w = w' := by
  have HR := Lib.hid (show wordS k = if k = 1 then sBool else if k = 2 then sInt else if k = 3 then sText else ⟨#[]⟩ from rfl)
  generalize wordS k = r at *
  go_enter Tryz.func43, Tryz.ntmps43
  by_cases h1 : k = 1
  · have e1 : (k == 1) = true := by simpa using h1
    have HQ := Lib.hid (show r = sBool from by rw [HR.out, if_pos h1])
    clear h1 HR
    go_wp2
    go_ret
    exact ⟨by rw [HQ.out]; rfl, rfl⟩
  have e1 : (k == 1) = false := by simpa using h1
  by_cases h2 : k = 2
  · have e2 : (k == 2) = true := by simpa using h2
    have HQ := Lib.hid (show r = sInt from by rw [HR.out, if_neg h1, if_pos h2])
    clear h1 h2 HR
    go_wp2
    go_ret
    exact ⟨by rw [HQ.out]; rfl, rfl⟩
  have e2 : (k == 2) = false := by simpa using h2
  by_cases h3 : k = 3
  · have e3 : (k == 3) = true := by simpa using h3
    have HQ := Lib.hid (show r = sText from by rw [HR.out, if_neg h1, if_neg h2, if_pos h3])
    clear h1 h2 h3 HR
    go_wp2
    go_ret
    exact ⟨by rw [HQ.out]; rfl, rfl⟩
  have e3 : (k == 3) = false := by simpa using h3
  have HQ := Lib.hid (show r = ⟨#[]⟩ from by rw [HR.out, if_neg h1, if_neg h2, if_neg h3])
  clear h1 h2 h3 HR
  go_wp2
  go_ret
  exact ⟨by rw [HQ.out]; rfl, rfl⟩
theorem eqt {a b : ByteArray} (h : a = b) : (a.toList == b.toList) = true := by rw [seq_iff]; simpa using h
theorem eqf {a b : ByteArray} (h : a ≠ b) : (a.toList == b.toList) = false := by rw [seq_iff]; simpa using h
set_option maxRecDepth 100000 in
theorem rfind_any (F : Nat → Prop) (A : Option Addr) (m c : Nat) (l : List TC) (s : ByteArray) (w : World) (h : LT3.rd w F A m l) (hm : m ≤ 9223372036854775807) :
    Calls Tryz.prog 26 #[.agg #[.slice A m c], .string s] w fun e w' => e = .returned (.int .i64 (idxL (fun t => decide (t.name = s)) l)) ∧ Below w.heap.size w w' := by
  have HL := Lib.hid (Lay.rd_len h)
  obtain ⟨r, hr⟩ : ∃ r, r = idxL (fun t : TC => decide (t.name = s)) l := ⟨_, rfl⟩
  rw [← hr]
  have HR := Lib.hid hr
  clear hr
  have q1 := bl_al (Below.refl w.heap.size w) (.cells #[.slice A m c] 24)
  have h1 := Lay.rd_below h q1
  have y0 := (Blk.new w 24 #[.slice A m c]).cell 0
  go_enter Tryz.func26, Tryz.ntmps26
  go_wp2_with fail
  generalize w.alloc (.cells #[.slice A m c] 24) = w1 at *
  go_loopg [5] m (fun g a wr => ∃ i : Nat, i + g = m ∧ a = .int .i64 i ∧ (∀ (k : Nat) (q : TC), k < i → l[k]? = some q → decide (q.name = s) = false) ∧ w1 = wr)
  case atStart => exact ⟨0, by omega, rfl, fun k q hk => by omega, rfl⟩
  case round =>
    obtain ⟨i, hig, rfl, hlo, rfl⟩ := hrel
    have HLO := Lib.hid hlo
    clear hlo
    by_cases hlt : i < m
    · have hi1 : (i : Int) < (m : Int) := by omega
      obtain ⟨p, t, A1, n1, c1, B1, m1, d1, rfl, hx, s1⟩ := LT3_at h1 hlt
      have e0 := s1.c0
      have HX := Lib.hid hx
      clear hx s1
      by_cases hq : t.name = s
      · have e1 := eqt hq
        have HQ := Lib.hid (show r = (i : Int) from by rw [HR.out]; exact idxL_hit HX.out (by simpa using hq) HLO.out)
        clear hq
        go_wp2
        go_ret
        exact ⟨by rw [HQ.out]; rfl, q1⟩
      · have e1 := eqf hq
        have HF := Lib.hid (lo_next HX.out (by simpa using hq) HLO.out)
        clear hq
        go_wp2
        go_roundg (gk - 1)
        · exact ⟨i + 1, by omega, by go_num, HF.out, rfl⟩
        · omega
    · obtain rfl : i = m := by omega
      have hi1 : (i : Int) ≤ (i : Int) := by omega
      have HQ := Lib.hid (show r = -1 from by rw [HR.out]; exact idxL_miss (by rw [HL.out]; exact HLO.out))
      clear HR
      go_wp2
      go_ret
      exact ⟨by rw [HQ.out]; rfl, q1⟩
set_option maxRecDepth 100000 in
theorem rcolumn_any (F : Nat → Prop) (t : TC) (A : Option Addr) (m c : Nat) (B : Option Addr) (n d : Nat) (s : ByteArray) (w : World) (h : LCO.rd w F A m t.cols) (hm : m ≤ 9223372036854775807) :
    Calls Tryz.prog 69 #[.agg (t.cells A m c B n d), .string s] w fun e w' => e = .returned (.int .i64 (idxL (fun x => decide (x.name = s)) t.cols)) ∧ Below w.heap.size w w' := by
  obtain ⟨l, hl⟩ : ∃ l, l = t.cols := ⟨_, rfl⟩
  rw [← hl] at h ⊢
  clear hl
  have HL := Lib.hid (Lay.rd_len h)
  obtain ⟨r, hr⟩ : ∃ r, r = idxL (fun t : CO => decide (t.name = s)) l := ⟨_, rfl⟩
  rw [← hr]
  have HR := Lib.hid hr
  clear hr
  have q1 := bl_al (Below.refl w.heap.size w) (.cells (t.cells A m c B n d) 41)
  have h1 := Lay.rd_below h q1
  have y0 := (Blk.new w 41 (t.cells A m c B n d)).cell 1
  go_enter Tryz.func69, Tryz.ntmps69
  go_wp2_with fail
  generalize w.alloc (.cells (t.cells A m c B n d) 41) = w1 at *
  go_loopg [5] m (fun g a wr => ∃ i : Nat, i + g = m ∧ a = .int .i64 i ∧ (∀ (k : Nat) (q : CO), k < i → l[k]? = some q → decide (q.name = s) = false) ∧ w1 = wr)
  case atStart => exact ⟨0, by omega, rfl, fun k q hk => by omega, rfl⟩
  case round =>
    obtain ⟨i, hig, rfl, hlo, rfl⟩ := hrel
    have HLO := Lib.hid hlo
    clear hlo
    by_cases hlt : i < m
    · have hi1 : (i : Int) < (m : Int) := by omega
      obtain ⟨p, t, rfl, hx, s1⟩ := LCO_at h1 hlt
      have e0 := s1.c0
      have HX := Lib.hid hx
      clear hx s1
      by_cases hq : t.name = s
      · have e1 := eqt hq
        have HQ := Lib.hid (show r = (i : Int) from by rw [HR.out]; exact idxL_hit HX.out (by simpa using hq) HLO.out)
        clear hq
        go_wp2
        go_ret
        exact ⟨by rw [HQ.out]; rfl, q1⟩
      · have e1 := eqf hq
        have HF := Lib.hid (lo_next HX.out (by simpa using hq) HLO.out)
        clear hq
        go_wp2
        go_roundg (gk - 1)
        · exact ⟨i + 1, by omega, by go_num, HF.out, rfl⟩
        · omega
    · obtain rfl : i = m := by omega
      have hi1 : (i : Int) ≤ (i : Int) := by omega
      have HQ := Lib.hid (show r = -1 from by rw [HR.out]; exact idxL_miss (by rw [HL.out]; exact HLO.out))
      clear HR
      go_wp2
      go_ret
      exact ⟨by rw [HQ.out]; rfl, q1⟩
/-- a table, a catalog that is not gone through -/
def largeB (t : TC) : Bool := decide (100 < t.name.size) || (decide (20 < t.cols.length) || (decide (20 < t.keys.length) || t.cols.any fun c => decide (100 < c.name.size)))
def overB (l : List TC) : Bool := decide (20 < l.length) || l.any largeB
theorem any_drop {α : Type} {f : α → Bool} {l : List α} {i : Nat} {x : α} (h : l[i]? = some x) : (l.drop i).any f = (f x || (l.drop (i + 1)).any f) := by
  have hi : i < l.length := by
    rcases Nat.lt_or_ge i l.length with h1 | h1
    · exact h1
    · rw [List.getElem?_eq_none h1] at h; cases h
  rw [List.getElem?_eq_getElem hi] at h
  injection h with h
  rw [List.drop_eq_getElem_cons hi, h, List.any_cons]
theorem all_drop {α : Type} {f : α → Bool} {l : List α} {i : Nat} {x : α} (h : l[i]? = some x) : (l.drop i).all f = (f x && (l.drop (i + 1)).all f) := by
  have hi : i < l.length := by
    rcases Nat.lt_or_ge i l.length with h1 | h1
    · exact h1
    · rw [List.getElem?_eq_none h1] at h; cases h
  rw [List.getElem?_eq_getElem hi] at h
  injection h with h
  rw [List.drop_eq_getElem_cons hi, h, List.all_cons]
set_option maxRecDepth 100000 in
set_option maxHeartbeats 1000000 in
theorem large_any (F F2 : Nat → Prop) (t : TC) (A : Option Addr) (m c : Nat) (B : Option Addr) (n d : Nat) (w : World) (h : LCO.rd w F A m t.cols) (h2 : LK.rd w F2 B n t.keys) (hm : m ≤ 9223372036854775807) :
    Calls Tryz.prog 16 #[.agg (t.cells A m c B n d)] w fun e w' => e = .returned (.bool (largeB t)) ∧ Below w.heap.size w w' := by
  have HL := Lib.hid (Lay.rd_len h)
  have HL2 := Lib.hid (Lay.rd_len h2)
  have HR := Lib.hid (show largeB t = (decide (100 < t.name.size) || (decide (20 < t.cols.length) || (decide (20 < t.keys.length) || t.cols.any fun c => decide (100 < c.name.size)))) from rfl)
  rw [HL.out, HL2.out] at HR
  generalize largeB t = r at *
  clear h2 HL2
  have q1 := bl_al (Below.refl w.heap.size w) (.cells (t.cells A m c B n d) 41)
  have h1 := Lay.rd_below h q1
  have y0 := (Blk.new w 41 (t.cells A m c B n d)).cell 0
  have y1 := (Blk.new w 41 (t.cells A m c B n d)).cell 1
  have y2 := (Blk.new w 41 (t.cells A m c B n d)).cell 2
  obtain ⟨l, hl⟩ : ∃ l, l = t.cols := ⟨_, rfl⟩
  rw [← hl] at h1 HR HL
  clear hl h
  obtain ⟨nm, hnm⟩ : ∃ nm, nm = t.name := ⟨_, rfl⟩
  have y0' : (w.alloc (.cells (t.cells A m c B n d) 41)).cell? ⟨w.heap.size, 0, none⟩ = some (.string nm) := by rw [hnm]; exact y0
  rw [← hnm] at HR
  clear hnm y0
  go_enter Tryz.func16, Tryz.ntmps16
  by_cases c1 : 100 < nm.size
  · have k1 : (100 : Int) < (nm.size : Int) := by omega
    go_wp2
    go_ret
    exact ⟨ret_bool (by rw [HR.out]; simp [c1]), q1⟩
  have k1 : (nm.size : Int) ≤ 100 := by omega
  by_cases c2 : 20 < m
  · have k2 : (20 : Int) < (m : Int) := by omega
    go_wp2
    go_ret
    exact ⟨ret_bool (by rw [HR.out]; simp [c2]), q1⟩
  have k2 : (m : Int) ≤ 20 := by omega
  by_cases c3 : 20 < n
  · have k3 : (20 : Int) < (n : Int) := by omega
    go_wp2
    go_ret
    exact ⟨ret_bool (by rw [HR.out]; simp [c3]), q1⟩
  have k3 : (n : Int) ≤ 20 := by omega
  have HR2 := Lib.hid (show r = l.any fun c => decide (100 < c.name.size) from by rw [HR.out]; simp [c1, c2, c3])
  clear HR c1 c2 c3
  go_wp2_with fail
  generalize w.alloc (.cells (t.cells A m c B n d) 41) = w1 at *
  clear y0' y1 y2
  go_loopg [24] m (fun g a wr => ∃ i : Nat, i + g = m ∧ a = .int .i64 i ∧ r = (l.drop i).any (fun c => decide (100 < c.name.size)) ∧ Below w.heap.size w wr ∧ Below w1.heap.size w1 wr)
  case atStart => exact ⟨0, by omega, rfl, by rw [HR2.out]; simp, q1, Below.refl _ _⟩
  case round =>
    obtain ⟨i, hig, rfl, hri, bb, b1⟩ := hrel
    have HRI := Lib.hid hri
    have HBB := Lib.hid bb
    have HB1 := Lib.hid b1
    have h3 := Lay.rd_below h1 b1
    clear hri bb b1
    by_cases hlt : i < m
    · have hi1 : (i : Int) < (m : Int) := by omega
      obtain ⟨p, x, rfl, hx, s1⟩ := LCO_at h3 hlt
      have e0 := s1.c0
      have e1 := s1.c1
      have HA := Lib.hid (any_drop (f := fun c : CO => decide (100 < c.name.size)) hx)
      obtain ⟨xn, xk⟩ := x
      dsimp only at e0 e1 HA
      clear hx s1 h3
      by_cases c1 : 100 < xn.size
      · have k9 : (100 : Int) < (xn.size : Int) := by omega
        have HQ := Lib.hid (show r = true from by rw [HRI.out, HA.out]; simp [c1])
        clear c1
        go_wp2
        go_ret
        exact ⟨ret_bool (by rw [HQ.out]), bl_al HBB.out _⟩
      · have k9 : (xn.size : Int) ≤ 100 := by omega
        have HQ := Lib.hid (show r = (l.drop (i + 1)).any (fun c => decide (100 < c.name.size)) from by rw [HRI.out, HA.out]; simp [c1])
        clear c1
        go_wp2
        go_roundg (gk - 1)
        · exact ⟨i + 1, by omega, by go_num, HQ.out, bl_al HBB.out _, bl_al HB1.out _⟩
        · omega
    · obtain rfl : i = m := by omega
      have hi1 : (i : Int) ≤ (i : Int) := by omega
      have HQ := Lib.hid (show r = false from by rw [HRI.out, List.drop_of_length_le (by rw [HL.out]; exact Nat.le_refl _)]; rfl)
      go_wp2
      go_ret
      exact ⟨ret_bool (by rw [HQ.out]), HBB.out⟩
end Go.Proofs.YthgcdilkkldgjaaGreatDoor
/- The reference's RightTable. Conditions: the slices read so. -/
namespace Go.Proofs.YthgcdilkkldgjaaGreatDoor
open Go.RowKit
def kindB (k : Int) : Bool := decide (k = 1) || (decide (k = 2) || decide (k = 3))
def colB (c : CO) : Bool := nameB c.name && kindB c.kind
def strictB (n : Int) : Int → List Int → Bool
  | _, [] => true
  | p, k :: l => decide (p < k) && (decide (k < n) && strictB n k l)
structure TabP (t : TC) : Prop where
  nm : nameB t.name = true
  lo : 1 ≤ t.cols.length
  hi : t.cols.length ≤ 4
  ok : ∀ (k : Nat) (c : CO), t.cols[k]? = some c → colB c = true
  nd : ∀ (i k : Nat) (a b : CO), i < k → t.cols[i]? = some a → t.cols[k]? = some b → a.name ≠ b.name
  ks : strictB t.cols.length (-1) t.keys = true
noncomputable def tabB (t : TC) : Bool := @decide (TabP t) (Classical.propDecidable _)
theorem tabB_iff (t : TC) : tabB t = true ↔ TabP t := by unfold tabB; exact @decide_eq_true_iff _ (Classical.propDecidable _)
theorem tabB_no {t : TC} (h : ¬ TabP t) : tabB t = false := by
  cases e : tabB t
  · rfl
  · exact absurd ((tabB_iff t).1 e) h
theorem wordS_none (k : Int) : (wordS k).toList.isEmpty = !kindB k := by
  unfold wordS kindB
  by_cases h1 : k = 1
  · subst h1; rw [if_pos rfl, ByteArray.toList_eq]; rfl
  by_cases h2 : k = 2
  · subst h2; rw [if_neg (by omega), if_pos rfl, ByteArray.toList_eq]; rfl
  by_cases h3 : k = 3
  · subst h3; rw [if_neg (by omega), if_neg (by omega), if_pos rfl, ByteArray.toList_eq]; rfl
  rw [if_neg h1, if_neg h2, if_neg h3, decide_eq_false h1, decide_eq_false h2, decide_eq_false h3, ByteArray.toList_eq]
  rfl
def prevK (l : List Int) (i : Nat) : Int := if i = 0 then -1 else l.getD (i - 1) 0
theorem strict_at {l : List Int} {n p x : Int} {i : Nat} (h : l[i]? = some x) : strictB n p (l.drop i) = (decide (p < x) && (decide (x < n) && strictB n x (l.drop (i + 1)))) := by
  have hi : i < l.length := by
    rcases Nat.lt_or_ge i l.length with h1 | h1
    · exact h1
    · rw [List.getElem?_eq_none h1] at h; cases h
  rw [List.getElem?_eq_getElem hi] at h
  injection h with h
  rw [List.drop_eq_getElem_cons hi, h]
  rfl
theorem prevK_next {l : List Int} {i : Nat} {x : Int} (h : l[i]? = some x) : prevK l (i + 1) = x := by
  unfold prevK
  rw [if_neg (by omega), Nat.add_sub_cancel, List.getD, h]
  rfl
set_option maxRecDepth 100000 in
set_option maxHeartbeats 4000000 in
theorem rtable_any (F F2 : Nat → Prop) (t : TC) (A : Option Addr) (m c : Nat) (B : Option Addr) (n d : Nat) (w : World) (h : LCO.rd w F A m t.cols) (h2 : LK.rd w F2 B n t.keys) (hm : m ≤ 9223372036854775807) (hn : n ≤ 9223372036854775807) (hs : t.name.size ≤ 9223372036854775807) (hs2 : ∀ (k : Nat) (c : CO), t.cols[k]? = some c → c.name.size ≤ 9223372036854775807) :
    Calls Tryz.prog 21 #[.agg (t.cells A m c B n d)] w fun e w' => e = .returned (.bool (tabB t)) ∧ Below w.heap.size w w' := by
  have HL := Lib.hid (Lay.rd_len h)
  have HL2 := Lib.hid (Lay.rd_len h2)
  have HNO := Lib.hid (fun (e : ¬ TabP t) => tabB_no e)
  have HYES := Lib.hid (tabB_iff t).2
  have HS2 := Lib.hid hs2
  clear hs2
  generalize tabB t = r at *
  have q1 := bl_al (Below.refl w.heap.size w) (.cells (t.cells A m c B n d) 41)
  have h1 := Lay.rd_below h q1
  have k1 := Lay.rd_below h2 q1
  have HB := Lib.hid (Blk.new w 41 (t.cells A m c B n d))
  have y0 := HB.out.cell 0
  go_enter Tryz.func21, Tryz.ntmps21
  go_wp2_with fail
  generalize w.alloc (.cells (t.cells A m c B n d) 41) = w1 at *
  refine (risname_any _ _ hs).mono ?_
  rintro e w2 ⟨rfl, q2⟩
  clear y0 h h2
  have HB2 := Lib.hid (HB.out.ca q2)
  have h2 := Lay.rd_below h1 q2
  have k2 := Lay.rd_below k1 q2
  have b2 := Lib.hid (bl_ca q1 q2)
  clear HB q1 q2 h1 k1
  have y1 := HB2.out.cell 1
  obtain ⟨q, hq⟩ : ∃ q, q = nameB t.name := ⟨_, rfl⟩
  rw [← hq]
  have HQ := Lib.hid hq
  clear hq
  cases q
  · have HR := Lib.hid (HNO.out (fun p => by have := p.nm; rw [← HQ.out] at this; cases this))
    go_wp2
    go_ret
    exact ⟨ret_bool HR.out.symm, b2.out⟩
  have HQ0 := Lib.hid HQ.out
  by_cases c1 : m < 1
  · have c2 : (m : Int) < 1 := by omega
    have HR := Lib.hid (HNO.out (fun p => by have := p.lo; rw [HL.out] at this; omega))
    clear c1
    go_wp2
    go_ret
    exact ⟨ret_bool HR.out.symm, b2.out⟩
  have c2 : 1 ≤ (m : Int) := by omega
  by_cases c3 : 4 < m
  · have c4 : 4 < (m : Int) := by omega
    have HR := Lib.hid (HNO.out (fun p => by have := p.hi; rw [HL.out] at this; omega))
    clear c1 c3
    go_wp2
    go_ret
    exact ⟨ret_bool HR.out.symm, b2.out⟩
  have c4 : (m : Int) ≤ 4 := by omega
  have HM := Lib.hid (show 1 ≤ m ∧ m ≤ 4 by omega)
  clear c1 c3
  go_wp2_with fail
  clear y1 c2 c4
  go_loopg [3] m (fun g a wr => ∃ i : Nat, i + g = m ∧ a = .int .i64 i ∧ (∀ (k : Nat) (c : CO), k < i → t.cols[k]? = some c → colB c = true) ∧ (∀ (p k : Nat) (a b : CO), p < k → k < i → t.cols[p]? = some a → t.cols[k]? = some b → a.name ≠ b.name) ∧ Below w.heap.size w wr ∧ Below w2.heap.size w2 wr)
  case atStart => exact ⟨0, by omega, rfl, fun k c hk => by omega, fun p k a b h1 h2 => by omega, b2.out, Below.refl _ _⟩
  case round =>
    obtain ⟨i, hig, rfl, hok, hnd, bb, b1⟩ := hrel
    have HOK := Lib.hid hok
    have HND := Lib.hid hnd
    have HBB := Lib.hid bb
    have HB3 := Lib.hid (HB2.out.ca b1)
    have h3 := Lay.rd_below h2 b1
    have k3 := Lay.rd_below k2 b1
    have HB1 := Lib.hid b1
    clear hok hnd bb b1
    have y1 := HB3.out.cell 1
    by_cases hlt : i < m
    · have hi1 : (i : Int) < (m : Int) := by omega
      obtain ⟨p, x, hAe, hx, s1⟩ := LCO_at h3 hlt
      obtain rfl : A = some p := hAe
      have e0 := s1.c0
      have e1 := s1.c1
      have HX := Lib.hid hx
      obtain ⟨xn, xk⟩ := x
      dsimp only at e0 e1
      clear hx s1
      obtain ⟨gi, rfl⟩ : ∃ g, g = gk := ⟨_, rfl⟩
      obtain ⟨w4, hw4⟩ : ∃ w4, w4 = wr.alloc (.cells #[.string xn, .int .i64 xk] 71) := ⟨_, rfl⟩
      have q4 : Below wr.heap.size wr w4 := by rw [hw4]; exact bl_al (Below.refl _ _) _
      have HX4 := Lib.hid (show Blk w4 wr.heap.size 71 #[.string xn, .int .i64 xk] from by rw [hw4]; exact Blk.new wr _ _)
      go_wp2_with fail
      rw [← hw4]
      refine (risname_any xn w4 (HS2.out i _ HX.out)).mono ?_
      rintro e w5 ⟨rfl, q5⟩
      clear hw4 e0 e1 y1
      have q45 := bl_ca q4 q5
      have HX5 := Lib.hid (HX4.out.ca q5)
      have HB5 := Lib.hid (HB3.out.ca q45)
      have h5 := Lay.rd_below h3 q45
      have HBB5 := Lib.hid (bl_ca HBB.out q45)
      have HB15 := Lib.hid (bl_ca HB1.out q45)
      clear q4 q5 q45 HX4 HB3 h3
      have z0 := HX5.out.cell 0
      have z1 := HX5.out.cell 1
      obtain ⟨q, hq⟩ : ∃ q, q = nameB xn := ⟨_, rfl⟩
      rw [← hq]
      have HQ := Lib.hid hq
      clear hq
      cases q
      · have HR := Lib.hid (HNO.out (fun p => by have := p.ok i _ HX.out; unfold colB at this; dsimp only at this; rw [← HQ.out] at this; cases this))
        go_wp2
        go_ret
        exact ⟨ret_bool HR.out.symm, HBB5.out⟩
      go_wp2_with fail
      refine (rword_any xk _).mono ?_
      rintro e w6 ⟨rfl, rfl⟩
      have hk9 := wordS_none xk
      obtain ⟨q, hq⟩ : ∃ q, q = kindB xk := ⟨_, rfl⟩
      rw [← hq] at hk9
      have HK := Lib.hid hq
      clear hq
      cases q
      · have hk8 : (wordS xk).toList.isEmpty = true := hk9
        have HR := Lib.hid (HNO.out (fun p => by have := p.ok i _ HX.out; unfold colB at this; dsimp only at this; rw [← HK.out, ← HQ.out] at this; cases this))
        clear hk9
        go_wp2
        go_ret
        exact ⟨ret_bool HR.out.symm, HBB5.out⟩
      have hk8 : (wordS xk).toList.isEmpty = false := hk9
      have HCB := Lib.hid (show colB ⟨xn, xk⟩ = true from by unfold colB; dsimp only; rw [← HK.out, ← HQ.out]; rfl)
      clear hk9 z1
      go_wp2_with fail
      clear z0 hk8
      go_loopg [5] i (fun g a wr => ∃ k : Nat, k + g = i ∧ a = .int .i64 k ∧ (∀ (j : Nat) (c : CO), j < k → t.cols[j]? = some c → c.name ≠ xn) ∧ Below w5.heap.size w5 wr)
      case atStart => exact ⟨0, by omega, rfl, fun j c hj => by omega, Below.refl _ _⟩
      case round =>
        obtain ⟨k, hkg, rfl, hne, b5⟩ := hrel
        have HNE := Lib.hid hne
        have HB6 := Lib.hid (HB5.out.ca b5)
        have HX6 := Lib.hid (HX5.out.ca b5)
        have h6 := Lay.rd_below h5 b5
        have HBB6 := Lib.hid (bl_ca HBB5.out b5)
        have HB16 := Lib.hid (bl_ca HB15.out b5)
        have HB55 := Lib.hid b5
        clear hne b5
        by_cases hlt2 : k < i
        · have hk1 : (k : Int) < (i : Int) := by omega
          have hk2 : (k : Int) < (m : Int) := by omega
          have y1 := HB6.out.cell 1
          have z0 := HX6.out.cell 0
          obtain ⟨p', x, hAe, hx, s1⟩ := LCO_at h6 (show k < m by omega)
          obtain rfl : p = p' := by injection hAe
          have e0 := s1.c0
          have HXK := Lib.hid hx
          obtain ⟨yn, yk⟩ := x
          dsimp only at e0
          clear hx s1 hAe
          go_wp2_with fail
          by_cases hq : yn = xn
          · have e1 := eqt hq
            have HR := Lib.hid (HNO.out (fun p => p.nd k i _ _ hlt2 HXK.out HX.out hq))
            clear hq
            go_quiet (fail)
            go_wp2
            go_ret
            exact ⟨ret_bool HR.out.symm, bl_dr HBB6.out _⟩
          · have e1 := eqf hq
            have HNE2 := Lib.hid (show ∀ (j : Nat) (c : CO), j < k + 1 → t.cols[j]? = some c → c.name ≠ xn from fun j c hj hc => by
              rcases Nat.lt_or_ge j k with h9 | h9
              · exact HNE.out j c h9 hc
              · obtain rfl : j = k := by omega
                have := HXK.out
                rw [hc] at this
                injection this with this
                subst this
                exact hq)
            clear hq
            go_quiet (fail)
            go_wp2
            go_roundg (gk - 1)
            · exact ⟨k + 1, by omega, by go_num, HNE2.out, bl_dr HB55.out _⟩
            · omega
        · obtain rfl : k = i := by omega
          have hk1 : (k : Int) ≤ (k : Int) := by omega
          have HOK2 := Lib.hid (show ∀ (j : Nat) (c : CO), j < k + 1 → t.cols[j]? = some c → colB c = true from fun j c hj hc => by
            rcases Nat.lt_or_ge j k with h9 | h9
            · exact HOK.out j c h9 hc
            · obtain rfl : j = k := by omega
              have := HX.out
              rw [hc] at this
              injection this with this
              subst this
              exact HCB.out)
          have HND2 := Lib.hid (show ∀ (p j : Nat) (a b : CO), p < j → j < k + 1 → t.cols[p]? = some a → t.cols[j]? = some b → a.name ≠ b.name from fun p j a b h8 hj ha hb => by
            rcases Nat.lt_or_ge j k with h9 | h9
            · exact HND.out p j a b h8 h9 ha hb
            · obtain rfl : j = k := by omega
              have := HX.out
              rw [hb] at this
              injection this with this
              subst this
              exact HNE.out p a h8 ha)
          clear hk1
          have hk1 : ((k : Int) < (k : Int)) = False := by simp
          go_wp2
          go_roundg (gi - 1)
          · exact ⟨k + 1, by omega, by go_num, HOK2.out, HND2.out, HBB6.out, HB16.out⟩
          · omega
    · obtain rfl : i = m := by omega
      have hi1 : (i : Int) ≤ (i : Int) := by omega
      have HRK := Lib.hid (show r = strictB i (-1) t.keys from by
        cases e : strictB i (-1) t.keys
        · exact HNO.out (fun p => by have := p.ks; rw [HL.out, e] at this; cases this)
        · exact HYES.out ⟨HQ0.out.symm, by rw [HL.out]; exact HM.out.1, by rw [HL.out]; exact HM.out.2, fun k c h => HOK.out k c (by rw [← HL.out]; rcases Nat.lt_or_ge k t.cols.length with h9 | h9; exact h9; rw [List.getElem?_eq_none h9] at h; cases h) h, fun p k a b h8 ha hb => HND.out p k a b h8 (by rw [← HL.out]; rcases Nat.lt_or_ge k t.cols.length with h9 | h9; exact h9; rw [List.getElem?_eq_none h9] at hb; cases hb) ha hb, by rw [HL.out]; exact e⟩)
      clear HNO HYES HOK HND h2 h3 HB1 k2 HB2 hig hlt HM
      go_wp2_with fail
      clear hi1 y1
      obtain ⟨w7, rfl⟩ : ∃ x, x = wr := ⟨_, rfl⟩
      go_loopg [6] n (fun g a wr => ∃ k : Nat, k + g = n ∧ a = .int .i64 k ∧ r = strictB i (prevK t.keys k) (t.keys.drop k) ∧ -1 ≤ prevK t.keys k ∧ Below w7.heap.size w7 wr)
      case atStart => exact ⟨0, by omega, rfl, by rw [HRK.out]; rfl, by unfold prevK; simp, Below.refl _ _⟩
      case round =>
        obtain ⟨k, hkg, rfl, hrk, hpv, b7⟩ := hrel
        have HRI := Lib.hid hrk
        have HPV := Lib.hid hpv
        have HB8 := Lib.hid (HB3.out.ca b7)
        have HBB8 := Lib.hid (bl_ca HBB.out b7)
        have HB7 := Lib.hid b7
        have k8 := Lay.rd_below k3 b7
        clear hrk hpv b7
        have y2 := HB8.out.cell 2
        by_cases hlt : k < n
        · have hk1 : (k : Int) < (n : Int) := by omega
          obtain ⟨p, x, hAe, hx, e0⟩ := LK_at k8 hlt
          obtain rfl : B = some p := hAe
          have HX := Lib.hid hx
          have HSA := Lib.hid (strict_at (n := (i : Int)) (p := prevK t.keys k) hx)
          have HPN := Lib.hid (prevK_next hx)
          clear hx
          have y1 := HB8.out.cell 1
          go_wp2_with fail
          by_cases c1 : x < 0
          · have HQ := Lib.hid (show r = false from by rw [HRI.out, HSA.out, decide_eq_false (by have := HPV.out; omega)]; rfl)
            go_quiet (fail)
            go_wp2
            go_ret
            exact ⟨ret_bool HQ.out.symm, bl_dr HBB8.out _⟩
          have c2 : decide (x < 0) = false := by simpa using c1
          have C1 := Lib.hid c1
          clear c1
          by_cases c3 : (i : Int) ≤ x
          · have HQ := Lib.hid (show r = false from by rw [HRI.out, HSA.out, decide_eq_false (show ¬ x < (i : Int) by omega)]; simp)
            go_quiet (fail)
            go_wp2
            go_ret
            exact ⟨ret_bool HQ.out.symm, bl_dr HBB8.out _⟩
          have c4 : decide ((i : Int) ≤ x) = false := by simpa using c3
          have C3 := Lib.hid c3
          clear c3
          by_cases h0 : k = 0
          · have c5 : decide (0 < k) = false := by simp; omega
            have HQ := Lib.hid (show r = strictB i (prevK t.keys (k + 1)) (t.keys.drop (k + 1)) from by
              rw [HRI.out, HSA.out, HPN.out, decide_eq_true (show x < (i : Int) by have := C3.out; omega), decide_eq_true (show prevK t.keys k < x by have := C1.out; rw [h0]; unfold prevK; simp; omega)]
              rfl)
            have HP2 := Lib.hid (show -1 ≤ prevK t.keys (k + 1) from by rw [HPN.out]; have := C1.out; omega)
            clear h0
            go_quiet (fail)
            go_wp2
            go_roundg (gk - 1)
            · exact ⟨k + 1, by omega, by go_num, HQ.out, HP2.out, bl_dr HB7.out _⟩
            · omega
          have c5 : decide (0 < k) = true := by simp; omega
          obtain ⟨j, hjk⟩ : ∃ j, k = j + 1 := ⟨k - 1, by omega⟩
          obtain ⟨p', z, hAe, hz, e1⟩ := LK_at k8 (show j < n by omega)
          obtain rfl : p = p' := by injection hAe
          have HZ := Lib.hid (show prevK t.keys k = z from by rw [hjk]; exact prevK_next hz)
          clear hAe hz h0
          have hj1 : (k : Int) - 1 = (j : Int) := by omega
          have hj2 : (j : Int) < (n : Int) := by omega
          clear hjk
          by_cases c6 : x ≤ z
          · have HQ := Lib.hid (show r = false from by rw [HRI.out, HSA.out, HZ.out, decide_eq_false (show ¬ z < x by omega)]; rfl)
            go_quiet (fail)
            go_wp2
            go_ret
            exact ⟨ret_bool HQ.out.symm, bl_dr HBB8.out _⟩
          have c7 : decide (x ≤ z) = false := by simpa using c6
          have HQ := Lib.hid (show r = strictB i (prevK t.keys (k + 1)) (t.keys.drop (k + 1)) from by
            rw [HRI.out, HSA.out, HPN.out, HZ.out, decide_eq_true (show x < (i : Int) by have := C3.out; omega), decide_eq_true (show z < x by omega)]
            rfl)
          have HP2 := Lib.hid (show -1 ≤ prevK t.keys (k + 1) from by rw [HPN.out]; have := C1.out; omega)
          clear c6
          go_quiet (fail)
          go_wp2
          go_roundg (gk - 1)
          · exact ⟨k + 1, by omega, by go_num, HQ.out, HP2.out, bl_dr HB7.out _⟩
          · omega
        · obtain rfl : k = n := by omega
          have hk1 : ((k : Int) < (k : Int)) = False := by simp
          have HQ := Lib.hid (show r = true from by rw [HRI.out, List.drop_of_length_le (by rw [HL2.out]; exact Nat.le_refl _)]; rfl)
          go_wp2
          go_ret
          exact ⟨ret_bool HQ.out.symm, HBB8.out⟩
end Go.Proofs.YthgcdilkkldgjaaGreatDoor
