/- Names: the layer's IsWord, IsName. Conditions: what the tables hold. -/
import Derived.Test.YtoaggmldekejoaaDoorCRef7b
import Derived.Test.YtoaggmldekejoaaDoorShelf
import Derived.Laws.RangeAny
namespace Go.Proofs.YtoaggmldekejoaaDoor
open Go.RowKit
set_option maxRecDepth 100000 in
theorem isword_any (s : ByteArray) (w : World) (hT : Tab w) : Calls Tryd.prog 52 #[.string s] w fun e w' => e = .returned (.bool (isWordB s)) ∧ w = w' := by
  have HT := Lib.hid hT.wd
  clear hT
  go_enter Tryd.func52, Tryd.ntmps52
  go_wp2_with fail
  refine (Tryd.slices_Contains_string 2 0 28 28 wordsL s w (by decide) (by decide) (fun j hj => by rw [Nat.zero_add]; exact HT.out j _ (by rw [List.getD_eq_getElem?_getD, List.getElem?_eq_getElem hj]; rfl))).mono ?_
  rintro e w2 ⟨rfl, rfl⟩
  go_wp2
  go_ret
  exact ⟨rfl, rfl⟩
theorem isLower_smI : ∀ b : UInt8, Lib.isLowerB b = smI (b.toNat : Int) := by
  intro b
  unfold Lib.isLowerB smI
  rw [Bool.eq_iff_iff, Bool.and_eq_true, Bool.and_eq_true, decide_eq_true_eq, decide_eq_true_eq, decide_eq_true_eq, decide_eq_true_eq, UInt8.le_iff_toNat_le, UInt8.le_iff_toNat_le]
  show 97 ≤ b.toNat ∧ b.toNat ≤ 122 ↔ _
  omega
theorem upA_eq (l : List UInt8) : Lib.toUpperA l = upL l := by
  unfold Lib.toUpperA upL
  refine List.map_congr_left fun b _ => ?_
  unfold Lib.upperB upB
  rw [isLower_smI]
theorem okI_high {c : Int} (h : 128 ≤ c) : okI c = false := by
  unfold okI smI dgI
  rw [decide_eq_false (show ¬ c ≤ 122 by omega), decide_eq_false (show ¬ c ≤ 57 by omega), decide_eq_false (show ¬ c = 95 by omega)]
  simp
theorem iter_below (w : World) (s : ByteArray) (p : Nat) : Below w.heap.size w (w.iter s p) := by
  unfold World.iter
  exact bl_al (Below.refl _ _) _
set_option maxRecDepth 100000 in
set_option maxHeartbeats 4000000 in
theorem isname_any (s : ByteArray) (w : World) (hT : Tab w) (hs : s.size ≤ 9223372036854775807) : Calls Tryd.prog 43 #[.string s] w fun e w' => e = .returned (.bool (nameB s)) ∧ Below w.heap.size w w' := by
  have HR := Lib.hid (show nameB s = (decide (1 ≤ s.size) && (decide (s.size ≤ 16) && (smI (bt s 0) && ((bts s).all okI && !isWordB ⟨(upL s.data.toList).toArray⟩)))) from rfl)
  generalize nameB s = r at *
  by_cases h1 : s.size < 1
  · have h2 : s.toList.isEmpty = true := by rw [ByteArray.toList_eq, List.isEmpty_iff]; exact List.eq_nil_of_length_eq_zero (by rw [show s.data.toList.length = s.size from by simp]; omega)
    go_enter Tryd.func43, Tryd.ntmps43
    go_wp2
    go_ret
    exact ⟨ret_bool (by rw [HR.out]; simp; omega), Below.refl _ _⟩
  have h2 : s.toList.isEmpty = false := by
    rw [ByteArray.toList_eq, List.isEmpty_eq_false_iff]
    intro e
    have h9 := congrArg List.length e
    rw [show s.data.toList.length = s.size from by simp] at h9
    simp only [List.length_nil] at h9
    omega
  by_cases h16 : 16 < s.size
  · have h3 : 16 < (s.size : Int) := by omega
    go_enter Tryd.func43, Tryd.ntmps43
    go_wp2
    go_ret
    exact ⟨ret_bool (by rw [HR.out]; simp; omega), Below.refl _ _⟩
  have h3 : (s.size : Int) ≤ 16 := by omega
  obtain ⟨b, hb⟩ := byte_at (s := s) (i := 0) (by omega)
  have hix : ∀ W, (Instr.index 9 (.string s) (.int .i64 0)).run Tryd.prog W = .ok (.int .u8 (b.toNat : Int)) W := run_bt hb
  have HR2 := Lib.hid (show r = (smI (b.toNat : Int) && ((bts s).all okI && !isWordB ⟨(upL s.data.toList).toArray⟩)) from by rw [HR.out, bt_of hb, decide_eq_true (show 1 ≤ s.size by omega), decide_eq_true (show s.size ≤ 16 by omega)]; rfl)
  have hb0 : 0 ≤ (b.toNat : Int) := by omega
  have hb255 : (b.toNat : Int) < 256 := by have := b.toNat_lt; omega
  have HS := Lib.hid (show s.size ≤ 16 by omega)
  clear hb HR h1 h16
  obtain ⟨c, hc⟩ : ∃ c, c = (b.toNat : Int) := ⟨_, rfl⟩
  rw [← hc] at hix HR2 hb0 hb255
  clear hc
  go_enter Tryd.func43, Tryd.ntmps43
  go_wp2_with fail
  have hw : (c + 2147483648) % 4294967296 - 2147483648 = c := by omega
  try rw [hw]
  refine (lsmall_any c _).mono ?_
  rintro e w2 ⟨rfl, rfl⟩
  obtain ⟨q, hq⟩ : ∃ q, q = smI c := ⟨_, rfl⟩
  rw [← hq] at HR2 ⊢
  clear hq hix
  cases q
  · go_wp2
    go_ret
    exact ⟨ret_bool (by rw [HR2.out]; rfl), Below.refl _ _⟩
  go_wp2_with fail
  refine (Tryd.strings_ToUpper_any s _ (by have := HS.out; omega) hT.cv hT.u8).mono ?_
  rintro e w3 ⟨rfl, q3⟩
  have HT3 := hT.below q3
  have HQ3 := Lib.hid q3
  clear q3 hT
  go_wp2_with fail
  refine (isword_any _ _ HT3).mono ?_
  rintro e w4 ⟨rfl, rfl⟩
  clear HT3
  have HA := Lib.hid (show (bts s).all okI = false ∨ (isWordB ⟨(Lib.toUpperD s.data.toList).toArray⟩ = isWordB ⟨(upL s.data.toList).toArray⟩) from by
    by_cases ha : ∀ b ∈ s.data.toList, b.toNat < 128
    · right; rw [Lib.toUpperD_ascii _ ha, upA_eq]
    · left
      rw [Bool.eq_false_iff]
      intro h9
      apply ha
      intro b hb
      rcases Nat.lt_or_ge b.toNat 128 with h8 | h8
      · exact h8
      · have h7 := List.all_eq_true.1 h9 (b.toNat : Int) (by unfold bts; exact List.mem_map.2 ⟨b, hb, rfl⟩)
        rw [okI_high (by omega)] at h7
        cases h7)
  obtain ⟨q, hq⟩ : ∃ q, q = isWordB ⟨(Lib.toUpperD s.data.toList).toArray⟩ := ⟨_, rfl⟩
  rw [← hq] at HA ⊢
  clear hq
  cases q
  case true =>
    have HF := Lib.hid (show r = false from by
      rcases HA.out with h | h
      · rw [HR2.out, h]; rfl
      · rw [HR2.out, ← h]; simp)
    go_wp2
    go_ret
    exact ⟨ret_bool HF.out.symm, HQ3.out⟩
  case false =>
    have HF := Lib.hid (show r = (bts s).all okI from by
      rcases HA.out with h | h
      · rw [HR2.out, h]; rfl
      · rw [HR2.out, ← h]; simp)
    clear HR2 HA
    go_wp2_with fail
    clear h2 h3 hb0 hb255 hw
    go_loopw [4] (fun _ w' => ∃ pos : Nat, w' = w3.iter s pos ∧ r = ((bts s).drop pos).all okI) (fun _ w' => s.size - w'.iterPos w3.heap.size)
    case atStart => exact ⟨0, rfl, by rw [HF.out]; simp⟩
    case round =>
      obtain ⟨pos, rfl, hri⟩ := hrel
      have HRI := Lib.hid hri
      clear hri HF
      by_cases hp : pos < s.size
      · obtain ⟨b, hb⟩ := byte_at hp
        have hbe : s[pos]'hp = b := by
          have h9 : s.data.toList[pos]? = some (s[pos]'hp) := by
            rw [List.getElem?_eq_getElem (by simpa using hp)]
            simp
            rfl
          rw [h9] at hb
          injection hb
        have HA := Lib.hid (allok_at (bts_at hb))
        have hnx : ∀ ty, (Instr.next (.pointer (some ⟨w3.heap.size, 0, none⟩)) true ty).run Tryd.prog (w3.iter s pos) = _ := fun ty => run_next_any w3 s pos ty hp
        by_cases h128 : b.toNat < 128
        · rw [decode_ascii s pos hp (by rw [hbe]; exact h128), hbe] at hnx
          obtain ⟨c, hc⟩ : ∃ c : Int, c = ((b.toNat : Nat) : Int) := ⟨_, rfl⟩
          rw [← hc] at HA
          dsimp only at hnx
          rw [← hc] at hnx
          clear hb hbe hc h128
          have HO := Lib.hid (show okI c = (smI c || (dgI c || decide (c = 95))) from rfl)
          obtain ⟨ok, hok⟩ : ∃ ok, ok = okI c := ⟨_, rfl⟩
          rw [← hok] at HO HA
          clear hok
          go_wp2_with fail
          refine (ldigit_any c _).mono ?_
          rintro e w2 ⟨rfl, rfl⟩
          clear hnx
          obtain ⟨q, hq⟩ : ∃ q, q = dgI c := ⟨_, rfl⟩
          rw [← hq] at HO ⊢
          clear hq
          cases q
          case true =>
            have HK := Lib.hid (show ok = true from by rw [HO.out]; simp)
            go_wp2
            go_roundw
            case rel => exact ⟨pos + 1, rfl, by rw [HRI.out, HA.out, HK.out]; rfl⟩
            all_goals simp only [World.iterPos_iter]; omega
          case false =>
            go_wp2_with fail
            refine (lsmall_any c _).mono ?_
            rintro e w2 ⟨rfl, rfl⟩
            obtain ⟨q, hq⟩ : ∃ q, q = smI c := ⟨_, rfl⟩
            rw [← hq] at HO ⊢
            clear hq
            cases q
            case true =>
              have HK := Lib.hid (show ok = true from by rw [HO.out]; rfl)
              go_wp2
              go_roundw
              case rel => exact ⟨pos + 1, rfl, by rw [HRI.out, HA.out, HK.out]; rfl⟩
              all_goals simp only [World.iterPos_iter]; omega
            case false =>
              by_cases h95 : c = 95
              · have e1 : (c == 95) = true := by simpa using h95
                have HK := Lib.hid (show ok = true from by rw [HO.out]; simpa using h95)
                clear h95
                go_wp2
                go_roundw
                case rel => exact ⟨pos + 1, rfl, by rw [HRI.out, HA.out, HK.out]; rfl⟩
                all_goals simp only [World.iterPos_iter]; omega
              · have e1 : (c == 95) = false := by simpa using h95
                have HK := Lib.hid (show ok = false from by rw [HO.out]; simpa using h95)
                clear h95
                go_wp2
                go_ret
                exact ⟨ret_bool (by rw [HRI.out, HA.out, HK.out]; rfl), bl_ca HQ3.out (iter_below _ _ _)⟩
        · have hd := (decode_high s pos hp (by rw [hbe]; omega)).1
          obtain ⟨c, hc⟩ : ∃ c : Int, c = (((Utf8.decode s pos).1 : Nat) : Int) := ⟨_, rfl⟩
          rw [← hc] at hnx
          have hc128 : 128 ≤ c := by omega
          have HF := Lib.hid (show r = false from by rw [HRI.out, HA.out, okI_high (show (128 : Int) ≤ (b.toNat : Int) by omega)]; rfl)
          have hd1 : dgI c = false := by unfold dgI; rw [decide_eq_false (show ¬ c ≤ 57 by omega)]; simp
          have hd2 : smI c = false := by unfold smI; rw [decide_eq_false (show ¬ c ≤ 122 by omega)]; simp
          have hd3 : (c == 95) = false := by simp; omega
          clear hc hd hb hbe h128
          go_wp2_with fail
          refine (ldigit_any c _).mono ?_
          rintro e w2 ⟨rfl, rfl⟩
          rw [hd1]
          clear hnx
          go_wp2_with fail
          refine (lsmall_any c _).mono ?_
          rintro e w2 ⟨rfl, rfl⟩
          rw [hd2]
          go_wp2
          go_ret
          exact ⟨ret_bool HF.out.symm, bl_ca HQ3.out (iter_below _ _ _)⟩
      · have hnx : ∀ ty, (Instr.next (.pointer (some ⟨w3.heap.size, 0, none⟩)) true ty).run Tryd.prog (w3.iter s pos) = _ := fun ty => run_next_end w3 s pos ty hp
        have HF := Lib.hid (show r = true from by rw [HRI.out, List.drop_of_length_le (by rw [bts_len]; omega)]; rfl)
        go_wp2
        go_ret
        exact ⟨ret_bool HF.out.symm, bl_ca HQ3.out (iter_below _ _ _)⟩
end Go.Proofs.YtoaggmldekejoaaDoor
