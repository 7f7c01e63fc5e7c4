/- The reference's literal. Conditions: none. -/
import Derived.Test.YtoaggmldekejoaaGreatDoorPkQ11
import Derived.BigQuiet
namespace Go.Proofs.YtoaggmldekejoaaGreatDoor
open Go.RowKit
set_option maxRecDepth 100000 in
set_option maxHeartbeats 4000000 in
theorem rliteral_any (k n u : Int) (s : ByteArray) (w : World) (hs : s.size ≤ 9223372036854775807) : Calls Tryz.prog 68 #[.agg #[.int .i64 k, .int .i64 n, .int .u64 u, .string s]] w fun e w' => e = .returned (.bool (wriB s && (plainB k n u s && decide (0 ≤ n)))) ∧ Below w.heap.size w w' := by
 have HR := Lib.hid (show wriB s = (s.data.toList.drop 0).all plU from by rw [List.drop_zero]; rfl)
 generalize wriB s = r at *
 have HL := Lib.hid (show s.data.toList.length = s.size from by simp)
 have HBB := Lib.hid (Blk.new w 55 #[.int .i64 k, .int .i64 n, .int .u64 u, .string s])
 have HQ := Lib.hid (bl_al (Below.refl w.heap.size w) (.cells #[.int .i64 k, .int .i64 n, .int .u64 u, .string s] 55))
 go_enter Tryz.func68, Tryz.ntmps68
 go_wp2_with fail
 generalize w.alloc (.cells #[.int .i64 k, .int .i64 n, .int .u64 u, .string s] 55) = w1 at *
 go_loopg [7] s.size (fun g a wr => ∃ i : Nat, i + g = s.size ∧ a = .int .i64 i ∧ Hid (r = (s.data.toList.drop i).all plU) ∧ Below w1.heap.size w1 wr)
 case atStart => exact ⟨0, by omega, rfl, HR, Below.refl _ _⟩
 case round =>
  obtain ⟨i, hig, rfl, HI, hb⟩ := hrel
  have HB := Lib.hid hb
  have x0 := (HBB.out.ca hb).cell 0
  have x1 := (HBB.out.ca hb).cell 1
  have x2 := (HBB.out.ca hb).cell 2
  have x3 := (HBB.out.ca hb).cell 3
  simp at x0 x1 x2 x3
  clear hb
  by_cases hlt : i < s.size
  · have hi1 : (i : Int) < (s.size : Int) := by omega
    obtain ⟨b, hbt⟩ := byte_at hlt
    have hix := run_bt hbt
    have HA := Lib.hid (all_drop plU hbt)
    have HPL := Lib.hid (show plU b = (decide (32 ≤ (b.toNat : Int)) && decide ((b.toNat : Int) ≤ 126)) from rfl)
    obtain ⟨cc, hc⟩ : ∃ cc, cc = (b.toNat : Int) := ⟨_, rfl⟩
    rw [← hc] at hix HPL
    clear hbt hc
    by_cases h1 : cc < 32
    · have HF := Lib.hid (show r = false from by rw [HI.out, HA.out, HPL.out, decide_eq_false (by omega)]; rfl)
      go_wp2
      go_ret
      exact ⟨ret_bool (by rw [HF.out]; rfl), bl_ca HQ.out HB.out⟩
    · have h1' : 32 ≤ cc := by omega
      by_cases h2 : 126 < cc
      · have HF := Lib.hid (show r = false from by rw [HI.out, HA.out, HPL.out, decide_eq_false (show ¬ cc ≤ 126 by omega), Bool.and_false]; rfl)
        clear h1
        go_wp2
        go_ret
        exact ⟨ret_bool (by rw [HF.out]; rfl), bl_ca HQ.out HB.out⟩
      · have h2' : cc ≤ 126 := by omega
        have HF := Lib.hid (show r = (s.data.toList.drop (i + 1)).all plU from by rw [HI.out, HA.out, HPL.out, decide_eq_true h1', decide_eq_true h2']; rfl)
        clear h1 h2
        go_wp2
        go_roundg (gk - 1)
        · exact ⟨i + 1, by omega, by go_num, HF, HB.out⟩
        · omega
  · obtain rfl : i = s.size := by omega
    have hi1 : (s.size : Int) ≤ (s.size : Int) := by omega
    have HF := Lib.hid (show r = true from by rw [HI.out, List.drop_of_length_le (by rw [HL.out]; exact Nat.le_refl _)]; rfl)
    go_wp2_with fail
    refine (rplain_any k n u s _).mono ?_
    rintro e w3 ⟨rfl, q3⟩
    have HQ3 := Lib.hid (bl_ca (bl_ca HQ.out HB.out) q3)
    have y1 := ce x1 q3
    clear q3 x0 x1 x2 x3
    cases hpp : plainB k n u s
    · have HPP := Lib.hid hpp
      clear hpp
      go_wp2
      go_ret
      exact ⟨ret_bool (by rw [HF.out, HPP.out]; rfl), HQ3.out⟩
    · have HPP := Lib.hid hpp
      clear hpp
      by_cases hn0 : 0 ≤ n
      · have HN0 := Lib.hid hn0
        go_wp2
        go_ret
        exact ⟨ret_bool (by rw [HF.out, HPP.out, decide_eq_true HN0.out]; rfl), HQ3.out⟩
      · have hn1 : n < 0 := by omega
        clear hn0
        go_wp2
        go_ret
        exact ⟨ret_bool (by rw [HF.out, HPP.out, decide_eq_false (show ¬ 0 ≤ n by omega)]; rfl), HQ3.out⟩
end Go.Proofs.YtoaggmldekejoaaGreatDoor
/- The reference's words. Conditions: none. -/
namespace Go.Proofs.YtoaggmldekejoaaGreatDoor
open Go.RowKit
theorem arrI28 : (Tryz.prog.info? 148).map (·.size) = some 28 := by kernel_rfl
abbrev wordsV : Array Value := (wordsL.map fun s => Value.string s).toArray
theorem words_one : wordsV.all (·.oneCell') = true := by simp [wordsV, wordsL, Value.oneCell']
set_option maxRecDepth 100000 in
theorem rwords_any (w : World) : Calls Tryz.prog 99 #[] w fun e w' => e = .returned (.agg wordsV) ∧ Below w.heap.size w w' := by
 have HB := Lib.hid (Blk.new w 148 #[.string ⟨#[]⟩, .string ⟨#[]⟩, .string ⟨#[]⟩, .string ⟨#[]⟩, .string ⟨#[]⟩, .string ⟨#[]⟩, .string ⟨#[]⟩, .string ⟨#[]⟩, .string ⟨#[]⟩, .string ⟨#[]⟩, .string ⟨#[]⟩, .string ⟨#[]⟩, .string ⟨#[]⟩, .string ⟨#[]⟩, .string ⟨#[]⟩, .string ⟨#[]⟩, .string ⟨#[]⟩, .string ⟨#[]⟩, .string ⟨#[]⟩, .string ⟨#[]⟩, .string ⟨#[]⟩, .string ⟨#[]⟩, .string ⟨#[]⟩, .string ⟨#[]⟩, .string ⟨#[]⟩, .string ⟨#[]⟩, .string ⟨#[]⟩, .string ⟨#[]⟩])
 have HQ := Lib.hid (bl_al (Below.refl w.heap.size w) (.cells #[.string ⟨#[]⟩, .string ⟨#[]⟩, .string ⟨#[]⟩, .string ⟨#[]⟩, .string ⟨#[]⟩, .string ⟨#[]⟩, .string ⟨#[]⟩, .string ⟨#[]⟩, .string ⟨#[]⟩, .string ⟨#[]⟩, .string ⟨#[]⟩, .string ⟨#[]⟩, .string ⟨#[]⟩, .string ⟨#[]⟩, .string ⟨#[]⟩, .string ⟨#[]⟩, .string ⟨#[]⟩, .string ⟨#[]⟩, .string ⟨#[]⟩, .string ⟨#[]⟩, .string ⟨#[]⟩, .string ⟨#[]⟩, .string ⟨#[]⟩, .string ⟨#[]⟩, .string ⟨#[]⟩, .string ⟨#[]⟩, .string ⟨#[]⟩, .string ⟨#[]⟩] 148))
 go_enter Tryz.func99, Tryz.ntmps99
 go_upto_region 1 with fail
 generalize w.alloc (.cells #[.string ⟨#[]⟩, .string ⟨#[]⟩, .string ⟨#[]⟩, .string ⟨#[]⟩, .string ⟨#[]⟩, .string ⟨#[]⟩, .string ⟨#[]⟩, .string ⟨#[]⟩, .string ⟨#[]⟩, .string ⟨#[]⟩, .string ⟨#[]⟩, .string ⟨#[]⟩, .string ⟨#[]⟩, .string ⟨#[]⟩, .string ⟨#[]⟩, .string ⟨#[]⟩, .string ⟨#[]⟩, .string ⟨#[]⟩, .string ⟨#[]⟩, .string ⟨#[]⟩, .string ⟨#[]⟩, .string ⟨#[]⟩, .string ⟨#[]⟩, .string ⟨#[]⟩, .string ⟨#[]⟩, .string ⟨#[]⟩, .string ⟨#[]⟩, .string ⟨#[]⟩] 148) = w1 at *
 go_wp2_with (refine wpList_store_blk rfl 148 (.tmp 0) (.tmp 1) rfl w.heap.size 148 #[.string ⟨#[]⟩, .string ⟨#[]⟩, .string ⟨#[]⟩, .string ⟨#[]⟩, .string ⟨#[]⟩, .string ⟨#[]⟩, .string ⟨#[]⟩, .string ⟨#[]⟩, .string ⟨#[]⟩, .string ⟨#[]⟩, .string ⟨#[]⟩, .string ⟨#[]⟩, .string ⟨#[]⟩, .string ⟨#[]⟩, .string ⟨#[]⟩, .string ⟨#[]⟩, .string ⟨#[]⟩, .string ⟨#[]⟩, .string ⟨#[]⟩, .string ⟨#[]⟩, .string ⟨#[]⟩, .string ⟨#[]⟩, .string ⟨#[]⟩, .string ⟨#[]⟩, .string ⟨#[]⟩, .string ⟨#[]⟩, .string ⟨#[]⟩, .string ⟨#[]⟩] wordsV rfl rfl HB.out rfl arrI28 words_one ?_; intro w8 h8 g8)
 exact bodyPost_ret (res1 Tryz.results99 rfl h8 Tryz.underlying148 rfl arrI28) rfl ⟨rfl, bl_gr HQ.out g8 (Nat.le_refl _)⟩
end Go.Proofs.YtoaggmldekejoaaGreatDoor
/- The reference's names. Conditions: none. -/
namespace Go.Proofs.YtoaggmldekejoaaGreatDoor
open Go.RowKit
set_option maxRecDepth 100000 in
theorem words_ix0 (W : World) : ∀ (j : Nat), j < 28 → (Instr.index 148 (.agg wordsV) (.int .i64 (j : Int))).run Tryz.prog W = .ok (wordsV.getD j undef) W
 | 0, _ => by kernel_rfl
 | 1, _ => by kernel_rfl
 | 2, _ => by kernel_rfl
 | 3, _ => by kernel_rfl
 | 4, _ => by kernel_rfl
 | 5, _ => by kernel_rfl
 | 6, _ => by kernel_rfl
 | 7, _ => by kernel_rfl
 | 8, _ => by kernel_rfl
 | 9, _ => by kernel_rfl
 | 10, _ => by kernel_rfl
 | 11, _ => by kernel_rfl
 | 12, _ => by kernel_rfl
 | 13, _ => by kernel_rfl
 | 14, _ => by kernel_rfl
 | 15, _ => by kernel_rfl
 | 16, _ => by kernel_rfl
 | 17, _ => by kernel_rfl
 | 18, _ => by kernel_rfl
 | 19, _ => by kernel_rfl
 | 20, _ => by kernel_rfl
 | 21, _ => by kernel_rfl
 | 22, _ => by kernel_rfl
 | 23, _ => by kernel_rfl
 | 24, _ => by kernel_rfl
 | 25, _ => by kernel_rfl
 | 26, _ => by kernel_rfl
 | 27, _ => by kernel_rfl
 | _ + 28, h => absurd h (by omega)
theorem words_ix (j : Nat) (s : ByteArray) (h : wordsL[j]? = some s) : ∀ W, (Instr.index 148 (.agg wordsV) (.int .i64 (j : Int))).run Tryz.prog W = .ok (.string s) W := fun W => by
 rw [words_ix0 W j (List.getElem?_eq_some_iff.1 h).1]
 unfold wordsV
 rw [Array.getD_eq_getD_getElem?, List.getElem?_toArray, List.getElem?_map, h]
 rfl
set_option maxRecDepth 100000 in
set_option maxHeartbeats 8000000 in
theorem risname_any (s : ByteArray) (w : World) : Calls Tryz.prog 69 #[.string s] w fun e w' => e = .returned (.bool (nameB s)) ∧ Below w.heap.size w w' := by
 have HR := Lib.hid (show nameB s = (decide (1 ≤ s.size) && (decide (s.size ≤ 16) && (smI (bt s 0) && ((bts s).all okI && !isWordB ⟨(upL s.data.toList).toArray⟩)))) from rfl)
 generalize nameB s = r at *
 by_cases h1 : s.size < 1
 · have h2 : (s.size : Int) < 1 := by omega
   go_enter Tryz.func69, Tryz.ntmps69
   go_wp2
   go_ret
   exact ⟨ret_bool (by rw [HR.out]; simp; omega), Below.refl _ _⟩
 by_cases h16 : 16 < s.size
 · have h2 : 1 ≤ (s.size : Int) := by omega
   have h3 : 16 < (s.size : Int) := by omega
   go_enter Tryz.func69, Tryz.ntmps69
   go_wp2
   go_ret
   exact ⟨ret_bool (by rw [HR.out]; simp; omega), Below.refl _ _⟩
 have h2 : 1 ≤ (s.size : Int) := by omega
 have h3 : (s.size : Int) ≤ 16 := by omega
 obtain ⟨b, hb⟩ := byte_at (s := s) (i := 0) (by omega)
 have hix : ∀ W, (Instr.index 9 (.string s) (.int .i64 0)).run Tryz.prog W = .ok (.int .u8 (b.toNat : Int)) W := run_bt hb
 have HR2 := Lib.hid (show r = ((decide (97 ≤ (b.toNat : Int)) && decide ((b.toNat : Int) ≤ 122)) && ((bts s).all okI && !isWordB ⟨(upL s.data.toList).toArray⟩)) from by rw [HR.out, bt_of hb, decide_eq_true (show 1 ≤ s.size by omega), decide_eq_true (show s.size ≤ 16 by omega)]; rfl)
 obtain ⟨cc, hc⟩ : ∃ cc, cc = (b.toNat : Int) := ⟨_, rfl⟩
 rw [← hc] at hix HR2
 clear hb HR h1 h16 hc
 by_cases c1 : cc < 97
 · have HF := Lib.hid (show r = false from by rw [HR2.out, decide_eq_false (by omega)]; rfl)
   go_enter Tryz.func69, Tryz.ntmps69
   go_wp2
   go_ret
   exact ⟨ret_bool HF.out.symm, Below.refl _ _⟩
 have c1' : 97 ≤ cc := by omega
 by_cases c2 : 122 < cc
 · have HF := Lib.hid (show r = false from by rw [HR2.out, decide_eq_false (show ¬ cc ≤ 122 by omega), Bool.and_false]; rfl)
   clear c1
   go_enter Tryz.func69, Tryz.ntmps69
   go_wp2
   go_ret
   exact ⟨ret_bool HF.out.symm, Below.refl _ _⟩
 have c2' : cc ≤ 122 := by omega
 have HF := Lib.hid (show r = ((bts s).all okI && !isWordB ⟨(upL s.data.toList).toArray⟩) from by rw [HR2.out, decide_eq_true c1', decide_eq_true c2']; rfl)
 clear c1 c2 HR2
 go_enter Tryz.func69, Tryz.ntmps69
 go_wp2_with fail
 go_loopg [3, 30] s.size (fun g a b wr => ∃ (i : Nat) (A : Option Addr) (c : Nat), i + g = s.size ∧ a = .slice A i c ∧ b = .int .i64 i ∧ OwnB wr w.heap.size A i c (upL (s.data.toList.take i)) ∧ Hid (r = (((bts s).drop i).all okI && !isWordB ⟨(upL s.data.toList).toArray⟩)) ∧ Below w.heap.size w wr)
 case atStart => exact ⟨0, _, 0, by omega, rfl, rfl, OwnB.empty w, Lib.hid (by rw [HF.out, List.drop_zero]), bl_al (Below.refl _ _) _⟩
 case round =>
  obtain ⟨i, A, c, hig, rfl, rfl, ho, HI, bb⟩ := hrel
  have HO := Lib.hid ho
  have HBB := Lib.hid bb
  clear ho bb
  by_cases hlt : i < s.size
  · have hi1 : (i : Int) < (s.size : Int) := by omega
    obtain ⟨b, hb⟩ := byte_at hlt
    have hix := run_bt hb
    have HA := Lib.hid (allok_at (bts_at hb))
    have HT := Lib.hid (show upL (s.data.toList.take (i + 1)) = upL (s.data.toList.take i) ++ [upB b] from by unfold upL; rw [List.take_add_one, hb]; simp)
    have HUB := Lib.hid (show upB b = if smI (b.toNat : Int) then b - 32 else b from rfl)
    have HOK := Lib.hid (show okI (b.toNat : Int) = (smI (b.toNat : Int) || ((decide (48 ≤ (b.toNat : Int)) && decide ((b.toNat : Int) ≤ 57)) || decide ((b.toNat : Int) = 95))) from rfl)
    have HSM := Lib.hid (show smI (b.toNat : Int) = (decide (97 ≤ (b.toNat : Int)) && decide ((b.toNat : Int) ≤ 122)) from rfl)
    have hb255 : (b.toNat : Int) < 256 := by have := b.toNat_lt; omega
    have hb0 : 0 ≤ (b.toNat : Int) := by omega
    have hsz := HBB.out.size
    obtain ⟨cd, hcd⟩ : ∃ cd, cd = (b.toNat : Int) := ⟨_, rfl⟩
    rw [← hcd] at hix HA HUB HOK HSM hb255 hb0
    have HCD := Lib.hid hcd
    clear hb hcd
    by_cases d1 : 97 ≤ cd ∧ cd ≤ 122
    · obtain ⟨d2, d3⟩ := d1
      have HI2 := Lib.hid (show r = (((bts s).drop (i + 1)).all okI && !isWordB ⟨(upL s.data.toList).toArray⟩) from by rw [HI.out, HA.out, HOK.out, HSM.out, decide_eq_true d2, decide_eq_true d3]; rfl)
      have HV := Lib.hid (show Value.int .u8 (cd - 32) = vb (upB b) from by
       rw [HUB.out, HSM.out, decide_eq_true d2, decide_eq_true d3, HCD.out]
       unfold vb
       rw [HCD.out] at d2
       rw [if_pos (show (true && true) = true from rfl), UInt8.toNat_sub_of_le _ _ (by rw [UInt8.le_iff_toNat_le]; show 32 ≤ b.toNat; omega)]
       show _ = Value.int .u8 ((b.toNat - 32 : Nat) : Int)
       congr 1
       omega)
      go_wp2_with (at_builtin; refine wpList_appB rfl (.tmp 59) (.tmp 61) rfl w.heap.size A i c _ (some ⟨wr.heap.size, 0, none⟩) 1 1 [upB b] rfl rfl (HO.out.alloc _) (RdB.one wr (upB b) _ (by refine Eq.trans ?_ HV.out; first | rfl | (congr 1; omega)) _) (by omega) (by simp only [World.size_alloc]; omega) ?_; intro A1 c1 w1 ho1 hb1)
      go_roundg (gk - 1)
      · exact ⟨i + 1, A1, c1, by omega, rfl, by go_num, by rw [HT.out]; exact ho1, HI2, HBB.out.trans (((Below.refl _ _).alloc hsz _).trans hb1)⟩
      · omega
    · have HSF := Lib.hid (show smI cd = false from by rw [HSM.out, Bool.and_eq_false_iff, decide_eq_false_iff_not, decide_eq_false_iff_not]; omega)
      have HV := Lib.hid (show Value.int .u8 cd = vb (upB b) from by rw [HUB.out, HSF.out, HCD.out]; rfl)
      have g1 : (decide (97 ≤ cd) && decide (cd ≤ 122)) = false := by rw [Bool.and_eq_false_iff, decide_eq_false_iff_not, decide_eq_false_iff_not]; omega
      by_cases d4 : 48 ≤ cd ∧ cd ≤ 57
      · obtain ⟨d5, d6⟩ := d4
        have HI2 := Lib.hid (show r = (((bts s).drop (i + 1)).all okI && !isWordB ⟨(upL s.data.toList).toArray⟩) from by rw [HI.out, HA.out, HOK.out, HSF.out, decide_eq_true d5, decide_eq_true d6]; rfl)
        have d7 : cd < 97 := by omega
        clear d1 g1
        go_wp2_with (at_builtin; refine wpList_appB rfl (.tmp 59) (.tmp 61) rfl w.heap.size A i c _ (some ⟨wr.heap.size, 0, none⟩) 1 1 [upB b] rfl rfl (HO.out.alloc _) (RdB.one wr (upB b) _ (by refine Eq.trans ?_ HV.out; first | rfl | (congr 1; omega)) _) (by omega) (by simp only [World.size_alloc]; omega) ?_; intro A1 c1 w1 ho1 hb1)
        go_roundg (gk - 1)
        · exact ⟨i + 1, A1, c1, by omega, rfl, by go_num, by rw [HT.out]; exact ho1, HI2, HBB.out.trans (((Below.refl _ _).alloc hsz _).trans hb1)⟩
        · omega
      · by_cases d8 : cd = 95
        · subst d8
          have HI2 := Lib.hid (show r = (((bts s).drop (i + 1)).all okI && !isWordB ⟨(upL s.data.toList).toArray⟩) from by rw [HI.out, HA.out, HOK.out, HSF.out]; rfl)
          clear d1 d4 g1
          go_wp2_with (at_builtin; refine wpList_appB rfl (.tmp 59) (.tmp 61) rfl w.heap.size A i c _ (some ⟨wr.heap.size, 0, none⟩) 1 1 [upB b] rfl rfl (HO.out.alloc _) (RdB.one wr (upB b) _ (by refine Eq.trans ?_ HV.out; first | rfl | (congr 1; omega)) _) (by omega) (by simp only [World.size_alloc]; omega) ?_; intro A1 c1 w1 ho1 hb1)
          go_roundg (gk - 1)
          · exact ⟨i + 1, A1, c1, by omega, rfl, by go_num, by rw [HT.out]; exact ho1, HI2, HBB.out.trans (((Below.refl _ _).alloc hsz _).trans hb1)⟩
          · omega
        · have HFF := Lib.hid (show r = false from by
           rw [HI.out, HA.out, HOK.out, HSF.out, decide_eq_false d8]
           have : (decide (48 ≤ cd) && decide (cd ≤ 57)) = false := by rw [Bool.and_eq_false_iff, decide_eq_false_iff_not, decide_eq_false_iff_not]; omega
           rw [this]
           rfl)
          have e95 : (cd == 95) = false := by simpa using d8
          have n95 : (cd != 95) = true := by simpa using d8
          have p95 : decide (cd = 95) = false := decide_eq_false d8
          by_cases k1 : cd < 48
          · clear d1 d4 g1
            go_wp2
            go_ret
            exact ⟨ret_bool HFF.out.symm, HBB.out⟩
          · have k2 : 57 < cd := by omega
            have k1' : 48 ≤ cd := by omega
            by_cases k3 : cd < 97
            · clear d1 d4 g1 k1
              go_wp2
              go_ret
              exact ⟨ret_bool HFF.out.symm, HBB.out⟩
            · have k4 : 122 < cd := by omega
              have k5 : 97 ≤ cd := by omega
              have g2 : (!(decide (97 ≤ cd) && decide (cd ≤ 122))) = true := by rw [g1]; rfl
              have g3 : decide (cd ≤ 122) = false := decide_eq_false (by omega)
              clear d1 d4 k1 k3
              go_wp2
              go_ret
              exact ⟨ret_bool HFF.out.symm, HBB.out⟩
  · obtain rfl : i = s.size := by omega
    have hi1 : (s.size : Int) ≤ (s.size : Int) := by omega
    have hbl : (bts s).length = s.size := by unfold bts; rw [List.length_map]; simp
    have hsl : s.data.toList.take s.size = s.data.toList := List.take_of_length_le (by simp)
    obtain ⟨U, hU⟩ : ∃ U : ByteArray, U = ⟨(upL s.data.toList).toArray⟩ := ⟨_, rfl⟩
    have HF2 := Lib.hid (show r = !isWordB U from by rw [HI.out, List.drop_of_length_le (by rw [hbl]; exact Nat.le_refl _), hU]; rfl)
    have ho := HO.out
    rw [hsl] at ho
    have HOW := Lib.hid ho
    have HU := Lib.hid hU
    clear hbl hsl ho hU HF HI HO
    go_wp2_with fail
    refine (rwords_any _).mono ?_
    rintro e w3 ⟨rfl, q3⟩
    have hcv : (convert 102 9 (.slice A s.size c)).run Tryz.prog w3 = .ok (.string U) w3 := by rw [HU.out]; exact (HOW.out.below q3).rd.str c
    have HB3 := Lib.hid (bl_ca HBB.out q3)
    have HIX := Lib.hid words_ix
    clear q3
    obtain ⟨WV, hWV⟩ : ∃ WV, WV = wordsV := ⟨_, rfl⟩
    rw [← hWV]
    rw [← hWV] at HIX
    clear hWV
    go_wp2_with fail
    go_loopg [65] 28 (fun g a wx => ∃ j : Nat, j + g = 28 ∧ a = .int .i64 (j : Int) ∧ wx = w3 ∧ Hid (∀ k, k < j → wordsL[k]? ≠ some U))
    case atStart => exact ⟨0, by omega, rfl, rfl, Lib.hid (fun k hk => by omega)⟩
    case round =>
     obtain ⟨j, hjg, rfl, rfl, HNE⟩ := hrel
     by_cases hlt : j < 28
     · have hj1 : (j : Int) < 28 := by omega
       obtain ⟨wd, hwd⟩ : ∃ wd, wordsL[j]? = some wd := ⟨_, List.getElem?_eq_getElem (show j < wordsL.length from hlt)⟩
       have hix := HIX.out j wd hwd
       have HWD := Lib.hid hwd
       clear hwd
       by_cases hw : wd = U
       · have HFF := Lib.hid (show r = false from by rw [HF2.out, show isWordB U = true from (Lib.containsS_iff wordsL U).2 (hw ▸ List.mem_of_getElem? HWD.out)]; rfl)
         subst hw
         go_wp2
         go_ret
         exact ⟨ret_bool HFF.out.symm, HB3.out⟩
       · have h1 : (wd.toList == U.toList) = false := by rw [toList_data, toList_data, beq_eq_false_iff_ne]; exact fun h => hw ((ba_of h).trans rfl)
         have h2 : decide (wd.toList = U.toList) = false := decide_eq_false (fun h => hw (by rw [toList_data, toList_data] at h; exact (ba_of h).trans rfl))
         have h3 : ¬ wd.toList = U.toList := fun h => hw (by rw [toList_data, toList_data] at h; exact (ba_of h).trans rfl)
         have HN2 := Lib.hid (show ∀ k, k < j + 1 → wordsL[k]? ≠ some U from fun k hk => by
          rcases Nat.lt_or_ge k j with h7 | h7
          · exact HNE.out k h7
          · obtain rfl : k = j := by omega
            rw [HWD.out]
            intro e
            injection e with e
            exact hw e)
         clear hw
         go_wp2
         go_roundg (gk - 1)
         · exact ⟨j + 1, by omega, by go_num, rfl, HN2⟩
         · omega
     · obtain rfl : j = 28 := by omega
       have HFF := Lib.hid (show r = true from by
        rw [HF2.out]
        cases hc : isWordB U with
        | false => rfl
        | true =>
         have := (Lib.containsS_iff wordsL U).1 hc
         obtain ⟨k, hk, he⟩ := List.getElem_of_mem this
         exact absurd (List.getElem?_eq_getElem hk ▸ by rw [he]) (HNE.out k hk))
       go_wp2
       go_ret
       exact ⟨ret_bool HFF.out.symm, HB3.out⟩
end Go.Proofs.YtoaggmldekejoaaGreatDoor
/- What the reference's functions come to, in plain Lean. Conditions: none. -/
namespace Go.Proofs.YtoaggmldekejoaaGreatDoor
theorem ok_right (x : List Nd) : okF x = rightT cntB x := (rightT_tree cntB x).symm
end Go.Proofs.YtoaggmldekejoaaGreatDoor
/- The reference's counts. Conditions: none. -/
namespace Go.Proofs.YtoaggmldekejoaaGreatDoor
open Go.RowKit
set_option maxRecDepth 100000 in
theorem rmaybe_any (s : ByteArray) (w : World) : Calls Tryz.prog 38 #[.string s] w fun e w' => e = .returned (.bool (mayB s)) ∧ Below w.heap.size w w' := by
 have HR := Lib.hid (show mayB s = (decide (s.data.toList = []) || nameB s) from rfl)
 have HC := Lib.hid (risname_any s w)
 generalize mayB s = r at *
 generalize nameB s = q at *
 by_cases h0 : s.data.toList = []
 · have HF := Lib.hid (show r = true from by rw [HR.out, decide_eq_true h0]; rfl)
   have hs0 : s = ⟨#[]⟩ := by rw [show s = ⟨s.data.toList.toArray⟩ from rfl, h0]
   subst hs0
   clear h0
   go_enter Tryz.func38, Tryz.ntmps38
   go_wp2
   go_ret
   exact ⟨ret_bool HF.out.symm, Below.refl _ _⟩
 · have HF := Lib.hid (show r = q from by rw [HR.out, decide_eq_false h0]; rfl)
   have e1 : s.toList.isEmpty = false := by rw [toList_data]; cases h : s.data.toList with | nil => exact absurd h h0 | cons => rfl
   have e2 : (s.toList == []) = false := by rw [toList_data]; simpa using h0
   have e3 : ¬ s.toList = [] := by rw [toList_data]; exact h0
   clear h0
   go_enter Tryz.func38, Tryz.ntmps38
   go_wp2_with fail
   refine HC.out.mono ?_
   rintro e w2 ⟨rfl, q2⟩
   go_wp2
   go_ret
   exact ⟨ret_bool HF.out.symm, q2⟩
theorem lit_b {w pl z d1 d2 lb : Bool} (h : lb = (w && (pl && z))) : (d1 && (d2 && (pl && (z && w)))) = (lb && (d1 && d2)) := by subst h; cases w <;> cases pl <;> cases z <;> cases d1 <;> cases d2 <;> rfl
theorem emp_facts {s : ByteArray} (h0 : s.data.toList ≠ []) : s.toList.isEmpty = false ∧ (s.toList == []) = false ∧ ¬ s.toList = [] := by
 refine ⟨?_, ?_, ?_⟩
 · rw [toList_data]; cases h : s.data.toList with | nil => exact absurd h h0 | cons => rfl
 · rw [toList_data]; simpa using h0
 · rw [toList_data]; exact h0
set_option maxRecDepth 100000 in
set_option maxHeartbeats 8000000 in
theorem rcounts_any (p : Py) (l r : Int) (w : World) (h1 : p.s.size ≤ 9223372036854775807) :
 Calls Tryz.prog 30 #[.agg (Nd.cells ⟨p, l, r⟩)] w fun e w' => e = .returned (.bool (cntB p)) ∧ Below w.heap.size w w' := by
 have HC := Lib.hid (show cntB p = if p.tag = 1 then decide (p.tb.data.toList = []) && (decide (p.nm.data.toList = []) && (plainV p.k p.n p.u p.s && (decide (0 ≤ p.n) && p.s.data.toList.all plU))) else if p.tag = 2 then zvB p && (nameB p.nm && (decide (p.tb.data.toList = []) || nameB p.tb)) else zvB p && (decide (p.tb.data.toList = []) && decide (p.nm.data.toList = [])) from rfl)
 have HZ := run_eqZ p.k p.n p.u p.s
 have HZV := Lib.hid (show zvB p = decide (p.k = 0 ∧ p.n = 0 ∧ p.u = 0 ∧ p.s.data.toList = []) from rfl)
 obtain ⟨t, k, n, u, s, tb, nm⟩ := p
 generalize cntB ⟨t, k, n, u, s, tb, nm⟩ = res at *
 generalize zvB ⟨t, k, n, u, s, tb, nm⟩ = zv at *
 simp only at HC HZ h1 HZV ⊢
 rw [← HZV.out] at HZ
 rw [plainV_eq] at HC
 have HQ := Lib.hid (bl_al (Below.refl w.heap.size w) (.cells (Nd.cells ⟨⟨t, k, n, u, s, tb, nm⟩, l, r⟩) 57))
 have HB := Lib.hid (Blk.new w 57 (Nd.cells ⟨⟨t, k, n, u, s, tb, nm⟩, l, r⟩))
 have HL := Lib.hid (fun W => rliteral_any k n u s W h1)
 obtain ⟨lb, hlb⟩ : ∃ lb, lb = (wriB s && (plainB k n u s && decide (0 ≤ n))) := ⟨_, rfl⟩
 rw [← hlb] at HL
 have HLB := Lib.hid hlb
 clear hlb h1 HZV
 go_enter Tryz.func30, Tryz.ntmps30
 go_upto_region 1 with fail
 generalize w.alloc (.cells #[.int .i64 t, .int .i64 l, .int .i64 r, .int .i64 k, .int .i64 n, .int .u64 u, .string s, .string tb, .string nm] 57) = w1 at *
 have x0 := HB.out.cell 0
 have x3 := HB.out.cell 3
 have x4 := HB.out.cell 4
 have x5 := HB.out.cell 5
 have x6 := HB.out.cell 6
 have x7 := HB.out.cell 7
 have x8 := HB.out.cell 8
 simp at x0 x3 x4 x5 x6 x7 x8
 by_cases t1 : t = 1
 · subst t1
   have HF := Lib.hid (show res = (decide (tb.data.toList = []) && (decide (nm.data.toList = []) && (plainB k n u s && (decide (0 ≤ n) && wriB s)))) from by rw [HC.out, if_pos rfl]; rfl)
   clear HC HZ
   go_wp2_with fail
   refine (HL.out _).mono ?_
   rintro e w2 ⟨rfl, q2⟩
   have HQ2 := Lib.hid (bl_ca HQ.out q2)
   have y7 := (HB.out.ca q2).cell 7
   have y8 := (HB.out.ca q2).cell 8
   simp at y7 y8
   clear x0 x3 x4 x5 x6 x7 x8 q2
   rw [lit_b HLB.out] at HF
   cases lb
   · have HFF := Lib.hid (show res = false from by rw [HF.out]; rfl)
     go_wp2
     go_ret
     exact ⟨ret_bool HFF.out.symm, HQ2.out⟩
   · have HF2 := Lib.hid (show res = (decide (tb.data.toList = []) && decide (nm.data.toList = [])) from by rw [HF.out]; rfl)
     clear HF
     by_cases htb : tb.data.toList = []
     · by_cases hnm : nm.data.toList = []
       · have HFF := Lib.hid (show res = true from by rw [HF2.out, decide_eq_true htb, decide_eq_true hnm]; rfl)
         obtain rfl := ba_e htb
         obtain rfl := ba_e hnm
         clear htb hnm
         go_wp2
         go_ret
         exact ⟨ret_bool HFF.out.symm, HQ2.out⟩
       · have HFF := Lib.hid (show res = false from by rw [HF2.out, decide_eq_false hnm, Bool.and_false])
         obtain rfl := ba_e htb
         obtain ⟨g1, g2, g3⟩ := emp_facts hnm
         clear htb hnm
         go_wp2
         go_ret
         exact ⟨ret_bool HFF.out.symm, HQ2.out⟩
     · have HFF := Lib.hid (show res = false from by rw [HF2.out, decide_eq_false htb]; rfl)
       obtain ⟨g1, g2, g3⟩ := emp_facts htb
       clear htb
       go_wp2
       go_ret
       exact ⟨ret_bool HFF.out.symm, HQ2.out⟩
 have k1 : (t == 1) = false := by simpa using t1
 by_cases t2 : t = 2
 · subst t2
   have HF := Lib.hid (show res = (zv && (nameB nm && (decide (tb.data.toList = []) || nameB tb))) from by rw [HC.out, if_neg (by decide), if_pos rfl])
   clear HC t1 HL
   have HN := Lib.hid (fun W => risname_any nm W)
   have HM := Lib.hid (fun W => rmaybe_any tb W)
   have HMB := Lib.hid (show mayB tb = (decide (tb.data.toList = []) || nameB tb) from rfl)
   rw [← HMB.out] at HF
   generalize mayB tb = mb at *
   generalize nameB nm = nb at *
   cases zv
   · have HFF := Lib.hid (show res = false from by rw [HF.out]; rfl)
     go_wp2
     go_ret
     exact ⟨ret_bool HFF.out.symm, HQ.out⟩
   · go_wp2_with fail
     refine (HN.out _).mono ?_
     rintro e w2 ⟨rfl, q2⟩
     have HQ2 := Lib.hid (bl_ca HQ.out q2)
     have y7 := (HB.out.ca q2).cell 7
     simp at y7
     clear x0 x3 x4 x5 x6 x7 x8 q2 HZ
     cases nb
     · have HFF := Lib.hid (show res = false from by rw [HF.out]; rfl)
       go_wp2
       go_ret
       exact ⟨ret_bool HFF.out.symm, HQ2.out⟩
     · have HFF := Lib.hid (show res = mb from by rw [HF.out]; rfl)
       go_wp2_with fail
       refine (HM.out _).mono ?_
       rintro e w3 ⟨rfl, q3⟩
       have HQ3 := Lib.hid (bl_ca HQ2.out q3)
       clear q3 y7
       go_wp2
       go_ret
       exact ⟨ret_bool HFF.out.symm, HQ3.out⟩
 have k2 : (t == 2) = false := by simpa using t2
 have HF := Lib.hid (show res = (zv && (decide (tb.data.toList = []) && decide (nm.data.toList = []))) from by rw [HC.out, if_neg t1, if_neg t2])
 clear HC t1 t2 HL
 cases zv
 · have HFF := Lib.hid (show res = false from by rw [HF.out]; rfl)
   go_wp2
   go_ret
   exact ⟨ret_bool HFF.out.symm, HQ.out⟩
 · by_cases htb : tb.data.toList = []
   · by_cases hnm : nm.data.toList = []
     · have HFF := Lib.hid (show res = true from by rw [HF.out, decide_eq_true htb, decide_eq_true hnm]; rfl)
       obtain rfl := ba_e htb
       obtain rfl := ba_e hnm
       clear htb hnm
       go_wp2
       go_ret
       exact ⟨ret_bool HFF.out.symm, HQ.out⟩
     · have HFF := Lib.hid (show res = false from by rw [HF.out, decide_eq_false hnm, Bool.and_false, Bool.and_false])
       obtain rfl := ba_e htb
       obtain ⟨g1, g2, g3⟩ := emp_facts hnm
       clear htb hnm
       go_wp2
       go_ret
       exact ⟨ret_bool HFF.out.symm, HQ.out⟩
   · have HFF := Lib.hid (show res = false from by rw [HF.out, decide_eq_false htb]; rfl)
     obtain ⟨g1, g2, g3⟩ := emp_facts htb
     clear htb
     go_wp2
     go_ret
     exact ⟨ret_bool HFF.out.symm, HQ.out⟩
end Go.Proofs.YtoaggmldekejoaaGreatDoor
/- The reference's Size and RightTree. Conditions: the nodes read so. -/
namespace Go.Proofs.YtoaggmldekejoaaGreatDoor
open Go.RowKit
theorem size_bd (c : Py → Bool) (x : List Nd) : ∀ f m : Nat, (sizeF c x f m).1 ≤ m ∧ (sizeF c x f m).2 ≤ m
 | 0, m => ⟨Nat.zero_le _, Nat.zero_le _⟩
 | f + 1, 0 => ⟨Nat.le_refl _, Nat.le_refl _⟩
 | f + 1, m + 1 => by
  have h1 := size_bd c x f m
  have h2 := size_bd c x f (m - (sizeF c x f m).1)
  rw [sizeF]
  split
  · exact ⟨Nat.zero_le _, Nat.zero_le _⟩
  · split
    · split
      · split
        · exact ⟨by show 1 ≤ m + 1; omega, by show 1 ≤ m + 1; omega⟩
        · exact ⟨Nat.zero_le _, Nat.zero_le _⟩
      · split
        · split
          · exact ⟨Nat.zero_le _, Nat.zero_le _⟩
          · split
            · exact ⟨by show _ + 1 ≤ m + 1; omega, by show _ + 1 ≤ m + 1; omega⟩
            · exact ⟨Nat.zero_le _, Nat.zero_le _⟩
        · split
          · split
            · exact ⟨Nat.zero_le _, Nat.zero_le _⟩
            · split
              · exact ⟨Nat.zero_le _, Nat.zero_le _⟩
              · split
                · exact ⟨by show _ + _ + 1 ≤ m + 1; omega, by show max _ _ + 1 ≤ m + 1; omega⟩
                · exact ⟨Nat.zero_le _, Nat.zero_le _⟩
          · exact ⟨Nat.zero_le _, Nat.zero_le _⟩
    · exact ⟨Nat.zero_le _, Nat.zero_le _⟩
theorem ret_2 {a b a' b' : Int} (h : a = a') (k : b = b') : Ending.returned (.tuple #[.int .i64 a, .int .i64 b]) = Ending.returned (.tuple #[.int .i64 a', .int .i64 b']) := by rw [h, k]
set_option maxRecDepth 100000 in
set_option maxHeartbeats 8000000 in
theorem rsize_any (F : Nat → Prop) (xs : List Nd) (A : Option Addr) (n c : Nat) (hn : n ≤ 100000) (hS : ∀ x ∈ xs, SmP x.p) : ∀ (f m : Nat) (pl : Int) (w : World), m ≤ f → m ≤ n → pl = (m : Int) - 1 → LN.rd w F A n xs →
 Calls Tryz.prog 13 #[.agg #[.slice A n c], .int .i64 pl] w fun e w' => e = .returned (.tuple #[.int .i64 ((sizeF cntB xs f m).1 : Int), .int .i64 ((sizeF cntB xs f m).2 : Int)]) ∧ Below w.heap.size w w'
 | f, 0, pl, w, _, _, hpl, h => by
  have h0 : sizeF cntB xs f 0 = (0, 0) := by cases f <;> rfl
  rw [h0]
  have hp : pl < 0 := by omega
  have HQ := Lib.hid (bl_al (Below.refl w.heap.size w) (.cells #[.slice A n c] 26))
  clear hpl h
  go_enter Tryz.func13, Tryz.ntmps13
  go_wp2
  go_ret2
  exact ⟨rfl, HQ.out⟩
 | 0, m + 1, pl, w, hf, _, _, _ => absurd hf (by omega)
 | f + 1, m + 1, pl, w, hf, hmn, hpl, h => by
  obtain rfl : pl = (m : Int) := by omega
  have HI1 := Lib.hid (fun w' (hw : LN.rd w' F A n xs) => rsize_any F xs A n c hn hS f m ((m : Int) - 1) w' (by omega) (by omega) rfl hw)
  have hb1 := size_bd cntB xs f m
  have HI2 := Lib.hid (fun w' (hw : LN.rd w' F A n xs) => rsize_any F xs A n c hn hS f (m - (sizeF cntB xs f m).1) ((m : Int) - 1 - ((sizeF cntB xs f m).1 : Int)) w' (by omega) (by omega) (by omega) hw)
  have hb2 := size_bd cntB xs f (m - (sizeF cntB xs f m).1)
  obtain ⟨p, x, hAe, hx, s1⟩ := LN_at h (show m < n by omega)
  obtain rfl : A = some p := hAe
  have HSZ := Lib.hid (show sizeF cntB xs (f + 1) (m + 1) = if cntB x.p then
   if partsI x.p.tag = 0 then (if x.l = -1 ∧ x.r = -1 then (1, 1) else (0, 0))
   else if partsI x.p.tag = 1 then
    (if (sizeF cntB xs f m).1 = 0 then (0, 0)
     else if x.l = (m : Int) - 1 ∧ x.r = -1 then ((sizeF cntB xs f m).1 + 1, (sizeF cntB xs f m).2 + 1) else (0, 0))
   else if partsI x.p.tag = 2 then
    (if (sizeF cntB xs f m).1 = 0 then (0, 0)
     else if (sizeF cntB xs f (m - (sizeF cntB xs f m).1)).1 = 0 then (0, 0)
     else if x.r = (m : Int) - 1 ∧ x.l = (m : Int) - 1 - ((sizeF cntB xs f m).1 : Int) then
      ((sizeF cntB xs f m).1 + (sizeF cntB xs f (m - (sizeF cntB xs f m).1)).1 + 1, max (sizeF cntB xs f m).2 (sizeF cntB xs f (m - (sizeF cntB xs f m).1)).2 + 1) else (0, 0))
   else (0, 0)
   else (0, 0) from by rw [sizeF, hx])
  obtain ⟨R, hR⟩ : ∃ R, R = sizeF cntB xs (f + 1) (m + 1) := ⟨_, rfl⟩
  rw [← hR] at HSZ ⊢
  generalize sizeF cntB xs f (m - (sizeF cntB xs f m).1) = S2 at *
  generalize sizeF cntB xs f m = S1 at *
  obtain ⟨a, b⟩ := S1
  obtain ⟨a2, b2⟩ := S2
  simp only at HI1 HI2 HSZ hb1 hb2
  have HSX := Lib.hid (hS x (List.mem_of_getElem? hx))
  have HCT := Lib.hid (fun W => rcounts_any x.p x.l x.r W HSX.out.1)
  have HPT := Lib.hid (fun W => rparts_any x.p.tag W)
  obtain ⟨kk, hkk⟩ : ∃ kk, kk = partsI x.p.tag := ⟨_, rfl⟩
  obtain ⟨cb, hcb⟩ : ∃ cb, cb = cntB x.p := ⟨_, rfl⟩
  rw [← hkk] at HPT HSZ
  rw [← hcb] at HCT HSZ
  have HKR := Lib.hid (show -1 ≤ kk ∧ kk ≤ 2 from by rw [hkk]; exact parts_le _)
  have HZ0 := Lib.hid (fun (h : R = (0, 0)) => ret_2 (a := 0) (b := 0) (show (0 : Int) = (R.1 : Int) from by rw [h]; rfl) (show (0 : Int) = (R.2 : Int) from by rw [h]; rfl))
  have HQ := Lib.hid (bl_al (Below.refl w.heap.size w) (.cells #[.slice (some p) n c] 26))
  have HQ2 := Lib.hid (bl_al HQ.out (.cells (Nd.cells x) 57))
  have HB1 := Lib.hid ((Blk.new w 26 #[.slice (some p) n c]).alloc (.cells (Nd.cells x) 57))
  have HB2 := Lib.hid (show Blk ((w.alloc (.cells #[.slice (some p) n c] 26)).alloc (.cells (Nd.cells x) 57)) (w.heap.size + 1) 57 (Nd.cells x) from by
   have := Blk.new (w.alloc (.cells #[.slice (some p) n c] 26)) 57 (Nd.cells x)
   rwa [World.size_alloc] at this)
  have HRD := Lib.hid (Lay.rd_below h HQ2.out)
  have e0 := ce s1.c0 HQ.out
  have e1 := ce s1.c1 HQ.out
  have e2 := ce s1.c2 HQ.out
  have e3 := ce s1.c3 HQ.out
  have e4 := ce s1.c4 HQ.out
  have e5 := ce s1.c5 HQ.out
  have e6 := ce s1.c6 HQ.out
  have e7 := ce s1.c7 HQ.out
  have e8 := ce s1.c8 HQ.out
  have hm0 : 0 ≤ (m : Int) := by omega
  have hm1 : (m : Int) < (n : Int) := by omega
  have hm2 : (n : Int) ≤ 100000 := by omega
  clear hR hkk hcb hx s1 h hpl HSX
  go_enter Tryz.func13, Tryz.ntmps13
  go_upto_region 1 with fail
  have c0 := (Blk.new w 26 #[.slice (some p) n c]).cell 0
  simp at c0
  go_upto_region 4 with fail
  clear e0 e1 e2 e3 e4 e5 e6 e7 e8 c0
  generalize (w.alloc (.cells #[.slice (some p) n c] 26)).alloc (.cells #[.int .i64 x.p.tag, .int .i64 x.l, .int .i64 x.r, .int .i64 x.p.k, .int .i64 x.p.n, .int .u64 x.p.u, .string x.p.s, .string x.p.tb, .string x.p.nm] 57) = w1 at *
  have y0 := HB2.out.cell 0
  have y1 := HB2.out.cell 1
  have y2 := HB2.out.cell 2
  have y3 := HB2.out.cell 3
  have y4 := HB2.out.cell 4
  have y5 := HB2.out.cell 5
  have y6 := HB2.out.cell 6
  have y7 := HB2.out.cell 7
  have y8 := HB2.out.cell 8
  simp at y0 y1 y2 y3 y4 y5 y6 y7 y8
  go_wp2_with fail
  refine (HPT.out _).mono ?_
  rintro e w9 ⟨rfl, rfl⟩
  by_cases k0 : kk < 0
  · have HF := Lib.hid (HZ0.out (by rw [HSZ.out, if_neg (show ¬ kk = 0 by omega), if_neg (show ¬ kk = 1 by omega), if_neg (show ¬ kk = 2 by omega)]; exact ite_self _))
    go_wp2
    go_ret2
    exact ⟨HF.out, HQ2.out⟩
  have k0' : 0 ≤ kk := by omega
  clear k0
  go_wp2_with fail
  refine (HCT.out _).mono ?_
  rintro e w2 ⟨rfl, q2⟩
  have HQ3 := Lib.hid (bl_ca HQ2.out q2)
  have HRD2 := Lib.hid (Lay.rd_below HRD.out q2)
  have z1 := (HB2.out.ca q2).cell 1
  have z2 := (HB2.out.ca q2).cell 2
  have z9 := (HB1.out.ca q2).cell 0
  simp at z1 z2 z9
  have HBN := Lib.hid (HB2.out.ca q2)
  have HBT := Lib.hid (HB1.out.ca q2)
  clear q2 y0 y1 y2 y3 y4 y5 y6 y7 y8 HB1 HB2 HRD HPT HCT
  cases cb
  · have HF := Lib.hid (HZ0.out (by rw [HSZ.out]; rfl))
    go_wp2
    go_ret2
    exact ⟨HF.out, HQ3.out⟩
  have HSY := Lib.hid (show R = if kk = 0 then if x.l = -1 ∧ x.r = -1 then (1, 1) else (0, 0)
   else if kk = 1 then (if a = 0 then (0, 0) else if x.l = (m : Int) - 1 ∧ x.r = -1 then (a + 1, b + 1) else (0, 0))
   else if kk = 2 then (if a = 0 then (0, 0) else if a2 = 0 then (0, 0) else if x.r = (m : Int) - 1 ∧ x.l = (m : Int) - 1 - (a : Int) then (a + a2 + 1, max b b2 + 1) else (0, 0)) else (0, 0) from by rw [HSZ.out, if_pos rfl])
  by_cases kz : kk = 0
  · subst kz
    have HSX2 := Lib.hid (show R = if x.l = -1 ∧ x.r = -1 then (1, 1) else (0, 0) from by rw [HSY.out, if_pos rfl])
    clear HSY HSZ
    by_cases hl : x.l = -1
    · by_cases hr : x.r = -1
      · have HF := Lib.hid (ret_2 (a := 1) (b := 1) (show (1 : Int) = (R.1 : Int) from by rw [HSX2.out, if_pos ⟨hl, hr⟩]; rfl) (show (1 : Int) = (R.2 : Int) from by rw [HSX2.out, if_pos ⟨hl, hr⟩]; rfl))
        have g1 : (x.l == -1) = true := by simpa using hl
        have g2 : (x.l != -1) = false := by simpa using hl
        have g3 : decide (x.l = -1) = true := decide_eq_true hl
        have g4 : (x.r == -1) = true := by simpa using hr
        have g5 : (x.r != -1) = false := by simpa using hr
        have g6 : decide (x.r = -1) = true := decide_eq_true hr
        go_wp2
        go_ret2
        exact ⟨HF.out, HQ3.out⟩
      · have HF := Lib.hid (HZ0.out (by rw [HSX2.out, if_neg (fun h => hr h.2)]))
        have g1 : (x.l == -1) = true := by simpa using hl
        have g2 : (x.l != -1) = false := by simpa using hl
        have g3 : decide (x.l = -1) = true := decide_eq_true hl
        have g4 : (x.r == -1) = false := by simpa using hr
        have g5 : (x.r != -1) = true := by simpa using hr
        have g6 : decide (x.r = -1) = false := decide_eq_false hr
        go_wp2
        go_ret2
        exact ⟨HF.out, HQ3.out⟩
    · have HF := Lib.hid (HZ0.out (by rw [HSX2.out, if_neg (fun h => hl h.1)]))
      have g1 : (x.l == -1) = false := by simpa using hl
      have g2 : (x.l != -1) = true := by simpa using hl
      have g3 : decide (x.l = -1) = false := decide_eq_false hl
      go_wp2
      go_ret2
      exact ⟨HF.out, HQ3.out⟩
  have kb : (kk == 0) = false := by simpa using kz
  have HKZ := Lib.hid kz
  clear kz
  go_wp2_with fail
  refine (HI1.out _ HRD2.out).mono ?_
  rintro e w3 ⟨rfl, q3⟩
  have HQ4 := Lib.hid (bl_ca HQ3.out q3)
  have HRD3 := Lib.hid (Lay.rd_below HRD2.out q3)
  have u1 := (HBN.out.ca q3).cell 1
  have u2 := (HBN.out.ca q3).cell 2
  have u9 := (HBT.out.ca q3).cell 0
  simp at u1 u2 u9
  have HBN3 := Lib.hid (HBN.out.ca q3)
  clear q3 z1 z2 z9 HBN HBT HRD2
  have hab : (a : Int) ≤ (m : Int) := by omega
  have hbb : (b : Int) ≤ (m : Int) := by omega
  have ha0 : 0 ≤ (a : Int) := by omega
  have hb0 : 0 ≤ (b : Int) := by omega
  by_cases az : a = 0
  · have HF := Lib.hid (HZ0.out (by rw [HSY.out, if_neg HKZ.out, if_pos az, if_pos az]; split; rfl; split <;> rfl))
    subst az
    go_wp2
    go_ret2
    exact ⟨HF.out, HQ4.out⟩
  have ab : ((a : Int) == 0) = false := by simp; omega
  have HAZ := Lib.hid az
  clear az
  by_cases k1 : kk = 1
  · subst k1
    have HSX2 := Lib.hid (show R = if x.l = (m : Int) - 1 ∧ x.r = -1 then (a + 1, b + 1) else (0, 0) from by rw [HSY.out, if_neg HKZ.out, if_pos rfl, if_neg HAZ.out])
    clear HSY HSZ
    by_cases hl : x.l = (m : Int) - 1
    · have g1 : (x.l == (m : Int) - 1) = true := by simpa using hl
      have g2 : (x.l != (m : Int) - 1) = false := by simpa using hl
      have g3 : decide (x.l = (m : Int) - 1) = true := decide_eq_true hl
      by_cases hr : x.r = -1
      · have HF := Lib.hid (ret_2 (a := (a : Int) + 1) (b := (b : Int) + 1) (show (a : Int) + 1 = (R.1 : Int) from by rw [HSX2.out, if_pos ⟨hl, hr⟩]; rfl) (show (b : Int) + 1 = (R.2 : Int) from by rw [HSX2.out, if_pos ⟨hl, hr⟩]; rfl))
        have g4 : (x.r == -1) = true := by simpa using hr
        have g5 : (x.r != -1) = false := by simpa using hr
        have g6 : decide (x.r = -1) = true := decide_eq_true hr
        clear hl hr
        go_wp2
        go_ret2
        exact ⟨HF.out, HQ4.out⟩
      · have HF := Lib.hid (HZ0.out (by rw [HSX2.out, if_neg (fun h => hr h.2)]))
        have g4 : (x.r == -1) = false := by simpa using hr
        have g5 : (x.r != -1) = true := by simpa using hr
        have g6 : decide (x.r = -1) = false := decide_eq_false hr
        clear hl hr
        go_wp2
        go_ret2
        exact ⟨HF.out, HQ4.out⟩
    · have HF := Lib.hid (HZ0.out (by rw [HSX2.out, if_neg (fun h => hl h.1)]))
      have g1 : (x.l == (m : Int) - 1) = false := by simpa using hl
      have g2 : (x.l != (m : Int) - 1) = true := by simpa using hl
      have g3 : decide (x.l = (m : Int) - 1) = false := decide_eq_false hl
      clear hl
      go_wp2
      go_ret2
      exact ⟨HF.out, HQ4.out⟩
  have kc : (kk == 1) = false := by simpa using k1
  have HK1 := Lib.hid k1
  clear k1
  go_wp2_with fail
  refine (HI2.out _ HRD3.out).mono ?_
  rintro e w4 ⟨rfl, q4⟩
  have HQ5 := Lib.hid (bl_ca HQ4.out q4)
  have v1 := (HBN3.out.ca q4).cell 1
  have v2 := (HBN3.out.ca q4).cell 2
  simp at v1 v2
  clear q4 u1 u2 u9 HBN3 HRD3
  have hk2 : kk = 2 := by have := HKR.out; have := HKZ.out; have := HK1.out; omega
  have HSX2 := Lib.hid (show R = if a2 = 0 then (0, 0) else if x.r = (m : Int) - 1 ∧ x.l = (m : Int) - 1 - (a : Int) then (a + a2 + 1, max b b2 + 1) else (0, 0) from by rw [HSY.out, if_neg HKZ.out, if_neg HK1.out, if_pos hk2, if_neg HAZ.out])
  have ha2 : (a2 : Int) ≤ (m : Int) := by omega
  have hb3 : (b2 : Int) ≤ (m : Int) := by omega
  have ha20 : 0 ≤ (a2 : Int) := by omega
  clear HSY HSZ hk2
  by_cases az2 : a2 = 0
  · have HF := Lib.hid (HZ0.out (by rw [HSX2.out, if_pos az2]))
    subst az2
    go_wp2
    go_ret2
    exact ⟨HF.out, HQ5.out⟩
  have ab2 : ((a2 : Int) == 0) = false := by simp; omega
  have HAZ2 := Lib.hid az2
  clear az2
  by_cases hr : x.r = (m : Int) - 1
  · have g1 : (x.r == (m : Int) - 1) = true := by simpa using hr
    have g2 : (x.r != (m : Int) - 1) = false := by simpa using hr
    have g3 : decide (x.r = (m : Int) - 1) = true := decide_eq_true hr
    by_cases hl : x.l = (m : Int) - 1 - (a : Int)
    · have HF := Lib.hid (ret_2 (a := (a : Int) + (a2 : Int) + 1) (b := max (b : Int) (b2 : Int) + 1) (show (a : Int) + (a2 : Int) + 1 = (R.1 : Int) from by rw [HSX2.out, if_neg HAZ2.out, if_pos ⟨hr, hl⟩]; rfl) (show max (b : Int) (b2 : Int) + 1 = (R.2 : Int) from by rw [HSX2.out, if_neg HAZ2.out, if_pos ⟨hr, hl⟩]; show _ = ((max b b2 + 1 : Nat) : Int); omega))
      have g4 : (x.l == (m : Int) - 1 - (a : Int)) = true := by simpa using hl
      have g5 : (x.l != (m : Int) - 1 - (a : Int)) = false := by simpa using hl
      have g6 : decide (x.l = (m : Int) - 1 - (a : Int)) = true := decide_eq_true hl
      obtain ⟨mx, hmx⟩ : ∃ mx : Nat, (mx : Int) = max (b : Int) (b2 : Int) := ⟨max b b2, by omega⟩
      have hm9 : max (b : Int) (b2 : Int) = (mx : Int) := hmx.symm
      have hm8 : (mx : Int) ≤ (m : Int) := by omega
      rw [hm9] at HF
      clear hl hr hmx
      go_wp2
      go_ret2
      exact ⟨HF.out, HQ5.out⟩
    · have HF := Lib.hid (HZ0.out (by rw [HSX2.out, if_neg HAZ2.out, if_neg (fun h => hl h.2)]))
      have g4 : (x.l == (m : Int) - 1 - (a : Int)) = false := by simpa using hl
      have g5 : (x.l != (m : Int) - 1 - (a : Int)) = true := by simpa using hl
      have g6 : decide (x.l = (m : Int) - 1 - (a : Int)) = false := decide_eq_false hl
      clear hl hr
      go_wp2
      go_ret2
      exact ⟨HF.out, HQ5.out⟩
  · have HF := Lib.hid (HZ0.out (by rw [HSX2.out, if_neg HAZ2.out, if_neg (fun h => hr h.1)]))
    have g1 : (x.r == (m : Int) - 1) = false := by simpa using hr
    have g2 : (x.r != (m : Int) - 1) = true := by simpa using hr
    have g3 : decide (x.r = (m : Int) - 1) = false := decide_eq_false hr
    clear hr
    go_wp2
    go_ret2
    exact ⟨HF.out, HQ5.out⟩
end Go.Proofs.YtoaggmldekejoaaGreatDoor
/- The reference's RightTree and SameTree. Conditions: the nodes read so. -/
namespace Go.Proofs.YtoaggmldekejoaaGreatDoor
open Go.RowKit
set_option maxRecDepth 100000 in
set_option maxHeartbeats 4000000 in
theorem rright_any (F : Nat → Prop) (xs : List Nd) (A : Option Addr) (n c : Nat) (w : World) (h : LN.rd w F A n xs) (hn : n ≤ 100000) (hS : ∀ x ∈ xs, SmP x.p) :
 Calls Tryz.prog 8 #[.agg #[.slice A n c]] w fun e w' => e = .returned (.bool (okF xs)) ∧ Below w.heap.size w w' := by
 have hl := Lay.rd_len h
 have HR := Lib.hid (show okF xs = (decide (1 ≤ n) && (decide (n ≤ 300) && (decide ((sizeF cntB xs n n).1 = n) && decide ((sizeF cntB xs n n).2 ≤ 20)))) from by rw [ok_right]; unfold rightT; rw [hl])
 have HQ := Lib.hid (bl_al (Below.refl w.heap.size w) (.cells #[.slice A n c] 26))
 have HB := Lib.hid (Blk.new w 26 #[.slice A n c])
 have HSZ := Lib.hid (fun (h1 : 1 ≤ n) => rsize_any F xs A n c hn hS n n ((n : Int) - 1) _ (Nat.le_refl _) (Nat.le_refl _) rfl (Lay.rd_below h HQ.out))
 have hbd := size_bd cntB xs n n
 generalize okF xs = r at *
 generalize sizeF cntB xs n n = S1 at *
 obtain ⟨a, b⟩ := S1
 simp only at HR HSZ hbd
 clear h hS hl
 go_enter Tryz.func8, Tryz.ntmps8
 go_upto_region 1 with fail
 generalize w.alloc (.cells #[.slice A n c] 26) = w1 at *
 have x0 := HB.out.cell 0
 simp at x0
 by_cases h1 : n < 1
 · have HF := Lib.hid (show r = false from by rw [HR.out, decide_eq_false (by omega)]; rfl)
   have g1 : (n : Int) < 1 := by omega
   clear h1
   go_wp2
   go_ret
   exact ⟨ret_bool HF.out.symm, HQ.out⟩
 have g1 : 1 ≤ (n : Int) := by omega
 by_cases h3 : 300 < n
 · have HF := Lib.hid (show r = false from by rw [HR.out, decide_eq_false (show ¬ n ≤ 300 by omega), Bool.false_and, Bool.and_false])
   have g2 : 300 < (n : Int) := by omega
   clear h1 h3
   go_wp2
   go_ret
   exact ⟨ret_bool HF.out.symm, HQ.out⟩
 have g2 : (n : Int) ≤ 300 := by omega
 have HR2 := Lib.hid (show r = (decide (a = n) && decide (b ≤ 20)) from by rw [HR.out, decide_eq_true (show 1 ≤ n by omega), decide_eq_true (show n ≤ 300 by omega)]; rfl)
 have HSC := Lib.hid (HSZ.out (by omega))
 clear h1 h3 HR HSZ
 go_wp2_with fail
 refine HSC.out.mono ?_
 rintro e w2 ⟨rfl, q2⟩
 have HQ2 := Lib.hid (bl_ca HQ.out q2)
 have y0 := (HB.out.ca q2).cell 0
 simp at y0
 clear q2 x0 HSC
 by_cases h4 : a = n
 · have HR3 := Lib.hid (show r = decide (b ≤ 20) from by rw [HR2.out, decide_eq_true h4]; rfl)
   subst h4
   by_cases h5 : b ≤ 20
   · have HF := Lib.hid (show r = true from by rw [HR3.out, decide_eq_true h5])
     have g3 : (b : Int) ≤ 20 := by omega
     clear h5
     go_wp2
     go_ret
     exact ⟨ret_bool HF.out.symm, HQ2.out⟩
   · have HF := Lib.hid (show r = false from by rw [HR3.out, decide_eq_false h5])
     have g3 : decide ((b : Int) ≤ 20) = false := decide_eq_false (by omega)
     clear h5
     go_wp2
     go_ret
     exact ⟨ret_bool HF.out.symm, HQ2.out⟩
 · have HF := Lib.hid (show r = false from by rw [HR2.out, decide_eq_false h4]; rfl)
   have e1 : ((a : Int) == (n : Int)) = false := by simp; omega
   have e2 : decide ((a : Int) = (n : Int)) = false := decide_eq_false (by omega)
   have e3 : (a == n) = false := by simpa using h4
   have e4 : decide (a = n) = false := decide_eq_false h4
   clear h4
   go_wp2
   go_ret
   exact ⟨ret_bool HF.out.symm, HQ2.out⟩
set_option maxRecDepth 100000 in
set_option maxHeartbeats 4000000 in
theorem rsame_any (F G : Nat → Prop) (xs ys : List Nd) (A : Option Addr) (m c : Nat) (B : Option Addr) (n d : Nat) (w : World) (h : LN.rd w F A m xs) (k : LN.rd w G B n ys) (hm : m ≤ 9223372036854775807) :
 Calls Tryz.prog 11 #[.agg #[.slice A m c], .agg #[.slice B n d]] w fun e w' => e = .returned (.bool (decide (xs = ys))) ∧ Below w.heap.size w w' := by
 have HL := Lib.hid (And.intro (Lay.rd_len h) (Lay.rd_len k))
 have HR := Lib.hid (show decide (xs = ys) = true ↔ xs = ys from decide_eq_true_iff)
 generalize decide (xs = ys) = r at *
 have HNO := Lib.hid (show ¬ xs = ys → r = false from fun h => by cases r; rfl; exact absurd (HR.out.1 rfl) h)
 have HQ := Lib.hid (bl_al (bl_al (Below.refl w.heap.size w) (.cells #[.slice A m c] 26)) (.cells #[.slice B n d] 26))
 have HB2 := Lib.hid ((Blk.new w 26 #[.slice A m c]).alloc (.cells #[.slice B n d] 26))
 have HB3 := Lib.hid (show Blk ((w.alloc (.cells #[.slice A m c] 26)).alloc (.cells #[.slice B n d] 26)) (w.heap.size + 1) 26 #[.slice B n d] from by
  have := Blk.new (w.alloc (.cells #[.slice A m c] 26)) 26 #[.slice B n d]
  rwa [World.size_alloc] at this)
 have HRX := Lib.hid (Lay.rd_below h HQ.out)
 have HRY := Lib.hid (Lay.rd_below k HQ.out)
 clear h k
 go_enter Tryz.func11, Tryz.ntmps11
 go_upto_region 1 with fail
 generalize (w.alloc (.cells #[.slice A m c] 26)).alloc (.cells #[.slice B n d] 26) = w1 at *
 have x2 := HB2.out.cell 0
 have x3 := HB3.out.cell 0
 simp at x2 x3
 by_cases c4 : m = n
 case neg =>
  have e2 : ((m : Int) == (n : Int)) = false := by simp; omega
  have e3 : (m == n) = false := by simpa using c4
  have HQQ := Lib.hid (HNO.out (fun h => c4 (by rw [← HL.out.1, ← HL.out.2, h])))
  clear c4
  go_wp2
  go_ret
  exact ⟨ret_bool HQQ.out.symm, HQ.out⟩
 subst c4
 go_wp2_with fail
 go_loopg [16] m (fun g a wr => ∃ i : Nat, i + g = m ∧ a = .int .i64 i ∧ (∀ (k : Nat) (x y : Nd), k < i → xs[k]? = some x → ys[k]? = some y → x = y) ∧ Below w1.heap.size w1 wr)
 case atStart => exact ⟨0, by omega, rfl, fun k x y hk => by omega, Below.refl _ _⟩
 case round =>
  obtain ⟨i, hig, rfl, heq, b1⟩ := hrel
  have HEQ := Lib.hid heq
  have HB1 := Lib.hid b1
  have h5 := Lay.rd_below HRX.out b1
  have h6 := Lay.rd_below HRY.out b1
  have z2 := ce x2 b1
  have z3 := ce x3 b1
  clear heq b1
  by_cases hlt : i < m
  · have hi1 : (i : Int) < (m : Int) := by omega
    obtain ⟨p, x, hAe, hx, s1⟩ := LN_at h5 hlt
    obtain ⟨p2, y, hAe2, hy, s2⟩ := LN_at h6 hlt
    obtain rfl : A = some p := hAe
    obtain rfl : B = some p2 := hAe2
    have e0 := s1.c0
    have e1 := s1.c1
    have e2 := s1.c2
    have e3 := s1.c3
    have e4 := s1.c4
    have e5 := s1.c5
    have e6 := s1.c6
    have e7 := s1.c7
    have e8 := s1.c8
    have f0 := s2.c0
    have f1 := s2.c1
    have f2 := s2.c2
    have f3 := s2.c3
    have f4 := s2.c4
    have f5 := s2.c5
    have f6 := s2.c6
    have f7 := s2.c7
    have f8 := s2.c8
    have HX := Lib.hid hx
    have HY := Lib.hid hy
    clear hx hy s1 s2
    go_wp2_with fail
    by_cases hq : x = y
    · have HQE : ∀ W, (Op.equalIn 10000 57 (.agg #[.int .i64 x.p.tag, .int .i64 x.l, .int .i64 x.r, .int .i64 x.p.k, .int .i64 x.p.n, .int .u64 x.p.u, .string x.p.s, .string x.p.tb, .string x.p.nm]) (.agg #[.int .i64 y.p.tag, .int .i64 y.l, .int .i64 y.r, .int .i64 y.p.k, .int .i64 y.p.n, .int .u64 y.p.u, .string y.p.s, .string y.p.tb, .string y.p.nm])).run Tryz.prog W = .ok true W := fun W => by rw [run_eqND, decide_eq_true hq]
      have HN := Lib.hid (show ∀ (k : Nat) (x y : Nd), k < i + 1 → xs[k]? = some x → ys[k]? = some y → x = y from fun k x' y' hk h8 h9 => by
       rcases Nat.lt_or_ge k i with h7 | h7
       · exact HEQ.out k x' y' h7 h8 h9
       · obtain rfl : k = i := by omega
         rw [← at_eq HX.out h8, ← at_eq HY.out h9]
         exact hq)
      clear hq
      go_quiet (fail)
      go_wp2
      go_roundg (gk - 1)
      · exact ⟨i + 1, by omega, by go_num, HN.out, bl_dr HB1.out _⟩
      · omega
    · have HQE : ∀ W, (Op.equalIn 10000 57 (.agg #[.int .i64 x.p.tag, .int .i64 x.l, .int .i64 x.r, .int .i64 x.p.k, .int .i64 x.p.n, .int .u64 x.p.u, .string x.p.s, .string x.p.tb, .string x.p.nm]) (.agg #[.int .i64 y.p.tag, .int .i64 y.l, .int .i64 y.r, .int .i64 y.p.k, .int .i64 y.p.n, .int .u64 y.p.u, .string y.p.s, .string y.p.tb, .string y.p.nm])).run Tryz.prog W = .ok false W := fun W => by rw [run_eqND, decide_eq_false hq]
      have HQQ := Lib.hid (HNO.out (fun h => hq (by have h8 := HX.out; rw [h] at h8; exact at_eq h8 HY.out)))
      clear hq
      go_quiet (fail)
      go_wp2
      go_ret
      exact ⟨ret_bool HQQ.out.symm, bl_ca HQ.out (bl_dr HB1.out _)⟩
  · obtain rfl : i = m := by omega
    have hi1 : (i : Int) ≤ (i : Int) := by omega
    have HQQ := Lib.hid (HR.out.2 (list_ext_lt HL.out.1 HL.out.2 HEQ.out))
    go_wp2
    go_ret
    exact ⟨ret_bool HQQ.out.symm, bl_ca HQ.out HB1.out⟩
end Go.Proofs.YtoaggmldekejoaaGreatDoor
