/- The reference's Number and quoted. Conditions: texts of at most 100000 bytes. -/
import Derived.Test.YtnpicnddcoaboaaGreatDoorLxR1
namespace Go.Proofs.YtnpicnddcoaboaaGreatDoor
open Go.RowKit
theorem drop_end {l : List UInt8} {i : Nat} (h : l.length ≤ i) : l.drop i = [] := List.drop_of_length_le h
theorem len_data (s : ByteArray) : s.data.toList.length = s.size := by simp
theorem head_at {s : ByteArray} {b : UInt8} (h : s.data.toList[0]? = some b) : s.data.toList.head? = some b := by rw [List.head?_eq_getElem?]; exact h
theorem byte_inj {b : UInt8} {k : Nat} (hk : k < 256) (h : (b.toNat : Int) = (k : Int)) : b = UInt8.ofNat k := UInt8.toNat_inj.1 (by rw [UInt8.toNat_ofNat']; omega)
set_option maxRecDepth 100000 in
set_option maxHeartbeats 4000000 in
theorem rnumber_any (s : ByteArray) (w : World) (h1 : 1 ≤ s.size) (hs : s.size ≤ 100000) : Calls Tryz.prog 39 #[.string s] w fun e w' => NumE s.data.toList e ∧ w = w' := by
  have hL := len_data s
  obtain ⟨b0, hb0⟩ := byte_at (s := s) (i := 0) (by omega)
  have hix : ∀ W, (Instr.index 9 (.string s) (.int .i64 0)).run Tryz.prog W = .ok (.int .u8 (b0.toNat : Int)) W := run_bt hb0
  have HH0 := Lib.hid (head_at hb0)
  clear hb0
  by_cases h19 : 19 < s.size
  · have HF := Lib.hid (num_long (l := s.data.toList) (by omega))
    have h2 : 1 ≤ (s.size : Int) := by omega
    have h3 : 19 < (s.size : Int) := by omega
    clear hix HH0 hL
    go_enter Tryz.func39, Tryz.ntmps39
    go_wp2
    go_ret2
    exact ⟨NumE.no HF.out, rfl⟩
  have h2 : 1 ≤ (s.size : Int) := by omega
  have h3 : (s.size : Int) ≤ 19 := by omega
  obtain ⟨c0, hc0⟩ : ∃ c0, c0 = (b0.toNat : Int) := ⟨_, rfl⟩
  rw [← hc0] at hix
  have HC0 := Lib.hid hc0
  clear hc0
  have HS19 := Lib.hid (show s.size ≤ 19 by omega)
  have HL := Lib.hid hL
  clear h1 h19 hs hL
  have main : (1 < (s.size : Int) → (c0 == 48) = false) → Calls Tryz.prog 39 #[.string s] w fun e w' => NumE s.data.toList e ∧ w = w' := by
    intro hz
    have HH := Lib.hid (show s.data.toList.length = 1 ∨ s.data.toList.head? ≠ some 48 from by
      by_cases h9 : 1 < s.size
      · right
        rw [HH0.out]
        intro e
        injection e with e
        have := hz (by omega)
        rw [HC0.out, e] at this
        exact absurd this (by decide)
      · left; rw [HL.out]; omega)
    clear HH0 HC0
    have key : ∀ (_ : True), Calls Tryz.prog 39 #[.string s] w fun e w' => NumE s.data.toList e ∧ w = w' := by
      intro _
      go_enter Tryz.func39, Tryz.ntmps39
      by_cases h9 : 1 < (s.size : Int)
      all_goals
        try have h9' : (s.size : Int) ≤ 1 := by omega
        try have hz1 := hz h9
        clear hz
        go_wp2_with fail
        go_loopg [4, 5] s.size (fun g a b wr => ∃ (i : Nat) (n : Int), i + g = s.size ∧ a = .int .u64 n ∧ b = .int .i64 i ∧ Hid (n = (valU 0 (s.data.toList.take i) : Int) ∧ (s.data.toList.take i).all dgU = true ∧ s.data.toList.all dgU = (s.data.toList.drop i).all dgU) ∧ w = wr)
        case atStart => exact ⟨0, 0, by omega, rfl, rfl, Lib.hid ⟨by rw [List.take_zero, valU_nil]; rfl, rfl, by rw [List.drop_zero]⟩, rfl⟩
        case round =>
          obtain ⟨i, n, hig, rfl, rfl, HI, rfl⟩ := hrel
          clear hix
          by_cases hlt : i < s.size
          · have hi1 : (i : Int) < (s.size : Int) := by omega
            obtain ⟨b, hb⟩ := byte_at hlt
            have hix := run_bt hb
            have HT := Lib.hid (take_snoc hb)
            have HA := Lib.hid (alls_at (p := dgU) hb)
            have hn0 : 0 ≤ n := by rw [HI.out.1]; omega
            have hn1 : n ≤ 999999999999999999 := by
              have h8 := valU_lt (s.data.toList.take i) 0 0 HI.out.2.1 (by decide)
              rw [HI.out.1]
              have h7 : 10 ^ (0 + (s.data.toList.take i).length) ≤ 10 ^ 18 := Nat.pow_le_pow_right (by decide) (by rw [List.length_take]; have := HS19.out; omega)
              have h6 : (10 : Nat) ^ 18 = 1000000000000000000 := by decide
              omega
            clear hb
            have HD := Lib.hid (show dgU b = dgI (b.toNat : Int) from rfl)
            have HV := Lib.hid (show ((b.toNat - 48 : Nat) : Int) = if 48 ≤ (b.toNat : Int) then (b.toNat : Int) - 48 else 0 from by split <;> omega)
            obtain ⟨c, hc⟩ : ∃ c, c = (b.toNat : Int) := ⟨_, rfl⟩
            rw [← hc] at hix HD HV
            clear hc
            go_wp2_with fail
            refine (rdigit_any c _).mono ?_
            rintro e w2 ⟨rfl, rfl⟩
            by_cases hd : 48 ≤ c ∧ c ≤ 57
            · obtain ⟨hd1, hd2⟩ := hd
              have HDT := Lib.hid (show dgI c = true from by unfold dgI; rw [decide_eq_true hd1, decide_eq_true hd2]; rfl)
              rw [HDT.out]
              go_wp2
              go_roundg (gk - 1)
              · refine ⟨i + 1, _, by omega, rfl, by go_num, Lib.hid ⟨?_, ?_, ?_⟩, rfl⟩
                · rw [HT.out, valU_snoc]
                  have e1 := HI.out.1
                  have e2 := HV.out
                  rw [if_pos hd1] at e2
                  omega
                · rw [HT.out, List.all_append, HI.out.2.1, List.all_cons, HD.out, HDT.out]; rfl
                · rw [HI.out.2.2, HA.out, HD.out, HDT.out]; rfl
              · omega
            · have HDF := Lib.hid (show dgI c = false from by unfold dgI; rw [Bool.and_eq_false_iff, decide_eq_false_iff_not, decide_eq_false_iff_not]; omega)
              rw [HDF.out]
              have HNO := Lib.hid (num_none (l := s.data.toList) (by rw [HI.out.2.2, HA.out, HD.out, HDF.out]; simp))
              clear hd
              go_wp2
              go_ret2
              exact ⟨NumE.no HNO.out, rfl⟩
          · obtain rfl : i = s.size := by omega
            have hi1 : (s.size : Int) ≤ (s.size : Int) := by omega
            have HN := Lib.hid (show n = (valU 0 s.data.toList : Int) from by rw [HI.out.1, List.take_of_length_le (by rw [HL.out]; exact Nat.le_refl _)])
            have HALL := Lib.hid (show s.data.toList.all dgU = true from by rw [HI.out.2.2, drop_end (by rw [HL.out]; exact Nat.le_refl _)]; rfl)
            clear HI
            go_wp2
            go_ret2
            refine ⟨NumE.yes ?_ HN.out, rfl⟩
            rw [numU_iff]
            refine decide_eq_decide.2 ?_
            rw [HN.out]
            exact ⟨fun h => ⟨HALL.out, by omega, HH.out⟩, fun h => by omega⟩
    exact key trivial
  by_cases h9 : 1 < (s.size : Int)
  · by_cases hz : c0 = 48
    · have e1 : (c0 == 48) = true := by simpa using hz
      have HF := Lib.hid (num_zero (l := s.data.toList) (by rw [HL.out]; omega) (by
        rw [HH0.out]
        rw [byte_inj (b := b0) (k := 48) (by decide) (by rw [← HC0.out, hz]; rfl)]
        rfl))
      clear main hz
      go_enter Tryz.func39, Tryz.ntmps39
      go_wp2
      go_ret2
      exact ⟨NumE.no HF.out, rfl⟩
    · exact main fun _ => by simpa using hz
  · exact main fun h => absurd h h9
/-! ### quoted -/
theorem q_step {b : UInt8} (h : b ≠ 39) : ∀ r : List UInt8, qGo (b :: r) = (qGo r).map (fun p => (b :: p.1, p.2 + 1))
  | [] => by
    show (if b = 39 then _ else _) = _
    rw [if_neg h]
    rfl
  | c :: r => by rw [qGo, if_pos h]
theorem q_two (r : List UInt8) : qGo (39 :: 39 :: r) = (qGo r).map (fun p => (39 :: p.1, p.2 + 2)) := by rw [qGo, if_neg (by simp), if_pos rfl]
theorem q_end : ∀ r : List UInt8, (∀ c x, r = c :: x → c ≠ 39) → qGo (39 :: r) = some ([], 1)
  | [], _ => rfl
  | c :: r, h => by rw [qGo, if_neg (by simp), if_neg (h c r rfl)]
theorem ext_one {s : ByteArray} {i : Nat} {b : UInt8} (h : s.data.toList[i]? = some b) : (s.extract i (i + 1)).data.toList = [b] := by
  rw [Lib.extract_data, show i + 1 - i = 1 from by omega, List.take_one, List.head?_drop, h]
  rfl
/-- what quoted returns: the text, where it ends, whether it may be -/
def QuoE (l : List UInt8) (p : Nat) (e : Ending) : Prop :=
  match qGo l with
  | none => e = .returned (.tuple #[.string (bS []), .int .i64 0, .bool false])
  | some (t, k) => e = .returned (.tuple #[.string (bS t), .int .i64 ((p + k : Nat) : Int), .bool (plainU t)])
theorem QuoE.none {l : List UInt8} {p : Nat} (h : qGo l = none) : QuoE l p (.returned (.tuple #[.string ⟨#[]⟩, .int .i64 0, .bool false])) := by unfold QuoE; rw [h]
theorem QuoE.some {l t : List UInt8} {p k : Nat} {S : ByteArray} {x : Int} {b : Bool} (h : qGo l = some (t, k)) (hS : S.data.toList = t) (hx : x = ((p + k : Nat) : Int)) (hb : b = plainU t) : QuoE l p (.returned (.tuple #[.string S, .int .i64 x, .bool b])) := by
  unfold QuoE
  rw [h]
  simp only
  rw [hx, hb, ← hS]
set_option maxRecDepth 100000 in
set_option maxHeartbeats 4000000 in
theorem rquoted_any (s : ByteArray) (p : Nat) (w : World) (hp : p < s.size) (hs : s.size ≤ 100000) : Calls Tryz.prog 37 #[.string s, .int .i64 (p : Int)] w fun e w' => QuoE (s.data.toList.drop (p + 1)) (p + 1) e ∧ w = w' := by
  have HL := Lib.hid (len_data s)
  go_enter Tryz.func37, Tryz.ntmps37
  go_wp2_with fail
  go_loopg [7, 8] (s.size - (p + 1)) (fun g a b wr => ∃ (S : ByteArray) (i : Nat), i + g = s.size ∧ a = .string S ∧ b = .int .i64 i ∧ Hid (p + 1 ≤ i ∧ S.size ≤ i ∧ qGo (s.data.toList.drop (p + 1)) = (qGo (s.data.toList.drop i)).map (fun q => (S.data.toList ++ q.1, q.2 + (i - (p + 1))))) ∧ w = wr)
  case atStart =>
    refine ⟨⟨#[]⟩, p + 1, by omega, rfl, by go_num, Lib.hid ⟨Nat.le_refl _, Nat.zero_le _, ?_⟩, rfl⟩
    cases qGo (s.data.toList.drop (p + 1)) <;> simp
  case round =>
    obtain ⟨S, i, hig, rfl, rfl, HI, rfl⟩ := hrel
    by_cases hlt : i < s.size
    · have hi1 : (i : Int) < (s.size : Int) := by omega
      obtain ⟨b, hb⟩ := byte_at hlt
      have hix := run_bt hb
      have HB := Lib.hid (drop_at hb)
      have HX := Lib.hid (ext_one hb)
      clear hb
      have HBB := Lib.hid (show ((b.toNat : Int) = 39 → b = 39) ∧ (¬ (b.toNat : Int) = 39 → b ≠ 39) from ⟨fun h => byte_inj (k := 39) (by decide) h, fun h e => h (by rw [e]; rfl)⟩)
      obtain ⟨c, hc⟩ : ∃ c, c = (b.toNat : Int) := ⟨_, rfl⟩
      rw [← hc] at hix HBB
      clear hc
      by_cases h39 : c = 39
      · have hb39 := HBB.out.1 h39
        have e1 : (c == 39) = true := by simpa using h39
        rw [hb39] at HB HX
        clear h39 HBB hb39
        by_cases hlt2 : i + 1 < s.size
        · have hi2 : (i : Int) + 1 < (s.size : Int) := by omega
          obtain ⟨b2, hb2⟩ := byte_at hlt2
          have hix2 : ∀ W, (Instr.index 9 (.string s) (.int .i64 ((i : Int) + 1))).run Tryz.prog W = .ok (.int .u8 (b2.toNat : Int)) W := fun W => by have := run_bt hb2 W; rwa [show ((i + 1 : Nat) : Int) = (i : Int) + 1 from by omega] at this
          have HB2 := Lib.hid (drop_at hb2)
          have HX2 := Lib.hid (ext_one hb2)
          clear hb2
          have HBB := Lib.hid (show ((b2.toNat : Int) = 39 → b2 = 39) ∧ (¬ (b2.toNat : Int) = 39 → b2 ≠ 39) from ⟨fun h => byte_inj (k := 39) (by decide) h, fun h e => h (by rw [e]; rfl)⟩)
          obtain ⟨c2, hc2⟩ : ∃ c2, c2 = (b2.toNat : Int) := ⟨_, rfl⟩
          rw [← hc2] at hix2 HBB
          clear hc2
          by_cases h39 : c2 = 39
          · have hb39 := HBB.out.1 h39
            have e2 : (c2 == 39) = true := by simpa using h39
            have e3 : (c2 != 39) = false := by simpa using h39
            rw [hb39] at HB2 HX2
            clear h39 HBB hb39
            have hS1 : S.size ≤ 100000 := by have := HI.out.2.1; omega
            have hS2 : (s.extract (i + 1) (i + 1 + 1)).size ≤ 1 := by rw [← len_data, HX2.out]; exact Nat.le_refl _
            go_wp2
            go_roundg (gk - 2)
            · refine ⟨S ++ s.extract (i + 1) (i + 1 + 1), i + 2, by omega, rfl, by go_num, Lib.hid ⟨by have := HI.out.1; omega, ?_, ?_⟩, rfl⟩
              · have h8 := HI.out.2.1
                rw [ByteArray.size_append, ← len_data (s.extract _ _), HX2.out]
                simp only [List.length_cons, List.length_nil]
                omega
              · have h9 := HI.out.1
                rw [HI.out.2.2, HB.out, HB2.out, q_two, Option.map_map]
                congr 1
                funext q
                simp only [Function.comp, ByteArray.data_append, Array.toList_append, HX2.out, List.append_assoc, List.singleton_append, Prod.mk.injEq, true_and]
                omega
            · omega
          · have e2 : (c2 == 39) = false := by simpa using h39
            have e3 : (c2 != 39) = true := by simpa using h39
            have HE := Lib.hid (q_end (s.data.toList.drop (i + 1)) (by rw [HB2.out]; intro c x e; cases e; exact HBB.out.2 h39))
            clear h39 HBB
            have hSs := HI.out.2.1
            go_wp2_with fail
            refine (rplain_any S _ (by omega)).mono ?_
            rintro e w2 ⟨rfl, rfl⟩
            clear hSs
            go_wp2
            go_ret3
            have h9 := HI.out.1
            exact ⟨QuoE.some (t := S.data.toList) (k := 1 + (i - (p + 1))) (by rw [HI.out.2.2, HB.out, HE.out]; simp) rfl (by omega) rfl, rfl⟩
        · have hi2 : (s.size : Int) ≤ (i : Int) + 1 := by omega
          have HE := Lib.hid (q_end (s.data.toList.drop (i + 1)) (by rw [drop_end (by rw [HL.out]; omega)]; intro c x e; cases e))
          have hSs := HI.out.2.1
          clear hlt2
          go_wp2_with fail
          refine (rplain_any S _ (by omega)).mono ?_
          rintro e w2 ⟨rfl, rfl⟩
          clear hSs
          go_wp2
          go_ret3
          have h9 := HI.out.1
          exact ⟨QuoE.some (t := S.data.toList) (k := 1 + (i - (p + 1))) (by rw [HI.out.2.2, HB.out, HE.out]; simp) rfl (by omega) rfl, rfl⟩
      · have e1 : (c == 39) = false := by simpa using h39
        have HN := Lib.hid (HBB.out.2 h39)
        clear h39 HBB
        have hS1 : S.size ≤ 100000 := by have := HI.out.2.1; omega
        have hS2 : (s.extract i (i + 1)).size ≤ 1 := by rw [← len_data, HX.out]; exact Nat.le_refl _
        go_wp2
        go_roundg (gk - 1)
        · refine ⟨S ++ s.extract i (i + 1), i + 1, by omega, rfl, by go_num, Lib.hid ⟨by have := HI.out.1; omega, ?_, ?_⟩, rfl⟩
          · have h8 := HI.out.2.1
            rw [ByteArray.size_append, ← len_data (s.extract _ _), HX.out]
            simp only [List.length_cons, List.length_nil]
            omega
          · have h9 := HI.out.1
            rw [HI.out.2.2, HB.out, q_step HN.out, Option.map_map]
            congr 1
            funext q
            simp only [Function.comp, ByteArray.data_append, Array.toList_append, HX.out, List.append_assoc, List.singleton_append, Prod.mk.injEq, true_and]
            omega
        · omega
    · obtain rfl : i = s.size := by omega
      have hi1 : (s.size : Int) ≤ (s.size : Int) := by omega
      have HE := Lib.hid (show qGo (s.data.toList.drop (p + 1)) = none from by rw [HI.out.2.2, drop_end (by rw [HL.out]; exact Nat.le_refl _)]; rfl)
      clear HI
      go_wp2
      go_ret3
      exact ⟨QuoE.none HE.out, rfl⟩
end Go.Proofs.YtnpicnddcoaboaaGreatDoor
