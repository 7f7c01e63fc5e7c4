/- The reference's digits, Written. Conditions: texts of at most 1000 bytes. -/
import Derived.Test.YtnpicnddcoaboaaGreatDoorLxR6
namespace Go.Proofs.YtnpicnddcoaboaaGreatDoor
open Go.RowKit
def DigI (N i m : Nat) (l : List UInt8) : Prop := (i = 0 → m = N ∧ l = []) ∧ (0 < i → Lib.decDigits N = (if m = 0 then [] else Lib.decDigits m) ++ l)
theorem dig_step {N i m : Nat} {l : List UInt8} (h : DigI N i m l) (hc : i = 0 ∨ 0 < m) : DigI N (i + 1) (m / 10) (UInt8.ofNat (48 + m % 10) :: l) := by
  refine ⟨fun h => by omega, fun _ => ?_⟩
  have e : Lib.decDigits m = (if m / 10 = 0 then [] else Lib.decDigits (m / 10)) ++ [UInt8.ofNat (48 + m % 10)] := by
    rw [Lib.decDigits]
    by_cases h1 : m < 10
    · rw [dif_pos h1, if_pos (by omega), Nat.mod_eq_of_lt h1]; rfl
    · rw [dif_neg h1, if_neg (by omega)]
  rcases Nat.eq_zero_or_pos i with h0 | h0
  · obtain ⟨rfl, rfl⟩ := h.1 h0
    exact e
  · rw [h.2 h0]
    rw [if_neg (by omega), e, List.append_assoc]; rfl
set_option maxRecDepth 100000 in
set_option maxHeartbeats 8000000 in
theorem rdigits_any (N : Nat) (w : World) (hN : N < 18446744073709551616) : Calls Tryz.prog 50 #[.int .u64 (N : Int)] w fun e w' => e = .returned (.string (bS (Lib.decDigits N))) ∧ Below w.heap.size w w' := by
  have HN := Lib.hid hN
  obtain ⟨z0, hz0⟩ : ∃ z0, z0 = (N : Int) := ⟨_, rfl⟩
  rw [← hz0]
  have HZ0 := Lib.hid hz0
  clear hz0 hN
  go_enter Tryz.func50, Tryz.ntmps50
  go_wp2_with fail
  go_loopg [0, 3, 4] 21 (fun g a b c wr => ∃ (i m : Nat) (S : ByteArray) (z : Int), i + g = 21 ∧ a = .int .u64 z ∧ b = .string S ∧ c = .int .i64 i ∧ Hid (z = (m : Int) ∧ S.size ≤ i ∧ i ≤ 20 ∧ m < 10 ^ (20 - i) ∧ m < 18446744073709551616 ∧ DigI N i m S.data.toList) ∧ Below w.heap.size w wr)
  case atStart => exact ⟨0, N, ⟨#[]⟩, z0, by omega, rfl, rfl, rfl, Lib.hid ⟨HZ0.out, Nat.le_refl _, by omega, Nat.lt_of_lt_of_le HN.out (by decide), HN.out, ⟨fun _ => ⟨rfl, rfl⟩, fun h => absurd h (by omega)⟩⟩, Below.refl _ _⟩
  case round =>
    obtain ⟨i, m, S, z, hig, rfl, rfl, rfl, HI, hb⟩ := hrel
    have HB := Lib.hid hb
    clear hb
    have hz0 : 0 ≤ z := by rw [HI.out.1]; omega
    have hz1 : z ≤ 18446744073709551615 := by have := HI.out.2.2.2.2.1; rw [HI.out.1]; omega
    by_cases hc : i = 0 ∨ 0 < m
    · have HC := Lib.hid hc
      have hi20 : i < 20 := by
        rcases Nat.lt_or_ge i 20 with h1 | h1
        · exact h1
        · have h2 := HI.out.2.2.1
          have h3 := HI.out.2.2.2.1
          have h4 : i = 20 := by omega
          subst h4
          simp only [Nat.sub_self, Nat.pow_zero] at h3
          omega
      have hi1 : (i : Int) < 20 := by omega
      have hg : (decide (0 < z) || ((i : Int) == 0)) = true := by
        rcases hc with h | h
        · subst h; simp
        · rw [decide_eq_true (by rw [HI.out.1]; omega)]; rfl
      clear hc
      have hm0 : 0 ≤ z % 10 := by omega
      have hm1 : z % 10 ≤ 9 := by omega
      have HV := Lib.hid (show Value.int .u8 (48 + z % 10) = vb (UInt8.ofNat (48 + m % 10)) from by
        unfold vb
        rw [dig_nat (Nat.mod_lt _ (by omega)), HI.out.1]
        congr 1)
      have hcv := (RdB.one wr (UInt8.ofNat (48 + m % 10)) (.int .u8 (48 + z % 10)) HV.out 5).str 1
      have hS1 : S.size ≤ 100 := by have := HI.out.2.1; omega
      have HS := Lib.hid (show (⟨[UInt8.ofNat (48 + m % 10)].toArray⟩ ++ S : ByteArray).data.toList = UInt8.ofNat (48 + m % 10) :: S.data.toList from by rw [ByteArray.data_append]; simp)
      have HS2 := Lib.hid (show (⟨[UInt8.ofNat (48 + m % 10)].toArray⟩ ++ S : ByteArray).size ≤ i + 1 from by rw [← len_data, HS.out, List.length_cons, len_data]; have := HI.out.2.1; omega)
      have hb1 : (⟨[UInt8.ofNat (48 + m % 10)].toArray⟩ : ByteArray).size ≤ 1 := by rw [← len_data]; exact Nat.le_refl _
      have HBA := Lib.hid (bl_al HB.out (.cells #[.int .u8 (48 + z % 10)] 5))
      have HDI := Lib.hid (dig_step HI.out.2.2.2.2.2 HC.out)
      have HP := Lib.hid (show m / 10 < 10 ^ (20 - (i + 1)) from by
        have h3 := HI.out.2.2.2.1
        rw [show 20 - i = (20 - (i + 1)) + 1 from by omega, Nat.pow_succ] at h3
        omega)
      generalize UInt8.ofNat (48 + m % 10) = b at *
      have HE := Lib.hid (show ∀ z', z' = z / 10 → z' = ((m / 10 : Nat) : Int) ∧ (i + 1 ≤ 20) ∧ m / 10 < 18446744073709551616 from fun z' h => ⟨by rw [h, HI.out.1]; omega, by omega, by have := HI.out.2.2.2.2.1; omega⟩)
      by_cases h0 : 0 < z
      · go_wp2
        go_roundg (gk - 1)
        · exact ⟨i + 1, m / 10, _, z / 10, by omega, rfl, rfl, by go_num, Lib.hid ⟨(HE.out _ rfl).1, HS2.out, (HE.out _ rfl).2.1, HP.out, (HE.out _ rfl).2.2, by rw [HS.out]; exact HDI.out⟩, HBA.out⟩
        · omega
      · have i0 : ((i : Int) == 0) = true := by
          rcases HC.out with h | h
          · subst h; rfl
          · exact absurd (show 0 < z by rw [HI.out.1]; omega) h0
        have h0' : z ≤ 0 := by omega
        clear h0
        go_wp2
        go_roundg (gk - 1)
        · exact ⟨i + 1, m / 10, _, z / 10, by omega, rfl, rfl, by go_num, Lib.hid ⟨(HE.out _ rfl).1, HS2.out, (HE.out _ rfl).2.1, HP.out, (HE.out _ rfl).2.2, by rw [HS.out]; exact HDI.out⟩, HBA.out⟩
        · omega
    · have hm0 : m = 0 := by omega
      have hz : z = 0 := by rw [HI.out.1, hm0]; rfl
      subst hz
      have hi0 : 0 < i := by omega
      have HF := Lib.hid (show S = bS (Lib.decDigits N) from bS_of (by rw [HI.out.2.2.2.2.2.2 hi0, if_pos hm0]; rfl))
      have i0 : ((i : Int) == 0) = false := by simp; omega
      clear HI hc hm0 hz0 hz1
      go_wp2
      all_goals
        go_ret
        exact ⟨by rw [HF.out]; rfl, HB.out⟩
theorem quo_snoc (l : List UInt8) (b : UInt8) : quoU (l ++ [b]) = quoU l ++ (if b = 39 then [39, 39] else [b]) := by unfold quoU; rw [List.flatMap_append]; simp
theorem quo_len : ∀ l : List UInt8, (quoU l).length ≤ 2 * l.length
  | [] => by simp [quoU]
  | b :: l => by
    have := quo_len l
    rw [show quoU (b :: l) = (if b = 39 then [39, 39] else [b]) ++ quoU l from by unfold quoU; rw [List.flatMap_cons]]
    rw [List.length_append, List.length_cons]
    split <;> simp only [List.length_cons, List.length_nil] <;> omega
theorem app_data (a b : ByteArray) : (a ++ b).data.toList = a.data.toList ++ b.data.toList := by rw [ByteArray.data_append, Array.toList_append]
theorem app_size (a b : ByteArray) : (a ++ b).size = a.size + b.size := ByteArray.size_append
theorem dec_len {n : Nat} (h : n < 18446744073709551616) : (Lib.decDigits n).length ≤ 21 := by
  have key : ∀ (k n : Nat), n < 10 ^ k → (Lib.decDigits n).length ≤ k + 1 := by
    intro k
    induction k with
    | zero => intro n hn; rw [Lib.decDigits, dif_pos (by omega)]; simp
    | succ k ih =>
      intro n hn
      rw [Lib.decDigits]
      by_cases h1 : n < 10
      · rw [dif_pos h1]; simp
      · rw [dif_neg h1, List.length_append]
        have := ih (n / 10) (by rw [Nat.pow_succ] at hn; omega)
        simp only [List.length_cons, List.length_nil]
        omega
  exact key 20 n (Nat.lt_of_lt_of_le h (by decide))
theorem wr_len {t : Tk} (h : t.text.length ≤ 1000) (hn : t.n < 18446744073709551616) : (wrU t).length ≤ 2002 := by
  unfold wrU
  have h1 := dec_len hn
  have h2 := quo_len t.text
  split
  · omega
  · split
    · simp only [List.length_cons, List.length_append, List.length_nil]; omega
    · omega
set_option maxRecDepth 100000 in
set_option maxHeartbeats 8000000 in
theorem rwritten_any (k a : Int) (l : List UInt8) (n : Nat) (w : World) (hl : l.length ≤ 1000) (hn : n < 18446744073709551616) : Calls Tryz.prog 27 #[.agg #[.int .i64 k, .int .i64 a, .string (bS l), .int .u64 (n : Int)]] w fun e w' => e = .returned (.string (bS (wrU ⟨k, a, l, n⟩))) ∧ Below w.heap.size w w' := by
  have HQ := Lib.hid (bl_al (Below.refl w.heap.size w) (.cells #[.int .i64 k, .int .i64 a, .string (bS l), .int .u64 (n : Int)] 29))
  have HR := Lib.hid (show wrU ⟨k, a, l, n⟩ = if k = 3 then Lib.decDigits n else if k = 4 then 39 :: (quoU l ++ [39]) else l from rfl)
  generalize wrU ⟨k, a, l, n⟩ = r at *
  by_cases h3 : k = 3
  · subst h3
    have HF := Lib.hid (show r = Lib.decDigits n from by rw [HR.out]; rfl)
    clear HR
    have H := Lib.hid (fun w => rdigits_any n w hn)
    clear hn hl
    go_enter Tryz.func27, Tryz.ntmps27
    go_wp2_with fail
    refine (H.out _).mono ?_
    rintro e w2 ⟨rfl, q2⟩
    go_wp2
    go_ret
    exact ⟨by rw [HF.out]; rfl, bl_ca HQ.out q2⟩
  have k3 : (k == 3) = false := by simpa using h3
  by_cases h4 : k = 4
  case neg =>
    have k4 : (k == 4) = false := by simpa using h4
    have k4' : (k != 4) = true := by simpa using h4
    have HF := Lib.hid (show r = l from by rw [HR.out, if_neg h3, if_neg h4])
    clear h3 h4 HR
    go_enter Tryz.func27, Tryz.ntmps27
    go_wp2
    go_ret
    exact ⟨by rw [HF.out]; rfl, HQ.out⟩
  subst h4
  have HF := Lib.hid (show r = 39 :: (quoU l ++ [39]) from by rw [HR.out]; rfl)
  have HSZ := Lib.hid (show (bS l).size ≤ 1000 from by rw [← len_data]; exact hl)
  have HL := Lib.hid (len_data (bS l))
  have HDT := Lib.hid (show (bS l).data.toList = l from rfl)
  obtain ⟨T, hT⟩ : ∃ T, T = bS l := ⟨_, rfl⟩
  rw [← hT] at HQ HSZ HL HDT ⊢
  rw [HDT.out] at HL
  clear hT HR h3 k3
  have hsz := HSZ.out
  go_enter Tryz.func27, Tryz.ntmps27
  go_wp2_with fail
  go_loopg [3, 4] T.size (fun g a' b wr => ∃ (i : Nat) (S : ByteArray), i + g = T.size ∧ a' = .string S ∧ b = .int .i64 i ∧ Hid (S.size ≤ 2 * i + 1 ∧ S.data.toList = 39 :: quoU (l.take i)) ∧ w.alloc (.cells #[.int .i64 4, .int .i64 a, .string T, .int .u64 (n : Int)] 29) = wr)
  case atStart => exact ⟨0, ⟨#[39]⟩, by omega, rfl, rfl, Lib.hid ⟨Nat.le_refl _, rfl⟩, rfl⟩
  case round =>
    obtain ⟨i, S, hig, rfl, rfl, HI, rfl⟩ := hrel
    by_cases hlt : i < T.size
    · have hi1 : (i : Int) < (T.size : Int) := by omega
      obtain ⟨b, hb⟩ := byte_at hlt
      have hix := run_bt hb
      have HX := Lib.hid (ext_one hb)
      have HTK := Lib.hid (show quoU (l.take (i + 1)) = quoU (l.take i) ++ (if b = 39 then [39, 39] else [b]) from by rw [← HDT.out, take_snoc hb, quo_snoc])
      clear hb
      have HBB := Lib.hid (show ((b.toNat : Int) = 39 → b = 39) ∧ (¬ (b.toNat : Int) = 39 → b ≠ 39) from ⟨fun h => byte_inj (k := 39) (by decide) h, fun h e => h (by rw [e]; rfl)⟩)
      obtain ⟨c, hc⟩ : ∃ c, c = (b.toNat : Int) := ⟨_, rfl⟩
      rw [← hc] at hix HBB
      clear hc
      have hS1 : S.size ≤ 2001 := by have := HI.out.1; omega
      have hS2 : (T.extract i (i + 1)).size ≤ 1 := by rw [← len_data, HX.out]; exact Nat.le_refl _
      have HSS := Lib.hid (show (S ++ T.extract i (i + 1)).size ≤ 2 * i + 2 from by rw [app_size]; have := HI.out.1; omega)
      have HSD := Lib.hid (show (S ++ T.extract i (i + 1)).data.toList = 39 :: (quoU (l.take i) ++ [b]) from by rw [app_data, HX.out, HI.out.2]; rfl)
      have hS3 : (S ++ T.extract i (i + 1)).size ≤ 3000 := by have := HSS.out; omega
      by_cases h39 : c = 39
      · have e1 : (c == 39) = true := by simpa using h39
        have HE := Lib.hid (HBB.out.1 h39)
        clear h39 HBB
        go_wp2
        go_roundg (gk - 1)
        · exact ⟨i + 1, _, by omega, rfl, by go_num, Lib.hid ⟨by rw [app_size]; have := HSS.out; have h1 : (⟨#[39]⟩ : ByteArray).size = 1 := rfl; omega, by rw [app_data, HSD.out, HTK.out, if_pos HE.out, HE.out]; simp⟩, rfl⟩
        · omega
      · have e1 : (c == 39) = false := by simpa using h39
        have HE := Lib.hid (HBB.out.2 h39)
        clear h39 HBB
        go_wp2
        go_roundg (gk - 1)
        · exact ⟨i + 1, _, by omega, rfl, by go_num, Lib.hid ⟨by have := HSS.out; omega, by rw [HSD.out, HTK.out, if_neg HE.out]⟩, rfl⟩
        · omega
    · obtain rfl : i = T.size := by omega
      have hi1 : (T.size : Int) ≤ (T.size : Int) := by omega
      have hS1 : S.size ≤ 3000 := by have := HI.out.1; omega
      have HFIN := Lib.hid (show S ++ ⟨#[39]⟩ = bS r from bS_of (by rw [app_data, HI.out.2, HF.out, List.take_of_length_le (by rw [HL.out]; exact Nat.le_refl _)]; rfl))
      go_wp2
      go_ret
      exact ⟨by rw [← HFIN.out]; rfl, HQ.out⟩
theorem joinU_snoc : ∀ (l : List Tk) (t : Tk), joinU (l ++ [t]) = (if l = [] then [] else joinU l ++ [32]) ++ wrU t
  | [], t => by simp [joinU]
  | [u], t => by simp [joinU]
  | u :: v :: l, t => by
    have ih := joinU_snoc (v :: l) t
    rw [if_neg (by simp)] at ih
    rw [if_neg (by simp), List.cons_append, List.cons_append, joinU, ← List.cons_append, ih]
    rw [joinU]
    simp
set_option maxRecDepth 100000 in
set_option maxHeartbeats 8000000 in
theorem rprint_any (A : Option Addr) (m c : Nat) (l : List Tk) (w : World) (h : LT.rd w AllB A m l) (hm : m ≤ 300) (ht : ∀ t ∈ l, t.text.length ≤ 1000 ∧ t.n < 18446744073709551616) : Calls Tryz.prog 13 #[.slice A m c] w fun e w' => e = .returned (.string (bS (joinU l))) ∧ Below w.heap.size w w' := by
  have HL := Lib.hid (Lay.rd_len h)
  have HRD := Lib.hid h
  have HT := Lib.hid ht
  clear h ht
  go_enter Tryz.func13, Tryz.ntmps13
  go_wp2_with fail
  go_loopg [3, 4] m (fun g a b wr => ∃ (i : Nat) (S : ByteArray), i + g = m ∧ a = .string S ∧ b = .int .i64 i ∧ Hid (S.size ≤ 2003 * i ∧ S.data.toList = joinU (l.take i)) ∧ Below w.heap.size w wr)
  case atStart => exact ⟨0, ⟨#[]⟩, by omega, rfl, rfl, Lib.hid ⟨Nat.le_refl _, rfl⟩, Below.refl _ _⟩
  case round =>
    obtain ⟨i, S, hig, rfl, rfl, HI, hb⟩ := hrel
    have HB := Lib.hid hb
    by_cases hlt : i < m
    · have hi1 : (i : Int) < (m : Int) := by omega
      obtain ⟨ad, t, rfl, hx, st⟩ := LT_at (Lay.rd_below HRD.out hb) hlt
      have e0 := st.c0
      have e1 := st.c1
      have e2 := st.c2
      have e3 := st.c3
      have HX := Lib.hid hx
      have HTT := Lib.hid (HT.out t (List.mem_of_getElem? hx))
      have HTK := Lib.hid (show l.take (i + 1) = l.take i ++ [t] from by rw [List.take_add_one, hx]; rfl)
      clear st hx hb
      obtain ⟨k, a, tx, n⟩ := t
      have HW := Lib.hid (wr_len HTT.out.1 HTT.out.2)
      have hS1 : S.size ≤ 600900 := by have := HI.out.1; omega
      have hS2 : (bS (wrU ⟨k, a, tx, n⟩)).size ≤ 2002 := by rw [← len_data]; exact HW.out
      by_cases h0 : 0 < i
      · have hi0 : 0 < (i : Int) := by omega
        have HSP := Lib.hid (app_data S ⟨#[32]⟩)
        have hS3 : (S ++ ⟨#[32]⟩ : ByteArray).size ≤ 600901 := by rw [app_size]; have h1 : (⟨#[32]⟩ : ByteArray).size = 1 := rfl; omega
        have HSS := Lib.hid (show (S ++ ⟨#[32]⟩ : ByteArray).size ≤ 2003 * i + 1 from by rw [app_size]; have h1 : (⟨#[32]⟩ : ByteArray).size = 1 := rfl; have := HI.out.1; omega)
        go_wp2_with fail
        refine (rwritten_any k a tx n _ HTT.out.1 HTT.out.2).mono ?_
        rintro e w2 ⟨rfl, q2⟩
        clear e0 e1 e2 e3
        go_wp2
        go_roundg (gk - 1)
        · exact ⟨i + 1, _, by omega, rfl, by go_num, Lib.hid ⟨by rw [app_size]; have := HSS.out; omega, by rw [app_data, HSP.out, HTK.out, joinU_snoc, if_neg (by intro e9; have e8 := congrArg List.length e9; rw [List.length_take, HL.out] at e8; simp only [List.length_nil] at e8; omega), HI.out.2]⟩, bl_ca HB.out q2⟩
        · omega
      · have HI0 := Lib.hid (show i = 0 by omega)
        have hi0 : (i : Int) ≤ 0 := by omega
        clear h0
        go_wp2_with fail
        refine (rwritten_any k a tx n _ HTT.out.1 HTT.out.2).mono ?_
        rintro e w2 ⟨rfl, q2⟩
        clear e0 e1 e2 e3
        go_wp2
        go_roundg (gk - 1)
        · exact ⟨i + 1, _, by omega, rfl, by go_num, Lib.hid ⟨by rw [app_size]; have := HI.out.1; omega, by rw [app_data, HTK.out, joinU_snoc, if_pos (by rw [HI0.out, List.take_zero]), HI.out.2, HI0.out]; rfl⟩, bl_ca HB.out q2⟩
        · omega
    · obtain rfl : i = m := by omega
      have hi1 : (i : Int) ≤ (i : Int) := by omega
      have HFIN := Lib.hid (show S = bS (joinU l) from bS_of (by rw [HI.out.2, List.take_of_length_le (by rw [HL.out]; exact Nat.le_refl _)]))
      clear hb
      go_wp2
      go_ret
      exact ⟨by rw [HFIN.out]; rfl, HB.out⟩
end Go.Proofs.YtnpicnddcoaboaaGreatDoor
