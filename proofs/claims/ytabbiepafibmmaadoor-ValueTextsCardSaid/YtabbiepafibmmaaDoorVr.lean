/- The reference's Digits and Print, of every plain value. Conditions: a number of 64 bits; a text of at most 1000 bytes. -/
import Derived.Test.YtabbiepafibmmaaDoorVu
import Derived.Test.YtabbiepafibmmaaDoorBytes
import Derived.Deep.DeepCutAuto
import Derived.Deep.CutBlock
namespace Go.Proofs.YtabbiepafibmmaaDoor
open Go.RowKit
def DigI (N i m : Nat) (l : List UInt8) : Prop := (i = 0 → m = N ∧ l = []) ∧ (0 < i → Lib.decDigits N = (if m = 0 then [] else Lib.decDigits m) ++ l)
theorem dig_step {N i m : Nat} {l : List UInt8} (h : DigI N i m l) (hc : i = 0 ∨ 0 < m) : DigI N (i + 1) (m / 10) (UInt8.ofNat (48 + m % 10) :: l) := by
  refine ⟨fun h => by omega, fun _ => ?_⟩
  have e : Lib.decDigits m = (if m / 10 = 0 then [] else Lib.decDigits (m / 10)) ++ [UInt8.ofNat (48 + m % 10)] := by
    rw [Lib.decDigits]
    by_cases h1 : m < 10
    · rw [dif_pos h1, if_pos (by omega), Nat.mod_eq_of_lt h1]; rfl
    · rw [dif_neg h1, if_neg (by omega)]
  rcases Nat.eq_zero_or_pos i with h0 | h0
  · obtain ⟨rfl, rfl⟩ := h.1 h0
    exact e
  · rw [h.2 h0]
    rw [if_neg (by omega), e, List.append_assoc]; rfl
theorem run_conv_dig (z : Int) (b : UInt8) (h0 : 48 ≤ z) (h1 : z ≤ 57) (hb : b = UInt8.ofNat z.toNat) (w : World) : (convert 21 9 (.int .i32 z)).run Tryd.prog w = .ok (.string ⟨#[b]⟩) w := by
  have e : Utf8.encode z = ⟨#[b]⟩ := by
    subst hb
    obtain ⟨k, rfl⟩ : ∃ k : Nat, z = (k : Int) := ⟨z.toNat, by omega⟩
    have : k = 48 ∨ k = 49 ∨ k = 50 ∨ k = 51 ∨ k = 52 ∨ k = 53 ∨ k = 54 ∨ k = 55 ∨ k = 56 ∨ k = 57 := by omega
    rcases this with rfl | rfl | rfl | rfl | rfl | rfl | rfl | rfl | rfl | rfl <;> rfl
  simp [convert, run_underlying Tryd.underlying21, run_underlying Tryd.underlying9, Conv.intToString, e]
set_option maxRecDepth 100000 in
set_option maxHeartbeats 8000000 in
theorem digits_pos (N : Nat) (w : World) (hN : N ≤ 9223372036854775807) : Calls Tryd.prog 44 #[.int .i64 (N : Int)] w fun e w' => e = .returned (.string (bS (Lib.decDigits N))) ∧ Below w.heap.size w w' := by
  have HN := Lib.hid hN
  obtain ⟨z0, hz0⟩ : ∃ z0, z0 = (N : Int) := ⟨_, rfl⟩
  rw [← hz0]
  have HZ0 := Lib.hid hz0
  have hp0 : 0 ≤ z0 := by omega
  have hp1 : z0 ≤ 9223372036854775807 := by omega
  have hp2 : (z0 == -9223372036854775808) = false := by simp; omega
  clear hz0 hN
  go_enter Tryd.func44, Tryd.ntmps44
  go_wp2_with fail
  clear hp2
  go_loopg [0, 3] 19 (fun g a b wr => ∃ (i m : Nat) (S : ByteArray) (z : Int), i + g = 19 ∧ a = .int .i64 z ∧ b = .string S ∧ Hid (z = (m : Int) ∧ S.size ≤ i ∧ i ≤ 18 ∧ m < 10 ^ (19 - i) ∧ m ≤ 9223372036854775807 ∧ DigI N i m S.data.toList ∧ (i = 0 ∨ 0 < m)) ∧ Below w.heap.size w wr)
  case atStart => exact ⟨0, N, ⟨#[]⟩, z0, by omega, rfl, rfl, Lib.hid ⟨HZ0.out, Nat.le_refl _, by omega, Nat.lt_of_le_of_lt HN.out (by decide), HN.out, ⟨fun _ => ⟨rfl, rfl⟩, fun h => absurd h (by omega)⟩, .inl rfl⟩, Below.refl _ _⟩
  case round =>
    obtain ⟨i, m, S, z, hig, rfl, rfl, HI, hb⟩ := hrel
    have HB := Lib.hid hb
    clear hb
    have hz0 : 0 ≤ z := by rw [HI.out.1]; omega
    have hz1 : z ≤ 9223372036854775807 := by have := HI.out.2.2.2.2.1; rw [HI.out.1]; omega
    have hm0 : 0 ≤ z % 10 := by omega
    have hm1 : z % 10 ≤ 9 := by omega
    have hcv := run_conv_dig (48 + z % 10) (UInt8.ofNat (48 + m % 10)) (by omega) (by omega) (by rw [HI.out.1]; congr 1) wr
    have hS1 : S.size ≤ 100 := by have := HI.out.2.1; have := HI.out.2.2.1; omega
    have HS := Lib.hid (show (⟨#[UInt8.ofNat (48 + m % 10)]⟩ ++ S : ByteArray).data.toList = UInt8.ofNat (48 + m % 10) :: S.data.toList from by rw [ByteArray.data_append]; simp)
    have HS2 := Lib.hid (show (⟨#[UInt8.ofNat (48 + m % 10)]⟩ ++ S : ByteArray).size ≤ i + 1 from by rw [← len_data, HS.out, List.length_cons, len_data]; have := HI.out.2.1; omega)
    have hb1 : (⟨#[UInt8.ofNat (48 + m % 10)]⟩ : ByteArray).size ≤ 1 := by rw [← len_data]; exact Nat.le_refl _
    have HDI := Lib.hid (dig_step HI.out.2.2.2.2.2.1 HI.out.2.2.2.2.2.2)
    have HP := Lib.hid (show m / 10 < 10 ^ (19 - (i + 1)) from by
      have h3 := HI.out.2.2.2.1
      have h4 := HI.out.2.2.1
      rw [show 19 - i = (19 - (i + 1)) + 1 from by omega, Nat.pow_succ] at h3
      omega)
    generalize UInt8.ofNat (48 + m % 10) = b at *
    obtain ⟨zq, hzq⟩ : ∃ q, q = z / 10 := ⟨_, rfl⟩
    have HE := Lib.hid (show zq = ((m / 10 : Nat) : Int) from by rw [hzq, HI.out.1]; omega)
    have HM := HI.out.2.2.2.2.1
    by_cases h0 : zq = 0
    · have HF := Lib.hid (show ((⟨#[b]⟩ : ByteArray) ++ S) = bS (Lib.decDigits N) from bS_of (by
        have := HDI.out.2 (by omega)
        rw [if_pos (by have := HE.out; omega)] at this
        rw [HS.out, this]; rfl))
      have h0a : z / 10 = 0 := by omega
      clear hzq h0
      go_wp2
      go_ret
      exact ⟨by rw [HF.out]; rfl, HB.out⟩
    · have h0a : ¬ z / 10 = 0 := by omega
      have h0b : (z / 10 == 0) = false := by simp; omega
      have HPQ := Lib.hid (show 0 < m / 10 from by have := HE.out; omega)
      have HI18 := Lib.hid (show i + 1 ≤ 18 from by
        rcases Nat.lt_or_ge i 18 with h1 | h1
        · omega
        · have h2 := HP.out
          rw [show 19 - (i + 1) = 0 from by have := HI.out.2.2.1; omega] at h2
          have := HPQ.out
          simp at h2
          omega)
      have HZQ := Lib.hid hzq
      clear h0 hzq
      go_wp2
      go_roundg (gk - 1)
      · exact ⟨i + 1, m / 10, _, zq, by have := HI18.out; omega, by rw [HZQ.out], rfl, Lib.hid ⟨HE.out, HS2.out, HI18.out, HP.out, by omega, by rw [HS.out]; exact HDI.out, .inr HPQ.out⟩, HB.out⟩
      · have := HI18.out; omega
set_option maxRecDepth 100000 in
set_option maxHeartbeats 8000000 in
theorem digits_any (n : Int) (h0 : -9223372036854775808 ≤ n) (h1 : n ≤ 9223372036854775807) (w : World) : Calls Tryd.prog 44 #[.int .i64 n] w fun e w' => e = .returned (.string (bS (Lib.itoa n))) ∧ Below w.heap.size w w' := by
  by_cases hn : 0 ≤ n
  · obtain ⟨N, rfl⟩ : ∃ N : Nat, n = (N : Int) := ⟨n.toNat, by omega⟩
    rw [Lib.itoa_nonneg]
    exact digits_pos N w (by omega)
  · by_cases hm : n = -9223372036854775808
    · have HF := Lib.hid (show bS (Lib.itoa n) = ⟨#[45, 57, 50, 50, 51, 51, 55, 50, 48, 51, 54, 56, 53, 52, 55, 55, 53, 56, 48, 56]⟩ from by rw [hm]; decide +kernel)
      have e : (n == -9223372036854775808) = true := by simpa using hm
      clear hn hm h0 h1
      go_enter Tryd.func44, Tryd.ntmps44
      go_wp2
      go_ret
      exact ⟨by rw [HF.out]; rfl, Below.refl _ _⟩
    · obtain ⟨N, hN⟩ : ∃ N : Nat, n = -(N : Int) := ⟨n.natAbs, by omega⟩
      have HD := Lib.hid (fun w => digits_pos N w (by omega))
      have e : (n == -9223372036854775808) = false := by simpa using hm
      have e2 : decide (n < 0) = true := decide_eq_true (by omega)
      have e3 : n < 0 := by omega
      have hz0 : -n ≤ 9223372036854775807 := by omega
      have hz1 : 0 ≤ -n := by omega
      obtain ⟨z, hz⟩ : ∃ z, z = -n := ⟨_, rfl⟩
      have HZ := Lib.hid (show z = (N : Int) from by omega)
      have HI := Lib.hid (show Lib.itoa n = 45 :: Lib.decDigits N from by rw [hN]; exact Lib.itoa_neg N (by omega))
      have hL : (bS (Lib.decDigits N)).size ≤ 20 := by
        rw [← len_data, bS_data]
        exact dec_len 20 N (by omega) (Nat.lt_of_le_of_lt (show N ≤ 9223372036854775807 from by omega) (by decide))
      have HF := Lib.hid (show (⟨#[45]⟩ ++ bS (Lib.decDigits N) : ByteArray) = bS (45 :: Lib.decDigits N) from bS_of (by rw [ByteArray.data_append]; simp [bS]))
      rw [← HI.out] at HF
      clear hn hm hN h0 h1 HI
      go_enter Tryd.func44, Tryd.ntmps44
      go_wp2_with fail
      rw [← hz, HZ.out]
      refine (HD.out w).mono ?_
      rintro e w2 ⟨rfl, q2⟩
      have HQ := Lib.hid q2
      generalize bS (Lib.decDigits N) = D at *
      clear q2 hz
      go_wp2
      go_ret
      exact ⟨by rw [← HF.out]; rfl, HQ.out⟩
theorem OwnB.one_ (W : World) (x : UInt8) (v : Value) (hv : v = vb x) : OwnB (W.alloc (.cells #[v] 5)) W.heap.size (some ⟨W.heap.size, 0, none⟩) 1 1 [x] := by
  subst hv
  exact ⟨by simp, .inr ⟨W.heap.size, 1, #[vb x], rfl, Nat.le_refl _, heap_alloc_new W _, Nat.le_refl _, by unfold maxLen; omega, by simp, by simp⟩⟩
set_option maxRecDepth 100000 in
set_option maxHeartbeats 8000000 in
theorem rprint_any (k n u : Int) (s : ByteArray) (w : World) (hn : -9223372036854775808 ≤ n ∧ n ≤ 9223372036854775807) (hs : s.size ≤ 100000) : Calls Tryd.prog 15 #[.agg #[.int .i64 k, .int .i64 n, .int .u64 u, .string s]] w fun e w' => e = .returned (.string (bS ((⟨k, n, s.data.toList⟩ : LV).lit))) ∧ Below w.heap.size w w' := by
  have HQ := Lib.hid (bl_al (Below.refl w.heap.size w) (.cells #[.int .i64 k, .int .i64 n, .int .u64 u, .string s] 28))
  have HBV := Lib.hid (Blk.new w 28 #[.int .i64 k, .int .i64 n, .int .u64 u, .string s])
  have HR := Lib.hid (show (⟨k, n, s.data.toList⟩ : LV).lit = if k = 0 then [78, 85, 76, 76] else if k = 1 then (if n = 1 then [84, 82, 85, 69] else [70, 65, 76, 83, 69]) else if k = 2 then Lib.itoa n else 39 :: (quoV s.data.toList ++ [39]) from rfl)
  generalize (⟨k, n, s.data.toList⟩ : LV).lit = r at *
  by_cases h0 : k = 0
  · subst h0
    have HF := Lib.hid (show r = [78, 85, 76, 76] from by rw [HR.out]; rfl)
    clear HR hn
    go_enter Tryd.func15, Tryd.ntmps15
    go_wp2
    go_ret
    exact ⟨by rw [HF.out]; rfl, HQ.out⟩
  have k0 : (k == 0) = false := by simpa using h0
  by_cases h1 : k = 1
  · subst h1
    have HR2 := Lib.hid (show r = if n = 1 then [84, 82, 85, 69] else [70, 65, 76, 83, 69] from by rw [HR.out]; rfl)
    clear HR hn h0
    by_cases hn1 : n = 1
    · subst hn1
      have HF := Lib.hid (show r = [84, 82, 85, 69] from by rw [HR2.out]; rfl)
      clear HR2
      go_enter Tryd.func15, Tryd.ntmps15
      go_wp2
      go_ret
      exact ⟨by rw [HF.out]; rfl, HQ.out⟩
    · have n1 : (n == 1) = false := by simpa using hn1
      have HF := Lib.hid (show r = [70, 65, 76, 83, 69] from by rw [HR2.out, if_neg hn1])
      clear HR2
      go_enter Tryd.func15, Tryd.ntmps15
      go_wp2
      go_ret
      exact ⟨by rw [HF.out]; rfl, HQ.out⟩
  have k1 : (k == 1) = false := by simpa using h1
  by_cases h2 : k = 2
  · subst h2
    have HF := Lib.hid (show r = Lib.itoa n from by rw [HR.out]; rfl)
    have H := Lib.hid (fun w => digits_any n hn.1 hn.2 w)
    clear HR h0 h1 hn
    go_enter Tryd.func15, Tryd.ntmps15
    go_wp2_with fail
    refine (H.out _).mono ?_
    rintro e w2 ⟨rfl, q2⟩
    go_wp2
    go_ret
    exact ⟨by rw [HF.out]; rfl, bl_ca HQ.out q2⟩
  have k2 : (k == 2) = false := by simpa using h2
  have HF := Lib.hid (show r = 39 :: (quoV s.data.toList ++ [39]) from by rw [HR.out, if_neg h0, if_neg h1, if_neg h2])
  clear HR h0 h1 h2 hn
  have HL := Lib.hid (len_data s)
  go_enter Tryd.func15, Tryd.ntmps15
  have HS1 := Lib.hid (show (w.alloc (.cells #[.int .i64 k, .int .i64 n, .int .u64 u, .string s] 28)).heap.size = w.heap.size + 1 from World.size_alloc _ _)
  go_upto_region 11 with fail
  generalize w.alloc (.cells #[.int .i64 k, .int .i64 n, .int .u64 u, .string s] 28) = w1 at *
  have HOW := Lib.hid (OwnB.one_ w1 39 (.int .u8 39) rfl)
  have HQ1 := Lib.hid (bl_al (Below.refl w1.heap.size w1) (.cells #[.int .u8 39] 5))
  have x3 := (HBV.out.ca HQ1.out).cell 3
  simp at x3
  go_wp2_with fail
  go_loopg [3, 23] s.size (fun g a b wr => ∃ (i m c : Nat) (A : Option Addr) (l : List UInt8), i + g = s.size ∧ a = .slice A m c ∧ b = .int .i64 i ∧ OwnB wr w1.heap.size A m c l ∧ Hid (m ≤ 2 * i + 1 ∧ l = 39 :: quoV (s.data.toList.take i)) ∧ Below w1.heap.size w1 wr)
  case atStart => exact ⟨0, 1, 1, _, [39], by omega, rfl, rfl, by rw [← HS1.out]; exact HOW.out, Lib.hid ⟨Nat.le_refl _, rfl⟩, HQ1.out⟩
  case round =>
    obtain ⟨i, m, c, A, l, hig, rfl, rfl, ho, HI, bb⟩ := hrel
    have HO := Lib.hid ho
    have HBB := Lib.hid bb
    clear ho bb x3
    by_cases hlt : i < s.size
    · have hi1 : (i : Int) < (s.size : Int) := by omega
      obtain ⟨b, hb⟩ := byte_at hlt
      have hix := run_bt hb
      have HTK := Lib.hid (show quoV (s.data.toList.take (i + 1)) = quoV (s.data.toList.take i) ++ (if b = 39 then [39, 39] else [b]) from by rw [show s.data.toList.take (i + 1) = s.data.toList.take i ++ [b] from by rw [List.take_add_one, hb]; rfl, quo_snocV])
      clear hb
      have HBC := Lib.hid (show ((b.toNat : Int) = 39 → b = 39) ∧ (¬ (b.toNat : Int) = 39 → b ≠ 39) from ⟨fun h => UInt8.toNat_inj.1 (by show b.toNat = 39; omega), fun h e => h (by rw [e]; rfl)⟩)
      obtain ⟨d, hd⟩ : ∃ d, d = (b.toNat : Int) := ⟨_, rfl⟩
      have HV := Lib.hid (show Value.int .u8 d = vb b from by rw [hd]; rfl)
      rw [← hd] at hix HBC
      clear hd
      have hms : m ≤ 200001 := by have := HI.out.1; omega
      have hsz := HBB.out.size
      have y3 := (HBV.out.ca HBB.out).cell 3
      simp at y3
      go_upto_region 15 with (at_builtin; refine wpList_appB rfl (.tmp 26) (.tmp 31) rfl w1.heap.size A m c _ (some ⟨wr.heap.size, 0, none⟩) 1 1 [b] rfl rfl (HO.out.alloc _) (RdB.one wr b _ HV.out _) (by omega) (by simp only [World.size_alloc]; omega) ?_; intro A1 c1 w2 ho2 hb2)
      have HO2 := Lib.hid ho2
      have HB2 := Lib.hid (HBB.out.trans (((Below.refl _ _).alloc hsz _).trans hb2))
      have hsz2 := HB2.out.size
      have z3 := (HBV.out.ca HB2.out).cell 3
      simp at z3
      clear ho2 hb2 y3
      by_cases h39 : d = 39
      · have e1 : (d == 39) = true := by simpa using h39
        have HE := Lib.hid (HBC.out.1 h39)
        clear h39 HBC
        go_wp2_with (at_builtin; refine wpList_appB rfl (.tmp 38) (.tmp 39) rfl w1.heap.size A1 (m + 1) c1 _ (some ⟨w2.heap.size, 0, none⟩) 1 1 [39] rfl rfl (HO2.out.alloc _) (RdB.one w2 39 _ rfl _) (by omega) (by simp only [World.size_alloc]; omega) ?_; intro A2 c2 w3 ho3 hb3)
        go_roundg (gk - 1)
        · exact ⟨i + 1, m + 1 + 1, c2, A2, _, by omega, rfl, by go_num, ho3, Lib.hid ⟨by have := HI.out.1; omega, by rw [HTK.out, if_pos HE.out, HE.out, HI.out.2]; simp⟩, HB2.out.trans (((Below.refl _ _).alloc hsz2 _).trans hb3)⟩
        · omega
      · have e1 : (d == 39) = false := by simpa using h39
        have HE := Lib.hid (HBC.out.2 h39)
        clear h39 HBC
        go_wp2
        go_roundg (gk - 1)
        · exact ⟨i + 1, m + 1, c1, A1, _, by omega, rfl, by go_num, HO2.out, Lib.hid ⟨by have := HI.out.1; omega, by rw [HTK.out, if_neg HE.out, HI.out.2]; rfl⟩, HB2.out⟩
        · omega
    · obtain rfl : i = s.size := by omega
      have hi1 : (s.size : Int) ≤ (s.size : Int) := by omega
      have hms : m ≤ 200001 := by have := HI.out.1; omega
      have hsz := HBB.out.size
      have HFF := Lib.hid (show l ++ [39] = r from by rw [HI.out.2, HF.out, List.take_of_length_le (by rw [HL.out]; exact Nat.le_refl _)]; rfl)
      go_wp2_with (at_builtin; refine wpList_appB rfl (.tmp 42) (.tmp 43) rfl w1.heap.size A m c _ (some ⟨wr.heap.size, 0, none⟩) 1 1 [39] rfl rfl (HO.out.alloc _) (RdB.one wr 39 _ rfl _) (by omega) (by simp only [World.size_alloc]; omega) ?_; intro A1 c1 w2 ho2 hb2; have hcv := ho2.rd.str c1)
      go_ret
      exact ⟨by rw [← HFF.out]; rfl, bl_ca HQ.out (HBB.out.trans (((Below.refl _ _).alloc hsz _).trans hb2))⟩
end Go.Proofs.YtabbiepafibmmaaDoor
