/- The reference's number, of every text. Conditions: at most 1000 bytes. -/
import Derived.Test.YtabbiepafibmmaaDoorVr
import Derived.Test.YtabbiepafibmmaaDoorVq
namespace Go.Proofs.YtabbiepafibmmaaDoor
open Go.RowKit
/-- what number gives back -/
def nuR (s : ByteArray) : Ending := if 20 < s.size then .returned (.tuple #[.int .i64 0, .bool false]) else .returned (.tuple #[.int .i64 (numR s.data.toList), .bool (decide (Lib.itoa (numR s.data.toList) = s.data.toList))])
theorem wrap_wrI (x : Int) : wrap64 x = wrI x := by
  unfold wrI wrap64
  omega
theorem fold_snoc (l : List UInt8) (b : UInt8) (n : Int) : (l ++ [b]).foldl stepN n = stepN (l.foldl stepN n) b := by rw [List.foldl_append]; rfl
theorem take_snoc {l : List UInt8} {i : Nat} {b : UInt8} (h : l[i]? = some b) : l.take (i + 1) = l.take i ++ [b] := by rw [List.take_add_one, h]; rfl
set_option maxRecDepth 100000 in
set_option maxHeartbeats 4000000 in
theorem number_any (s : ByteArray) (hs : s.size ≤ 1000) (w : World) : Calls Tryd.prog 47 #[.string s] w fun e w' => e = nuR s ∧ Below w.heap.size w w' := by
  by_cases hl : 20 < s.size
  · have HR := Lib.hid (show nuR s = .returned (.tuple #[.int .i64 0, .bool false]) from if_pos hl)
    have h1 : (20 : Int) < (s.size : Int) := by omega
    clear hl
    go_enter Tryd.func47, Tryd.ntmps47
    go_wp2
    refine bodyPost_ret (v := .tuple #[.int .i64 0, .bool false]) (by simp [results, Tryd.results47, go_sem]) rfl ⟨HR.out.symm, Below.refl _ _⟩
  have HR := Lib.hid (show nuR s = .returned (.tuple #[.int .i64 (numR s.data.toList), .bool (decide (Lib.itoa (numR s.data.toList) = s.data.toList))]) from if_neg hl)
  have h1 : (s.size : Int) ≤ 20 := by omega
  have HN : numR s.data.toList = _ := rfl
  have HL := Lib.hid (len_data s)
  clear hs hl
  have HDG := Lib.hid (fun w => digits_any (numR s.data.toList) (numR_rng _).1 (numR_rng _).2 w)
  obtain ⟨NN, hNN⟩ : ∃ N, N = numR s.data.toList := ⟨_, rfl⟩
  rw [← hNN] at HDG HR
  have HNN := Lib.hid hNN
  have HEQ := Lib.hid (show ((bS (Lib.itoa NN)).toList == s.toList) = decide (Lib.itoa NN = s.data.toList) from by rw [toList_data, toList_data, bS_data, Bool.eq_iff_iff]; simp)
  clear hNN HN
  go_enter Tryd.func47, Tryd.ntmps47
  go_wp2_with fail
  go_loopg [4, 11] s.size (fun g a b wr => ∃ (i : Nat) (n : Int), i + g = s.size ∧ a = .int .i64 n ∧ b = .int .i64 i ∧ Hid (n = (s.data.toList.take i).foldl stepN 0) ∧ wr = w)
  case atStart => exact ⟨0, 0, by omega, rfl, rfl, Lib.hid rfl, rfl⟩
  case round =>
    obtain ⟨i, n, hig, rfl, rfl, HI, rfl⟩ := hrel
    by_cases hlt : i < s.size
    · have hi1 : (i : Int) < (s.size : Int) := by omega
      obtain ⟨b, hb⟩ := byte_at hlt
      have hix := run_bt hb
      have HST := Lib.hid (show stepN n b = (s.data.toList.take (i + 1)).foldl stepN 0 from by rw [take_snoc hb, fold_snoc, ← HI.out])
      have HB8 := Lib.hid b.toNat_lt
      have HSD := Lib.hid (show stepN n b = if 48 ≤ b.toNat ∧ b.toNat ≤ 57 then wrI (10 * n - ((b.toNat : Int) - 48)) else n from rfl)
      clear hb
      obtain ⟨d, hd⟩ : ∃ d, d = (b.toNat : Int) := ⟨_, rfl⟩
      rw [← hd] at hix HSD
      have HD := Lib.hid hd
      clear hd
      by_cases hdig : 48 ≤ d ∧ d ≤ 57
      · obtain ⟨d0, d1⟩ := hdig
        have HSE := Lib.hid (show stepN n b = wrI (10 * n - (d - 48)) from by rw [HSD.out, if_pos (by have := HD.out; omega)])
        have HW := Lib.hid (show wrap64 (wrap64 (10 * n) - (d - 48)) = stepN n b from by rw [HSE.out, wrap_wrI, wrap_wrI]; unfold wrI; omega)
        go_wp2_with fail
        go_roundg (gk - 1)
        · exact ⟨i + 1, stepN n b, by omega, congrArg (Value.int .i64) HW.out, by go_num, HST, rfl⟩
        · omega
      · have HSE := Lib.hid (show stepN n b = n from by rw [HSD.out, if_neg (by have := HD.out; omega)])
        rw [HSE.out] at HST
        by_cases h48 : 48 ≤ d
        · have h57 : 57 < d := by omega
          clear hdig
          go_wp2_with fail
          go_roundg (gk - 1)
          · exact ⟨i + 1, n, by omega, rfl, by go_num, HST, rfl⟩
          · omega
        · have h47 : d < 48 := by omega
          clear hdig h48
          go_wp2_with fail
          go_roundg (gk - 1)
          · exact ⟨i + 1, n, by omega, rfl, by go_num, HST, rfl⟩
          · omega
    · obtain rfl : i = s.size := by omega
      have hi1 : (s.size : Int) ≤ (s.size : Int) := by omega
      have HFN := Lib.hid (show n = s.data.toList.foldl stepN 0 from by rw [HI.out, List.take_of_length_le (by rw [HL.out]; exact Nat.le_refl _)])
      have HNR : numR s.data.toList = match s.data.toList with | [] => n | c :: _ => if c = 45 then n else wrI (-n) := by rw [HFN.out]; rfl
      rcases Nat.eq_zero_or_pos s.size with h0 | h0
      · have HZ := Lib.hid (show n = NN from by
          rw [HNN.out, HNR, List.eq_nil_of_length_eq_zero (HL.out.trans h0)])
        have hz : decide (0 < s.size) = false := decide_eq_false (by omega)
        have hz2 : ¬ 0 < s.size := by omega
        clear HNR h0
        obtain rfl := HZ.out
        go_wp2_with fail
        refine (HDG.out wr).mono ?_
        rintro e w2 ⟨rfl, q2⟩
        have HQ := Lib.hid q2
        have he := HEQ.out
        generalize bS (Lib.itoa n) = T at *
        generalize decide (Lib.itoa n = s.data.toList) = R at *
        clear q2
        go_wp2
        refine bodyPost_ret (v := .tuple #[.int .i64 n, .bool R]) (by simp [results, Tryd.results47, go_sem]) rfl ⟨HR.out.symm, HQ.out⟩
      · obtain ⟨b, hb⟩ := byte_at h0
        have hix : ∀ W, (Instr.index 9 (.string s) (.int .i64 0)).run Tryd.prog W = .ok (.int .u8 (b.toNat : Int)) W := run_bt hb
        have hz : decide (0 < s.size) = true := decide_eq_true h0
        have HZ := Lib.hid (show NN = if b = 45 then n else wrI (-n) from by
          rw [HNN.out, HNR]
          match h9 : s.data.toList, hb with
          | c :: r, hb => injection hb with hb; subst hb; rfl)
        clear HNR hb
        have H45 := Lib.hid (show b = 45 ↔ (b.toNat : Int) = 45 from ⟨fun e => by rw [e]; rfl, fun e => UInt8.toNat_inj.1 (by show b.toNat = 45; omega)⟩)
        generalize (b.toNat : Int) = d at *
        by_cases h45 : d = 45
        · have HZ2 := Lib.hid (show n = NN from by rw [HZ.out, if_pos (H45.out.2 h45)])
          have e : (d != 45) = false := by simpa using h45
          clear h45
          obtain rfl := HZ2.out
          go_wp2_with fail
          refine (HDG.out wr).mono ?_
          rintro e w2 ⟨rfl, q2⟩
          have HQ := Lib.hid q2
          have he := HEQ.out
          generalize bS (Lib.itoa n) = T at *
          generalize decide (Lib.itoa n = s.data.toList) = R at *
          clear q2
          go_wp2
          refine bodyPost_ret (v := .tuple #[.int .i64 n, .bool R]) (by simp [results, Tryd.results47, go_sem]) rfl ⟨HR.out.symm, HQ.out⟩
        · have HZ2 := Lib.hid (show wrI (-n) = NN from by rw [HZ.out, if_neg (fun e => h45 (H45.out.1 e))])
          have e : (d != 45) = true := by simpa using h45
          clear h45
          go_wp2_with fail
          rw [show wrap64 (-n) = NN from HZ2.out ▸ wrap_wrI (-n)]
          refine (HDG.out wr).mono ?_
          rintro e w2 ⟨rfl, q2⟩
          have HQ := Lib.hid q2
          have he := HEQ.out
          generalize bS (Lib.itoa NN) = T at *
          generalize decide (Lib.itoa NN = s.data.toList) = R at *
          clear q2
          go_wp2
          refine bodyPost_ret (v := .tuple #[.int .i64 NN, .bool R]) (by simp [results, Tryd.results47, go_sem]) rfl ⟨HR.out.symm, HQ.out⟩
end Go.Proofs.YtabbiepafibmmaaDoor
