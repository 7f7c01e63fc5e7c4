/- bowspritref03.Sum32 (bit by bit) answers the checksum. Conditions: the slice reads as these bytes, its length within what a row lets in. -/
import Derived.Test.YtdmfbmpllfkcaaaSame
namespace Go.Proofs.Ytdmfbmpllfkcaaa
open Go.RowKit
set_option maxHeartbeats 1000000 in
theorem bit_any (r : Nat) (one : Bool) (w : World) (hr : r < 4294967296) :
    Calls Try.prog 53 #[.int .u32 (r : Nat), .bool one] w fun e w' => e = .returned (.int .u32 (Crc.bit r one : Nat)) ∧ w = w' := by
  have hx := Lib.hid (bits_xor32 (r / 2) 2197175160 (by omega) (by decide))
  have h2 : r % 2 = 0 ∨ r % 2 = 1 := by omega
  rcases h2 with h2 | h2 <;> cases one
  · have ht : ((r : Int) % 2 == 1) = false := by rw [beq_eq_false_iff_ne]; omega
    have hv := Lib.hid (show Crc.bit r false = r / 2 from by unfold Crc.bit; rw [h2]; rfl)
    clear h2
    go_enter Try.func53, Try.ntmps53
    go_wp2
    go_ret
    exact ⟨ret_int (by rw [hv.out]; rfl), rfl⟩
  · have ht : ((r : Int) % 2 == 1) = false := by rw [beq_eq_false_iff_ne]; omega
    have hv := Lib.hid (show Crc.bit r true = (r / 2) ^^^ 2197175160 from by unfold Crc.bit; rw [h2]; rfl)
    clear h2
    go_enter Try.func53, Try.ntmps53
    go_wp2
    go_ret
    exact ⟨ret_int (by rw [hv.out]; exact hx.out), rfl⟩
  · have ht : ((r : Int) % 2 == 1) = true := by rw [beq_iff_eq]; omega
    have hv := Lib.hid (show Crc.bit r false = (r / 2) ^^^ 2197175160 from by unfold Crc.bit; rw [h2]; rfl)
    clear h2
    go_enter Try.func53, Try.ntmps53
    go_wp2
    go_ret
    exact ⟨ret_int (by rw [hv.out]; exact hx.out), rfl⟩
  · have ht : ((r : Int) % 2 == 1) = true := by rw [beq_iff_eq]; omega
    have hv := Lib.hid (show Crc.bit r true = r / 2 from by unfold Crc.bit; rw [h2]; rfl)
    clear h2
    go_enter Try.func53, Try.ntmps53
    go_wp2
    go_ret
    exact ⟨ret_int (by rw [hv.out]; rfl), rfl⟩
theorem bitsK_lt (c r : Nat) (h : r < 2 ^ 32) : ∀ k, Crc.bitsK c k r < 2 ^ 32
  | 0 => h
  | k + 1 => by
    show Crc.bit _ _ < _
    unfold Crc.bit
    have := bitsK_lt c r h k
    split
    · exact Nat.xor_lt_two_pow (by omega) (by decide)
    · omega
set_option maxRecDepth 100000 in
set_option maxHeartbeats 1000000 in
theorem refsum_any (A : Option Addr) (n c : Nat) (bs : List UInt8) (w : World) (h : RdB w A n bs) (hn : n ≤ 140737488351232) :
    Calls Try.prog 42 #[.slice A n c] w fun e w' => e = .returned (.int .u32 (Crc.sum bs : Nat)) ∧ w = w' := by
  have Hlen := Lib.hid h.len
  go_enter Try.func42, Try.ntmps42
  go_wp2
  go_loopg [3, 4] n (fun g r s wr => ∃ k : Nat, k + g ≤ n ∧ n ≤ k + g ∧ s = .int .i64 k ∧ r = .int .u32 (Crc.reg 4294967295 (bs.take k) : Nat) ∧ w = wr)
  case atStart => exact ⟨0, by omega, by omega, rfl, rfl, rfl⟩
  case round =>
    obtain ⟨k, h1, h2, rfl, rfl, rfl⟩ := hrel
    obtain ⟨g1, rfl⟩ : ∃ g1, g1 = gk := ⟨_, rfl⟩
    have hlt := Crc.reg_lt (bs.take k) 4294967295 (by decide)
    by_cases hk : k < n
    · obtain ⟨ad, rfl, _, hc⟩ := h.cellAt k hk
      have hkl : k < bs.length := by rw [Hlen.out]; exact hk
      have HT := Lib.hid (show bs.take (k + 1) = bs.take k ++ [bs.getD k 0] from by rw [List.take_succ_eq_append_getElem hkl]; simp [List.getD, List.getElem?_eq_getElem hkl])
      have hx := (bs.getD k 0).toNat_lt
      generalize bs.getD k 0 = x at *
      have hc' : w.cell? (ad.add k) = some (.int .u8 (x.toNat : Int)) := hc
      obtain ⟨r0, hr0⟩ : ∃ r0, r0 = Crc.reg 4294967295 (bs.take k) := ⟨_, rfl⟩
      rw [← hr0] at hlt ⊢
      have HR0 := Lib.hid hr0
      clear hr0 h hc hkl
      go_wp2
      go_loopg [3, 5, 6] 8 (fun g r c s wr => ∃ j : Nat, j + g ≤ 8 ∧ 8 ≤ j + g ∧ s = .int .i64 j ∧ c = .int .u8 (x.toNat / 2 ^ j : Nat) ∧ r = .int .u32 (Crc.bitsK x.toNat j r0 : Nat) ∧ w = wr)
      case atStart => exact ⟨0, by omega, by omega, rfl, by simp, rfl, rfl⟩
      case round =>
        obtain ⟨j, h3, h4, rfl, rfl, rfl, rfl⟩ := hrel
        have hlj := bitsK_lt x.toNat r0 hlt j
        by_cases hj : j < 8
        · have hd : x.toNat / 2 ^ j ≤ x.toNat := Nat.div_le_self _ _
          have HJ := Lib.hid (show Crc.bitsK x.toNat (j + 1) r0 = Crc.bit (Crc.bitsK x.toNat j r0) (((x.toNat / 2 ^ j : Nat) : Int) % 2 == 1) from by
            show Crc.bit _ _ = _
            congr 1
            rw [Bool.eq_iff_iff, beq_iff_eq, beq_iff_eq]; omega)
          have HD := Lib.hid (show x.toNat / 2 ^ (j + 1) = x.toNat / 2 ^ j / 2 from by rw [Nat.pow_succ, Nat.div_div_eq_div_mul])
          generalize x.toNat / 2 ^ j = cj at *
          generalize Crc.bitsK x.toNat j r0 = rj at *
          go_wp2_with fail
          refine (bit_any _ _ _ hlj).mono ?_
          rintro e w' ⟨rfl, rfl⟩
          go_wp2
          go_roundg (gk - 1)
          case measure => omega
          case rel =>
            refine ⟨j + 1, by omega, by omega, by go_num, ?_, ?_, rfl⟩
            · rw [HD.out]; go_num
            · rw [HJ.out]
        · obtain rfl : j = 8 := by omega
          have HB := Lib.hid (Crc.bitsK_eq x.toNat r0 (by omega))
          generalize Crc.bitsK x.toNat 8 r0 = r8 at *
          go_wp2
          go_roundg (g1 - 1)
          case measure => omega
          case rel =>
            refine ⟨k + 1, by omega, by omega, by go_num, ?_, rfl⟩
            rw [HT.out, Crc.reg_snoc, ← HR0.out, HB.out]
    · obtain rfl : k = n := by omega
      have HS := Lib.hid (show bs.take k = bs from List.take_of_length_le (by rw [Hlen.out]; exact Nat.le_refl _))
      rw [HS.out] at hlt ⊢
      generalize hr : Crc.reg 4294967295 bs = r0 at *
      have HR := Lib.hid hr
      clear hr h
      go_wp2
      go_ret
      refine ⟨ret_int ?_, rfl⟩
      rw [Crc.sum, HR.out, Crc.not_sub hlt]
      omega
end Go.Proofs.Ytdmfbmpllfkcaaa
