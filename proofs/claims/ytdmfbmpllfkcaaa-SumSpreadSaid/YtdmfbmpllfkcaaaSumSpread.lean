/- The walk of the statement SumSpread: the Go text answers true and turns no memory that was there. Conditions: the slice reads as these bytes. -/
import Derived.Test.YtdmfbmpllfkcaaaSumOpened
namespace Go.Proofs.Ytdmfbmpllfkcaaa
open Go.RowKit
set_option maxRecDepth 100000 in
set_option maxHeartbeats 2000000 in
theorem sumSpread_walk (A : Option Addr) (k c : Nat) (xs : List UInt8) (m n : Int) (w : World) (ha : RdB w A k xs) (hc1 : k ≤ c) (hc2 : c ≤ 9223372036854775807) (hm : (Lit.int .i64 m).wf = true) (hn : (Lit.int .i64 n).wf = true) :
    Calls Try.prog 13 #[.slice A k c, .int .i64 m, .int .i64 n] w fun e w' => e = .returned (.bool true) ∧ Below w.heap.size w w' := by
  obtain ⟨hm0, hm1⟩ : -9223372036854775808 ≤ m ∧ m ≤ 9223372036854775807 := by
    simp [Lit.wf, IntKind.min, IntKind.max, IntKind.signed, IntKind.bits] at hm; exact ⟨by omega, by omega⟩
  obtain ⟨hn0, hn1⟩ : -9223372036854775808 ≤ n ∧ n ≤ 9223372036854775807 := by
    simp [Lit.wf, IntKind.min, IntKind.max, IntKind.signed, IntKind.bits] at hn; exact ⟨by omega, by omega⟩
  clear hm hn
  have hk : k ≤ 9223372036854775807 := by omega
  clear hc1 hc2
  have hg : (k ≤ 1000 ∧ 1 ≤ m ∧ 1 ≤ n ∧ m ≤ 1000 ∧ n ≤ 1000) ∨ (1000 < k ∨ m < 1 ∨ n < 1 ∨ 1000 < m ∨ 1000 < n) := by omega
  rcases hg with ⟨h1, h2, h3, h4, h5⟩ | hg
  · obtain ⟨m, rfl⟩ := Int.eq_ofNat_of_zero_le (show 0 ≤ m by omega)
    obtain ⟨n, rfl⟩ := Int.eq_ofNat_of_zero_le (show 0 ≤ n by omega)
    have hmn0 : (1 : Int) ≤ (m : Int) * (n : Int) := by
      have : 1 * 1 ≤ m * n := Nat.mul_le_mul (by omega) (by omega)
      rw [← Int.natCast_mul]; omega
    have hmn1 : (m : Int) * (n : Int) ≤ 1000000 := by
      have : m * n ≤ 1000 * 1000 := Nat.mul_le_mul (by omega) (by omega)
      rw [← Int.natCast_mul]; omega
    have hs := Crc.sum_lt xs
    generalize hx : Crc.sum xs = s at *
    have HX := Lib.hid hx
    clear hx
    have e1 : ((s : Int) % ((m : Int) * (n : Int))) % (n : Int) = (s : Int) % (n : Int) := Int.emod_emod_of_dvd _ ⟨m, by rw [Int.mul_comm]⟩
    have e2 : (s : Int) % 1 = 0 := Int.emod_one _
    have l1 : 0 ≤ (s : Int) % (n : Int) := Int.emod_nonneg _ (by omega)
    have l2 : (s : Int) % (n : Int) < n := Int.emod_lt_of_pos _ (by omega)
    have l3 : 0 ≤ (s : Int) % ((m : Int) * (n : Int)) := Int.emod_nonneg _ (by omega)
    have l4 : (s : Int) % ((m : Int) * (n : Int)) < (m : Int) * (n : Int) := Int.emod_lt_of_pos _ (by omega)
    go_enter Try.func13, Try.ntmps13
    go_wp2_with fail
    refine (wakes3_any w).mono ?_
    rintro e w1 ⟨rfl, b1⟩
    have ha1 := ha.below b1
    clear ha
    go_wp2_with fail
    refine (spread_any A k c xs n w1 ha1 (by omega) (by omega)).mono ?_
    rintro e w2 ⟨rfl, q2⟩
    rw [if_neg (by omega), if_neg (by omega), HX.out]
    have b2 := b1.trans (q2.mono b1.size)
    have ha2 := ha1.below q2
    clear ha1 q2 b1
    go_wp2_with fail
    refine (spread_any A k c xs (m * n) w2 ha2 (by omega) (by omega)).mono ?_
    rintro e w3 ⟨rfl, q3⟩
    rw [if_neg (by omega), if_neg (by omega), HX.out]
    have b3 := b2.trans (q3.mono b2.size)
    have ha3 := ha2.below q3
    clear ha2 q3 b2
    go_wp2_with fail
    refine (spread_any A k c xs 1 w3 ha3 (by omega) (by omega)).mono ?_
    rintro e w4 ⟨rfl, q4⟩
    rw [if_neg (by omega), if_neg (by omega), HX.out]
    have b4 := b3.trans (q4.mono b3.size)
    clear ha3 q4 b3
    go_wp2
    go_ret
    exact ⟨rfl, b4⟩
  · rcases hg with hg | hg | hg | hg | hg
    all_goals
      go_enter Try.func13, Try.ntmps13
      go_wp2_with fail
      refine (wakes3_any w).mono ?_
      rintro e w1 ⟨rfl, b1⟩
      go_wp2
      all_goals (go_ret; exact ⟨rfl, b1⟩)
end Go.Proofs.Ytdmfbmpllfkcaaa
