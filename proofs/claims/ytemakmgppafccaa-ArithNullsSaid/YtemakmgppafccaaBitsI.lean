/- The signs of bits of two numbers of 64 bits. Conditions: the numbers within their kind. -/
import Derived.Test.YtemakmgppafccaaMem
namespace Go.Proofs.Ytemakmgppafccaa
open Go.RowKit
theorem wrap_i (n : Int) : IntKind.i64.wrap n = n.bmod 18446744073709551616 := by
  simp [IntKind.wrap, IntKind.bits, IntKind.signed, Int.bmod]
  try omega
theorem toInt_wrap (b : BitVec 64) : IntKind.i64.wrap (b.toNat : Int) = b.toInt := by
  rw [wrap_i, BitVec.toInt_eq_toNat_bmod]
theorem bits_and_i (x y : Int) : bits .and .i64 x y = (BitVec.ofInt 64 x &&& BitVec.ofInt 64 y).toInt := by
  rw [← toInt_wrap]; rfl
theorem bits_xor_i (x y : Int) : bits .xor .i64 x y = (BitVec.ofInt 64 x ^^^ BitVec.ofInt 64 y).toInt := by
  rw [← toInt_wrap]; rfl
theorem msb_i (x : Int) (h : -9223372036854775808 ≤ x ∧ x < 9223372036854775808) : (BitVec.ofInt 64 x).msb = decide (x < 0) := by
  rw [BitVec.msb_eq_toInt, BitVec.toInt_ofInt]
  congr 1
  rw [show (2 ^ 64 : Nat) = 18446744073709551616 from rfl]
  rw [Int.bmod_eq_of_le (by omega) (by omega)]
/-- a goes over, and b as well: the signs of (a^c)&(b^c). -/
theorem over_i (a b c : Int) (ha : -9223372036854775808 ≤ a ∧ a < 9223372036854775808) (hb : -9223372036854775808 ≤ b ∧ b < 9223372036854775808) (hc : -9223372036854775808 ≤ c ∧ c < 9223372036854775808) :
    bits .and .i64 (bits .xor .i64 a c) (bits .xor .i64 b c) < 0 ↔ ((a < 0 ↔ ¬ c < 0) ∧ (b < 0 ↔ ¬ c < 0)) := by
  rw [bits_and_i, bits_xor_i, bits_xor_i, BitVec.ofInt_toInt, BitVec.ofInt_toInt]
  have h := BitVec.msb_eq_toInt (x := (BitVec.ofInt 64 a ^^^ BitVec.ofInt 64 c) &&& (BitVec.ofInt 64 b ^^^ BitVec.ofInt 64 c))
  rw [BitVec.msb_and, BitVec.msb_xor, BitVec.msb_xor, msb_i a ha, msb_i b hb, msb_i c hc] at h
  generalize ((BitVec.ofInt 64 a ^^^ BitVec.ofInt 64 c) &&& (BitVec.ofInt 64 b ^^^ BitVec.ofInt 64 c)).toInt = z at *
  by_cases h1 : a < 0 <;> by_cases h2 : b < 0 <;> by_cases h3 : c < 0 <;> simp_all <;> omega
end Go.Proofs.Ytemakmgppafccaa
