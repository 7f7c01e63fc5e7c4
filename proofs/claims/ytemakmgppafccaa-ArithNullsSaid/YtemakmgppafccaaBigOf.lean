/- The reference's numbers: of 128 bits and back. Conditions: as each states. -/
import Derived.Test.YtemakmgppafccaaBig
import Derived.Test.YtemakmgppafccaaBlks
namespace Go.Proofs.Ytemakmgppafccaa
open Go.RowKit Go.Proofs.Big
/-- a number as the reference has it -/
def bigV (z : Int) : Value := .agg (bigC (digs 8 z.natAbs) (decide (z < 0)))
theorem digs_hl (hi lo : Nat) (h1 : hi < 18446744073709551616) (h2 : lo < 18446744073709551616) :
    digs 8 (hi * 18446744073709551616 + lo) = [lo % 4294967296, lo / 4294967296, hi % 4294967296, hi / 4294967296, 0, 0, 0, 0] := by
  symm
  refine digs_of ?_ rfl ?_
  · intro d hd
    simp only [List.mem_cons, List.not_mem_nil, or_false] at hd
    omega
  · simp only [val]; omega
theorem bigV_hl (z hi lo : Int) (b : Bool) (h1 : 0 ≤ hi ∧ hi < 18446744073709551616) (h2 : 0 ≤ lo ∧ lo < 18446744073709551616) (hz : (z.natAbs : Int) = hi * 18446744073709551616 + lo) (hb : b = decide (z < 0)) :
    Value.agg #[.int .u64 (lo % 4294967296), .int .u64 (lo / 4294967296), .int .u64 (hi % 4294967296), .int .u64 (hi / 4294967296), .int .u64 0, .int .u64 0, .int .u64 0, .int .u64 0, .bool b] = bigV z := by
  subst hb
  obtain ⟨hi, rfl⟩ := Int.eq_ofNat_of_zero_le h1.1
  obtain ⟨lo, rfl⟩ := Int.eq_ofNat_of_zero_le h2.1
  have e : z.natAbs = hi * 18446744073709551616 + lo := by omega
  unfold bigV
  rw [e, digs_hl hi lo (by omega) (by omega)]
  rfl
theorem not_u (u : Int) (h : 0 ≤ u) (h2 : u < 18446744073709551616) : bits .xor .u64 IntKind.u64.max u = 18446744073709551615 - u := by
  obtain ⟨u, rfl⟩ := Int.eq_ofNat_of_zero_le h
  have e : bits .xor .u64 IntKind.u64.max (u : Int) = (((BitVec.ofInt 64 IntKind.u64.max ^^^ BitVec.ofInt 64 (u : Int)).toNat : Nat) : Int) := by
    show IntKind.u64.wrap ((BitVec.ofInt 64 IntKind.u64.max ^^^ BitVec.ofInt 64 (u : Int)).toNat : Int) = _
    have := (BitVec.ofInt 64 IntKind.u64.max ^^^ BitVec.ofInt 64 (u : Int)).isLt
    generalize (BitVec.ofInt 64 IntKind.u64.max ^^^ BitVec.ofInt 64 (u : Int)).toNat = k at *
    simp only [IntKind.wrap, IntKind.bits, IntKind.signed]
    simp
    omega
  rw [e]
  have : BitVec.ofInt 64 IntKind.u64.max = BitVec.allOnes 64 := by rfl
  rw [this, BitVec.allOnes_xor, BitVec.toNat_not, BitVec.ofInt_natCast, BitVec.toNat_ofNat]
  omega
theorem wrap_u (n : Int) : IntKind.u64.wrap n = n % 18446744073709551616 := by simp [IntKind.wrap, IntKind.bits, IntKind.signed]
set_option maxHeartbeats 1000000 in
theorem of_pos (n u : Int) (w : World) (hn : 0 ≤ n) (hn2 : n < 9223372036854775808) (hu : 0 ≤ u) (hu2 : u < 18446744073709551616) :
    Calls Try.prog 32 #[.int .i64 n, .int .u64 u] w fun e w' => e = .returned (bigV (n * 18446744073709551616 + u)) ∧ Below w.heap.size w w' := by
  have HB := Lib.hid (bigV_hl (n * 18446744073709551616 + u) n u false (by omega) (by omega) (by omega) (by simp; omega))
  go_enter Try.func32, Try.ntmps32
  go_wp2
  refine bodyPost_ret (v := .agg #[.int .u64 (u % 4294967296), .int .u64 (u / 4294967296), .int .u64 (n % 4294967296), .int .u64 (n / 4294967296), .int .u64 0, .int .u64 0, .int .u64 0, .int .u64 0, .bool false]) (by simp [results, Try.results32, go_sem]) rfl ⟨by rw [HB.out], ((Below.refl _ _).alloc (Nat.le_refl _) _).alloc (by simp) _⟩
set_option maxHeartbeats 1000000 in
theorem of_neg_c (n u m cu cm lo hi : Int) (w : World) (hn : n < 0) (hm : IntKind.u64.wrap n = m) (hcu : bits .xor .u64 IntKind.u64.max u = cu) (hcm : bits .xor .u64 IntKind.u64.max m = cm) (hlo : IntKind.u64.wrap (cu + 1) = lo) (h0 : (lo == 0) = true)
    (hhi : IntKind.u64.wrap (cm + 1) = hi) (p1 : 0 ≤ lo) (p2 : 0 ≤ hi) :
    Calls Try.prog 32 #[.int .i64 n, .int .u64 u] w fun e w' => e = .returned (.agg #[.int .u64 (lo % 4294967296), .int .u64 (lo / 4294967296), .int .u64 (hi % 4294967296), .int .u64 (hi / 4294967296), .int .u64 0, .int .u64 0, .int .u64 0, .int .u64 0, .bool true]) ∧ Below w.heap.size w w' := by
  have hsig : IntKind.u64.signed = false := rfl
  go_enter Try.func32, Try.ntmps32
  go_wp2
  refine bodyPost_ret (v := .agg #[.int .u64 (lo % 4294967296), .int .u64 (lo / 4294967296), .int .u64 (hi % 4294967296), .int .u64 (hi / 4294967296), .int .u64 0, .int .u64 0, .int .u64 0, .int .u64 0, .bool true]) (by simp [results, Try.results32, go_sem]) rfl ⟨rfl, ((Below.refl _ _).alloc (Nat.le_refl _) _).alloc (by simp) _⟩
set_option maxHeartbeats 1000000 in
theorem of_neg_n (n u m cu lo hi : Int) (w : World) (hn : n < 0) (hm : IntKind.u64.wrap n = m) (hcu : bits .xor .u64 IntKind.u64.max u = cu) (hcm : bits .xor .u64 IntKind.u64.max m = hi) (hlo : IntKind.u64.wrap (cu + 1) = lo) (h0 : (lo == 0) = false)
    (p1 : 0 ≤ lo) (p2 : 0 ≤ hi) :
    Calls Try.prog 32 #[.int .i64 n, .int .u64 u] w fun e w' => e = .returned (.agg #[.int .u64 (lo % 4294967296), .int .u64 (lo / 4294967296), .int .u64 (hi % 4294967296), .int .u64 (hi / 4294967296), .int .u64 0, .int .u64 0, .int .u64 0, .int .u64 0, .bool true]) ∧ Below w.heap.size w w' := by
  have hsig : IntKind.u64.signed = false := rfl
  go_enter Try.func32, Try.ntmps32
  go_wp2
  refine bodyPost_ret (v := .agg #[.int .u64 (lo % 4294967296), .int .u64 (lo / 4294967296), .int .u64 (hi % 4294967296), .int .u64 (hi / 4294967296), .int .u64 0, .int .u64 0, .int .u64 0, .int .u64 0, .bool true]) (by simp [results, Try.results32, go_sem]) rfl ⟨rfl, ((Below.refl _ _).alloc (Nat.le_refl _) _).alloc (by simp) _⟩
theorem of_any (n u : Int) (w : World) (hn1 : -9223372036854775808 ≤ n) (hn2 : n < 9223372036854775808) (hu : 0 ≤ u) (hu2 : u < 18446744073709551616) :
    Calls Try.prog 32 #[.int .i64 n, .int .u64 u] w fun e w' => e = .returned (bigV (n * 18446744073709551616 + u)) ∧ Below w.heap.size w w' := by
  by_cases hn : 0 ≤ n
  · exact of_pos n u w hn hn2 hu hu2
  · have hm : IntKind.u64.wrap n = n + 18446744073709551616 := by rw [wrap_u]; omega
    by_cases h0 : u = 0
    · subst h0
      have hcm := not_u (n + 18446744073709551616) (by omega) (by omega)
      rw [← bigV_hl (n * 18446744073709551616 + 0) (-n) 0 true (by omega) (by omega) (by omega) (by simp; omega)]
      exact of_neg_c n 0 _ _ _ 0 (-n) w (by omega) hm (not_u 0 hu hu2) hcm (by rw [wrap_u]; rfl) rfl (by rw [wrap_u]; omega) (by omega) (by omega)
    · have hcm := not_u (n + 18446744073709551616) (by omega) (by omega)
      rw [← bigV_hl (n * 18446744073709551616 + u) (18446744073709551615 - (n + 18446744073709551616)) (18446744073709551616 - u) true (by omega) (by omega) (by omega) (by simp; omega)]
      exact of_neg_n n u _ _ (18446744073709551616 - u) _ w (by omega) hm (not_u u hu hu2) hcm (by rw [wrap_u]; omega) (by simp; omega) (by omega) (by omega)
end Go.Proofs.Ytemakmgppafccaa
