/- arith's operators on numbers. Conditions: numbers within their kind. -/
import Derived.Test.YtemakmgppafccaaDo
import Derived.Test.YtemakmgppafccaaMul64
namespace Go.Proofs.Ytemakmgppafccaa
open Go.RowKit Go.Proofs.Big
def I64 (n : Int) : Prop := -9223372036854775808 ≤ n ∧ n < 9223372036854775808
theorem wrap64_I (n : Int) : I64 (wrap64 n) := by unfold wrap64 I64; omega
theorem retS {n r : Int} {b : Bool} (h : b = smallB r) : Ending.returned (.tuple #[.int .i64 n, .bool b]) = .returned (.tuple #[.int .i64 n, .bool (smallB r)]) := by rw [h]
set_option maxHeartbeats 1000000 in
theorem add1_any (a b : Int) (w : World) (ha : I64 a) (hb : I64 b) : Calls Try.prog 40 #[.int .i64 a, .int .i64 b] w (SmallP (a + b) w) := by
  have ho := over_i a b (wrap64 (a + b)) ha hb (wrap64_I _)
  have HO := Lib.hid ho
  clear ho
  go_enter Try.func40, Try.ntmps40
  go_wp2
  go_ret2
  have ho := HO.out
  unfold I64 at ha hb
  refine ⟨_, retS ?_, fun hs => ?_, Below.refl _ _⟩
  · rw [Bool.eq_iff_iff]
    simp only [decide_eq_true_eq, smallB]
    generalize bits BinOp.and IntKind.i64 (bits BinOp.xor IntKind.i64 a (wrap64 (a + b))) (bits BinOp.xor IntKind.i64 b (wrap64 (a + b))) = d at *
    unfold wrap64 at ho
    omega
  · simp only [decide_eq_true_eq, smallB] at hs
    show wrap64 (a + b) = a + b
    unfold wrap64
    omega
theorem over_s (a b c : Int) (ha : I64 a) (hb : I64 b) (hc : I64 c) :
    bits .and .i64 (bits .xor .i64 a b) (bits .xor .i64 a c) < 0 ↔ ((a < 0 ↔ ¬ b < 0) ∧ (a < 0 ↔ ¬ c < 0)) := by
  rw [bits_and_i, bits_xor_i, bits_xor_i, BitVec.ofInt_toInt, BitVec.ofInt_toInt]
  have h := BitVec.msb_eq_toInt (x := (BitVec.ofInt 64 a ^^^ BitVec.ofInt 64 b) &&& (BitVec.ofInt 64 a ^^^ BitVec.ofInt 64 c))
  rw [BitVec.msb_and, BitVec.msb_xor, BitVec.msb_xor, msb_i a ha, msb_i b hb, msb_i c hc] at h
  generalize ((BitVec.ofInt 64 a ^^^ BitVec.ofInt 64 b) &&& (BitVec.ofInt 64 a ^^^ BitVec.ofInt 64 c)).toInt = z at *
  by_cases h1 : a < 0 <;> by_cases h2 : b < 0 <;> by_cases h3 : c < 0 <;> simp_all <;> omega
set_option maxHeartbeats 1000000 in
theorem sub1_any (a b : Int) (w : World) (ha : I64 a) (hb : I64 b) : Calls Try.prog 45 #[.int .i64 a, .int .i64 b] w (SmallP (a - b) w) := by
  have ho := over_s a b (wrap64 (a - b)) ha hb (wrap64_I _)
  have HO := Lib.hid ho
  clear ho
  go_enter Try.func45, Try.ntmps45
  go_wp2
  go_ret2
  have ho := HO.out
  unfold I64 at ha hb
  refine ⟨_, retS ?_, fun hs => ?_, Below.refl _ _⟩
  · rw [Bool.eq_iff_iff]
    simp only [decide_eq_true_eq, smallB]
    generalize bits BinOp.and IntKind.i64 (bits BinOp.xor IntKind.i64 a b) (bits BinOp.xor IntKind.i64 a (wrap64 (a - b))) = d at *
    unfold wrap64 at ho
    omega
  · simp only [decide_eq_true_eq, smallB] at hs
    show wrap64 (a - b) = a - b
    unfold wrap64
    omega
set_option maxHeartbeats 1000000 in
theorem size_any (a : Int) (w : World) (ha : I64 a) : Calls Try.prog 43 #[.int .i64 a] w fun e w' => e = .returned (.int .u64 a.natAbs) ∧ w = w' := by
  go_enter Try.func43, Try.ntmps43
  go_wp2
  all_goals
    go_ret
    unfold I64 at ha
    refine ⟨ret_i ?_, rfl⟩
    simp only [wrap_u]
    omega
/-- a size with a sign -/
def sgn (u : Int) (b : Bool) : Int := if b then -u else u
set_option maxHeartbeats 1000000 in
theorem signed_any (u : Int) (b : Bool) (w : World) (hu : 0 ≤ u ∧ u < 18446744073709551616) : Calls Try.prog 44 #[.int .u64 u, .bool b] w (fun e w' => ∃ n : Int, e = .returned (.tuple #[.int .i64 n, .bool (smallB (sgn u b))]) ∧ (smallB (sgn u b) = true → n = sgn u b) ∧ w = w') := by
  cases b
  · go_enter Try.func44, Try.ntmps44
    go_wp2
    go_ret2
    refine ⟨_, retS ?_, fun hs => ?_, rfl⟩
    · rw [Bool.eq_iff_iff]
      simp only [decide_eq_true_eq, smallB, sgn]
      simp
      omega
    · simp only [smallB, sgn] at hs
      show wrap64 u = sgn u false
      unfold wrap64 sgn
      simp at hs ⊢
      omega
  · go_enter Try.func44, Try.ntmps44
    go_wp2
    go_ret2
    refine ⟨_, retS ?_, fun hs => ?_, rfl⟩
    · rw [Bool.eq_iff_iff]
      simp only [decide_eq_true_eq, smallB, sgn]
      simp
      omega
    · simp only [decide_eq_true_eq, smallB, sgn] at hs
      show wrap64 (IntKind.u64.wrap (-u)) = sgn u true
      rw [wrap_u]
      unfold wrap64 sgn
      simp at hs ⊢
      omega
theorem sgn_mul (a b : Int) : sgn ((a.natAbs * b.natAbs : Nat) : Int) (decide (a < 0) != decide (b < 0)) = a * b := by
  rcases a with a | a <;> rcases b with b | b
  · have h1 : ¬ Int.ofNat a < 0 := by simp
    have h2 : ¬ Int.ofNat b < 0 := by simp
    rw [decide_eq_false h1, decide_eq_false h2]
    rfl
  · have h1 : ¬ Int.ofNat a < 0 := by simp
    have h2 := Int.negSucc_lt_zero b
    rw [decide_eq_false h1, decide_eq_true h2]
    show -((a * (b + 1) : Nat) : Int) = (a : Int) * -(((b + 1 : Nat) : Int))
    rw [Int.natCast_mul, Int.mul_neg]
  · have h1 := Int.negSucc_lt_zero a
    have h2 : ¬ Int.ofNat b < 0 := by simp
    rw [decide_eq_true h1, decide_eq_false h2]
    show -(((a + 1) * b : Nat) : Int) = -(((a + 1 : Nat) : Int)) * (b : Int)
    rw [Int.natCast_mul, Int.neg_mul]
  · have h1 := Int.negSucc_lt_zero a
    have h2 := Int.negSucc_lt_zero b
    rw [decide_eq_true h1, decide_eq_true h2]
    show (((a + 1) * (b + 1) : Nat) : Int) = -(((a + 1 : Nat) : Int)) * -(((b + 1 : Nat) : Int))
    rw [Int.natCast_mul, Int.neg_mul_neg]
theorem sgn_div (a b : Int) : sgn ((a.natAbs / b.natAbs : Nat) : Int) (decide (a < 0) != decide (b < 0)) = a.tdiv b := by
  rcases a with a | a <;> rcases b with b | b
  · have h1 : ¬ Int.ofNat a < 0 := by simp
    have h2 : ¬ Int.ofNat b < 0 := by simp
    rw [decide_eq_false h1, decide_eq_false h2]
    rfl
  · have h1 : ¬ Int.ofNat a < 0 := by simp
    have h2 := Int.negSucc_lt_zero b
    rw [decide_eq_false h1, decide_eq_true h2]
    rfl
  · have h1 := Int.negSucc_lt_zero a
    have h2 : ¬ Int.ofNat b < 0 := by simp
    rw [decide_eq_true h1, decide_eq_false h2]
    rfl
  · have h1 := Int.negSucc_lt_zero a
    have h2 := Int.negSucc_lt_zero b
    rw [decide_eq_true h1, decide_eq_true h2]
    rfl
set_option maxHeartbeats 1000000 in
theorem mul1_any (a b : Int) (w : World) (ha : I64 a) (hb : I64 b) : Calls Try.prog 41 #[.int .i64 a, .int .i64 b] w (SmallP (a * b) w) := by
  have la : a.natAbs < 18446744073709551616 := by unfold I64 at ha; omega
  have lb : b.natAbs < 18446744073709551616 := by unfold I64 at hb; omega
  have HM := Lib.hid (sgn_mul a b)
  have hab : ((a * b).natAbs : Nat) = a.natAbs * b.natAbs := Int.natAbs_mul a b
  have HAB := Lib.hid hab
  clear hab
  go_enter Try.func41, Try.ntmps41
  go_wp2_with fail
  refine (size_any a w ha).mono ?_
  rintro e w' ⟨rfl, rfl⟩
  go_wp2_with fail
  refine (size_any b w hb).mono ?_
  rintro e w' ⟨rfl, rfl⟩
  go_wp2_with fail
  refine (mul64_any a.natAbs b.natAbs la lb w).mono ?_
  rintro e w' ⟨rfl, rfl⟩
  generalize hp : a.natAbs * b.natAbs = p at *
  have HP := Lib.hid hp
  clear hp
  generalize hq : p / 18446744073709551616 = q at *
  generalize hr : p % 18446744073709551616 = r at *
  have HQ := Lib.hid hq
  have HR := Lib.hid hr
  clear hq hr
  go_wp2_with fail
  refine (signed_any r (decide (a < 0) != decide (b < 0)) w ⟨by omega, by have := HR.out; omega⟩).mono ?_
  rintro e w' ⟨n, rfl, hn, rfl⟩
  have HN := Lib.hid hn
  clear hn
  by_cases hz : q = 0
  · subst hz
    have hrp : r = p := by have := HR.out; have := HQ.out; omega
    subst hrp
    rw [HM.out] at HN ⊢
    by_cases hs : smallB (a * b) = true
    · have HS := Lib.hid hs
      rw [hs]
      clear hs
      go_wp2
      go_ret2
      exact ⟨n, retS HS.out.symm, fun _ => HN.out HS.out, Below.refl _ _⟩
    · have hs' : smallB (a * b) = false := by simpa using hs
      have HS := Lib.hid hs'
      rw [hs']
      clear hs hs'
      go_wp2
      go_ret2
      exact ⟨n, retS HS.out.symm, (fun h => by rw [HS.out] at h; cases h), Below.refl _ _⟩
  · have hs : smallB (a * b) = false := by
      have h1 := HQ.out
      have h2 := HAB.out
      unfold smallB
      rw [decide_eq_false_iff_not]
      omega
    have HS := Lib.hid hs
    clear hs
    have hq0 : ((q : Int) == 0) = false := by simp; omega
    generalize smallB (sgn (r : Int) (decide (a < 0) != decide (b < 0))) = z at *
    cases z
    all_goals
      go_wp2
      go_ret2
      exact ⟨n, retS HS.out.symm, (fun h => by rw [HS.out] at h; cases h), Below.refl _ _⟩
set_option maxHeartbeats 1000000 in
theorem div1_z (a : Int) (r : Int) (w : World) (hr : smallB r = false) : Calls Try.prog 46 #[.int .i64 a, .int .i64 0] w (SmallP r w) := by
  have HS := Lib.hid hr
  clear hr
  go_enter Try.func46, Try.ntmps46
  go_wp2
  go_ret2
  exact ⟨_, retS HS.out.symm, (fun h => by rw [HS.out] at h; cases h), Below.refl _ _⟩
set_option maxHeartbeats 1000000 in
theorem div1_any (a b : Int) (w : World) (ha : I64 a) (hb : I64 b) (h0 : b ≠ 0) : Calls Try.prog 46 #[.int .i64 a, .int .i64 b] w (SmallP (a.tdiv b) w) := by
  have hb0 : (b == 0) = false := ibeq_f h0
  have lb1 : 1 ≤ (b.natAbs : Int) := by omega
  obtain ⟨q, hq⟩ : ∃ q : Nat, q = a.natAbs / b.natAbs := ⟨_, rfl⟩
  have hlt : q < 18446744073709551616 := by
    have h1 := Nat.div_le_self a.natAbs b.natAbs
    rw [← hq] at h1
    unfold I64 at ha
    omega
  have HM := Lib.hid (sgn_div a b)
  rw [← hq] at HM
  have hqq : (a.natAbs : Int) / (b.natAbs : Int) = (q : Int) := by rw [hq]; rfl
  have HSA := Lib.hid (fun w => size_any a w ha)
  have HSB := Lib.hid (fun w => size_any b w hb)
  clear h0 hq ha hb
  generalize a.natAbs = sa at *
  generalize b.natAbs = sb at *
  have HL := Lib.hid hlt
  have hw : IntKind.u64.wrap (q : Int) = (q : Int) := by rw [wrap_u]; omega
  clear hlt
  go_enter Try.func46, Try.ntmps46
  go_wp2_with fail
  refine (HSA.out w).mono ?_
  rintro e w' ⟨rfl, rfl⟩
  go_wp2_with fail
  refine (HSB.out w).mono ?_
  rintro e w' ⟨rfl, rfl⟩
  go_wp2_with fail
  refine (signed_any q (decide (a < 0) != decide (b < 0)) w ⟨by omega, by have := HL.out; omega⟩).mono ?_
  rintro e w' ⟨n, rfl, hn, rfl⟩
  rw [HM.out] at hn ⊢
  have HN := Lib.hid hn
  clear hn
  go_wp2
  go_ret2
  exact ⟨n, rfl, HN.out, Below.refl _ _⟩
end Go.Proofs.Ytemakmgppafccaa
