/- The plain mathematics of the checksum (CRC-32C): one bit, one byte, a row of bytes; it is linear, and no burst of four bytes leaves it as it was. Conditions: none. -/
namespace Go.Proofs.Ytnbcffnhgijmcaa.Crc
def P : Nat := 2197175160
def step (x : Nat) : Nat := if x % 2 = 1 then (x / 2) ^^^ P else x / 2
theorem half_xor (x y : Nat) : (x ^^^ y) / 2 = x / 2 ^^^ y / 2 := by
  apply Nat.eq_of_testBit_eq; intro i; simp [Nat.testBit_xor, Nat.testBit_div_two]
theorem mod_xor (x y : Nat) : (x ^^^ y) % 2 = (x % 2 + y % 2) % 2 := by
  have h := Nat.testBit_xor x y 0
  simp only [Nat.testBit_zero] at h
  have hx : x % 2 = 0 ∨ x % 2 = 1 := by omega
  have hy : y % 2 = 0 ∨ y % 2 = 1 := by omega
  have hz : (x ^^^ y) % 2 = 0 ∨ (x ^^^ y) % 2 = 1 := by omega
  rcases hx with hx | hx <;> rcases hy with hy | hy <;> rcases hz with hz | hz <;> simp_all
theorem step_xor (x y : Nat) : step (x ^^^ y) = step x ^^^ step y := by
  unfold step
  rw [mod_xor, half_xor]
  have hx : x % 2 = 0 ∨ x % 2 = 1 := by omega
  have hy : y % 2 = 0 ∨ y % 2 = 1 := by omega
  rcases hx with hx | hx <;> rcases hy with hy | hy <;> simp [hx, hy]
  · ac_rfl
  · ac_rfl
  · rw [show x / 2 ^^^ P ^^^ (y / 2 ^^^ P) = x / 2 ^^^ y / 2 ^^^ (P ^^^ P) by ac_rfl]; simp
theorem step_lt {x : Nat} (h : x < 2 ^ 32) : step x < 2 ^ 32 := by
  unfold step P; split
  · exact Nat.xor_lt_two_pow (by omega) (by decide)
  · omega
theorem step_even (y : Nat) : step (2 * y) = y := by unfold step; rw [if_neg (by omega)]; omega
def step8 (x : Nat) : Nat := step (step (step (step (step (step (step (step x)))))))
theorem step8_xor (x y : Nat) : step8 (x ^^^ y) = step8 x ^^^ step8 y := by unfold step8; simp only [step_xor]
theorem step8_lt {x : Nat} (h : x < 2 ^ 32) : step8 x < 2 ^ 32 := by
  unfold step8; repeat (first | exact h | apply step_lt)
theorem step8_high (y : Nat) : step8 (256 * y) = y := by
  unfold step8
  rw [show 256 * y = 2 * (2 * (2 * (2 * (2 * (2 * (2 * (2 * y))))))) by omega]
  simp only [step_even]
theorem split_byte (x : Nat) : x = (256 * (x / 256)) ^^^ (x % 256) := by
  apply Nat.eq_of_testBit_eq; intro i
  rw [Nat.testBit_xor, show (256 : Nat) = 2 ^ 8 by decide, Nat.testBit_mod_two_pow, Nat.testBit_two_pow_mul, Nat.testBit_div_two_pow]
  by_cases h : i < 8
  · simp [h, show ¬ 8 ≤ i by omega]
  · simp [h, show 8 ≤ i by omega]
/-- the table-driven round -/
theorem step8_table (r c : Nat) : step8 (r ^^^ c) = (r / 256) ^^^ step8 ((r % 256) ^^^ c) := by
  conv => lhs; rw [split_byte r]
  rw [show 256 * (r / 256) ^^^ r % 256 ^^^ c = 256 * (r / 256) ^^^ (r % 256 ^^^ c) by ac_rfl, step8_xor, step8_high]
/-- the reference's round of one bit -/
def bit (r : Nat) (one : Bool) : Nat := if (r % 2 == 1) != one then (r / 2) ^^^ P else r / 2
theorem bit_eq (r : Nat) (one : Bool) : bit r one = step (r ^^^ (if one then 1 else 0)) := by
  unfold bit step
  rw [mod_xor, half_xor]
  have hx : r % 2 = 0 ∨ r % 2 = 1 := by omega
  cases one <;> rcases hx with hx | hx <;> simp [hx]
def bitsK (c : Nat) : Nat → Nat → Nat
  | 0, r => r
  | k + 1, r => bit (bitsK c k r) (c / 2 ^ k % 2 == 1)
theorem bitsK_xor (c r : Nat) : bitsK c 8 r = step8 r ^^^ bitsK c 8 0 := by
  simp only [bitsK, bit_eq, step_xor, step8]
  simp only [show step 0 = 0 by decide, Nat.zero_xor]
  ac_rfl
theorem bitsK_byte : ∀ c, c < 256 → bitsK c 8 0 = step8 c := by decide +kernel
theorem bitsK_eq (c r : Nat) (hc : c < 256) : bitsK c 8 r = step8 (r ^^^ c) := by
  rw [bitsK_xor, bitsK_byte c hc, step8_xor]
def reg (r : Nat) (bs : List UInt8) : Nat := bs.foldl (fun r c => step8 (r ^^^ c.toNat)) r
theorem reg_lt (bs : List UInt8) (r : Nat) (h : r < 2 ^ 32) : reg r bs < 2 ^ 32 := by
  induction bs generalizing r with
  | nil => exact h
  | cons c bs ih => exact ih _ (step8_lt (Nat.xor_lt_two_pow h (by have := c.toNat_lt; omega)))
theorem reg_append (r : Nat) (a b : List UInt8) : reg r (a ++ b) = reg (reg r a) b := by simp [reg]
theorem reg_snoc (r : Nat) (a : List UInt8) (c : UInt8) : reg r (a ++ [c]) = step8 (reg r a ^^^ c.toNat) := by simp [reg]
def sum (bs : List UInt8) : Nat := 4294967295 ^^^ reg 4294967295 bs
theorem sum_lt (bs : List UInt8) : sum bs < 2 ^ 32 := Nat.xor_lt_two_pow (by decide) (reg_lt _ _ (by decide))
theorem not_sub {r : Nat} (h : r < 2 ^ 32) : 4294967295 ^^^ r = 4294967295 - r := by
  have : 4294967295 - r = (2 ^ 32 - (r + 1)) := by omega
  rw [this]
  apply Nat.eq_of_testBit_eq; intro i
  rw [Nat.testBit_two_pow_sub_succ h, Nat.testBit_xor, show 4294967295 = 2 ^ 32 - 1 by decide, Nat.testBit_two_pow_sub_one]
  by_cases hi : i < 32
  · simp [hi]
  · have : r.testBit i = false := Nat.testBit_lt_two_pow (Nat.lt_of_lt_of_le h (Nat.pow_le_pow_right (by decide) (by omega)))
    simp [hi, this]
/-- linear -/
theorem reg_xor (a t : List UInt8) (h : a.length = t.length) (r s : Nat) : reg (r ^^^ s) (List.zipWith (· ^^^ ·) a t) = reg r a ^^^ reg s t := by
  induction a generalizing t r s with
  | nil => cases t <;> simp_all [reg]
  | cons x a ih =>
    cases t with
    | nil => simp at h
    | cons y t =>
      simp only [List.zipWith_cons_cons]
      show reg (step8 (r ^^^ s ^^^ (x ^^^ y).toNat)) _ = reg (step8 (r ^^^ x.toNat)) a ^^^ reg (step8 (s ^^^ y.toNat)) t
      rw [← ih t (by simpa using h), ← step8_xor, UInt8.toNat_xor]
      congr 2
      ac_rfl
theorem sum_turned (a t : List UInt8) (h : a.length = t.length) : sum a ^^^ sum (List.zipWith (· ^^^ ·) a t) = reg 0 t := by
  unfold sum
  have := reg_xor a t h 4294967295 0
  rw [Nat.xor_zero] at this
  rw [this]
  rw [show 4294967295 ^^^ reg 4294967295 a ^^^ (4294967295 ^^^ (reg 4294967295 a ^^^ reg 0 t)) = (4294967295 ^^^ 4294967295) ^^^ (reg 4294967295 a ^^^ reg 4294967295 a) ^^^ reg 0 t by ac_rfl]
  simp
theorem step_inj0 {x : Nat} (h : x < 2 ^ 32) (h0 : step x = 0) : x = 0 := by
  unfold step P at h0
  split at h0
  · have : x / 2 = 2197175160 := by
      have h1 : (x / 2 ^^^ 2197175160) ^^^ 2197175160 = 0 ^^^ 2197175160 := by rw [h0]
      rwa [Nat.xor_assoc, Nat.xor_self, Nat.xor_zero, Nat.zero_xor] at h1
    omega
  · omega
theorem step8_inj0 {x : Nat} (h : x < 2 ^ 32) (h0 : step8 x = 0) : x = 0 := by
  unfold step8 at h0
  have := step_lt h
  have h2 := step_lt this
  have h3 := step_lt h2
  have h4 := step_lt h3
  have h5 := step_lt h4
  have h6 := step_lt h5
  have h7 := step_lt h6
  exact step_inj0 h (step_inj0 this (step_inj0 h2 (step_inj0 h3 (step_inj0 h4 (step_inj0 h5 (step_inj0 h6 (step_inj0 h7 h0)))))))
theorem reg_zeros (n : Nat) : reg 0 (List.replicate n 0) = 0 := by
  induction n with
  | zero => rfl
  | succ n ih => rw [List.replicate_succ]; show reg (step8 (0 ^^^ 0)) _ = 0; rw [show step8 (0 ^^^ 0) = 0 by decide]; exact ih
theorem reg_zeros_ne (n : Nat) (r : Nat) (h : r < 2 ^ 32) (hr : r ≠ 0) : reg r (List.replicate n 0) ≠ 0 := by
  induction n generalizing r with
  | zero => exact hr
  | succ n ih =>
    rw [List.replicate_succ]
    show reg (step8 (r ^^^ 0)) _ ≠ 0
    rw [Nat.xor_zero]
    exact ih _ (step8_lt h) (fun h0 => hr (step8_inj0 h h0))
theorem step8_put (x c : Nat) : step8 x ^^^ c = step8 (x ^^^ 256 * c) := by rw [step8_xor, step8_high]
theorem reg_four (a b c d : UInt8) : reg 0 [a, b, c, d] = step8 (step8 (step8 (step8 (a.toNat ^^^ 256 * b.toNat ^^^ 256 * (256 * c.toNat) ^^^ 256 * (256 * (256 * d.toNat)))))) := by
  show step8 (step8 (step8 (step8 (0 ^^^ a.toNat) ^^^ b.toNat) ^^^ c.toNat) ^^^ d.toNat) = _
  rw [Nat.zero_xor, step8_put _ b.toNat, step8_put _ c.toNat, step8_put (a.toNat ^^^ 256 * b.toNat), step8_put _ d.toNat, step8_put (step8 (a.toNat ^^^ _ ^^^ _)), step8_put (a.toNat ^^^ _ ^^^ _)]
theorem four_zero (a b c d : Nat) (ha : a < 256) (hb : b < 256) (hc : c < 256) (_hd : d < 256) (h : a ^^^ 256 * b ^^^ 256 * (256 * c) ^^^ 256 * (256 * (256 * d)) = 0) :
    a = 0 ∧ b = 0 ∧ c = 0 ∧ d = 0 := by
  have key : ∀ x y : Nat, x < 256 → x ^^^ 256 * y = 0 → x = 0 ∧ y = 0 := by
    intro x y hx h
    have e : x = 256 * y := by
      have : (x ^^^ 256 * y) ^^^ 256 * y = 0 ^^^ 256 * y := by rw [h]
      rwa [Nat.xor_assoc, Nat.xor_self, Nat.xor_zero, Nat.zero_xor] at this
    omega
  have dx : ∀ x y : Nat, 256 * (x ^^^ y) = 256 * x ^^^ 256 * y := by
    intro x y
    have := Nat.shiftLeft_xor_distrib (a := x) (b := y) (i := 8)
    simpa [Nat.shiftLeft_eq, Nat.mul_comm] using this
  rw [Nat.xor_assoc, Nat.xor_assoc, ← dx, ← dx, ← dx] at h
  obtain ⟨h1, h2⟩ := key _ _ ha h
  obtain ⟨h3, h4⟩ := key _ _ hb h2
  obtain ⟨h5, h6⟩ := key _ _ hc h4
  exact ⟨h1, h3, h5, h6⟩
theorem reg_four_ne (a b c d : UInt8) (h : ¬ (a = 0 ∧ b = 0 ∧ c = 0 ∧ d = 0)) : reg 0 [a, b, c, d] ≠ 0 := by
  rw [reg_four]
  intro h0
  have ha := a.toNat_lt; have hb := b.toNat_lt; have hc := c.toNat_lt; have hd := d.toNat_lt
  have hl : a.toNat ^^^ 256 * b.toNat ^^^ 256 * (256 * c.toNat) ^^^ 256 * (256 * (256 * d.toNat)) < 2 ^ 32 :=
    Nat.xor_lt_two_pow (Nat.xor_lt_two_pow (Nat.xor_lt_two_pow (by omega) (by omega)) (by omega)) (by omega)
  have h1 := step8_inj0 hl (step8_inj0 (step8_lt hl) (step8_inj0 (step8_lt (step8_lt hl)) (step8_inj0 (step8_lt (step8_lt (step8_lt hl))) h0)))
  obtain ⟨e1, e2, e3, e4⟩ := four_zero _ _ _ _ (by omega) (by omega) (by omega) (by omega) h1
  exact h ⟨UInt8.toNat_inj.1 e1, UInt8.toNat_inj.1 e2, UInt8.toNat_inj.1 e3, UInt8.toNat_inj.1 e4⟩
theorem reg_burst (n m : Nat) (a b c d : UInt8) (h : ¬ (a = 0 ∧ b = 0 ∧ c = 0 ∧ d = 0)) : reg 0 (List.replicate n 0 ++ [a, b, c, d] ++ List.replicate m 0) ≠ 0 := by
  rw [reg_append, reg_append, reg_zeros]
  exact reg_zeros_ne _ _ (reg_lt _ _ (by decide)) (reg_four_ne a b c d h)
theorem sum_inj_turn (a t : List UInt8) (h : a.length = t.length) (hr : reg 0 t ≠ 0) : sum a ≠ sum (List.zipWith (· ^^^ ·) a t) := by
  intro e
  have := sum_turned a t h
  rw [← e, Nat.xor_self] at this
  exact hr this.symm
end Go.Proofs.Ytnbcffnhgijmcaa.Crc
