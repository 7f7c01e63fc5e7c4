/- Plain laws of sealing: what was sealed is opened; with one byte that is another one it is not. Conditions: none. -/
import Derived.Test.YtnbcffnhgijmcaaOpen
namespace Go.Proofs.Ytnbcffnhgijmcaa
open Go.RowKit
theorem opens_sealed (bs : List UInt8) : opens (sealed bs) = true := by
  unfold opens
  rw [sealed_len, decide_eq_true (by omega), Bool.true_and, show bs.length + 4 - 4 = bs.length from by omega]
  have : (sealed bs).take bs.length = bs := by unfold sealed; simp
  rw [this]; exact beq_self_eq_true _
theorem opened_sealed (bs : List UInt8) : opened (sealed bs) = bs ∧ openErr (sealed bs) = 0 := by
  have h := opens_sealed bs
  constructor
  · unfold opened
    rw [if_pos h, sealed_len, show bs.length + 4 - 4 = bs.length from by omega]
    unfold sealed; simp
  · unfold openErr
    rw [if_neg (by rw [sealed_len]; omega), if_pos h]
/-- four bytes are the number's -/
theorem leB4_inj (x y : Nat) (hx : x < 2 ^ 32) (hy : y < 2 ^ 32) (h : leB 4 x = leB 4 y) : x = y := by
  have : ∀ s, leB 4 s = [UInt8.ofNat (s / 1), UInt8.ofNat (s / 256), UInt8.ofNat (s / 65536), UInt8.ofNat (s / 16777216)] := fun s => rfl
  rw [this, this] at h
  simp only [List.cons.injEq, and_true] at h
  obtain ⟨h0, h1, h2, h3⟩ := h
  have e0 := congrArg UInt8.toNat h0
  have e1 := congrArg UInt8.toNat h1
  have e2 := congrArg UInt8.toNat h2
  have e3 := congrArg UInt8.toNat h3
  simp at e0 e1 e2 e3
  omega
/-- one byte turned: the list xor-ed with a row of zeros but for one byte -/
def turnRow (n i : Nat) (b : UInt8) : List UInt8 := List.replicate i 0 ++ [b] ++ List.replicate (n - i - 1) 0
theorem set_turn (bs : List UInt8) (i : Nat) (b : UInt8) (h : i < bs.length) : bs.set i (bs.getD i 0 ^^^ b) = List.zipWith (· ^^^ ·) bs (turnRow bs.length i b) := by
  apply List.ext_getElem
  · simp [turnRow]; omega
  · intro j h1 h2
    have hj : j < bs.length := by simpa using h1
    rw [List.getElem_set, List.getElem_zipWith]
    unfold turnRow
    by_cases e : i = j
    · subst e
      rw [if_pos rfl]
      simp [List.getD, List.getElem?_eq_getElem hj]
    · rw [if_neg e]
      rw [List.getElem_append]
      split
      · rename_i h3
        rw [List.getElem_append]
        split
        · simp
        · rename_i h4
          simp at h3 h4
          omega
      · simp
theorem turn_reg (n i : Nat) (b : UInt8) (hb : b ≠ 0) (_hi : i < n) : Crc.reg 0 (turnRow n i b) ≠ 0 := by
  unfold turnRow
  rw [Crc.reg_append, Crc.reg_append, Crc.reg_zeros]
  have h1 : Crc.reg 0 [b] ≠ 0 := by
    have := Crc.reg_four_ne 0 0 0 b (by simp [hb])
    have e : Crc.reg 0 [0, 0, 0, b] = Crc.reg 0 [b] := by
      show Crc.reg 0 (List.replicate 3 0 ++ [b]) = _
      rw [Crc.reg_append, Crc.reg_zeros]
    rwa [e] at this
  exact Crc.reg_zeros_ne _ _ (Crc.reg_lt _ _ (by decide)) h1
theorem sum_turn (bs : List UInt8) (i : Nat) (b : UInt8) (hb : b ≠ 0) (hi : i < bs.length) : Crc.sum (bs.set i (bs.getD i 0 ^^^ b)) ≠ Crc.sum bs := by
  rw [set_turn bs i b hi]
  exact fun e => Crc.sum_inj_turn bs (turnRow bs.length i b) (by simp [turnRow]; omega) (turn_reg _ _ _ hb hi) e.symm
/-- what was sealed, with one byte that is another one, is not opened -/
theorem not_opens (bs : List UInt8) (i : Nat) (b : UInt8) (hb : b ≠ 0) (hi : i < bs.length + 4) : opens ((sealed bs).set i ((sealed bs).getD i 0 ^^^ b)) = false := by
  unfold opens
  rw [List.length_set, sealed_len, decide_eq_true (by omega), Bool.true_and, show bs.length + 4 - 4 = bs.length from by omega, beq_eq_false_iff_ne]
  intro h
  have hx : ∀ x : UInt8, x ^^^ b ≠ x := by
    intro x e
    have : x ^^^ (x ^^^ b) = x ^^^ x := by rw [e]
    rw [← UInt8.xor_assoc, UInt8.xor_self, UInt8.zero_xor] at this
    exact hb this
  have hsl : (sealed bs).length = bs.length + 4 := sealed_len bs
  by_cases hib : i < bs.length
  · have e1 : ((sealed bs).set i ((sealed bs).getD i 0 ^^^ b)).take bs.length = bs.set i (bs.getD i 0 ^^^ b) := by
      unfold sealed
      rw [List.set_append, if_pos hib]
      simp [List.getD, List.getElem?_append, hib]
    rw [e1] at h
    have e2 : (sealed bs).set i ((sealed bs).getD i 0 ^^^ b) = bs.set i (bs.getD i 0 ^^^ b) ++ leB 4 (Crc.sum bs) := by
      unfold sealed
      rw [List.set_append, if_pos hib]
      simp [List.getD, List.getElem?_append, hib]
    rw [e2] at h
    unfold sealed at h
    have h2 := List.append_cancel_left h
    exact sum_turn bs i b hb hib (leB4_inj _ _ (Crc.sum_lt _) (Crc.sum_lt _) h2)
  · have e1 : ((sealed bs).set i ((sealed bs).getD i 0 ^^^ b)).take bs.length = bs := by
      unfold sealed
      rw [List.set_append, if_neg hib]
      simp
    rw [e1] at h
    have h2 := congrArg (fun l : List UInt8 => l.getD i 0) h
    simp only [List.getD, List.getElem?_set] at h2
    rw [if_pos trivial, if_pos (by omega), List.getElem?_eq_getElem (by omega)] at h2
    simp only [Option.getD_some] at h2
    exact hx _ h2.symm
end Go.Proofs.Ytnbcffnhgijmcaa
