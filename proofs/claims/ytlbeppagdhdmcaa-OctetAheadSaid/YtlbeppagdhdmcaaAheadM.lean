/- Bytes of a number, of 256 times it, of the next one: plain arithmetic. Conditions: none but the bounds. -/
import Derived.Test.YtlbeppagdhdmcaaPut
namespace Go.Proofs.Ytlbeppagdhdmcaa
open Go.RowKit
theorem beB_get (b x k : Nat) (hk : k < b) : (beB b x).getD k 0 = UInt8.ofNat (x / 256 ^ (b - 1 - k)) := by
  have : k < (List.range b).length := by simpa using hk
  simp [beB, List.getD, List.getElem?_map, hk]
theorem far_same (x : Nat) : (beB 8 (256 * x)).take 7 = (beB 8 x).drop 1 := by
  apply List.ext_getElem
  · simp [beB_len]
  · intro i h1 h2
    have hi : i < 7 := by simpa [beB_len] using h1
    rw [List.getElem_take, List.getElem_drop]
    simp only [beB, List.getElem_map, List.getElem_range]
    rw [show 8 - 1 - i = (8 - 1 - (1 + i)) + 1 by omega, Nat.pow_succ, Nat.mul_comm 256 x, Nat.mul_div_mul_right _ _ (by decide)]
theorem far_last (x : Nat) : (beB 8 (256 * x)).getD 7 0 = 0 := by
  rw [beB_get 8 _ 7 (by decide)]
  apply UInt8.toNat_inj.1
  simp
theorem all255 : beB 8 18446744073709551615 = [255, 255, 255, 255, 255, 255, 255, 255] := by decide +kernel
/-- at place k, behind which all is 255: the next number's byte is one more. -/
theorem next_at (x k : Nat) (hk : k < 8) (h : (x + 1) % 256 ^ (7 - k) = 0) : (beB 8 (x + 1)).getD k 0 = (beB 8 x).getD k 0 + 1 := by
  rw [beB_get 8 _ k hk, beB_get 8 _ k hk]
  have hd := Nat.div_add_mod (x + 1) (256 ^ (7 - k))
  rw [h, Nat.add_zero] at hd
  have hp : 0 < 256 ^ (7 - k) := Nat.pow_pos (by decide)
  rw [show 8 - 1 - k = 7 - k from rfl]
  generalize 256 ^ (7 - k) = p at *
  obtain ⟨y, hy⟩ : ∃ y, (x + 1) / p = y + 1 := by
    rcases Nat.eq_zero_or_pos ((x + 1) / p) with e | e
    · rw [e] at hd; simp at hd
    · exact ⟨(x + 1) / p - 1, by omega⟩
  rw [hy] at hd ⊢
  have hx : x / p = y := by
    rw [Nat.mul_add, Nat.mul_one] at hd
    apply Nat.div_eq_of_lt_le
    · rw [Nat.mul_comm]; omega
    · rw [Nat.add_mul, Nat.one_mul, Nat.mul_comm y p]; omega
  rw [hx]
  exact (UInt8.ofNat_add y 1)
theorem next_before (x k : Nat) (hk : k < 8) (h : (x + 1) % 256 ^ (7 - k) = 0) (hne : k = 0 ∨ (beB 8 x).getD k 0 ≠ 255 ∨ (beB 8 (x + 1)).getD k 0 ≠ 0) : (beB 8 (x + 1)).take k = (beB 8 x).take k := by
  rcases Nat.eq_zero_or_pos k with rfl | hk0
  · simp
  have hd := Nat.div_add_mod (x + 1) (256 ^ (7 - k))
  rw [h, Nat.add_zero] at hd
  have hp : 0 < 256 ^ (7 - k) := Nat.pow_pos (by decide)
  have hat := next_at x k hk h
  have hz : (beB 8 (x + 1)).getD k 0 ≠ 0 := by
    rcases hne with e | e | e
    · omega
    · intro e2
      rw [hat] at e2
      apply e
      generalize (beB 8 x).getD k 0 = z at *
      have e3 := congrArg UInt8.toNat e2
      rw [UInt8.toNat_add] at e3
      have e4 : (z.toNat + 1) % 256 = 0 := e3
      have := z.toNat_lt
      exact UInt8.toNat_inj.1 (show z.toNat = 255 by omega)
    · exact e
  rw [beB_get 8 _ k hk, show 8 - 1 - k = 7 - k from rfl] at hz
  have hy : (x + 1) / 256 ^ (7 - k) % 256 ≠ 0 := by
    intro e
    apply hz
    apply UInt8.toNat_inj.1
    simp only [UInt8.toNat_ofNat']
    exact e
  apply List.ext_getElem
  · simp [beB_len]
  · intro i h1 h2
    have hi : i < k := by
      have := h1
      rw [List.length_take, beB_len] at this
      omega
    rw [List.getElem_take, List.getElem_take]
    simp only [beB, List.getElem_map, List.getElem_range]
    congr 1
    rw [show 8 - 1 - i = (7 - k) + (k - i) by omega, Nat.pow_add]
    rw [← Nat.div_div_eq_div_mul, ← Nat.div_div_eq_div_mul]
    obtain ⟨r, hr⟩ : ∃ r, k - i = r + 1 := ⟨k - i - 1, by omega⟩
    rw [hr]
    generalize 256 ^ (7 - k) = p at *
    obtain ⟨y, hy1⟩ : ∃ y, (x + 1) / p = y + 1 := by
      rcases Nat.eq_zero_or_pos ((x + 1) / p) with e | e
      · rw [e] at hd; simp at hd
      · exact ⟨(x + 1) / p - 1, by omega⟩
    rw [hy1] at hd hy ⊢
    have hx : x / p = y := by
      rw [Nat.mul_add, Nat.mul_one] at hd
      apply Nat.div_eq_of_lt_le
      · rw [Nat.mul_comm]; omega
      · rw [Nat.add_mul, Nat.one_mul, Nat.mul_comm y p]; omega
    rw [hx, Nat.pow_succ, Nat.mul_comm (256 ^ r) 256, ← Nat.div_div_eq_div_mul, ← Nat.div_div_eq_div_mul]
    congr 1
    omega
theorem next_more (x k : Nat) (hk : k < 8) (hk0 : 0 < k) (h : (x + 1) % 256 ^ (7 - k) = 0) (hc : (beB 8 (x + 1)).getD k 0 = 0) : (x + 1) % 256 ^ (7 - (k - 1)) = 0 := by
  rw [beB_get 8 _ k hk] at hc
  have hc := congrArg UInt8.toNat hc
  simp only [UInt8.toNat_ofNat'] at hc
  rw [show 7 - (k - 1) = (7 - k) + 1 by omega, Nat.pow_succ, Nat.mod_mul, h]
  rw [show 8 - 1 - k = 7 - k from rfl] at hc
  have : (x + 1) / 256 ^ (7 - k) % 256 = 0 := hc
  rw [this, Nat.mul_zero]
end Go.Proofs.Ytlbeppagdhdmcaa
