/- The reference's digits, Written. Conditions: texts of at most 1000 bytes. -/
import Derived.Test.YtnpicnddcoaboaaDoorLxR6
namespace Go.Proofs.YtnpicnddcoaboaaDoor
open Go.RowKit
def DigI (N i m : Nat) (l : List UInt8) : Prop := (i = 0 → m = N ∧ l = []) ∧ (0 < i → Lib.decDigits N = (if m = 0 then [] else Lib.decDigits m) ++ l)
theorem dig_step {N i m : Nat} {l : List UInt8} (h : DigI N i m l) (hc : i = 0 ∨ 0 < m) : DigI N (i + 1) (m / 10) (UInt8.ofNat (48 + m % 10) :: l) := by
  refine ⟨fun h => by omega, fun _ => ?_⟩
  have e : Lib.decDigits m = (if m / 10 = 0 then [] else Lib.decDigits (m / 10)) ++ [UInt8.ofNat (48 + m % 10)] := by
    rw [Lib.decDigits]
    by_cases h1 : m < 10
    · rw [dif_pos h1, if_pos (by omega), Nat.mod_eq_of_lt h1]; rfl
    · rw [dif_neg h1, if_neg (by omega)]
  rcases Nat.eq_zero_or_pos i with h0 | h0
  · obtain ⟨rfl, rfl⟩ := h.1 h0
    exact e
  · rw [h.2 h0]
    rw [if_neg (by omega), e, List.append_assoc]; rfl
theorem quo_snoc (l : List UInt8) (b : UInt8) : quoU (l ++ [b]) = quoU l ++ (if b = 39 then [39, 39] else [b]) := by unfold quoU; rw [List.flatMap_append]; simp
theorem quo_len : ∀ l : List UInt8, (quoU l).length ≤ 2 * l.length
  | [] => by simp [quoU]
  | b :: l => by
    have := quo_len l
    rw [show quoU (b :: l) = (if b = 39 then [39, 39] else [b]) ++ quoU l from by unfold quoU; rw [List.flatMap_cons]]
    rw [List.length_append, List.length_cons]
    split <;> simp only [List.length_cons, List.length_nil] <;> omega
theorem app_data (a b : ByteArray) : (a ++ b).data.toList = a.data.toList ++ b.data.toList := by rw [ByteArray.data_append, Array.toList_append]
theorem app_size (a b : ByteArray) : (a ++ b).size = a.size + b.size := ByteArray.size_append
theorem dec_len {n : Nat} (h : n < 18446744073709551616) : (Lib.decDigits n).length ≤ 21 := by
  have key : ∀ (k n : Nat), n < 10 ^ k → (Lib.decDigits n).length ≤ k + 1 := by
    intro k
    induction k with
    | zero => intro n hn; rw [Lib.decDigits, dif_pos (by omega)]; simp
    | succ k ih =>
      intro n hn
      rw [Lib.decDigits]
      by_cases h1 : n < 10
      · rw [dif_pos h1]; simp
      · rw [dif_neg h1, List.length_append]
        have := ih (n / 10) (by rw [Nat.pow_succ] at hn; omega)
        simp only [List.length_cons, List.length_nil]
        omega
  exact key 20 n (Nat.lt_of_lt_of_le h (by decide))
theorem wr_len {t : Tk} (h : t.text.length ≤ 1000) (hn : t.n < 18446744073709551616) : (wrU t).length ≤ 2002 := by
  unfold wrU
  have h1 := dec_len hn
  have h2 := quo_len t.text
  split
  · omega
  · split
    · simp only [List.length_cons, List.length_append, List.length_nil]; omega
    · omega
theorem joinU_snoc : ∀ (l : List Tk) (t : Tk), joinU (l ++ [t]) = (if l = [] then [] else joinU l ++ [32]) ++ wrU t
  | [], t => by simp [joinU]
  | [u], t => by simp [joinU]
  | u :: v :: l, t => by
    have ih := joinU_snoc (v :: l) t
    rw [if_neg (by simp)] at ih
    rw [if_neg (by simp), List.cons_append, List.cons_append, joinU, ← List.cons_append, ih]
    rw [joinU]
    simp
end Go.Proofs.YtnpicnddcoaboaaDoor
