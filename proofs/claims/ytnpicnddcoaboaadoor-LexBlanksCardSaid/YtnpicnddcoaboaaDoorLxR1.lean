/- The reference's part, Plain, Number, quoted. Conditions: texts of at most 100000 bytes. -/
import Derived.Test.YtnpicnddcoaboaaDoorCRef7b
namespace Go.Proofs.YtnpicnddcoaboaaDoor
open Go.RowKit
theorem alls_at {p : UInt8 → Bool} {l : List UInt8} {i : Nat} {b : UInt8} (h : l[i]? = some b) : (l.drop i).all p = (p b && (l.drop (i + 1)).all p) := by
  have hi : i < l.length := by
    rcases Nat.lt_or_ge i l.length with h1 | h1
    · exact h1
    · rw [List.getElem?_eq_none h1] at h; cases h
  rw [List.getElem?_eq_getElem hi] at h
  injection h with h
  rw [List.drop_eq_getElem_cons hi, h, List.all_cons]
theorem drop_at {l : List UInt8} {i : Nat} {b : UInt8} (h : l[i]? = some b) : l.drop i = b :: l.drop (i + 1) := by
  have hi : i < l.length := by
    rcases Nat.lt_or_ge i l.length with h1 | h1
    · exact h1
    · rw [List.getElem?_eq_none h1] at h; cases h
  rw [List.getElem?_eq_getElem hi] at h
  injection h with h
  rw [List.drop_eq_getElem_cons hi, h]
theorem pa_split (c : Int) : paI c = (smI c || (dgI c || ((decide (65 ≤ c) && decide (c ≤ 90)) || decide (c = 95)))) := by
  unfold paI cpI
  cases smI c <;> cases dgI c <;> rfl
/-- what a number's reading returns -/
def NumE (l : List UInt8) (e : Ending) : Prop := ∃ v : Int, e = .returned (.tuple #[.int .u64 v, .bool (numU l).isSome]) ∧ ∀ k, numU l = some k → v = (k : Int)
theorem NumE.no {l : List UInt8} {v : Int} (h : numU l = none) : NumE l (.returned (.tuple #[.int .u64 v, .bool false])) := ⟨v, by rw [h]; rfl, by rw [h]; intro k hk; cases hk⟩
theorem numU_iff (l : List UInt8) : (numU l).isSome = decide (l.all dgU = true ∧ valU 0 l < 9223372036854775808 ∧ (l.length = 1 ∨ l.head? ≠ some 48)) := by
  unfold numU
  split
  · rename_i h; rw [decide_eq_true h]; rfl
  · rename_i h; rw [decide_eq_false h]; rfl
theorem NumE.yes {l : List UInt8} {b : Bool} {v : Int} (h : b = (numU l).isSome) (hv : v = (valU 0 l : Int)) : NumE l (.returned (.tuple #[.int .u64 v, .bool b])) := by
  refine ⟨v, by rw [h], fun k hk => ?_⟩
  unfold numU at hk
  split at hk
  · cases hk; exact hv
  · cases hk
theorem valU_mono : ∀ (l : List UInt8) (a : Nat), a * 10 ^ l.length ≤ valU a l
  | [], a => by rw [valU_nil]; simp
  | b :: l, a => by
    rw [valU_cons]
    refine Nat.le_trans ?_ (valU_mono l _)
    rw [List.length_cons, Nat.pow_succ, Nat.mul_comm (10 ^ l.length) 10, ← Nat.mul_assoc]
    exact Nat.mul_le_mul_right _ (by omega)
theorem num_long {l : List UInt8} (h : 20 ≤ l.length) : numU l = none := by
  unfold numU
  rw [if_neg]
  rintro ⟨h1, h2, h3⟩
  match l, h with
  | b :: r, h =>
    simp only [List.length_cons] at h
    have h4 : b ≠ 48 := by
      rcases h3 with h3 | h3
      · simp only [List.length_cons] at h3; omega
      · intro e; rw [e] at h3; exact h3 rfl
    rw [List.all_cons, Bool.and_eq_true] at h1
    have h5 := h1.1
    unfold dgU dgI at h5
    simp only [Bool.and_eq_true, decide_eq_true_eq] at h5
    have h6 : b.toNat ≠ 48 := fun e => h4 (UInt8.toNat_inj.1 (by rw [e]; rfl))
    rw [valU_cons] at h2
    have h7 := valU_mono r (0 * 10 + (b.toNat - 48))
    have h8 : 10 ^ 19 ≤ 10 ^ r.length := Nat.pow_le_pow_right (by decide) (by omega)
    have h9 : 1 * 10 ^ r.length ≤ (0 * 10 + (b.toNat - 48)) * 10 ^ r.length := Nat.mul_le_mul_right _ (by omega)
    have ha : 10 ^ 19 < 9223372036854775808 := by omega
    exact absurd ha (by decide)
theorem num_zero {l : List UInt8} (h : 2 ≤ l.length) (h0 : l.head? = some 48) : numU l = none := by
  unfold numU
  rw [if_neg]
  rintro ⟨_, _, h3⟩
  rcases h3 with h3 | h3
  · omega
  · exact h3 h0
theorem valU_lt : ∀ (l : List UInt8) (a n : Nat), l.all dgU = true → a < 10 ^ n → valU a l < 10 ^ (n + l.length)
  | [], a, n, _, h => by rw [valU_nil]; exact h
  | b :: l, a, n, h, ha => by
    rw [List.all_cons, Bool.and_eq_true] at h
    have h5 := h.1
    unfold dgU dgI at h5
    simp only [Bool.and_eq_true, decide_eq_true_eq] at h5
    rw [valU_cons, List.length_cons, show n + (l.length + 1) = (n + 1) + l.length from by omega]
    refine valU_lt l _ (n + 1) h.2 ?_
    rw [Nat.pow_succ]
    omega
theorem take_snoc {l : List UInt8} {i : Nat} {b : UInt8} (h : l[i]? = some b) : l.take (i + 1) = l.take i ++ [b] := by rw [List.take_add_one, h]; rfl
end Go.Proofs.YtnpicnddcoaboaaDoor
