/- Plain laws of numbers as bytes: what the bytes of a number weigh; rows of numbers. Conditions: none. -/
import Derived.Test.YtdmfbmpllfkcaaaRefBytes
namespace Go.Proofs.Ytdmfbmpllfkcaaa
open Go.RowKit
theorem val_beK (b x : Nat) (hx : x < 256 ^ b) : ∀ k, k ≤ b → val (beK b x k) = x / 256 ^ (b - k)
  | 0, _ => by rw [Nat.sub_zero, Nat.div_eq_of_lt hx]; rfl
  | k + 1, h => by
    rw [beK_succ, val_snoc, val_beK b x hx k (by omega)]
    have e : (UInt8.ofNat (x / 256 ^ (b - 1 - k))).toNat = x / 256 ^ (b - 1 - k) % 256 := by simp
    rw [e, show b - k = (b - (k + 1)) + 1 by omega, show b - 1 - k = b - (k + 1) by omega, Nat.pow_succ, ← Nat.div_div_eq_div_mul]
    omega
theorem val_beB (b x : Nat) (hx : x < 256 ^ b) : val (beB b x) = x := by
  have := val_beK b x hx b (Nat.le_refl _)
  rwa [Nat.sub_self, Nat.pow_zero, Nat.div_one] at this
theorem wv_beB (b x : Nat) (hb : b ≤ 8) (hx : x < 256 ^ b) : wv (beB b x) = x := by
  unfold wv
  rw [val_beB b x hx]
  have : 256 ^ b ≤ 256 ^ 8 := Nat.pow_le_pow_right (by decide) hb
  exact Nat.mod_eq_of_lt (by unfold M64; omega)
def flat (b : Nat) (ys : List Nat) : List UInt8 := ys.flatMap (beB b)
theorem flat_len (b : Nat) (ys : List Nat) : (flat b ys).length = b * ys.length := by
  induction ys with
  | nil => rfl
  | cons y ys ih => simp only [flat, List.flatMap_cons, List.length_append, beB_len, List.length_cons] at *; rw [ih, Nat.mul_add, Nat.mul_one, Nat.add_comm]
theorem flat_snoc (b : Nat) (ys : List Nat) (y : Nat) : flat b (ys ++ [y]) = flat b ys ++ beB b y := by simp [flat]
theorem flat_at (b : Nat) (ys : List Nat) (k : Nat) (h : k < ys.length) : ((flat b ys).drop (b * k)).take b = beB b (ys.getD k 0) := by
  have e : ys = ys.take k ++ (ys.getD k 0 :: ys.drop (k + 1)) := by
    conv => lhs; rw [← List.take_append_drop k ys, List.drop_eq_getElem_cons h]
    simp [List.getD, List.getElem?_eq_getElem h]
  have hl : (flat b (ys.take k)).length = b * k := by rw [flat_len, List.length_take, Nat.min_eq_left (by omega)]
  generalize ys.getD k 0 = y at *
  rw [e]
  show (((ys.take k ++ (y :: ys.drop (k + 1))).flatMap (beB b)).drop (b * k)).take b = _
  rw [List.flatMap_append, List.flatMap_cons]
  rw [List.drop_append_of_le_length (by rw [show (ys.take k).flatMap (beB b) = flat b (ys.take k) from rfl, hl]; exact Nat.le_refl _)]
  rw [List.drop_of_length_le (by rw [show (ys.take k).flatMap (beB b) = flat b (ys.take k) from rfl, hl]; exact Nat.le_refl _), List.nil_append]
  rw [List.take_append_of_le_length (by rw [beB_len]; exact Nat.le_refl _), List.take_of_length_le (by rw [beB_len]; exact Nat.le_refl _)]
/-- a reader in the midst of a row of numbers of one width -/
theorem rd_row (b : Nat) (ys : List Nat) (k : Nat) (h : k < ys.length) :
    rdO (flat b ys) (b * k) 0 b = beB b (ys.getD k 0) ∧ rdP (flat b ys) (b * k) 0 b = b * (k + 1) ∧ rdW (flat b ys) (b * k) 0 b = 0 := by
  have hl := flat_len b ys
  have h1 : b * (k + 1) ≤ b * ys.length := Nat.mul_le_mul_left _ (by omega)
  rw [Nat.mul_add, Nat.mul_one] at h1 ⊢
  have hc : (0 : Int) = 0 ∧ (0 : Int) ≤ (b : Int) ∧ (b : Int) ≤ ((flat b ys).length : Int) - ((b * k : Nat) : Int) := by rw [hl]; omega
  refine ⟨?_, ?_, ?_⟩
  · unfold rdO; rw [if_pos hc]; simpa using flat_at b ys k h
  · unfold rdP; rw [if_pos hc]; simp
  · unfold rdW; rw [if_pos rfl, if_neg (by omega), if_neg (by omega)]
theorem rd_end (b : Nat) (ys : List Nat) : rdO (flat b ys) (b * ys.length) 0 1 = [] ∧ rdP (flat b ys) (b * ys.length) 0 1 = b * ys.length ∧ rdW (flat b ys) (b * ys.length) 0 1 = 7 := by
  have hl := flat_len b ys
  refine ⟨?_, ?_, ?_⟩
  · unfold rdO; rw [if_neg (by rw [hl]; omega)]
  · unfold rdP; rw [if_neg (by rw [hl]; omega)]
  · unfold rdW; rw [if_pos rfl, if_neg (by omega), if_pos (by rw [hl]; omega)]
end Go.Proofs.Ytdmfbmpllfkcaaa
