/- The plain law of CodecApart: unlike values have unlike bytes, of which none begin with those of another. -/
import Derived.Test.YtfpodalnnchnoaaCTake
import Derived.Test.YtfpodalnnchnoaaCShort
namespace Go.Proofs.Ytfpodalnnchnoaa
open Go.RowKit
theorem val_beK (b x : Nat) (hx : x < 256 ^ b) : ∀ k, k ≤ b → val (beK b x k) = x / 256 ^ (b - k)
  | 0, _ => by rw [Nat.sub_zero, Nat.div_eq_of_lt hx]; rfl
  | k + 1, h => by
    rw [beK_succ, val_snoc, val_beK b x hx k (by omega)]
    have e : (UInt8.ofNat (x / 256 ^ (b - 1 - k))).toNat = x / 256 ^ (b - 1 - k) % 256 := by simp
    rw [e, show b - k = (b - (k + 1)) + 1 by omega, show b - 1 - k = b - (k + 1) by omega, Nat.pow_succ, ← Nat.div_div_eq_div_mul]
    omega
theorem val_beB (b x : Nat) (hx : x < 256 ^ b) : val (beB b x) = x := by
  have := val_beK b x hx b (Nat.le_refl _)
  rwa [Nat.sub_self, Nat.pow_zero, Nat.div_one] at this
theorem beB_inj {x y : Nat} (hx : x < 18446744073709551616) (hy : y < 18446744073709551616) (h : beB 8 x = beB 8 y) : x = y := by
  have h1 := val_beB 8 x hx
  rw [h, val_beB 8 y hy] at h1
  exact h1.symm
theorem u64_inj {x y : Int} (hx : -9223372036854775808 ≤ x ∧ x ≤ 9223372036854775807) (hy : -9223372036854775808 ≤ y ∧ y ≤ 9223372036854775807) (h : U64 x = U64 y) : x = y := by
  unfold U64 at h
  rw [IntKind.wrap_u64, IntKind.wrap_u64] at h
  omega
theorem u64_inj' {x y : Int} (hx : 0 ≤ x ∧ x < 18446744073709551616) (hy : 0 ≤ y ∧ y < 18446744073709551616) (h : U64 x = U64 y) : x = y := by
  unfold U64 at h
  rw [IntKind.wrap_u64, IntKind.wrap_u64] at h
  omega
theorem text_nil {s : ByteArray} (h : s.toList = []) : s = ⟨#[]⟩ := by
  rw [ByteArray.toList_eq] at h
  cases s with | mk d => congr 1; exact Array.toList_eq_nil_iff.1 h
theorem ok_cases {v : VV} (h : v.ok = true) : (v.k = 0 ∧ v.n = 0 ∧ v.u = 0 ∧ v.s = ⟨#[]⟩) ∨ (v.k = 1 ∧ (v.n = 0 ∨ v.n = 1) ∧ v.u = 0 ∧ v.s = ⟨#[]⟩) ∨ (v.k = 2 ∧ v.u = 0 ∧ v.s = ⟨#[]⟩) ∨ (v.k = 3 ∧ v.n = 0 ∧ v.u = 0 ∧ v.s.size ≤ 40) ∨ (v.k = 4 ∧ v.s = ⟨#[]⟩) := by
  unfold VV.ok rightB at h
  split at h
  · have := of_decide_eq_true h; exact .inl ⟨by assumption, this.1, this.2.1, text_nil this.2.2⟩
  split at h
  · have := of_decide_eq_true h; exact .inr (.inl ⟨by assumption, this.1, this.2.1, text_nil this.2.2⟩)
  split at h
  · have := of_decide_eq_true h; exact .inr (.inr (.inl ⟨by assumption, this.1, text_nil this.2⟩))
  split at h
  · have := of_decide_eq_true h; exact .inr (.inr (.inr (.inl ⟨by assumption, this.1, this.2.1, this.2.2⟩)))
  · have := of_decide_eq_true h; exact .inr (.inr (.inr (.inr ⟨this.1, text_nil this.2⟩)))
theorem take_same {α : Type} {x y : List α} (h : x.length = y.length) (ht : x.take y.length = y) : x = y := by
  rwa [List.take_of_length_le (by omega)] at ht
theorem valB_pre {a b : VV} (ha : a.ok = true) (hb : b.ok = true) (ra : a.rng) (rb : b.rng) (hl : (valB b).length ≤ (valB a).length) (ht : (valB a).take (valB b).length = valB b) : a = b := by
  obtain ⟨k, n, u, s⟩ := a
  obtain ⟨k', n', u', s'⟩ := b
  have h8 : ∀ x, (beB 8 x).length = 8 := beB_len 8
  rcases ok_cases ha with ⟨h1, h2, h3, h4⟩ | ⟨h1, h2, h3, h4⟩ | ⟨h1, h3, h4⟩ | ⟨h1, h2, h3, h4⟩ | ⟨h1, h4⟩ <;>
  rcases ok_cases hb with ⟨g1, g2, g3, g4⟩ | ⟨g1, g2, g3, g4⟩ | ⟨g1, g3, g4⟩ | ⟨g1, g2, g3, g4⟩ | ⟨g1, g4⟩ <;>
  (simp only at *; subst h1 g1) <;> simp [valB] at ht hl
  case inl.inl => subst_vars; rfl
  case inr.inl.inr.inl =>
    subst h3 h4 g3 g4
    rcases h2 with rfl | rfl <;> rcases g2 with rfl | rfl <;> first | rfl | (simp at ht)
  case inr.inr.inl.inr.inr.inl =>
    subst h3 h4 g3 g4
    have := take_same (by rw [h8, h8]) ht
    have := u64_inj ra.1 rb.1 (beB_inj (u64_spec n).2 (u64_spec n').2 this)
    simp only at this
    rw [this]
  case inr.inr.inr.inl.inr.inr.inr.inl =>
    subst h2 h3 g2 g3
    obtain ⟨h5, h6⟩ := ht
    have hsz : s.size = s'.size := by
      have := congrArg UInt8.toNat h5
      simp at this
      omega
    have : s.data.toList = s'.data.toList := by
      rw [List.take_of_length_le (by show s.size ≤ s'.size; omega)] at h6
      exact h6
    have e : s = s' := by
      cases s with | mk d => cases s' with | mk d' => congr 1; exact Array.toList_inj.1 this
    rw [e]
  case inr.inr.inr.inr.inr.inr.inr.inr =>
    subst h4 g4
    rw [List.take_of_length_le (by simp only [List.length_append, h8]; omega)] at ht
    have h6 := ht
    obtain ⟨h7, h9⟩ := List.append_inj h6 (by rw [h8, h8])
    have e1 := u64_inj ra.1 rb.1 (beB_inj (u64_spec n).2 (u64_spec n').2 h7)
    have e2 := u64_inj' ra.2 rb.2 (beB_inj (u64_spec u).2 (u64_spec u').2 h9)
    simp only at e1 e2
    rw [e1, e2]
theorem short_rng {v : VV} (h : v.rng) : v.short.rng := h
/-- what stands behind: HasPrefix of the one and the other -/
def preB (xs ys : List UInt8) : Bool := decide (ys.length ≤ xs.length) && (xs.take ys.length == ys)
theorem valB_apart {a b : VV} (ha : a.ok = true) (hb : b.ok = true) (ra : a.rng) (rb : b.rng) (hne : a ≠ b) : preB (valB a) (valB b) = false := by
  cases hp : preB (valB a) (valB b)
  · rfl
  · unfold preB at hp
    simp at hp
    exact absurd (valB_pre ha hb ra rb hp.1 hp.2) hne
end Go.Proofs.Ytfpodalnnchnoaa
