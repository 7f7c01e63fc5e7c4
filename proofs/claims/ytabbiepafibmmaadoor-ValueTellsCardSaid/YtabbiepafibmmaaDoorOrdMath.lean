/- Plain facts on the order of values. Conditions: none. -/
import Derived.Test.YtabbiepafibmmaaDoorCompare
namespace Go.Proofs.YtabbiepafibmmaaDoor
open Go.RowKit
abbrev cb := Lib.compareBytes
theorem cb_anti : ∀ a b : List UInt8, cb a b = - cb b a
  | [], [] => rfl
  | [], _ :: _ => rfl
  | _ :: _, [] => rfl
  | x :: a, y :: b => by
    have ih := cb_anti a b
    unfold cb at *
    unfold Lib.compareBytes
    by_cases h1 : x < y
    · have h2 : ¬ y < x := by rw [UInt8.lt_iff_toNat_lt] at *; omega
      simp [h1, h2]
    · by_cases h2 : y < x
      · simp [h1, h2]
      · simp [h1, h2]; exact ih
theorem cb_eq : ∀ a b : List UInt8, cb a b = 0 ↔ a = b
  | [], [] => by simp [cb, Lib.compareBytes]
  | [], _ :: _ => by simp [cb, Lib.compareBytes]
  | _ :: _, [] => by simp [cb, Lib.compareBytes]
  | x :: a, y :: b => by
    have ih := cb_eq a b
    unfold cb at *
    unfold Lib.compareBytes
    by_cases h1 : x < y
    · have h2 : x ≠ y := by rintro rfl; rw [UInt8.lt_iff_toNat_lt] at h1; omega
      simp [h1, h2]
    · by_cases h2 : y < x
      · have h3 : x ≠ y := by rintro rfl; rw [UInt8.lt_iff_toNat_lt] at h2; omega
        simp [h1, h2, h3]
      · have h3 : x = y := by rw [UInt8.lt_iff_toNat_lt] at *; exact UInt8.toNat_inj.1 (by omega)
        simp [h2, h3]; exact ih
theorem cb_trans : ∀ a b c : List UInt8, cb a b ≤ 0 → cb b c ≤ 0 → cb a c ≤ 0
  | [], b, [], _, _ => by simp [cb, Lib.compareBytes]
  | [], b, _ :: _, _, _ => by simp [cb, Lib.compareBytes]
  | _ :: _, [], c, h, _ => by simp [cb, Lib.compareBytes] at h
  | _ :: _, _ :: _, [], _, h => by simp [cb, Lib.compareBytes] at h
  | x :: a, y :: b, z :: c, h1, h2 => by
    have ih := cb_trans a b c
    unfold cb at *
    unfold Lib.compareBytes at h1 h2 ⊢
    simp only [UInt8.lt_iff_toNat_lt] at *
    split at h1 <;> split at h2
    · rw [if_pos (by omega)]; omega
    · split at h2
      · omega
      · rw [if_pos (by omega)]; omega
    · split at h1
      · omega
      · rw [if_pos (by omega)]; omega
    · split at h1
      · omega
      · split at h2
        · omega
        · rw [if_neg (by omega), if_neg (by omega)]; exact ih h1 h2
theorem cb_rng : ∀ a b : List UInt8, cb a b = -1 ∨ cb a b = 0 ∨ cb a b = 1
  | [], [] => by simp [cb, Lib.compareBytes]
  | [], _ :: _ => by simp [cb, Lib.compareBytes]
  | _ :: _, [] => by simp [cb, Lib.compareBytes]
  | x :: a, y :: b => by
    have ih := cb_rng a b
    unfold cb at *
    unfold Lib.compareBytes
    split
    · simp
    · split
      · simp
      · exact ih
theorem ci_cases (x y : Int) : (x < y ∧ Lib.compareInt x y = -1) ∨ (y < x ∧ Lib.compareInt x y = 1) ∨ (x = y ∧ Lib.compareInt x y = 0) := by
  unfold Lib.compareInt
  split
  · exact .inl ⟨by assumption, rfl⟩
  · split
    · exact .inr (.inl ⟨by omega, rfl⟩)
    · exact .inr (.inr ⟨by omega, rfl⟩)
theorem cmp3_le (a b : VV) : cmp3 a b ≤ 0 ↔ a.k < b.k ∨ (a.k = b.k ∧ (a.n < b.n ∨ (a.n = b.n ∧ cb a.s.data.toList b.s.data.toList ≤ 0))) := by
  unfold cmp3 orI
  rcases ci_cases a.k b.k with ⟨h, e⟩ | ⟨h, e⟩ | ⟨h, e⟩ <;> rcases ci_cases a.n b.n with ⟨h', e'⟩ | ⟨h', e'⟩ | ⟨h', e'⟩ <;> rw [e, e'] <;> simp <;> first | omega | (constructor <;> intro hh <;> first | omega | (simp_all))
theorem cmp3_anti (a b : VV) : cmp3 a b = - cmp3 b a := by
  have hc := cb_anti a.s.data.toList b.s.data.toList
  unfold cmp3 orI
  rcases ci_cases a.k b.k with ⟨h, e⟩ | ⟨h, e⟩ | ⟨h, e⟩ <;> rcases ci_cases b.k a.k with ⟨g, f⟩ | ⟨g, f⟩ | ⟨g, f⟩ <;> first | omega | skip
  all_goals rcases ci_cases a.n b.n with ⟨h', e'⟩ | ⟨h', e'⟩ | ⟨h', e'⟩ <;> rcases ci_cases b.n a.n with ⟨g', f'⟩ | ⟨g', f'⟩ | ⟨g', f'⟩ <;> first | omega | skip
  all_goals rw [e, f, e', f']; simp
  all_goals exact hc
theorem plain_u {a : VV} (h : a.plain = true) : a.u = 0 := by
  unfold VV.plain plainB rightB at h
  simp only [Bool.and_eq_true] at h
  obtain ⟨h1, h2⟩ := h
  rcases a with ⟨k, n, u, s⟩
  simp only at *
  split at h1
  · simp at h1; omega
  · split at h1
    · simp at h1; omega
    · split at h1
      · simp at h1; omega
      · split at h1
        · simp at h1; omega
        · simp at h1 h2; omega
theorem cmp3_zero {a b : VV} (ha : a.plain = true) (hb : b.plain = true) : cmp3 a b = 0 ↔ a = b := by
  have ua := plain_u ha
  have ub := plain_u hb
  have hc := cb_eq a.s.data.toList b.s.data.toList
  rcases a with ⟨k, n, u, ⟨⟨s⟩⟩⟩
  rcases b with ⟨k', n', u', ⟨⟨s'⟩⟩⟩
  simp only at *
  subst ua ub
  unfold cmp3 orI
  rcases ci_cases k k' with ⟨h, e⟩ | ⟨h, e⟩ | ⟨h, e⟩ <;> rcases ci_cases n n' with ⟨h', e'⟩ | ⟨h', e'⟩ | ⟨h', e'⟩ <;> simp only [e, e'] <;> simp
  all_goals first | omega | skip
  subst h h'
  simpa using hc
theorem cmpV_anti (a b : VV) : cmpV a b = - cmpV b a := by
  unfold cmpV
  rw [Bool.and_comm b.plain a.plain]
  split
  · exact cmp3_anti a b
  · rfl
theorem cmpV_zero {a b : VV} (ha : a.plain = true) (hb : b.plain = true) : cmpV a b = 0 ↔ a = b := by
  unfold cmpV
  rw [ha, hb]
  exact cmp3_zero ha hb
theorem cmpV_trans {a b c : VV} (ha : a.plain = true) (hb : b.plain = true) (hc : c.plain = true) (h1 : cmpV a b ≤ 0) (h2 : cmpV b c ≤ 0) : cmpV a c ≤ 0 := by
  unfold cmpV at *
  rw [ha, hb] at h1
  rw [hb, hc] at h2
  rw [ha, hc]
  simp only [Bool.and_self, if_true] at *
  rw [cmp3_le] at *
  have ht := cb_trans a.s.data.toList b.s.data.toList c.s.data.toList
  rcases h1 with h1 | ⟨h1, h1' | ⟨h1', h1''⟩⟩ <;> rcases h2 with h2 | ⟨h2, h2' | ⟨h2', h2''⟩⟩
  all_goals first | (left; omega) | (right; refine ⟨by omega, ?_⟩; first | (left; omega) | (right; exact ⟨by omega, ht h1'' h2''⟩))
theorem cmpV_rng (a b : VV) : cmpV a b = -1 ∨ cmpV a b = 0 ∨ cmpV a b = 1 := by
  unfold cmpV
  split
  · unfold cmp3 orI
    have hc := cb_rng a.s.data.toList b.s.data.toList
    rcases ci_cases a.k b.k with ⟨h, e⟩ | ⟨h, e⟩ | ⟨h, e⟩ <;> rcases ci_cases a.n b.n with ⟨h', e'⟩ | ⟨h', e'⟩ | ⟨h', e'⟩ <;> rw [e, e'] <;> simp
    all_goals exact hc
  · simp
end Go.Proofs.YtabbiepafibmmaaDoor
