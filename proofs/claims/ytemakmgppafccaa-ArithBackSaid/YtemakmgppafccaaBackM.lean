/- The law ArithBack: plain lemmas and the contracts of its calls. Conditions: numbers of 64 bits. -/
import Derived.Test.YtemakmgppafccaaRdI
namespace Go.Proofs.Ytemakmgppafccaa
open Go.RowKit
theorem opI (r a b : Int) : opV r (VI a) (VI b) = outR r := by
  unfold opV
  rw [areE_two, okI, okI, mis2I, mis2I]
  simp only [Bool.and_self, Bool.or_self, if_true, Bool.false_eq_true, if_false, ne_eq, not_true_eq_false]
  rw [if_neg (by intro h; rcases h with h | h <;> exact absurd h (kI _))]
  rfl
theorem small_of {a : Int} (h : I64 a) : smallB a = true := by unfold I64 at h; unfold smallB; simpa using h
theorem small_I {a : Int} (h : smallB a = true) : I64 a := by unfold smallB at h; unfold I64; simpa using h
theorem tdiv_rest (a b : Int) (h0 : b ≠ 0) : (a - a.tdiv b * b = 0 ∨ (a - a.tdiv b * b < 0 ∧ a < 0) ∨ (0 < a - a.tdiv b * b ∧ 0 ≤ a)) ∧ (a - a.tdiv b * b).natAbs < b.natAbs := by
  have h := Int.tmod_add_tdiv_mul a b
  have e : a - a.tdiv b * b = a.tmod b := by omega
  rw [e]
  refine ⟨?_, ?_⟩
  · rcases Int.lt_or_le a 0 with ha | ha
    · have := Int.tmod_nonneg b (show 0 ≤ -a by omega)
      rw [Int.neg_tmod] at this
      omega
    · have := Int.tmod_nonneg b ha
      omega
  · have := Int.natAbs_tmod a b
    rw [this]
    exact Nat.mod_lt _ (by omega)
theorem rest_I {a b : Int} (ha : I64 a) (hb : I64 b) (h0 : b ≠ 0) : smallB (a.tdiv b * b) = true ∧ smallB (a - a.tdiv b * b) = true := by
  have h := tdiv_rest a b h0
  unfold I64 at ha hb
  unfold smallB
  generalize a.tdiv b * b = x at *
  simp only [decide_eq_true_eq]
  omega
theorem rest_of (a b : Int) (h0 : b ≠ 0) : (((0 < b) ∧ (a - a.tdiv b * b < b) ∧ (-b < a - a.tdiv b * b)) ∨ (b < 0 ∧ -9223372036854775808 < b ∧ b < a - a.tdiv b * b ∧ a - a.tdiv b * b < -b) ∨ (b ≤ -9223372036854775808 ∧ b < a - a.tdiv b * b)) ∧ True ∧ (a - a.tdiv b * b = 0 ∨ (a - a.tdiv b * b < 0 ∧ a < 0) ∨ (0 < a - a.tdiv b * b ∧ 0 ≤ a)) := by
  have h := tdiv_rest a b h0
  generalize a.tdiv b * b = x at *
  refine ⟨?_, trivial, h.1⟩
  omega
theorem div_small {a b : Int} (ha : I64 a) (hb : I64 b) (h0 : b ≠ 0) (h : smallB (a.tdiv b) = false) : b = -1 := by
  refine Classical.byContradiction fun h1 => ?_
  unfold smallB at h
  simp only [decide_eq_false_iff_not] at h
  unfold I64 at ha hb
  have h2 : (a.tdiv b).natAbs = a.natAbs / b.natAbs := Int.natAbs_tdiv a b
  by_cases hb1 : b = 1
  · subst hb1
    rw [Int.tdiv_one] at h
    omega
  · have h3 : a.natAbs / b.natAbs ≤ a.natAbs / 2 := Nat.div_le_div_left (by omega) (by omega)
    omega
theorem addIY (a b z : Int) (w : World) (ha : I64 a) (hb : I64 b) (hz : a + b = z) (h : smallB z = true) : Calls Try.prog 20 #[.agg #[.int .i64 2, .int .i64 a, .int .u64 0, .string ⟨#[]⟩], .agg #[.int .i64 2, .int .i64 b, .int .u64 0, .string ⟨#[]⟩]] w fun e w' => e = .returned (.tuple #[.agg #[.int .i64 2, .int .i64 z, .int .u64 0, .string ⟨#[]⟩], .int .i64 0]) ∧ Below w.heap.size w w' := by
  have := add_any (VI a) (VI b) w ha hb
  rw [opI, show (VI a).n = a from rfl, show (VI b).n = b from rfl, hz, show outR z = (VI z, 0) from by unfold outR; rw [h]; rfl] at this
  exact this
theorem addIN (a b z : Int) (w : World) (ha : I64 a) (hb : I64 b) (hz : a + b = z) (h : smallB z = false) : Calls Try.prog 20 #[.agg #[.int .i64 2, .int .i64 a, .int .u64 0, .string ⟨#[]⟩], .agg #[.int .i64 2, .int .i64 b, .int .u64 0, .string ⟨#[]⟩]] w fun e w' => e = .returned (.tuple #[.agg #[.int .i64 0, .int .i64 0, .int .u64 0, .string ⟨#[]⟩], .int .i64 140]) ∧ Below w.heap.size w w' := by
  have := add_any (VI a) (VI b) w ha hb
  rw [opI, show (VI a).n = a from rfl, show (VI b).n = b from rfl, hz, show outR z = (V0, 140) from by unfold outR; rw [h]; rfl] at this
  exact this
theorem subIY (a b z : Int) (w : World) (ha : I64 a) (hb : I64 b) (hz : a - b = z) (h : smallB z = true) : Calls Try.prog 22 #[.agg #[.int .i64 2, .int .i64 a, .int .u64 0, .string ⟨#[]⟩], .agg #[.int .i64 2, .int .i64 b, .int .u64 0, .string ⟨#[]⟩]] w fun e w' => e = .returned (.tuple #[.agg #[.int .i64 2, .int .i64 z, .int .u64 0, .string ⟨#[]⟩], .int .i64 0]) ∧ Below w.heap.size w w' := by
  have := sub_any (VI a) (VI b) w ha hb
  rw [opI, show (VI a).n = a from rfl, show (VI b).n = b from rfl, hz, show outR z = (VI z, 0) from by unfold outR; rw [h]; rfl] at this
  exact this
theorem subIN (a b z : Int) (w : World) (ha : I64 a) (hb : I64 b) (hz : a - b = z) (h : smallB z = false) : Calls Try.prog 22 #[.agg #[.int .i64 2, .int .i64 a, .int .u64 0, .string ⟨#[]⟩], .agg #[.int .i64 2, .int .i64 b, .int .u64 0, .string ⟨#[]⟩]] w fun e w' => e = .returned (.tuple #[.agg #[.int .i64 0, .int .i64 0, .int .u64 0, .string ⟨#[]⟩], .int .i64 140]) ∧ Below w.heap.size w w' := by
  have := sub_any (VI a) (VI b) w ha hb
  rw [opI, show (VI a).n = a from rfl, show (VI b).n = b from rfl, hz, show outR z = (V0, 140) from by unfold outR; rw [h]; rfl] at this
  exact this
theorem mulIY (a b z : Int) (w : World) (ha : I64 a) (hb : I64 b) (hz : a * b = z) (h : smallB z = true) : Calls Try.prog 21 #[.agg #[.int .i64 2, .int .i64 a, .int .u64 0, .string ⟨#[]⟩], .agg #[.int .i64 2, .int .i64 b, .int .u64 0, .string ⟨#[]⟩]] w fun e w' => e = .returned (.tuple #[.agg #[.int .i64 2, .int .i64 z, .int .u64 0, .string ⟨#[]⟩], .int .i64 0]) ∧ Below w.heap.size w w' := by
  have := mul_any (VI a) (VI b) w ha hb
  rw [opI, show (VI a).n = a from rfl, show (VI b).n = b from rfl, hz, show outR z = (VI z, 0) from by unfold outR; rw [h]; rfl] at this
  exact this
theorem mulIN (a b z : Int) (w : World) (ha : I64 a) (hb : I64 b) (hz : a * b = z) (h : smallB z = false) : Calls Try.prog 21 #[.agg #[.int .i64 2, .int .i64 a, .int .u64 0, .string ⟨#[]⟩], .agg #[.int .i64 2, .int .i64 b, .int .u64 0, .string ⟨#[]⟩]] w fun e w' => e = .returned (.tuple #[.agg #[.int .i64 0, .int .i64 0, .int .u64 0, .string ⟨#[]⟩], .int .i64 140]) ∧ Below w.heap.size w w' := by
  have := mul_any (VI a) (VI b) w ha hb
  rw [opI, show (VI a).n = a from rfl, show (VI b).n = b from rfl, hz, show outR z = (V0, 140) from by unfold outR; rw [h]; rfl] at this
  exact this
theorem addI (a b : Int) (w : World) (ha : I64 a) (hb : I64 b) : Calls Try.prog 20 #[.agg #[.int .i64 2, .int .i64 a, .int .u64 0, .string ⟨#[]⟩], .agg #[.int .i64 2, .int .i64 b, .int .u64 0, .string ⟨#[]⟩]] w fun e w' => e = .returned (resT (outR (a + b))) ∧ Below w.heap.size w w' := by
  have := add_any (VI a) (VI b) w ha hb
  rw [opI] at this
  exact this
theorem divIY (a b z : Int) (w : World) (ha : I64 a) (hb : I64 b) (h0 : b ≠ 0) (hz : a.tdiv b = z) (h : smallB z = true) : Calls Try.prog 23 #[.agg #[.int .i64 2, .int .i64 a, .int .u64 0, .string ⟨#[]⟩], .agg #[.int .i64 2, .int .i64 b, .int .u64 0, .string ⟨#[]⟩]] w fun e w' => e = .returned (.tuple #[.agg #[.int .i64 2, .int .i64 z, .int .u64 0, .string ⟨#[]⟩], .int .i64 0]) ∧ Below w.heap.size w w' := by
  have := div_any z (VI a) (VI b) w ha hb (by rw [← hz]; show _ = if b = 0 then _ else _; rw [if_neg h0]; rfl)
  rw [opI, show outR z = (VI z, 0) from by unfold outR; rw [h]; rfl] at this
  exact this
theorem divIN (a b z : Int) (w : World) (ha : I64 a) (hb : I64 b) (hz : z = if b = 0 then 9223372036854775808 else a.tdiv b) (h : smallB z = false) : Calls Try.prog 23 #[.agg #[.int .i64 2, .int .i64 a, .int .u64 0, .string ⟨#[]⟩], .agg #[.int .i64 2, .int .i64 b, .int .u64 0, .string ⟨#[]⟩]] w fun e w' => e = .returned (.tuple #[.agg #[.int .i64 0, .int .i64 0, .int .u64 0, .string ⟨#[]⟩], .int .i64 140]) ∧ Below w.heap.size w w' := by
  have := div_any z (VI a) (VI b) w ha hb hz
  rw [opI, show outR z = (V0, 140) from by unfold outR; rw [h]; rfl] at this
  exact this
theorem divN0 (b : Int) (w : World) (hb : I64 b) : Calls Try.prog 23 #[.agg #[.int .i64 0, .int .i64 0, .int .u64 0, .string ⟨#[]⟩], .agg #[.int .i64 2, .int .i64 b, .int .u64 0, .string ⟨#[]⟩]] w fun e w' => e = .returned (.tuple #[.agg #[.int .i64 0, .int .i64 0, .int .u64 0, .string ⟨#[]⟩], .int .i64 0]) ∧ Below w.heap.size w w' := by
  have := div_any _ V0 (VI b) w ⟨by decide, by decide⟩ hb rfl
  rw [show ∀ r, opV r V0 (VI b) = (V0, 0) from fun r => by unfold opV; rw [areE_two, ok0, okI, mis0, mis2I]; rfl] at this
  exact this
theorem addL (a b : Int) (ha : I64 a) (hb : I64 b) : ∃ (v : VV) (e : Int), (e = 0 → v = VI (a + b) ∧ smallB (a + b) = true) ∧ ∀ w, Calls Try.prog 20 #[.agg #[.int .i64 2, .int .i64 a, .int .u64 0, .string ⟨#[]⟩], .agg #[.int .i64 2, .int .i64 b, .int .u64 0, .string ⟨#[]⟩]] w fun r w' => r = .returned (.tuple #[.agg #[.int .i64 v.k, .int .i64 v.n, .int .u64 v.u, .string v.s], .int .i64 e]) ∧ Below w.heap.size w w' := by
  cases h : smallB (a + b) with
  | true => exact ⟨VI (a + b), 0, fun _ => ⟨rfl, rfl⟩, fun w => addIY a b _ w ha hb rfl h⟩
  | false => exact ⟨V0, 140, fun h => absurd h (by decide), fun w => addIN a b _ w ha hb rfl h⟩
theorem mulL (a b : Int) (ha : I64 a) (hb : I64 b) : ∃ (p : VV) (e : Int), (e = 0 → p = VI (a * b)) ∧ (∀ w, Calls Try.prog 21 #[.agg #[.int .i64 2, .int .i64 a, .int .u64 0, .string ⟨#[]⟩], .agg #[.int .i64 2, .int .i64 b, .int .u64 0, .string ⟨#[]⟩]] w fun r w' => r = .returned (.tuple #[.agg #[.int .i64 p.k, .int .i64 p.n, .int .u64 p.u, .string p.s], .int .i64 e]) ∧ Below w.heap.size w w') ∧ (∀ w, Calls Try.prog 21 #[.agg #[.int .i64 2, .int .i64 b, .int .u64 0, .string ⟨#[]⟩], .agg #[.int .i64 2, .int .i64 a, .int .u64 0, .string ⟨#[]⟩]] w fun r w' => r = .returned (.tuple #[.agg #[.int .i64 p.k, .int .i64 p.n, .int .u64 p.u, .string p.s], .int .i64 e]) ∧ Below w.heap.size w w') ∧
    ∃ (d : VV) (ed : Int), (e = 0 → b ≠ 0 → ed = 0 → d = VI a) ∧ ∀ w, Calls Try.prog 23 #[.agg #[.int .i64 p.k, .int .i64 p.n, .int .u64 p.u, .string p.s], .agg #[.int .i64 2, .int .i64 b, .int .u64 0, .string ⟨#[]⟩]] w fun r w' => r = .returned (.tuple #[.agg #[.int .i64 d.k, .int .i64 d.n, .int .u64 d.u, .string d.s], .int .i64 ed]) ∧ Below w.heap.size w w' := by
  cases h : smallB (a * b) with
  | true =>
    refine ⟨VI (a * b), 0, fun _ => rfl, fun w => mulIY a b _ w ha hb rfl h, fun w => mulIY b a _ w hb ha (Int.mul_comm b a) h, ?_⟩
    by_cases h0 : b = 0
    · exact ⟨V0, 140, fun _ h _ => absurd h0 h, fun w => divIN (a * b) b 9223372036854775808 w (small_I h) hb (by rw [if_pos h0]) rfl⟩
    · exact ⟨VI a, 0, fun _ _ _ => rfl, fun w => divIY (a * b) b a w (small_I h) hb h0 (Int.mul_tdiv_cancel a h0) (small_of ha)⟩
  | false => exact ⟨V0, 140, fun h => absurd h (by decide), fun w => mulIN a b _ w ha hb rfl h, fun w => mulIN b a _ w hb ha (Int.mul_comm b a) h, V0, 0, fun h => absurd h (by decide), fun w => divN0 b w hb⟩
theorem divL (a b : Int) (ha : I64 a) (hb : I64 b) : ∃ (q : VV) (e : Int), (e = 0 → q = VI (a.tdiv b) ∧ smallB (a.tdiv b) = true ∧ b ≠ 0) ∧ (e ≠ 0 → b = 0 ∨ b = -1) ∧ ∀ w, Calls Try.prog 23 #[.agg #[.int .i64 2, .int .i64 a, .int .u64 0, .string ⟨#[]⟩], .agg #[.int .i64 2, .int .i64 b, .int .u64 0, .string ⟨#[]⟩]] w fun r w' => r = .returned (.tuple #[.agg #[.int .i64 q.k, .int .i64 q.n, .int .u64 q.u, .string q.s], .int .i64 e]) ∧ Below w.heap.size w w' := by
  by_cases h0 : b = 0
  · exact ⟨V0, 140, fun h => absurd h (by decide), fun _ => Or.inl h0, fun w => divIN a b 9223372036854775808 w ha hb (by rw [if_pos h0]) rfl⟩
  · cases h : smallB (a.tdiv b) with
    | true => exact ⟨VI (a.tdiv b), 0, fun _ => ⟨rfl, rfl, h0⟩, fun h => absurd rfl h, fun w => divIY a b _ w ha hb h0 rfl h⟩
    | false => exact ⟨V0, 140, fun h => absurd h (by decide), fun _ => Or.inr (div_small ha hb h0 h), fun w => divIN a b (a.tdiv b) w ha hb (by rw [if_neg h0]) h⟩

end Go.Proofs.Ytemakmgppafccaa
