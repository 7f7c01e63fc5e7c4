/- Plain facts on truths: Not, And and Or of the three truths. Conditions: none. -/
import Derived.Test.YtabbiepafibmmaaDoorRor
import Derived.Test.YtabbiepafibmmaaDoorTrue
namespace Go.Proofs.YtabbiepafibmmaaDoor
open Go.RowKit
def tv (a : VV) : Prop := a = V0 ∨ a = VB0 ∨ a = VB1
theorem tv_kind {a : VV} (h : kindE [a] = 0) : tv a := kind0_tv h a (by simp)
theorem kind_tv {a : VV} (h : tv a) : kindE [a] = 0 := by rcases h with rfl | rfl | rfl <;> decide +kernel
theorem kind_tv2 {a c : VV} (h : tv a) : kindE [a, c] = kindE [c] := by
  have h1 : a.ok = true ∧ decide (1 < a.k) = false := by rcases h with rfl | rfl | rfl <;> decide +kernel
  simp only [kindE, List.all_cons, List.any_cons, h1.1, h1.2, Bool.true_and, Bool.false_or]
  rfl
theorem notV_err {a : VV} (h : kindE [a] ≠ 0) : notV a = (V0, kindE [a]) := by unfold notV logV; rw [if_neg h]
theorem andV_err {a c : VV} (h : tv a) (hc : kindE [c] ≠ 0) : andV a c = (V0, kindE [c]) := by unfold andV logV; rw [kind_tv2 h, if_neg hc]
theorem notV_tv {a : VV} (h : tv a) : ∃ n, notV a = (n, 0) ∧ tv n ∧ notV n = (a, 0) := by
  have n0 : notV V0 = (V0, 0) := by unfold notV logV; rw [if_pos (by decide +kernel)]; rfl
  have n1 : notV VB0 = (VB1, 0) := by unfold notV logV; rw [if_pos (by decide +kernel)]; rfl
  have n2 : notV VB1 = (VB0, 0) := by unfold notV logV; rw [if_pos (by decide +kernel)]; rfl
  rcases h with rfl | rfl | rfl
  · exact ⟨_, n0, .inl rfl, n0⟩
  · exact ⟨_, n1, .inr (.inr rfl), n2⟩
  · exact ⟨_, n2, .inr (.inl rfl), n1⟩
theorem andV_tv {a b n m : VV} (ha : tv a) (hb : tv b) (hn : notV a = (n, 0)) (hm : notV b = (m, 0)) :
    ∃ x u, andV a b = (x, 0) ∧ andV b a = (x, 0) ∧ tv x ∧ orV n m = (u, 0) ∧ notV x = (u, 0) ∧ trueB x = (trueB a && trueB b) := by
  have n0 : notV V0 = (V0, 0) := by unfold notV logV; rw [if_pos (by decide +kernel)]; rfl
  have n1 : notV VB0 = (VB1, 0) := by unfold notV logV; rw [if_pos (by decide +kernel)]; rfl
  have n2 : notV VB1 = (VB0, 0) := by unfold notV logV; rw [if_pos (by decide +kernel)]; rfl
  rcases ha with rfl | rfl | rfl <;> rcases hb with rfl | rfl | rfl
  all_goals
    simp only [n0, n1, n2, Prod.mk.injEq, and_true] at hn hm
    subst hn hm
    simp only [andV, orV, logV]
    repeat rw [if_pos (by decide +kernel)]
    refine ⟨_, _, rfl, rfl, ?_, rfl, ?_, by decide +kernel⟩
    · first | exact .inl rfl | exact .inr (.inl rfl) | exact .inr (.inr rfl)
    · first | exact n0 | exact n1 | exact n2
theorem andV_assoc {a b x c : VV} (ha : tv a) (hb : tv b) (hx : andV a b = (x, 0)) (hc : tv c) : ∃ p q, andV x c = (p, 0) ∧ andV b c = (q, 0) ∧ andV a q = (p, 0) := by
  rcases ha with rfl | rfl | rfl <;> rcases hb with rfl | rfl | rfl
  all_goals
    simp only [andV, logV] at hx
    rw [if_pos (by decide +kernel)] at hx
    simp only [Prod.mk.injEq, and_true] at hx
    subst hx
    rcases hc with rfl | rfl | rfl
    all_goals
      simp only [andV, logV]
      repeat rw [if_pos (by decide +kernel)]
      refine ⟨_, _, rfl, rfl, ?_⟩
      repeat rw [if_pos (by decide +kernel)]
      try rfl
end Go.Proofs.YtabbiepafibmmaaDoor
