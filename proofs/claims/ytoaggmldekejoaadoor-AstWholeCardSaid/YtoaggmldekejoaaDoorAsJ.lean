/- Unlike trees are written unlike: whole trees. Plain Lean. Conditions: none. -/
import Derived.Test.YtoaggmldekejoaaDoorAsI
namespace Go.Proofs.YtoaggmldekejoaaDoor
theorem end32 {x r : List UInt8} (h : endP x) (e : x = 32 :: r) : False := by
  rcases h with h | ⟨r', h⟩
  · rw [h] at e; cases e
  · rw [h] at e; injection e with e; exact absurd e (by decide)
theorem tw32 {w r : List UInt8} (h : w.all (fun b => decide (b ≠ 32)) = true) : (w ++ (32 :: r)).takeWhile (fun b => decide (b ≠ 32)) = w :=
  takeWhile_all h (by rintro b r' e; injection e with e; subst e; rfl)
/-- the part that a tree begins with, and what follows it -/
def frontT : Tr → Option (Tr × List UInt8)
  | .leaf p => some (.leaf p, [])
  | .one p a => if p.tag ≤ 5 then none else if p.tag ≤ 7 then some (a, 32 :: sgL p.tag) else some (.one p a, [])
  | .two p a b => some (a, 32 :: (sgL p.tag ++ (32 :: parT b)))
theorem front_one (p : Py) (a : Tr) : frontT (.one p a) = if p.tag ≤ 5 then none else if p.tag ≤ 7 then some (a, 32 :: sgL p.tag) else some (.one p a, []) := rfl
theorem front_some {t h : Tr} {T : List UInt8} (ht : t.ok cntB = true) (e : frontT t = some (h, T)) : prT t = parT h ++ T ∧ h.ok cntB = true ∧ (T = [] ∧ h = t ∧ bareT t = true ∨ (∃ r, T = 32 :: r) ∧ h.size < t.size) := by
  cases t with
  | leaf p =>
    injection e with e
    injection e with e1 e2
    subst e1 e2
    exact ⟨by rw [par_bare rfl, List.append_nil], ht, .inl ⟨rfl, rfl, rfl⟩⟩
  | one p a =>
    rw [front_one] at e
    by_cases h5 : p.tag ≤ 5
    · rw [if_pos h5] at e; cases e
    · rw [if_neg h5] at e
      by_cases h7 : p.tag ≤ 7
      · rw [if_pos h7] at e
        injection e with e
        injection e with e1 e2
        subst e1 e2
        exact ⟨pr_post (by omega) h7, (ok_one ht).2.2, .inr ⟨⟨_, rfl⟩, by rw [Tr.size_one]; omega⟩⟩
      · rw [if_neg h7] at e
        injection e with e
        injection e with e1 e2
        subst e1 e2
        have hb : bareT (.one p a) = true := decide_eq_true (by omega)
        exact ⟨by rw [par_bare hb, List.append_nil], ht, .inl ⟨rfl, rfl, hb⟩⟩
  | two p a b =>
    injection e with e
    injection e with e1 e2
    subst e1 e2
    exact ⟨pr_two p a b, (ok_two ht).2.2.1, .inr ⟨⟨_, rfl⟩, by rw [Tr.size_two]; omega⟩⟩
theorem front_none {t : Tr} (ht : t.ok cntB = true) (e : frontT t = none) : ∃ p a, t = .one p a ∧ (p.tag = 4 ∨ p.tag = 5) := by
  cases t with
  | leaf p => cases e
  | one p a =>
    have hg := tag_one (ok_one ht).1
    rw [front_one] at e
    by_cases h5 : p.tag ≤ 5
    · exact ⟨p, a, rfl, by omega⟩
    · rw [if_neg h5] at e
      by_cases h7 : p.tag ≤ 7
      · rw [if_pos h7] at e; cases e
      · rw [if_neg h7] at e; cases e
  | two p a b => cases e
/-- what begins with a minus or with NOT begins with no part -/
theorem pre_no_front {p : Py} {a h : Tr} {x T y : List UInt8} (hp : p.tag = 4 ∨ p.tag = 5) (hh : h.ok cntB = true) (hT : sepP (T ++ y)) (e : sgL p.tag ++ (32 :: parT a) ++ x = parT h ++ T ++ y) : False := by
  rw [List.append_assoc, List.append_assoc] at e
  rcases hp with hp | hp
  · rw [hp] at e
    obtain ⟨b, r, e1, h1⟩ := par_head hh
    rw [e1] at e
    have e2 : (45 : UInt8) :: (32 :: parT a ++ x) = b :: (r ++ (T ++ y)) := e
    injection e2 with e2
    subst e2
    revert h1; decide
  · rw [hp] at e
    have hc := par_caps hh hT
    rw [← e] at hc
    exact hc (caps_stop (w := [78, 79, 84]) (by decide) (by rintro b r e; injection e with e; subst e; rfl))
theorem tail_sep {T y : List UInt8} (h : T = [] ∨ ∃ r, T = 32 :: r) (hy : endP y) : sepP (T ++ y) := by
  rcases h with rfl | ⟨r, rfl⟩
  · exact hy.sep
  · exact sep32 _
theorem NP_all : ∀ (n : Nat) (t : Tr), t.size ≤ n → t.ok cntB = true → NP t
  | 0, t, h, _ => by have := t.size_pos; omega
  | n + 1, t, h, ht => by
    have ih := NP_all n
    have hPP : ∀ a : Tr, a.size ≤ n → a.ok cntB = true → PP a := fun a ha hoa => by
      cases hb : bareT a
      · exact PP_not hb (ih a ha hoa)
      · refine PP_bare hoa hb ?_
        cases a with
        | leaf p => exact BP_leaf hoa
        | one p c => exact BP_agg hoa (of_decide_eq_true hb) (ih c (by rw [Tr.size_one] at ha; omega) (ok_one hoa).2.2)
        | two p c d => cases hb
    have hPT : bareT t = true → PP t := fun hb => by
      refine PP_bare ht hb ?_
      cases t with
      | leaf p => exact BP_leaf ht
      | one p c => exact BP_agg ht (of_decide_eq_true hb) (ih c (by rw [Tr.size_one] at h; omega) (ok_one ht).2.2)
      | two p c d => cases hb
    intro u x y hu hx hy e
    cases hft : frontT t with
    | none =>
      obtain ⟨p, a, rfl, hp⟩ := front_none ht hft
      have ho := ok_one ht
      rw [pr_pre (by omega)] at e
      cases hfu : frontT u with
      | none =>
        obtain ⟨q, b, rfl, hq⟩ := front_none hu hfu
        have hoq := ok_one hu
        rw [pr_pre (by omega)] at e
        have htag : p.tag = q.tag := by
          rcases hp with hp | hp <;> rcases hq with hq | hq
          · rw [hp, hq]
          · rw [hp, hq] at e
            have e2 : (45 : UInt8) :: (32 :: parT a ++ x) = 78 :: (79 :: 84 :: 32 :: parT b ++ y) := e
            injection e2 with e2
            exact absurd e2 (by decide)
          · rw [hp, hq] at e
            have e2 : (78 : UInt8) :: (79 :: 84 :: 32 :: parT a ++ x) = 45 :: (32 :: parT b ++ y) := e
            injection e2 with e2
            exact absurd e2 (by decide)
          · rw [hp, hq]
        have hpq : p = q := by rw [inner_zero ho.2.1 (.inl ho.1), inner_zero hoq.2.1 (.inl hoq.1), htag]
        subst hpq
        rw [List.append_assoc, List.append_assoc] at e
        have e2 := List.append_cancel_left e
        injection e2 with _ e2
        obtain ⟨rfl, e3⟩ := hPP a (by rw [Tr.size_one] at h; omega) ho.2.2 b x y hoq.2.2 hx.sep hy.sep e2
        exact ⟨rfl, e3⟩
      | some hT =>
        obtain ⟨g, T⟩ := hT
        obtain ⟨f1, f2, f3⟩ := front_some hu hfu
        rw [f1] at e
        exact (pre_no_front hp f2 (tail_sep (f3.imp (·.1) (·.1)) hy) e).elim
    | some hT =>
      obtain ⟨g, T⟩ := hT
      obtain ⟨f1, f2, f3⟩ := front_some ht hft
      cases hfu : frontT u with
      | none =>
        obtain ⟨q, b, rfl, hq⟩ := front_none hu hfu
        rw [f1, pr_pre (by omega)] at e
        exact (pre_no_front hq f2 (tail_sep (f3.imp (·.1) (·.1)) hx) e.symm).elim
      | some hU =>
        obtain ⟨k, U⟩ := hU
        obtain ⟨g1, g2, g3⟩ := front_some hu hfu
        rw [f1, g1, List.append_assoc, List.append_assoc] at e
        have hP : PP g := by
          rcases f3 with ⟨_, e2, hb⟩ | ⟨_, hlt⟩
          · rw [e2]; exact hPT hb
          · exact hPP g (by omega) f2
        obtain ⟨hgk, e2⟩ := hP k _ _ g2 (tail_sep (f3.imp (·.1) (·.1)) hx) (tail_sep (g3.imp (·.1) (·.1)) hy) e
        rcases f3 with ⟨rfl, e3, hb⟩ | ⟨⟨r, hr⟩, hlt⟩
        · rcases g3 with ⟨rfl, e4, hb2⟩ | ⟨⟨r2, hr2⟩, _⟩
          · exact ⟨by rw [← e3, hgk, e4], e2⟩
          · rw [hr2] at e2; exact (end32 hx e2).elim
        · rcases g3 with ⟨rfl, e4, hb2⟩ | ⟨⟨r2, hr2⟩, _⟩
          · rw [hr] at e2; exact (end32 hy e2.symm).elim
          · -- a sign behind a part, on both sides
            clear hr hr2 r r2
            cases t with
            | leaf p =>
              have h8 : some (Tr.leaf p, ([] : List UInt8)) = some (g, T) := hft
              injection h8 with h8
              injection h8 with h8
              subst h8
              exact absurd hlt (Nat.lt_irrefl _)
            | one p a =>
              have ho := ok_one ht
              have htg := tag_one ho.1
              have hnt : ¬ p.tag ≤ 5 ∧ p.tag ≤ 7 := by
                rw [front_one] at hft
                by_cases h5 : p.tag ≤ 5
                · rw [if_pos h5] at hft; cases hft
                · rw [if_neg h5] at hft
                  by_cases h7 : p.tag ≤ 7
                  · exact ⟨h5, h7⟩
                  · rw [if_neg h7] at hft
                    injection hft with h8
                    injection h8 with h8
                    subst h8
                    omega
              rw [front_one] at hft
              rw [if_neg hnt.1, if_pos hnt.2] at hft
              injection hft with h8
              injection h8 with h8 h9
              subst h8 h9
              cases u with
              | leaf q => injection hfu with h8; injection h8 with h8 h9; subst h9; rw [List.nil_append, List.cons_append] at e2; exact (end32 hy e2.symm).elim
              | one q b =>
                have hoq := ok_one hu
                have htq := tag_one hoq.1
                rw [front_one] at hfu
                by_cases h5 : q.tag ≤ 5
                · rw [if_pos h5] at hfu; cases hfu
                · rw [if_neg h5] at hfu
                  by_cases h7 : q.tag ≤ 7
                  · rw [if_pos h7] at hfu
                    injection hfu with h8
                    injection h8 with h8 h9
                    subst h8 h9
                    subst hgk
                    rw [List.cons_append, List.cons_append] at e2
                    injection e2 with _ e2
                    have htag : p.tag = q.tag := by
                      rcases (show p.tag = 6 ∨ p.tag = 7 by omega) with hp | hp <;> rcases (show q.tag = 6 ∨ q.tag = 7 by omega) with hq | hq
                      · rw [hp, hq]
                      · rw [hp, hq] at e2
                        have e9 : (73 : UInt8) :: 83 :: 32 :: 78 :: 85 :: (76 :: 76 :: x) = 73 :: 83 :: 32 :: 78 :: 79 :: (84 :: 32 :: 78 :: 85 :: 76 :: 76 :: y) := e2
                        injection e9 with _ e9; injection e9 with _ e9; injection e9 with _ e9; injection e9 with _ e9; injection e9 with e9
                        exact absurd e9 (by decide)
                      · rw [hp, hq] at e2
                        have e9 : (73 : UInt8) :: 83 :: 32 :: 78 :: 79 :: (84 :: 32 :: 78 :: 85 :: 76 :: 76 :: x) = 73 :: 83 :: 32 :: 78 :: 85 :: (76 :: 76 :: y) := e2
                        injection e9 with _ e9; injection e9 with _ e9; injection e9 with _ e9; injection e9 with _ e9; injection e9 with e9
                        exact absurd e9 (by decide)
                      · rw [hp, hq]
                    have hpq : p = q := by rw [inner_zero ho.2.1 (.inl ho.1), inner_zero hoq.2.1 (.inl hoq.1), htag]
                    subst hpq
                    exact ⟨rfl, List.append_cancel_left e2⟩
                  · rw [if_neg h7] at hfu
                    injection hfu with h8
                    injection h8 with h8 h9
                    subst h9
                    rw [List.nil_append, List.cons_append] at e2; exact (end32 hy e2.symm).elim
              | two q b d =>
                have hoq := ok_two hu
                have htq := tag_two hoq.1
                injection hfu with h8
                injection h8 with h8 h9
                subst h8 h9
                rw [List.cons_append, List.cons_append] at e2
                injection e2 with _ e2
                have hs := two_sg htq.1 htq.2
                have hw : (sgL p.tag ++ x).takeWhile (fun b => decide (b ≠ 32)) = sgL q.tag := by rw [e2, List.append_assoc, List.cons_append]; exact tw32 hs.1
                have hw2 : (sgL p.tag ++ x).takeWhile (fun b => decide (b ≠ 32)) = [73, 83] := by
                  rcases (show p.tag = 6 ∨ p.tag = 7 by omega) with hp | hp <;> rw [hp] <;> rfl
                exact (hs.2 (hw.symm.trans hw2)).elim
            | two p a b =>
              have ho := ok_two ht
              have htg := tag_two ho.1
              injection hft with h8
              injection h8 with h8 h9
              subst h8 h9
              cases u with
              | leaf q => injection hfu with h8; injection h8 with h8 h9; subst h9; rw [List.nil_append, List.cons_append] at e2; exact (end32 hy e2.symm).elim
              | one q d =>
                have hoq := ok_one hu
                have htq := tag_one hoq.1
                rw [front_one] at hfu
                by_cases h5 : q.tag ≤ 5
                · rw [if_pos h5] at hfu; cases hfu
                · rw [if_neg h5] at hfu
                  by_cases h7 : q.tag ≤ 7
                  · rw [if_pos h7] at hfu
                    injection hfu with h8
                    injection h8 with h8 h9
                    subst h8 h9
                    rw [List.cons_append, List.cons_append] at e2
                    injection e2 with _ e2
                    have hs := two_sg htg.1 htg.2
                    have hw : (sgL q.tag ++ y).takeWhile (fun b => decide (b ≠ 32)) = sgL p.tag := by rw [← e2, List.append_assoc, List.cons_append]; exact tw32 hs.1
                    have hw2 : (sgL q.tag ++ y).takeWhile (fun b => decide (b ≠ 32)) = [73, 83] := by
                      rcases (show q.tag = 6 ∨ q.tag = 7 by omega) with hp | hp <;> rw [hp] <;> rfl
                    exact (hs.2 (hw.symm.trans hw2)).elim
                  · rw [if_neg h7] at hfu
                    injection hfu with h8
                    injection h8 with h8 h9
                    subst h9
                    rw [List.nil_append, List.cons_append] at e2; exact (end32 hy e2.symm).elim
              | two q d f =>
                have hoq := ok_two hu
                have htq := tag_two hoq.1
                injection hfu with h8
                injection h8 with h8 h9
                subst h8 h9
                subst hgk
                rw [List.cons_append, List.cons_append] at e2
                injection e2 with _ e2
                rw [List.append_assoc, List.append_assoc, List.cons_append, List.cons_append] at e2
                have hw := congrArg (List.takeWhile fun b => decide (b ≠ 32)) e2
                rw [tw32 (two_sg htg.1 htg.2).1, tw32 (two_sg htq.1 htq.2).1] at hw
                have htag := two_inj htg.1 htg.2 htq.1 htq.2 hw
                have hpq : p = q := by rw [inner_zero ho.2.1 (.inr ho.1), inner_zero hoq.2.1 (.inr hoq.1), htag]
                subst hpq
                have e3 := List.append_cancel_left e2
                injection e3 with _ e3
                obtain ⟨rfl, e4⟩ := hPP b (by rw [Tr.size_two] at h; omega) ho.2.2.2 f x y hoq.2.2.2 hx.sep hy.sep e3
                exact ⟨rfl, e4⟩
/-- THE LAW: unlike trees are written unlike. -/
theorem prT_inj {t u : Tr} (ht : t.ok cntB = true) (hu : u.ok cntB = true) (h : prT t = prT u) : t = u :=
  (NP_all t.size t (Nat.le_refl _) ht u [] [] hu (.inl rfl) (.inl rfl) (by rw [h])).1
end Go.Proofs.YtoaggmldekejoaaDoor
