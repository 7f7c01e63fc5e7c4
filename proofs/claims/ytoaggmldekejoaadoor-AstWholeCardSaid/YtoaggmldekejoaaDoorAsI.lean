/- Unlike trees are written unlike. Plain Lean. Conditions: none. -/
import Derived.Test.YtoaggmldekejoaaDoorAsA
namespace Go.Proofs.YtoaggmldekejoaaDoor
def cpU (b : UInt8) : Bool := cpI (b.toNat : Int)
def caps (l : List UInt8) : List UInt8 := l.takeWhile cpU
def hdP (b : UInt8) : Bool := paU b || (decide (b = 39) || decide (b = 40))
theorem small_facts {b : UInt8} (h : smI (b.toNat : Int) = true) : cpU b = false ∧ paU b = true := by
  unfold smI at h
  rw [Bool.and_eq_true, decide_eq_true_eq, decide_eq_true_eq] at h
  constructor
  · unfold cpU cpI
    rw [Bool.and_eq_false_iff, decide_eq_false_iff_not, decide_eq_false_iff_not]
    omega
  · unfold paU paI smI
    rw [decide_eq_true h.1, decide_eq_true h.2]
    simp
theorem dg_facts {b : UInt8} (h : dgU b = true) : cpU b = false := by
  unfold dgU dgI at h
  rw [Bool.and_eq_true, decide_eq_true_eq, decide_eq_true_eq] at h
  unfold cpU cpI
  rw [Bool.and_eq_false_iff, decide_eq_false_iff_not, decide_eq_false_iff_not]
  omega
/-- how a leaf begins -/
theorem leaf_head {p : Py} (h : cntB p = true) (h0 : partsI p.tag = 0) : ∃ b r, leafU p = b :: r ∧ hdP b = true ∧ b ≠ 40 := by
  rcases leaf_cases h h0 with rfl | rfl | rfl | ⟨n, rfl⟩ | ⟨s, rfl⟩ | ⟨tb, nm, rfl, hn, ht⟩ | rfl
  · exact ⟨_, _, rfl, by decide, by decide⟩
  · exact ⟨_, _, rfl, by decide, by decide⟩
  · exact ⟨_, _, rfl, by decide, by decide⟩
  · obtain ⟨b, r, hbr⟩ := List.exists_cons_of_ne_nil (dec_ne n)
    have hb : dgU b = true := List.all_eq_true.1 (dec_all n) b (by rw [hbr]; simp)
    exact ⟨b, r, hbr, by unfold hdP; rw [dg_pa hb]; rfl, by rintro rfl; revert hb; decide⟩
  · exact ⟨_, _, rfl, by decide, by decide⟩
  · obtain ⟨_, _, b, r, n3, n4⟩ := name_small hn
    rcases ht with rfl | ht
    · exact ⟨b, r, n3, by unfold hdP; rw [(small_facts n4).2]; rfl, by rintro rfl; revert n4; decide⟩
    · obtain ⟨_, _, b2, r2, t3, t4⟩ := name_small ht
      refine ⟨b2, r2 ++ (46 :: nm.data.toList), ?_, by unfold hdP; rw [(small_facts t4).2]; rfl, by rintro rfl; revert t4; decide⟩
      show namU tb.data.toList nm.data.toList = _
      unfold namU
      rw [if_neg (by rw [t3]; simp), t3]
      rfl
  · exact ⟨_, _, rfl, by decide, by decide⟩
theorem caps_stop {w x : List UInt8} (h : w.all cpU = true) (hx : ∀ b r, x = b :: r → cpU b = false) : caps (w ++ x) = w := takeWhile_all h hx
theorem sep_cap {x : List UInt8} (h : sepP x) : ∀ b r, x = b :: r → cpU b = false := by
  rintro b r rfl
  rcases h with h | ⟨r', h | h⟩
  · cases h
  · injection h with h; subst h; rfl
  · injection h with h; subst h; rfl
/-- the capitals that a leaf begins with -/
theorem leaf_caps {p : Py} (h : cntB p = true) (h0 : partsI p.tag = 0) {x : List UInt8} (hx : sepP x) : (p = ⟨3, 0, 0, 0, eB, eB, eB⟩) ∨ caps (leafU p ++ x) ∈ ([[], [78, 85, 76, 76], [84, 82, 85, 69], [70, 65, 76, 83, 69]] : List (List UInt8)) := by
  rcases leaf_cases h h0 with rfl | rfl | rfl | ⟨n, rfl⟩ | ⟨s, rfl⟩ | ⟨tb, nm, rfl, hn, ht⟩ | rfl
  · right; rw [show leafU ⟨1, 0, 0, 0, eB, eB, eB⟩ = [78, 85, 76, 76] from rfl, caps_stop (by decide) (sep_cap hx)]; decide
  · right; rw [show leafU ⟨1, 1, 0, 0, eB, eB, eB⟩ = [70, 65, 76, 83, 69] from rfl, caps_stop (by decide) (sep_cap hx)]; decide
  · right; rw [show leafU ⟨1, 1, 1, 0, eB, eB, eB⟩ = [84, 82, 85, 69] from rfl, caps_stop (by decide) (sep_cap hx)]; decide
  · right
    obtain ⟨b, r, hbr⟩ := List.exists_cons_of_ne_nil (dec_ne n)
    have hb : dgU b = true := List.all_eq_true.1 (dec_all n) b (by rw [hbr]; simp)
    rw [show leafU ⟨1, 2, (n : Int), 0, eB, eB, eB⟩ = Lib.decDigits n from rfl, hbr]
    unfold caps
    rw [List.cons_append, List.takeWhile_cons, dg_facts hb]
    exact List.mem_cons_self
  · right; exact List.mem_cons_self
  · right
    obtain ⟨_, _, b, r, n3, n4⟩ := name_small hn
    rcases ht with rfl | ht
    · rw [show leafU ⟨2, 0, 0, 0, eB, eB, nm⟩ = nm.data.toList from rfl, n3]
      unfold caps
      rw [List.cons_append, List.takeWhile_cons, (small_facts n4).1]
      exact List.mem_cons_self
    · obtain ⟨_, _, b2, r2, t3, t4⟩ := name_small ht
      have e : leafU ⟨2, 0, 0, 0, eB, tb, nm⟩ = b2 :: (r2 ++ (46 :: nm.data.toList)) := by
        show namU tb.data.toList nm.data.toList = _
        unfold namU
        rw [if_neg (by rw [t3]; simp), t3]
        rfl
      rw [e]
      unfold caps
      rw [List.cons_append, List.takeWhile_cons, (small_facts t4).1]
      exact List.mem_cons_self
  · left; rfl
theorem tag_one {t : Int} (h : partsI t = 1) : 4 ≤ t ∧ t ≤ 11 := by
  unfold partsI at h
  split at h
  · omega
  · split at h
    · omega
    · split at h
      · omega
      · split at h <;> omega
theorem tag_two {t : Int} (h : partsI t = 2) : 12 ≤ t ∧ t ≤ 23 := by
  unfold partsI at h
  split at h
  · omega
  · split at h
    · omega
    · split at h
      · omega
      · split at h <;> omega
theorem agg_cases {t : Int} (h1 : 8 ≤ t) (h2 : t ≤ 11) : t = 8 ∨ t = 9 ∨ t = 10 ∨ t = 11 := by omega
theorem agg_sg {t : Int} (h1 : 8 ≤ t) (h2 : t ≤ 11) : (sgL t).all cpU = true ∧ sgL t ∈ ([[67, 79, 85, 78, 84], [83, 85, 77], [77, 73, 78], [77, 65, 88]] : List (List UInt8)) := by
  rcases agg_cases h1 h2 with rfl | rfl | rfl | rfl <;> exact ⟨by decide, by decide⟩
theorem agg_inj {t u : Int} (h1 : 8 ≤ t) (h2 : t ≤ 11) (h3 : 8 ≤ u) (h4 : u ≤ 11) (h : sgL t = sgL u) : t = u := by
  rcases agg_cases h1 h2 with rfl | rfl | rfl | rfl <;> rcases agg_cases h3 h4 with rfl | rfl | rfl | rfl <;> first | rfl | exact absurd h (by decide)
theorem two_sgN : ∀ i ∈ List.range 24, 12 ≤ i → (∀ j ∈ List.range 24, 12 ≤ j → sgs.getD (i - 1) [] = sgs.getD (j - 1) [] → i = j) ∧ (sgs.getD (i - 1) []).all (fun b => decide (b ≠ 32)) = true ∧ sgs.getD (i - 1) [] ≠ [73, 83] := by decide
theorem two_sg {t : Int} (h1 : 12 ≤ t) (h2 : t ≤ 23) : (sgL t).all (fun b => decide (b ≠ 32)) = true ∧ sgL t ≠ [73, 83] := (two_sgN t.toNat (List.mem_range.2 (by omega)) (by omega)).2
theorem two_inj {t u : Int} (h1 : 12 ≤ t) (h2 : t ≤ 23) (h3 : 12 ≤ u) (h4 : u ≤ 23) (h : sgL t = sgL u) : t = u := by
  have := (two_sgN t.toNat (List.mem_range.2 (by omega)) (by omega)).1 u.toNat (List.mem_range.2 (by omega)) (by omega) h
  omega
theorem ok_leaf {p : Py} (h : (Tr.leaf p).ok cntB = true) : partsI p.tag = 0 ∧ cntB p = true := by
  unfold Tr.ok at h
  rwa [Bool.and_eq_true, decide_eq_true_eq] at h
theorem ok_one {p : Py} {a : Tr} (h : (Tr.one p a).ok cntB = true) : partsI p.tag = 1 ∧ cntB p = true ∧ a.ok cntB = true := by
  unfold Tr.ok at h
  rwa [Bool.and_eq_true, Bool.and_eq_true, decide_eq_true_eq] at h
theorem ok_two {p : Py} {a b : Tr} (h : (Tr.two p a b).ok cntB = true) : partsI p.tag = 2 ∧ cntB p = true ∧ a.ok cntB = true ∧ b.ok cntB = true := by
  unfold Tr.ok at h
  rwa [Bool.and_eq_true, Bool.and_eq_true, Bool.and_eq_true, decide_eq_true_eq] at h
theorem pr_leaf (p : Py) : prT (.leaf p) = leafU p := by rw [prT]
theorem pr_pre {p : Py} {a : Tr} (h : p.tag ≤ 5) : prT (.one p a) = sgL p.tag ++ (32 :: parT a) := by rw [prT, if_pos h]; rfl
theorem pr_post {p : Py} {a : Tr} (h : 6 ≤ p.tag) (h2 : p.tag ≤ 7) : prT (.one p a) = parT a ++ (32 :: sgL p.tag) := by rw [prT, if_neg (by omega), if_pos h2]; rfl
theorem pr_agg {p : Py} {a : Tr} (h : 8 ≤ p.tag) : prT (.one p a) = sgL p.tag ++ (40 :: (prT a ++ [41])) := by rw [prT, if_neg (by omega), if_neg (by omega)]
theorem pr_two (p : Py) (a b : Tr) : prT (.two p a b) = parT a ++ (32 :: (sgL p.tag ++ (32 :: parT b))) := by rw [prT]; rfl
theorem par_bare {a : Tr} (h : bareT a = true) : parT a = prT a := if_pos h
theorem par_not {a : Tr} (h : bareT a = false) : parT a = 40 :: (prT a ++ [41]) := if_neg (by rw [h]; decide)
/-- how a bare tree begins -/
theorem bare_head {t : Tr} (h : t.ok cntB = true) (hb : bareT t = true) : ∃ b r, prT t = b :: r ∧ hdP b = true ∧ b ≠ 40 := by
  cases t with
  | leaf p => rw [pr_leaf]; exact leaf_head (ok_leaf h).2 (ok_leaf h).1
  | one p a =>
    have h8 : 8 ≤ p.tag := of_decide_eq_true hb
    rw [pr_agg h8]
    have ht := tag_one (ok_one h).1
    rcases agg_cases h8 ht.2 with e | e | e | e <;> rw [e] <;> exact ⟨_, _, rfl, by decide, by decide⟩
  | two p a b => cases hb
theorem par_head {t : Tr} (h : t.ok cntB = true) : ∃ b r, parT t = b :: r ∧ hdP b = true := by
  cases hb : bareT t
  · rw [par_not hb]; exact ⟨_, _, rfl, by decide⟩
  · rw [par_bare hb]
    obtain ⟨b, r, e, h1, _⟩ := bare_head h hb
    exact ⟨b, r, e, h1⟩
/-- how a tree begins: with no star -/
theorem pr_head {t : Tr} (h : t.ok cntB = true) : ∃ b r, prT t = b :: r ∧ b ≠ 42 := by
  have hp : ∀ {a : Tr} {T : List UInt8}, a.ok cntB = true → ∃ b r, parT a ++ T = b :: r ∧ b ≠ 42 := fun {a T} ha => by
    obtain ⟨b, r, e, h1⟩ := par_head ha
    exact ⟨b, r ++ T, by rw [e]; rfl, by rintro rfl; revert h1; decide⟩
  cases t with
  | leaf p =>
    obtain ⟨b, r, e, h1, _⟩ := leaf_head (ok_leaf h).2 (ok_leaf h).1
    exact ⟨b, r, by rw [pr_leaf, e], by rintro rfl; revert h1; decide⟩
  | one p a =>
    have ho := ok_one h
    have ht := tag_one ho.1
    by_cases h5 : p.tag ≤ 5
    · rw [pr_pre h5]
      rcases (show p.tag = 4 ∨ p.tag = 5 by omega) with e | e <;> rw [e] <;> exact ⟨_, _, rfl, by decide⟩
    · by_cases h7 : p.tag ≤ 7
      · rw [pr_post (by omega) h7]; exact hp ho.2.2
      · rw [pr_agg (by omega)]
        rcases agg_cases (show 8 ≤ p.tag by omega) ht.2 with e | e | e | e <;> rw [e] <;> exact ⟨_, _, rfl, by decide⟩
  | two p a b => rw [pr_two]; exact hp (ok_two h).2.2.1
/-- no part begins with NOT -/
theorem par_caps {t : Tr} (h : t.ok cntB = true) {T : List UInt8} (hT : sepP T) : caps (parT t ++ T) ≠ [78, 79, 84] := by
  cases hb : bareT t
  · rw [par_not hb]; show ([] : List UInt8) ≠ _; decide
  · rw [par_bare hb]
    cases t with
    | leaf p =>
      rw [pr_leaf]
      rcases leaf_caps (ok_leaf h).2 (ok_leaf h).1 hT with e | e
      · rw [e]; show caps ([67, 79, 85, 78, 84] ++ (40 :: 42 :: 41 :: T)) ≠ _; rw [caps_stop (by decide) (by rintro b r e; injection e with e; subst e; rfl)]; decide
      · intro e2; rw [e2] at e; exact absurd e (by decide)
    | one p a =>
      have h8 : 8 ≤ p.tag := of_decide_eq_true hb
      have ht := tag_one (ok_one h).1
      have hs := agg_sg h8 ht.2
      rw [pr_agg h8, List.append_assoc, List.cons_append, caps_stop hs.1 (by rintro b r e; injection e with e; subst e; rfl)]
      intro e; rw [e] at hs; exact absurd hs.2 (by decide)
    | two p a b => cases hb
def NP (t : Tr) : Prop := ∀ u x y, u.ok cntB = true → endP x → endP y → prT t ++ x = prT u ++ y → t = u ∧ x = y
def PP (t : Tr) : Prop := ∀ u x y, u.ok cntB = true → sepP x → sepP y → parT t ++ x = parT u ++ y → t = u ∧ x = y
def BP (t : Tr) : Prop := ∀ u x y, bareT u = true → u.ok cntB = true → sepP x → sepP y → prT t ++ x = prT u ++ y → t = u ∧ x = y
theorem leaf_agg {p q : Py} {a : Tr} {x y : List UInt8} (h : (Tr.leaf p).ok cntB = true) (h2 : (Tr.one q a).ok cntB = true) (h8 : 8 ≤ q.tag) (hx : sepP x) (e : leafU p ++ x = sgL q.tag ++ (40 :: (prT a ++ [41])) ++ y) : False := by
  have ho := ok_one h2
  have ht := tag_one ho.1
  have hs := agg_sg h8 ht.2
  have hc : caps (leafU p ++ x) = sgL q.tag := by rw [e, List.append_assoc, List.cons_append, caps_stop hs.1 (by rintro b r e; injection e with e; subst e; rfl)]
  rcases leaf_caps (ok_leaf h).2 (ok_leaf h).1 hx with e3 | e3
  · subst e3
    have hc2 : caps (leafU ⟨3, 0, 0, 0, eB, eB, eB⟩ ++ x) = [67, 79, 85, 78, 84] := by
      show caps ([67, 79, 85, 78, 84] ++ (40 :: 42 :: 41 :: x)) = _
      exact caps_stop (by decide) (by rintro b r e; injection e with e; subst e; rfl)
    rw [← hc, hc2] at e
    have e4 : ([67, 79, 85, 78, 84] ++ (40 :: 42 :: 41 :: x) : List UInt8) = [67, 79, 85, 78, 84] ++ (40 :: (prT a ++ [41] ++ y)) := by
      rw [List.append_assoc] at e
      exact e
    have e5 := List.append_cancel_left e4
    injection e5 with _ e5
    obtain ⟨b, r, hb, hne⟩ := pr_head ho.2.2
    rw [hb] at e5
    injection e5 with e5
    exact hne e5.symm
  · rw [hc] at e3
    have h9 := hs.2
    revert e3 h9
    generalize sgL q.tag = g
    intro e3 h9
    simp only [List.mem_cons, List.not_mem_nil, or_false] at e3 h9
    rcases h9 with rfl | rfl | rfl | rfl <;> revert e3 <;> decide
theorem BP_leaf {p : Py} (h : (Tr.leaf p).ok cntB = true) : BP (.leaf p) := by
  intro u x y hb hu hx hy e
  rw [pr_leaf] at e
  cases u with
  | leaf q =>
    rw [pr_leaf] at e
    have h1 := leaf_dec (ok_leaf h).2 (ok_leaf h).1 hx
    rw [e, leaf_dec (ok_leaf hu).2 (ok_leaf hu).1 hy] at h1
    subst h1
    exact ⟨rfl, List.append_cancel_left e⟩
  | one q b =>
    have h8 : 8 ≤ q.tag := of_decide_eq_true hb
    rw [pr_agg h8] at e
    exact (leaf_agg h hu h8 hx e).elim
  | two q b d => cases hb
theorem BP_agg {p : Py} {a : Tr} (h : (Tr.one p a).ok cntB = true) (h8 : 8 ≤ p.tag) (ha : NP a) : BP (.one p a) := by
  intro u x y hb hu hx hy e
  rw [pr_agg h8] at e
  cases u with
  | leaf q =>
    rw [pr_leaf] at e
    exact (leaf_agg hu h h8 hy e.symm).elim
  | one q b =>
    have g8 : 8 ≤ q.tag := of_decide_eq_true hb
    rw [pr_agg g8] at e
    have ho := ok_one h
    have hp := ok_one hu
    have ht := tag_one ho.1
    have hq := tag_one hp.1
    have c1 : caps (sgL p.tag ++ (40 :: (prT a ++ [41])) ++ x) = sgL p.tag := by rw [List.append_assoc, List.cons_append, caps_stop (agg_sg h8 ht.2).1 (by rintro b r e; injection e with e; subst e; rfl)]
    have c2 : caps (sgL q.tag ++ (40 :: (prT b ++ [41])) ++ y) = sgL q.tag := by rw [List.append_assoc, List.cons_append, caps_stop (agg_sg g8 hq.2).1 (by rintro b r e; injection e with e; subst e; rfl)]
    have ht2 := agg_inj h8 ht.2 g8 hq.2 (by rw [← c1, e, c2])
    have hpq : p = q := by rw [inner_zero ho.2.1 (.inl ho.1), inner_zero hp.2.1 (.inl hp.1), ht2]
    subst hpq
    rw [List.append_assoc, List.append_assoc] at e
    have e2 := List.append_cancel_left e
    rw [List.cons_append, List.cons_append] at e2
    injection e2 with _ e2
    rw [List.append_assoc, List.append_assoc] at e2
    have e3 := ha b _ _ hp.2.2 (.inr ⟨x, rfl⟩) (.inr ⟨y, rfl⟩) e2
    obtain ⟨rfl, e3⟩ := e3
    injection e3 with _ e3
    exact ⟨rfl, e3⟩
  | two q b d => cases hb
theorem PP_bare {t : Tr} (ht : t.ok cntB = true) (hb : bareT t = true) (h : BP t) : PP t := by
  intro u x y hu hx hy e
  rw [par_bare hb] at e
  cases hub : bareT u
  · rw [par_not hub] at e
    obtain ⟨b, r, e1, _, hne⟩ := bare_head ht hb
    rw [e1] at e
    injection e with e
    exact absurd e hne
  · rw [par_bare hub] at e
    exact h u x y hub hu hx hy e
theorem PP_not {t : Tr} (hb : bareT t = false) (h : NP t) : PP t := by
  intro u x y hu hx hy e
  rw [par_not hb] at e
  cases hub : bareT u
  · rw [par_not hub] at e
    rw [List.cons_append, List.cons_append] at e
    injection e with _ e
    rw [List.append_assoc, List.append_assoc] at e
    obtain ⟨rfl, e3⟩ := h u _ _ hu (.inr ⟨x, rfl⟩) (.inr ⟨y, rfl⟩) e
    injection e3 with _ e3
    exact ⟨rfl, e3⟩
  · rw [par_bare hub] at e
    obtain ⟨b, r, e1, _, hne⟩ := bare_head hu hub
    rw [e1] at e
    injection e with e
    exact absurd e.symm hne
end Go.Proofs.YtoaggmldekejoaaDoor
