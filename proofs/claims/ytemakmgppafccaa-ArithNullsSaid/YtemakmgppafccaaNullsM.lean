/- The law ArithNulls: nulls among numbers, and the two appends that put one in. Conditions: at most a thousand numbers of 64 bits. -/
import Derived.Test.YtemakmgppafccaaRdI
import Derived.Deep.RegionLawGrows
namespace Go.Proofs.Ytemakmgppafccaa
open Go.RowKit
def VO : Option Int → VV
  | none => V0
  | some n => VI n
def nums (l : List (Option Int)) : List Int := l.filterMap id
theorem sumV_acc0 (l : List Int) : sumV (accV l) V0 = (accV l, 0) := by
  have ok : (accV l).ok = true := by unfold accV; split; exact ok0; exact okS _
  have mis : misB 4 (accV l) = false := by unfold accV; split; exact mis0 4; exact mis4S _
  unfold sumV
  rw [ok, ok0, mis, mis0, if_neg (by simp), if_neg (by simp), if_pos k0]
theorem runV_opts (l : List (Option Int)) (p : List Int) (h : ∀ x ∈ nums l, I64 x) (hp : ∀ x ∈ p, I64 x) (hl : p.length + l.length ≤ 1000) : runV (accV p) (l.map VO) = resV (p ++ nums l) := by
  induction l generalizing p with
  | nil => rw [show nums [] = [] from rfl, List.append_nil, ← endV_acc]; rfl
  | cons o l ih =>
    simp only [List.length_cons] at hl
    rw [List.map_cons]
    unfold runV
    cases o with
    | none =>
      rw [show VO none = V0 from rfl, sumV_acc0]
      simp only [ne_eq, not_true_eq_false, if_false]
      exact ih p h hp (by omega)
    | some n =>
      have e : nums (some n :: l) = n :: nums l := rfl
      rw [e] at h
      rw [show VO (some n) = VI n from rfl, sumV_acc p n hp (h n (by simp)) (by omega), e]
      simp only [ne_eq, not_true_eq_false, if_false]
      rw [ih (p ++ [n]) (fun x hx => h x (by simp [hx])) (fun x hx => by simp at hx; rcases hx with hx | rfl; exact hp x hx; exact h x (by simp)) (by simp; omega), List.append_assoc]
      rfl
theorem nums_put (l : List (Option Int)) (q : Nat) : nums (l.take q ++ none :: l.drop q) = nums l := by
  conv => rhs; rw [← List.take_append_drop q l]
  unfold nums
  rw [List.filterMap_append, List.filterMap_append]
  rfl
theorem vo_rng (l : List (Option Int)) (h : ∀ x ∈ nums l, I64 x) : ∀ v ∈ l.map VO, v.rng := by
  intro v hv
  obtain ⟨o, ho, rfl⟩ := List.mem_map.1 hv
  cases o with
  | none => exact V0_rng
  | some n => exact VI_rng n (h n (List.mem_filterMap.2 ⟨some n, ho, rfl⟩))
theorem vo_some (ys : List Int) : (ys.map some).map VO = ys.map VI ∧ nums (ys.map some) = ys := by
  refine ⟨by rw [List.map_map]; rfl, ?_⟩
  unfold nums
  rw [List.filterMap_map]
  exact List.filterMap_some
theorem opN (r : Int) (ys : List Int) : opV r (resV ys).1 V0 = (V0, 0) ∧ opV r V0 (resV ys).1 = (V0, 0) := by
  have ok : (resV ys).1.ok = true := by unfold resV outR; split; exact ok0; split; exact okI _; exact ok0
  have mis : misB 2 (resV ys).1 = false := by unfold resV outR; split; exact mis0 2; split; exact mis2I _; exact mis0 2
  unfold opV
  rw [areE_two, areE_two, ok, ok0, mis, mis0]
  refine ⟨?_, ?_⟩
  all_goals
    simp only [Bool.and_self, Bool.or_self, if_true, Bool.false_eq_true, if_false, ne_eq, not_true_eq_false, k0, or_true, true_or]
theorem resV_rng (ys : List Int) : I64 (resV ys).1.n := by
  unfold resV outR
  split
  · exact V0_rng.1
  · split
    · rename_i h
      unfold smallB at h
      show I64 (tot ys)
      unfold I64
      simpa using h
    · exact V0_rng.1
theorem vcells_take (vs : List VV) (q : Nat) : vcells (vs.take q) = (vcells vs).take (q * 4) := by
  induction vs generalizing q with
  | nil => simp [vcells]
  | cons v l ih =>
    cases q with
    | zero => simp [vcells]
    | succ q =>
      have e : ∀ l, vcells (v :: l) = [.int .i64 v.k, .int .i64 v.n, .int .u64 v.u, .string v.s] ++ vcells l := fun _ => rfl
      rw [List.take_succ_cons, e, e, ih, show (q + 1) * 4 = q * 4 + 4 from by omega]
      rfl
theorem vcells_drop (vs : List VV) (q : Nat) : vcells (vs.drop q) = (vcells vs).drop (q * 4) := by
  induction vs generalizing q with
  | nil => simp [vcells]
  | cons v l ih =>
    cases q with
    | zero => simp [vcells]
    | succ q =>
      have e : ∀ l, vcells (v :: l) = [.int .i64 v.k, .int .i64 v.n, .int .u64 v.u, .string v.s] ++ vcells l := fun _ => rfl
      rw [List.drop_succ_cons, e, ih, show (q + 1) * 4 = q * 4 + 4 from by omega]
      rfl
theorem OwnV.caps {w : World} {B : Nat} {A : Option Addr} {n c : Nat} {vs : List VV} (h : OwnV w B A n c vs) : n ≤ c ∧ c ≤ 9223372036854775807 ∧ (A = none → n = 0 ∧ c = 0) := by
  rcases h.2 with ⟨e, h0⟩ | ⟨g, cap, _, e, _, _, h1, h2, _⟩
  · injection e with e1 e2 e3
    subst e1 e2 e3
    exact ⟨Nat.le_refl _, by omega, fun _ => ⟨rfl, rfl⟩⟩
  · injection e with e1 e2 e3
    subst e1 e3
    exact ⟨h1, by simpa [maxLen] using h2, fun h => by cases h⟩
theorem OwnV.more {w : World} {B B' : Nat} {A : Option Addr} {n c : Nat} {vs : List VV} (h : OwnV w B A n c vs) (hb : B' ≤ B) : OwnV w B' A n c vs := by
  refine ⟨h.1, ?_⟩
  rcases h.2 with h2 | ⟨g, cap, cur, e, hg, r⟩
  · exact .inl h2
  · exact .inr ⟨g, cap, cur, e, Nat.le_trans hb hg, r⟩
/-- the rest of a row, from q on -/
theorem OwnV.tail {w : World} {B : Nat} {A : Option Addr} {n c : Nat} {vs : List VV} (h : OwnV w B A n c vs) {q : Nat} (hq : q ≤ n) : Reads w w.heap.size 4 (if c = q then A else A.map (·.add (q * 4))) (n - q) (vcells (vs.drop q)) := by
  rw [vcells_drop]
  exact Reads.cut (Reads.of_own h) hq h.caps.1
theorem OwnV.head {w : World} {B : Nat} {A : Option Addr} {n c : Nat} {vs : List VV} (h : OwnV w B A n c vs) (q : Nat) : ∀ b, A = some b → ∀ j u, (vcells (vs.take q))[j]? = some u → w.cell? (b.add j) = some u := by
  intro b hA j u hu
  have hr := Reads.of_own h
  rw [vcells_take, List.getElem?_take] at hu
  split at hu
  · rcases Nat.eq_zero_or_pos n with h0 | h0
    · subst h0
      have := List.eq_nil_of_length_eq_zero (show (vcells vs).length = 0 by have := h.1; omega)
      rw [this] at hu
      cases hu
    · obtain ⟨ad, e, _, hc⟩ := hr.2 h0
      rw [hA] at e
      injection e with e
      subst e
      exact hc j u hu
  · cases hu
theorem own_one {w : World} {g : Nat} (h : Blk w g 27 #[.int .i64 0, .int .i64 0, .int .u64 0, .string ⟨#[]⟩]) : OwnV w g (some ⟨g, 0, none⟩) 1 1 [V0] :=
  ⟨rfl, .inr ⟨g, 1, _, rfl, Nat.le_refl _, h, Nat.le_refl _, by decide, rfl, rfl⟩⟩
/-- append([]api.Value{null}, list[q:]...) -/
theorem step_appI {ops : Array Oper} {o : Oper} {a : Act} {w : World} {K : Act → World → Prop} {Q : Exit → Act → World → Prop} {E : Prop} (hgd : o.guard = none) (s x : Operand)
    (ho : o.op = .call { callee := .builtin .append, args := #[s, x], argTypes := #[22, 22] })
    (B : Nat) (A : Option Addr) (n c : Nat) (xs : List VV) (A2 : Option Addr) (m c2 : Nat) (vs : List VV)
    (hs : a.eval s = .slice A n c) (hx : a.eval x = .slice A2 m c2) (hown : OwnV w B A n c xs) (hr : Reads w w.heap.size 4 A2 m (vcells vs)) (hb : n + m ≤ 1000) (hB : B ≤ w.heap.size)
    (h : ∀ A' c' w', OwnV w' B A' (n + m) c' (xs ++ vs) → Below B w w' → K (a.put o.dst (.slice A' (n + m) c')) w') :
    if Region.wanted o (yielded ops a.tmps) = true then Oper.wp Try.prog o a w K Q else E := by
  obtain ⟨i0, hi0, hz0, hz1, hz2⟩ := info_parts Try.valInfo
  refine step_append_any w hgd s x 22 ho B 27 i0 _ 4 40 Try.underlying22 hi0 hz0 hz1 hz2 rfl (by omega) (.slice A n c) n (vcells xs) hs hown w.heap.size A2 m c2 (vcells vs) hx hr (vcells_one _) (by simp only [maxLen]; omega) (by omega) hB ?_
  intro v' w' hown' hg hat
  obtain ⟨A', c', rfl⟩ := OwnV.form hown'
  refine h A' c' w' (by unfold OwnV; rw [vcells_append]; exact hown') ?_
  exact (Below.refl _ _).grown hg hB (OwnV.base hown)
/-- append(list[:q:q], row...): it grows -/
theorem step_appO {ops : Array Oper} {o : Oper} {a : Act} {w : World} {K : Act → World → Prop} {Q : Exit → Act → World → Prop} {E : Prop} (hgd : o.guard = none) (s x : Operand)
    (ho : o.op = .call { callee := .builtin .append, args := #[s, x], argTypes := #[22, 22] })
    (B : Nat) (A : Option Addr) (n c q : Nat) (vs : List VV) (B2 : Nat) (A2 : Option Addr) (m c2 : Nat) (us : List VV)
    (hs : a.eval s = .slice A q q) (hx : a.eval x = .slice A2 m c2) (hown : OwnV w B A n c vs) (hq : q ≤ n) (hr : OwnV w B2 A2 m c2 us) (hm : 0 < m) (hb : q + m ≤ 1000)
    (h : ∀ A' c' w', OwnV w' w.heap.size A' (q + m) c' (vs.take q ++ us) → Below w.heap.size w w' → K (a.put o.dst (.slice A' (q + m) c')) w') :
    if Region.wanted o (yielded ops a.tmps) = true then Oper.wp Try.prog o a w K Q else E := by
  obtain ⟨i0, hi0, hz0, hz1, hz2⟩ := info_parts Try.valInfo
  obtain ⟨g, cap, hv, _, hlt⟩ := World.ownsRow.form hr hm
  have hA : A2 = some ⟨g, 0, none⟩ := by injection hv
  subst hA
  obtain ⟨ad, e, _, hc⟩ := (Reads.of_own hr).2 hm
  injection e with e
  subst e
  refine step_append_grows hgd s x 22 ho 27 i0 _ 4 40 Try.underlying22 hi0 hz0 hz1 hz2 rfl (by omega) A q q (vcells (vs.take q)) hs (fun e => by have := hown.caps.2.2 e; omega) (by rw [vcells_len, List.length_take, hown.len]; omega) (hown.head q) ⟨g, 0, none⟩ m c2 (vcells us) hx hr.1 hc (vcells_one _) (by omega) (by simp only [maxLen]; omega) (by omega) ?_
  intro v' w' hown' hg
  obtain ⟨A', c', rfl⟩ := OwnV.form hown'
  refine h A' c' w' (by unfold OwnV; rw [vcells_append]; exact hown') ?_
  exact (Below.refl _ _).grown hg (Nat.le_refl _) (fun _ h => by cases h)
theorem addN (ys : List Int) (w : World) : Calls Try.prog 20 #[.agg #[.int .i64 (resV ys).1.k, .int .i64 (resV ys).1.n, .int .u64 (resV ys).1.u, .string (resV ys).1.s], .agg #[.int .i64 0, .int .i64 0, .int .u64 0, .string ⟨#[]⟩]] w fun e w' => e = .returned (.tuple #[.agg #[.int .i64 0, .int .i64 0, .int .u64 0, .string ⟨#[]⟩], .int .i64 0]) ∧ Below w.heap.size w w' := by
  have := add_any (resV ys).1 V0 w (resV_rng ys) V0_rng.1
  rw [(opN _ ys).1] at this
  exact this
theorem mulN (ys : List Int) (w : World) : Calls Try.prog 21 #[.agg #[.int .i64 0, .int .i64 0, .int .u64 0, .string ⟨#[]⟩], .agg #[.int .i64 (resV ys).1.k, .int .i64 (resV ys).1.n, .int .u64 (resV ys).1.u, .string (resV ys).1.s]] w fun e w' => e = .returned (.tuple #[.agg #[.int .i64 0, .int .i64 0, .int .u64 0, .string ⟨#[]⟩], .int .i64 0]) ∧ Below w.heap.size w w' := by
  have := mul_any V0 (resV ys).1 w V0_rng.1 (resV_rng ys)
  rw [(opN _ ys).2] at this
  exact this
end Go.Proofs.Ytemakmgppafccaa
