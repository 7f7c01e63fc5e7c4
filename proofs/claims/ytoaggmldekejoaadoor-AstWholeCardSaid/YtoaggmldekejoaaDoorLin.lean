/- Regions whose order Go leaves open, walked in one order: each operation that may come up yields the same value in every world that meets S, and leaves such a world. Conditions: none. -/
import Derived.Test.YtoaggmldekejoaaDoorBlk2
namespace Go.Proofs.YtoaggmldekejoaaDoor
open Go.RowKit
section
variable {P : Program} {ops : Array Oper} {Q : Exit → Act → World → Prop} {md : Region.Mode} {S : World → Prop}
/-- in every world that meets S the operation yields v, and leaves a world that meets S -/
def Runs (P : Program) (S : World → Prop) (o : Oper) (v : Value) (ρ : Operand → Value) : Prop :=
  ∀ w, S w → match (execOp ρ o).run P w with
    | .ok (.value u) w' => u = v ∧ S w'
    | .ok (.enter f args) w' => Calls P f args w' fun e w'' => e = .returned v ∧ S w''
    | _ => False
def StepsIf (P : Program) (ops : Array Oper) (S : World → Prop) (o : Oper) (v : Value) (a : Act) : Prop :=
  (Region.wanted o (yielded ops a.tmps) = true ∧ Runs P S o v a.eval) ∨ (Region.wanted o (yielded ops a.tmps) = false ∧ v = undef)
theorem StepsIf.of_same {o : Oper} {v : Value} {a a' : Act} (hy : StepsIf P ops S o v a) (he : execOp a'.eval o = execOp a.eval o)
    (hw : Region.wanted o (yielded ops a'.tmps) = Region.wanted o (yielded ops a.tmps)) : StepsIf P ops S o v a' := by
  unfold StepsIf Runs at *
  rw [he, hw]
  exact hy
theorem StepsIf.wpOp {i : Nat} {o : Oper} {v : Value} {a : Act} (hi : ops[i]? = some o) (hy : StepsIf P ops S o v a)
    {K : Act → World → Prop} {w : World} (hS : S w) (h : ∀ w', S w' → K (a.put o.dst v) w') : wpOp P ops Q i K a w := by
  unfold Go.wpOp
  simp only [hi]
  rcases hy with ⟨hw, hv⟩ | ⟨hw, rfl⟩
  · simp only [hw, if_true]
    refine .inl ?_
    have hr := hv w hS
    unfold Oper.wp
    generalize (execOp a.eval o).run P w = r at *
    cases r with
    | ok n w' =>
      cases n <;> simp only [Oper.upon] at hr ⊢
      case value u => obtain ⟨rfl, hs⟩ := hr; exact h _ hs
      case enter f args =>
        refine Calls.mono hr fun e w'' ⟨he, hs⟩ => ?_
        subst he
        exact h _ hs
    | halt x w' => exact hr.elim
  · simp only [hw, Bool.false_eq_true, if_false]; exact h _ hS
/-- Each operation that may come up steps so, whatever order is picked. -/
def Good (P : Program) (md : Region.Mode) (ops : Array Oper) (Q : Exit → Act → World → Prop) (S : World → Prop) : Nat → Array Bool → Act → Prop
  | 0, listed, a => Region.ready md ops listed = [] ∧ ∀ w, S w → Q .normal a w
  | f + 1, listed, a => (Region.ready md ops listed = [] → ∀ w, S w → Q .normal a w) ∧
    ∀ i ∈ Region.ready md ops listed, ∃ o v, ops[i]? = some o ∧ StepsIf P ops S o v a ∧ Good P md ops Q S f (listed.setIfInBounds i true) (a.put o.dst v)
theorem wpAny_of_good : ∀ (f : Nat) (listed : Array Bool) (a : Act), Good P md ops Q S f listed a → ∀ w, S w → wpAny P md ops Q f listed a w
  | 0, _, _, h, w, hS => ⟨h.1, h.2 w hS⟩
  | f + 1, listed, a, h, w, hS => ⟨fun e => h.1 e w hS, fun i hi => by
    obtain ⟨o, v, ho, hs, hg⟩ := h.2 i hi
    exact hs.wpOp ho hS fun w' hS' => wpAny_of_good f _ _ hg w' hS'⟩
theorem Good.first {i : Nat} {oi : Oper} {v : Value} (hi : ops[i]? = some oi) (hsel : ∀ (j : Nat) (o : Oper) cs b, ops[j]? = some o → o.op ≠ .select cs b) :
    ∀ (f : Nat) (listed : Array Bool) (a : Act),
      (∀ j oj, ops[j]? = some oj → j ≠ i → listed.getD j true = false → (∀ e ∈ oj.after, Region.binds md e = true → e.on ≠ i) → oi.apart ops oj = true) →
      i ∈ Region.ready md ops listed → StepsIf P ops S oi v a →
      Good P md ops Q S f (listed.setIfInBounds i true) (a.put oi.dst v) → Good P md ops Q S (f + 1) listed a := by
  intro f
  induction f with
  | zero =>
    intro listed a _ hr hy H
    refine ⟨fun h => (by rw [h] at hr; cases hr), fun j hj => ?_⟩
    by_cases hji : j = i
    · subst hji; exact ⟨oi, v, hi, hy, H⟩
    · have := ready_mono hj hji
      rw [H.1] at this
      cases this
  | succ f ih =>
    intro listed a hfree hr hy H
    refine ⟨fun h => (by rw [h] at hr; cases hr), fun j hj => ?_⟩
    by_cases hji : j = i
    · subst hji; exact ⟨oi, v, hi, hy, H⟩
    · obtain ⟨oj, u, hoj, hju, hg⟩ := H.2 j (ready_mono hj hji)
      obtain ⟨hjun, oj', hoj', hall⟩ := mem_ready.1 hj
      rw [hoj] at hoj'
      injection hoj' with hoj'
      subst hoj'
      have hnot : ∀ e ∈ oj.after, Region.binds md e = true → e.on ≠ i := fun e he hb heq => by
        have h1 := hall e he hb
        have h0 := (mem_ready.1 hr).1
        rw [heq] at h1
        rcases Nat.lt_or_ge i listed.size with h' | h'
        · simp [h'] at h0 h1; rw [h0] at h1; cases h1
        · simp [Array.getElem?_eq_none h'] at h1
      obtain ⟨h1, h2, h3⟩ := Oper.apart_spec (hfree j oj hoj hji hjun hnot)
      have hsi := fun cs b => hsel i oi cs b hi
      have hsj := fun cs b => hsel j oj cs b hoj
      have hju' : StepsIf P ops S oj u a := hju.of_same (execOp_put oj hsj a oi.dst v h1).symm (wanted_put oj a oi.dst v h1).symm
      have hy' : StepsIf P ops S oi v (a.put oj.dst u) := hy.of_same (execOp_put oi hsi a oj.dst u h3) (wanted_put oi a oj.dst u h3)
      have hfree' : ∀ k ok, ops[k]? = some ok → k ≠ i → (listed.setIfInBounds j true).getD k true = false →
          (∀ e ∈ ok.after, Region.binds md e = true → e.on ≠ i) → oi.apart ops ok = true := fun k ok hk hki hun hno => by
        refine hfree k ok hk hki ?_ hno
        by_cases hjk : j = k
        · subst hjk; exact hjun
        · rw [getD_set_ne true hjk] at hun; exact hun
      refine ⟨oj, u, hoj, hju', ih (listed.setIfInBounds j true) (a.put oj.dst u) hfree' (ready_mono hr (Ne.symm hji)) hy' ?_⟩
      rw [Array.setIfInBounds_comm _ _ hji, ← Act.put_comm a v u h2]
      exact hg
theorem Good.val {i : Nat} {oi : Oper} {v : Value} {f : Nat} {listed : Array Bool} {a : Act} {d : Option Tmp} (hi : ops[i]? = some oi) (hd : oi.dst = d)
    (hs : Region.noSelect ops = true) (hf : Region.free md ops listed i = true) (hr : (Region.ready md ops listed).contains i = true)
    (hw : Region.wanted oi (yielded ops a.tmps) = true) (hv : ∀ w, S w → (execOp a.eval oi).run P w = .ok (.value v) w)
    (h : Good P md ops Q S f (listed.setIfInBounds i true) (a.put d v)) : Good P md ops Q S (f + 1) listed a :=
  Good.first hi (Region.noSelect_spec hs) f listed a (Region.free_spec hi hf) (by simpa using hr) (.inl ⟨hw, fun w hS => by rw [hv w hS]; exact ⟨rfl, hS⟩⟩) (hd ▸ h)
theorem Good.call {i : Nat} {oi : Oper} {v : Value} {fn : FuncId} {args : Array Value} {f : Nat} {listed : Array Bool} {a : Act} {d : Option Tmp} (hi : ops[i]? = some oi) (hd : oi.dst = d)
    (hs : Region.noSelect ops = true) (hf : Region.free md ops listed i = true) (hr : (Region.ready md ops listed).contains i = true)
    (hw : Region.wanted oi (yielded ops a.tmps) = true) (hv : ∀ w, S w → (execOp a.eval oi).run P w = .ok (.enter fn args) w)
    (hc : ∀ w, S w → Calls P fn args w fun e w' => e = .returned v ∧ S w')
    (h : Good P md ops Q S f (listed.setIfInBounds i true) (a.put d v)) : Good P md ops Q S (f + 1) listed a :=
  Good.first hi (Region.noSelect_spec hs) f listed a (Region.free_spec hi hf) (by simpa using hr) (.inl ⟨hw, fun w hS => by rw [hv w hS]; exact hc w hS⟩) (hd ▸ h)
theorem Good.skip {i : Nat} {oi : Oper} {f : Nat} {listed : Array Bool} {a : Act} {d : Option Tmp} (hi : ops[i]? = some oi) (hd : oi.dst = d)
    (hs : Region.noSelect ops = true) (hf : Region.free md ops listed i = true) (hr : (Region.ready md ops listed).contains i = true)
    (hw : Region.wanted oi (yielded ops a.tmps) = false)
    (h : Good P md ops Q S f (listed.setIfInBounds i true) (a.put d undef)) : Good P md ops Q S (f + 1) listed a :=
  Good.first hi (Region.noSelect_spec hs) f listed a (Region.free_spec hi hf) (by simpa using hr) (.inr ⟨hw, rfl⟩) (hd ▸ h)
theorem Good.done {listed : Array Bool} {a : Act} (hr : Region.ready md ops listed = []) (h : ∀ w, S w → Q .normal a w) : ∀ f, Good P md ops Q S f listed a
  | 0 => ⟨hr, h⟩
  | _ + 1 => ⟨fun _ => h, by rw [hr]; simp⟩
theorem wp_region_lin {id : Nat} {a : Act} {w : World} (hm : P.follows .mixedOrders = true) (hS : S w.drew)
    (h : Good P .any ops Q S ops.size (Array.replicate ops.size false) a) : (Code.region id ops true).wp P Q a w :=
  wp_region_any hm (wpAny_of_good _ _ _ h _ hS)
end
section
variable {P : Program}
/-- the region's condition: the world grew -/
abbrev Grew (w0 : World) : World → Prop := fun w' => Below w0.heap.size w0 w'
theorem Grew.start (w : World) : Grew w w.drew := (Below.refl _ _).drew
theorem Grew.call {w0 : World} {fn : FuncId} {args : Array Value} {v : Value} (h : ∀ w, Below w0.heap.size w0 w → Calls P fn args w fun e w' => e = .returned v ∧ Below w.heap.size w w') :
    ∀ w, Grew w0 w → Calls P fn args w fun e w' => e = .returned v ∧ Grew w0 w' :=
  fun w q => (h w q).mono fun _ _ ⟨he, b⟩ => ⟨he, bl_ca q b⟩
end
end Go.Proofs.YtoaggmldekejoaaDoor
