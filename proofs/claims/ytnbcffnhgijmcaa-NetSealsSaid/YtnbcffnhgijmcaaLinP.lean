/- Regions whose order Go leaves open, that hold one store: walked in one order. What is known of a world is one thing ahead of the store (number k) and another one behind it. Conditions: none. -/
import Derived.Test.YtnbcffnhgijmcaaLin
namespace Go.Proofs.Ytnbcffnhgijmcaa
open Go.RowKit
section
variable {P : Program} {ops : Array Oper} {Q : Exit → Act → World → Prop} {md : Region.Mode} {S : Bool → World → Prop} {k : Nat}
def StepsP (P : Program) (ops : Array Oper) (S : Bool → World → Prop) (k : Nat) (i : Nat) (o : Oper) (v : Value) (a : Act) : Prop :=
  (Region.wanted o (yielded ops a.tmps) = true ∧ ((i ≠ k ∧ ∀ b, Runs P (S b) o v a.eval) ∨ (i = k ∧ v = undef ∧ ∀ w, S false w → ∃ w', (execOp a.eval o).run P w = .ok .skip w' ∧ S true w'))) ∨
  (i ≠ k ∧ Region.wanted o (yielded ops a.tmps) = false ∧ v = undef)
theorem StepsP.of_same {i : Nat} {o : Oper} {v : Value} {a a' : Act} (hy : StepsP P ops S k i o v a) (he : execOp a'.eval o = execOp a.eval o)
    (hw : Region.wanted o (yielded ops a'.tmps) = Region.wanted o (yielded ops a.tmps)) : StepsP P ops S k i o v a' := by
  unfold StepsP Runs at *
  rw [he, hw]
  exact hy
def phase (k : Nat) (listed : Array Bool) : Bool := listed.getD k true
theorem phase_ne {i : Nat} {listed : Array Bool} (h : i ≠ k) : phase k (listed.setIfInBounds i true) = phase k listed := getD_set_ne true h
theorem phase_eq {listed : Array Bool} : phase k (listed.setIfInBounds k true) = true := by
  unfold phase
  rcases Nat.lt_or_ge k listed.size with h | h
  · simp [h]
  · simp
theorem StepsP.wpOp {i : Nat} {o : Oper} {v : Value} {a : Act} {listed : Array Bool} (hi : ops[i]? = some o) (hun : listed.getD i true = false) (hy : StepsP P ops S k i o v a)
    {K : Act → World → Prop} {w : World} (hS : S (phase k listed) w) (h : ∀ w', S (phase k (listed.setIfInBounds i true)) w' → K (a.put o.dst v) w') : wpOp P ops Q i K a w := by
  rcases hy with ⟨hw, ⟨hne, hv⟩ | ⟨rfl, rfl, hv⟩⟩ | ⟨hne, hw, rfl⟩
  · exact StepsIf.wpOp (S := S (phase k listed)) hi (.inl ⟨hw, hv _⟩) hS fun w' hs => h w' (by rw [phase_ne hne]; exact hs)
  · have hp : phase i listed = false := hun
    rw [hp] at hS
    obtain ⟨w', hr, hs⟩ := hv w hS
    unfold Go.wpOp
    simp only [hi, hw, if_true]
    refine .inl ?_
    unfold Oper.wp
    rw [hr]
    simp only [Oper.upon]
    exact h w' (by rw [phase_eq]; exact hs)
  · exact StepsIf.wpOp (S := S (phase k listed)) hi (.inr ⟨hw, rfl⟩) hS fun w' hs => h w' (by rw [phase_ne hne]; exact hs)
def GoodP (P : Program) (md : Region.Mode) (ops : Array Oper) (Q : Exit → Act → World → Prop) (S : Bool → World → Prop) (k : Nat) : Nat → Array Bool → Act → Prop
  | 0, listed, a => Region.ready md ops listed = [] ∧ ∀ w, S (phase k listed) w → Q .normal a w
  | f + 1, listed, a => (Region.ready md ops listed = [] → ∀ w, S (phase k listed) w → Q .normal a w) ∧
    ∀ i ∈ Region.ready md ops listed, ∃ o v, ops[i]? = some o ∧ StepsP P ops S k i o v a ∧ GoodP P md ops Q S k f (listed.setIfInBounds i true) (a.put o.dst v)
theorem wpAny_of_goodP : ∀ (f : Nat) (listed : Array Bool) (a : Act), GoodP P md ops Q S k f listed a → ∀ w, S (phase k listed) w → wpAny P md ops Q f listed a w
  | 0, _, _, h, w, hS => ⟨h.1, h.2 w hS⟩
  | f + 1, listed, a, h, w, hS => ⟨fun e => h.1 e w hS, fun i hi => by
    obtain ⟨o, v, ho, hs, hg⟩ := h.2 i hi
    exact hs.wpOp ho (mem_ready.1 hi).1 hS fun w' hS' => wpAny_of_goodP f _ _ hg w' hS'⟩
theorem GoodP.first {i : Nat} {oi : Oper} {v : Value} (hi : ops[i]? = some oi) (hsel : ∀ (j : Nat) (o : Oper) cs b, ops[j]? = some o → o.op ≠ .select cs b) :
    ∀ (f : Nat) (listed : Array Bool) (a : Act),
      (∀ j oj, ops[j]? = some oj → j ≠ i → listed.getD j true = false → (∀ e ∈ oj.after, Region.binds md e = true → e.on ≠ i) → oi.apart ops oj = true) →
      i ∈ Region.ready md ops listed → StepsP P ops S k i oi v a →
      GoodP P md ops Q S k f (listed.setIfInBounds i true) (a.put oi.dst v) → GoodP P md ops Q S k (f + 1) listed a := by
  intro f
  induction f with
  | zero =>
    intro listed a _ hr hy H
    refine ⟨fun h => (by rw [h] at hr; cases hr), fun j hj => ?_⟩
    by_cases hji : j = i
    · subst hji; exact ⟨oi, v, hi, hy, H⟩
    · have := ready_mono hj hji
      rw [H.1] at this
      cases this
  | succ f ih =>
    intro listed a hfree hr hy H
    refine ⟨fun h => (by rw [h] at hr; cases hr), fun j hj => ?_⟩
    by_cases hji : j = i
    · subst hji; exact ⟨oi, v, hi, hy, H⟩
    · obtain ⟨oj, u, hoj, hju, hg⟩ := H.2 j (ready_mono hj hji)
      obtain ⟨hjun, oj', hoj', hall⟩ := mem_ready.1 hj
      rw [hoj] at hoj'
      injection hoj' with hoj'
      subst hoj'
      have hnot : ∀ e ∈ oj.after, Region.binds md e = true → e.on ≠ i := fun e he hb heq => by
        have h1 := hall e he hb
        have h0 := (mem_ready.1 hr).1
        rw [heq] at h1
        rcases Nat.lt_or_ge i listed.size with h' | h'
        · simp [h'] at h0 h1; rw [h0] at h1; cases h1
        · simp [Array.getElem?_eq_none h'] at h1
      obtain ⟨h1, h2, h3⟩ := Oper.apart_spec (hfree j oj hoj hji hjun hnot)
      have hsi := fun cs b => hsel i oi cs b hi
      have hsj := fun cs b => hsel j oj cs b hoj
      have hju' : StepsP P ops S k j oj u a := hju.of_same (execOp_put oj hsj a oi.dst v h1).symm (wanted_put oj a oi.dst v h1).symm
      have hy' : StepsP P ops S k i oi v (a.put oj.dst u) := hy.of_same (execOp_put oi hsi a oj.dst u h3) (wanted_put oi a oj.dst u h3)
      have hfree' : ∀ k ok, ops[k]? = some ok → k ≠ i → (listed.setIfInBounds j true).getD k true = false →
          (∀ e ∈ ok.after, Region.binds md e = true → e.on ≠ i) → oi.apart ops ok = true := fun k ok hk hki hun hno => by
        refine hfree k ok hk hki ?_ hno
        by_cases hjk : j = k
        · subst hjk; exact hjun
        · rw [getD_set_ne true hjk] at hun; exact hun
      refine ⟨oj, u, hoj, hju', ih (listed.setIfInBounds j true) (a.put oj.dst u) hfree' (ready_mono hr (Ne.symm hji)) hy' ?_⟩
      rw [Array.setIfInBounds_comm _ _ hji, ← Act.put_comm a v u h2]
      exact hg
section
variable {i : Nat} {oi : Oper} {v : Value} {f : Nat} {listed : Array Bool} {a : Act} {d : Option Tmp}
theorem GoodP.val (hk : (i == k) = false) (hi : ops[i]? = some oi) (hd : oi.dst = d)
    (hs : Region.noSelect ops = true) (hf : Region.free md ops listed i = true) (hr : (Region.ready md ops listed).contains i = true)
    (hw : Region.wanted oi (yielded ops a.tmps) = true) (hv : ∀ b w, S b w → (execOp a.eval oi).run P w = .ok (.value v) w)
    (h : GoodP P md ops Q S k f (listed.setIfInBounds i true) (a.put d v)) : GoodP P md ops Q S k (f + 1) listed a :=
  GoodP.first hi (Region.noSelect_spec hs) f listed a (Region.free_spec hi hf) (by simpa using hr) (.inl ⟨hw, .inl ⟨by simpa using hk, fun b w hS => by rw [hv b w hS]; exact ⟨rfl, hS⟩⟩⟩) (hd ▸ h)
theorem GoodP.call (hk : (i == k) = false) {fn : FuncId} {args : Array Value} (hi : ops[i]? = some oi) (hd : oi.dst = d)
    (hs : Region.noSelect ops = true) (hf : Region.free md ops listed i = true) (hr : (Region.ready md ops listed).contains i = true)
    (hw : Region.wanted oi (yielded ops a.tmps) = true) (hv : ∀ b w, S b w → (execOp a.eval oi).run P w = .ok (.enter fn args) w)
    (hc : ∀ b w, S b w → Calls P fn args w fun e w' => e = .returned v ∧ S b w')
    (h : GoodP P md ops Q S k f (listed.setIfInBounds i true) (a.put d v)) : GoodP P md ops Q S k (f + 1) listed a :=
  GoodP.first hi (Region.noSelect_spec hs) f listed a (Region.free_spec hi hf) (by simpa using hr) (.inl ⟨hw, .inl ⟨by simpa using hk, fun b w hS => by rw [hv b w hS]; exact hc b w hS⟩⟩) (hd ▸ h)
theorem GoodP.skip (hk : (i == k) = false) (hi : ops[i]? = some oi) (hd : oi.dst = d)
    (hs : Region.noSelect ops = true) (hf : Region.free md ops listed i = true) (hr : (Region.ready md ops listed).contains i = true)
    (hw : Region.wanted oi (yielded ops a.tmps) = false)
    (h : GoodP P md ops Q S k f (listed.setIfInBounds i true) (a.put d undef)) : GoodP P md ops Q S k (f + 1) listed a :=
  GoodP.first hi (Region.noSelect_spec hs) f listed a (Region.free_spec hi hf) (by simpa using hr) (.inr ⟨by simpa using hk, hw, rfl⟩) (hd ▸ h)
theorem GoodP.store (hi : ops[k]? = some oi) (hd : oi.dst = none)
    (hs : Region.noSelect ops = true) (hf : Region.free md ops listed k = true) (hr : (Region.ready md ops listed).contains k = true)
    (hw : Region.wanted oi (yielded ops a.tmps) = true) (hv : ∀ w, S false w → ∃ w', (execOp a.eval oi).run P w = .ok .skip w' ∧ S true w')
    (h : GoodP P md ops Q S k f (listed.setIfInBounds k true) a) : GoodP P md ops Q S k (f + 1) listed a :=
  GoodP.first hi (Region.noSelect_spec hs) f listed a (Region.free_spec hi hf) (by simpa using hr) (.inl ⟨hw, .inr ⟨rfl, rfl, hv⟩⟩) (by rw [hd]; exact h)
theorem GoodP.done (hp : phase k listed = true) (hr : Region.ready md ops listed = []) (h : ∀ w, S true w → Q .normal a w) : ∀ f, GoodP P md ops Q S k f listed a
  | 0 => ⟨hr, by rw [hp]; exact h⟩
  | _ + 1 => ⟨fun _ => by rw [hp]; exact h, by rw [hr]; simp⟩
end
theorem wp_region_linp {id : Nat} {a : Act} {w : World} (k : Nat) (hk : k < ops.size) (hm : P.follows .mixedOrders = true) (hS : S false w.drew)
    (h : GoodP P .any ops Q S k ops.size (Array.replicate ops.size false) a) : (Code.region id ops true).wp P Q a w :=
  wp_region_any hm (wpAny_of_goodP _ _ _ h _ (by
    have : phase k (Array.replicate ops.size false) = false := by unfold phase; simp [hk]
    rw [this]; exact hS))
end
/-- the result's variable is written once: ahead of that it holds these, behind it those -/
def Slot (w0 : World) (g : Nat) (t : TypeId) (old new : Array Value) (b : Bool) (w : World) : Prop := w0.grownBy w (some g) ∧ Blk w g t (if b then new else old)
theorem Slot.start {w0 : World} {g : Nat} {t : TypeId} {old new : Array Value} (h : Blk w0 g t old) : Slot w0 g t old new false w0.drew := ⟨only_drew (World.grownBy.refl _ _), h.drew⟩
theorem Slot.call {w0 : World} {g : Nat} {t : TypeId} {old new : Array Value} {P : Program} {fn : FuncId} {args : Array Value} {v : Value}
    (h : ∀ b w, Slot w0 g t old new b w → Calls P fn args w fun e w' => e = .returned v ∧ Below w.heap.size w w') :
    ∀ b w, Slot w0 g t old new b w → Calls P fn args w fun e w' => e = .returned v ∧ Slot w0 g t old new b w' :=
  fun b w q => (h b w q).mono fun _ _ ⟨he, bl⟩ => ⟨he, ⟨⟨bl.os.trans q.1.os, bl.tape.trans q.1.tape, bl.output.trans q.1.output, Nat.le_trans q.1.size bl.size, fun i hi hne => (bl.block i (Nat.lt_of_lt_of_le hi q.1.size)).trans (q.1.block i hi hne)⟩, q.2.ca bl⟩⟩
theorem Slot.blk {w0 w : World} {g g' : Nat} {t t' : TypeId} {old new cs : Array Value} {b : Bool} (q : Slot w0 g t old new b w) (h : Blk w0 g' t' cs) (hne : g' ≠ g) : Blk w g' t' cs := h.apart q.1 hne
theorem Slot.store {P : Program} {w0 w : World} {g : Nat} {t : TypeId} {old new : Array Value} (q : Slot w0 g t old new false w) (ty : TypeId)
    (hs : new.size = old.size) (hi : (P.info? ty).map (·.size) = some new.size) (h1 : new.all (·.oneCell') = true) {ρ : Operand → Value} {o : Oper} {x y : Operand} (ho : o.op = .store ty x y)
    (hx : ρ x = .pointer (some ⟨g, 0, none⟩)) (hy : ρ y = .agg new) : ∃ w', (execOp ρ o).run P w = .ok .skip w' ∧ Slot w0 g t old new true w' := by
  have hb : Blk w g t old := q.2
  have key : ∀ w', Blk w' g t new → w.grownBy w' (some g) → Slot w0 g t old new true w' := fun w' hb' hg => by
    refine ⟨⟨hg.os.trans q.1.os, hg.tape.trans q.1.tape, hg.output.trans q.1.output, Nat.le_trans q.1.size hg.size, fun i hi hne => (hg.block i (Nat.lt_of_lt_of_le hi q.1.size) hne).trans (q.1.block i hi hne)⟩, ?_⟩
    exact hb'
  have hth : w.there g 0 new.size := by rw [hs]; exact there_blk hb
  refine ⟨w.setCells g 0 new.toList, ?_, key _ (blk_setAll hb hs) (grown_setCells _ _ _ (World.grownBy.refl w _))⟩
  unfold execOp
  simp only [ho, hx, hy, Instr.storeAt, Instr.sureAddr, Sem.run_bind, Sem.run_pure, Result.andThen_ok, run_storeVar_mid w g 0 ty new hth hi h1]
end Go.Proofs.Ytnbcffnhgijmcaa
