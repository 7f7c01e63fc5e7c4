/- Regions whose order Go leaves open, walked in one order: each operation that may come up yields the same value in every world that meets S, and leaves such a world. Conditions: none. -/
import Derived.Test.YtoaggmldekejoaaGreatDoorPkQ3
import Derived.Deep.Cut
namespace Go.Proofs.YtoaggmldekejoaaGreatDoor
open Go.RowKit
section
variable {P : Program} {ops : Array Oper} {Q : Exit → Act → World → Prop} {md : Region.Mode} {S : World → Prop}
/-- in every world that meets S the operation yields v, and leaves a world that meets S -/
def Runs (P : Program) (S : World → Prop) (o : Oper) (v : Value) (ρ : Operand → Value) : Prop :=
 ∀ w, S w → match (execOp ρ o).run P w with
  | .ok (.value u) w' => u = v ∧ S w'
  | .ok (.enter f args) w' => Calls P f args w' fun e w'' => e = .returned v ∧ S w''
  | _ => False
def StepsIf (P : Program) (ops : Array Oper) (S : World → Prop) (o : Oper) (v : Value) (a : Act) : Prop :=
 (Region.wanted o (yielded ops a.tmps) = true ∧ Runs P S o v a.eval) ∨ (Region.wanted o (yielded ops a.tmps) = false ∧ v = undef)
theorem StepsIf.of_same {o : Oper} {v : Value} {a a' : Act} (hy : StepsIf P ops S o v a) (he : execOp a'.eval o = execOp a.eval o)
 (hw : Region.wanted o (yielded ops a'.tmps) = Region.wanted o (yielded ops a.tmps)) : StepsIf P ops S o v a' := by
 unfold StepsIf Runs at *
 rw [he, hw]
 exact hy
theorem StepsIf.wpOp {i : Nat} {o : Oper} {v : Value} {a : Act} (hi : ops[i]? = some o) (hy : StepsIf P ops S o v a)
 {K : Act → World → Prop} {w : World} (hS : S w) (h : ∀ w', S w' → K (a.put o.dst v) w') : wpOp P ops Q i K a w := by
 unfold Go.wpOp
 simp only [hi]
 rcases hy with ⟨hw, hv⟩ | ⟨hw, rfl⟩
 · simp only [hw, if_true]
   refine .inl ?_
   have hr := hv w hS
   unfold Oper.wp
   generalize (execOp a.eval o).run P w = r at *
   cases r with
   | ok n w' =>
    cases n <;> simp only [Oper.upon] at hr ⊢
    case value u => obtain ⟨rfl, hs⟩ := hr; exact h _ hs
    case enter f args =>
     refine Calls.mono hr fun e w'' ⟨he, hs⟩ => ?_
     subst he
     exact h _ hs
   | halt x w' => exact hr.elim
 · simp only [hw, Bool.false_eq_true, if_false]; exact h _ hS
/-- Each operation that may come up steps so, whatever order is picked. -/
def Good (P : Program) (md : Region.Mode) (ops : Array Oper) (Q : Exit → Act → World → Prop) (S : World → Prop) : Nat → Array Bool → Act → Prop
 | 0, listed, a => Region.ready md ops listed = [] ∧ ∀ w, S w → Q .normal a w
 | f + 1, listed, a => (Region.ready md ops listed = [] → ∀ w, S w → Q .normal a w) ∧
  ∀ i ∈ Region.ready md ops listed, ∃ o v, ops[i]? = some o ∧ StepsIf P ops S o v a ∧ Good P md ops Q S f (listed.setIfInBounds i true) (a.put o.dst v)
theorem Good.first {i : Nat} {oi : Oper} {v : Value} (hi : ops[i]? = some oi) (hsel : ∀ (j : Nat) (o : Oper) cs b, ops[j]? = some o → o.op ≠ .select cs b) :
 ∀ (f : Nat) (listed : Array Bool) (a : Act),
  (∀ j oj, ops[j]? = some oj → j ≠ i → listed.getD j true = false → (∀ e ∈ oj.after, Region.binds md e = true → e.on ≠ i) → oi.apart ops oj = true) →
  i ∈ Region.ready md ops listed → StepsIf P ops S oi v a →
  Good P md ops Q S f (listed.setIfInBounds i true) (a.put oi.dst v) → Good P md ops Q S (f + 1) listed a := by
 intro f
 induction f with
 | zero =>
  intro listed a _ hr hy H
  refine ⟨fun h => (by rw [h] at hr; cases hr), fun j hj => ?_⟩
  by_cases hji : j = i
  · subst hji; exact ⟨oi, v, hi, hy, H⟩
  · have := ready_mono hj hji
    rw [H.1] at this
    cases this
 | succ f ih =>
  intro listed a hfree hr hy H
  refine ⟨fun h => (by rw [h] at hr; cases hr), fun j hj => ?_⟩
  by_cases hji : j = i
  · subst hji; exact ⟨oi, v, hi, hy, H⟩
  · obtain ⟨oj, u, hoj, hju, hg⟩ := H.2 j (ready_mono hj hji)
    obtain ⟨hjun, oj', hoj', hall⟩ := mem_ready.1 hj
    rw [hoj] at hoj'
    injection hoj' with hoj'
    subst hoj'
    have hnot : ∀ e ∈ oj.after, Region.binds md e = true → e.on ≠ i := fun e he hb heq => by
     have h1 := hall e he hb
     have h0 := (mem_ready.1 hr).1
     rw [heq] at h1
     rcases Nat.lt_or_ge i listed.size with h' | h'
     · simp [h'] at h0 h1; rw [h0] at h1; cases h1
     · simp [Array.getElem?_eq_none h'] at h1
    obtain ⟨h1, h2, h3⟩ := Oper.apart_spec (hfree j oj hoj hji hjun hnot)
    have hsi := fun cs b => hsel i oi cs b hi
    have hsj := fun cs b => hsel j oj cs b hoj
    have hju' : StepsIf P ops S oj u a := hju.of_same (execOp_put oj hsj a oi.dst v h1).symm (wanted_put oj a oi.dst v h1).symm
    have hy' : StepsIf P ops S oi v (a.put oj.dst u) := hy.of_same (execOp_put oi hsi a oj.dst u h3) (wanted_put oi a oj.dst u h3)
    have hfree' : ∀ k ok, ops[k]? = some ok → k ≠ i → (listed.setIfInBounds j true).getD k true = false →
     (∀ e ∈ ok.after, Region.binds md e = true → e.on ≠ i) → oi.apart ops ok = true := fun k ok hk hki hun hno => by
     refine hfree k ok hk hki ?_ hno
     by_cases hjk : j = k
     · subst hjk; exact hjun
     · rw [getD_set_ne true hjk] at hun; exact hun
    refine ⟨oj, u, hoj, hju', ih (listed.setIfInBounds j true) (a.put oj.dst u) hfree' (ready_mono hr (Ne.symm hji)) hy' ?_⟩
    rw [Array.setIfInBounds_comm _ _ hji, ← Act.put_comm a v u h2]
    exact hg
theorem Good.val {i : Nat} {oi : Oper} {v : Value} {f : Nat} {listed : Array Bool} {a : Act} {d : Option Tmp} (hi : ops[i]? = some oi) (hd : oi.dst = d)
 (hs : Region.noSelect ops = true) (hf : Region.free md ops listed i = true) (hr : (Region.ready md ops listed).contains i = true)
 (hw : Region.wanted oi (yielded ops a.tmps) = true) (hv : ∀ w, S w → (execOp a.eval oi).run P w = .ok (.value v) w)
 (h : Good P md ops Q S f (listed.setIfInBounds i true) (a.put d v)) : Good P md ops Q S (f + 1) listed a :=
 Good.first hi (Region.noSelect_spec hs) f listed a (Region.free_spec hi hf) (by simpa using hr) (.inl ⟨hw, fun w hS => by rw [hv w hS]; exact ⟨rfl, hS⟩⟩) (hd ▸ h)
theorem Good.call {i : Nat} {oi : Oper} {v : Value} {fn : FuncId} {args : Array Value} {f : Nat} {listed : Array Bool} {a : Act} {d : Option Tmp} (hi : ops[i]? = some oi) (hd : oi.dst = d)
 (hs : Region.noSelect ops = true) (hf : Region.free md ops listed i = true) (hr : (Region.ready md ops listed).contains i = true)
 (hw : Region.wanted oi (yielded ops a.tmps) = true) (hv : ∀ w, S w → (execOp a.eval oi).run P w = .ok (.enter fn args) w)
 (hc : ∀ w, S w → Calls P fn args w fun e w' => e = .returned v ∧ S w')
 (h : Good P md ops Q S f (listed.setIfInBounds i true) (a.put d v)) : Good P md ops Q S (f + 1) listed a :=
 Good.first hi (Region.noSelect_spec hs) f listed a (Region.free_spec hi hf) (by simpa using hr) (.inl ⟨hw, fun w hS => by rw [hv w hS]; exact hc w hS⟩) (hd ▸ h)
theorem Good.skip {i : Nat} {oi : Oper} {f : Nat} {listed : Array Bool} {a : Act} {d : Option Tmp} (hi : ops[i]? = some oi) (hd : oi.dst = d)
 (hs : Region.noSelect ops = true) (hf : Region.free md ops listed i = true) (hr : (Region.ready md ops listed).contains i = true)
 (hw : Region.wanted oi (yielded ops a.tmps) = false)
 (h : Good P md ops Q S f (listed.setIfInBounds i true) (a.put d undef)) : Good P md ops Q S (f + 1) listed a :=
 Good.first hi (Region.noSelect_spec hs) f listed a (Region.free_spec hi hf) (by simpa using hr) (.inr ⟨hw, rfl⟩) (hd ▸ h)
theorem Good.done {listed : Array Bool} {a : Act} (hr : Region.ready md ops listed = []) (h : ∀ w, S w → Q .normal a w) : ∀ f, Good P md ops Q S f listed a
 | 0 => ⟨hr, h⟩
 | _ + 1 => ⟨fun _ => h, by rw [hr]; simp⟩
end
section
variable {P : Program}
/-- the region's condition: the world grew -/
abbrev Grew (w0 : World) : World → Prop := fun w' => Below w0.heap.size w0 w'
theorem Grew.start (w : World) : Grew w w.drew := (Below.refl _ _).drew
theorem Grew.call {w0 : World} {fn : FuncId} {args : Array Value} {v : Value} (h : ∀ w, Below w0.heap.size w0 w → Calls P fn args w fun e w' => e = .returned v ∧ Below w.heap.size w w') :
 ∀ w, Grew w0 w → Calls P fn args w fun e w' => e = .returned v ∧ Grew w0 w' :=
 fun w q => (h w q).mono fun _ _ ⟨he, b⟩ => ⟨he, bl_ca q b⟩
end
end Go.Proofs.YtoaggmldekejoaaGreatDoor
/- Regions whose order Go leaves open, walked in one order, whatever they do: what is known of the world is said for every set of operations that are done. Conditions: none. -/
namespace Go.Proofs.YtoaggmldekejoaaGreatDoor
open Go.RowKit
theorem sA {α : Type} (l : List α) (i : Nat) (x : α) : l.toArray.setIfInBounds i x = (l.set i x).toArray := List.setIfInBounds_toArray l i x
theorem sZ {α : Type} (l : List α) (x y : α) : (x :: l).set 0 y = y :: l := rfl
theorem sS {α : Type} (l : List α) (i : Nat) (x y : α) : (x :: l).set (i + 1) y = x :: l.set i y := rfl
def upd (m : Nat → Value) (k : Nat) (v : Value) : Nat → Value := fun j => if j = k then v else m j
theorem upd_same (m : Nat → Value) (k : Nat) (v : Value) : upd m k v k = v := if_pos rfl
theorem upd_ne {m : Nat → Value} {k j : Nat} {v : Value} (h : j ≠ k) : upd m k v j = m j := if_neg h
abbrev Dn (L : Array Bool) (i : Nat) : Bool := L.getD i true
theorem dn_ne {L : Array Bool} {i j : Nat} (h : j ≠ i) : Dn (L.setIfInBounds i true) j = Dn L j := getD_set_ne true (Ne.symm h)
theorem dn_eq (L : Array Bool) (i : Nat) : Dn (L.setIfInBounds i true) i = true := by
 unfold Dn
 rcases Nat.lt_or_ge i L.size with h | h
 · simp [h]
 · simp
section
variable {P : Program} {ops : Array Oper} {Q : Exit → Act → World → Prop} {md : Region.Mode} {S : Array Bool → (Nat → Value) → World → Prop}
/-- what an operation stands behind is done before it -/
def Shut (md : Region.Mode) (ops : Array Oper) (L : Array Bool) : Prop := ∀ (j : Nat) (o : Oper), ops[j]? = some o → Dn L j = true → ∀ e ∈ o.after, Region.binds md e = true → Dn L e.on = true
/-- j stands behind d -/
def reach (md : Region.Mode) (ops : Array Oper) : Nat → Nat → Nat → Bool
 | 0, _, _ => false
 | f + 1, j, d => match ops[j]? with
  | some o => o.after.any fun e => Region.binds md e && (e.on == d || reach md ops f e.on d)
  | none => false
theorem reach_dn {L : Array Bool} (hs : Shut md ops L) : ∀ (f : Nat) {j d : Nat}, (∀ o, ops[j]? = some o → ∀ e ∈ o.after, Region.binds md e = true → Dn L e.on = true) → reach md ops f j d = true → Dn L d = true
 | 0, _, _, _, h => by simp [reach] at h
 | f + 1, j, d, hj, h => by
  unfold reach at h
  split at h
  · rename_i o ho
    obtain ⟨e, he, h⟩ := Array.any_eq_true'.1 h
    simp only [Bool.and_eq_true, Bool.or_eq_true, beq_iff_eq] at h
    obtain ⟨hb, h | h⟩ := h
    · subst h; exact hj o ho e he hb
    · exact reach_dn hs f (fun o' ho' => hs e.on o' ho' (hj o ho e he hb)) h
  · cases h
/-- what stands behind something that is not done is not done -/
theorem reach_no {L : Array Bool} (hs : Shut md ops L) {f j d : Nat} (hr : reach md ops f j d = true) (hd : Dn L d = false) : Dn L j = false := by
 cases h : Dn L j
 · rfl
 · rw [reach_dn hs f (fun o ho => hs j o ho h) hr] at hd; cases hd
/-- what it stands behind is done, and yielded what is known -/
def At (m0 : Nat → Value) (D : List Nat) (L : Array Bool) (m : Nat → Value) : Prop := ∀ d ∈ D, Dn L d = true ∧ m d = m0 d
/-- known: wherever one is, it yields u and leads on -/
def StepS (P : Program) (md : Region.Mode) (ops : Array Oper) (S : Array Bool → (Nat → Value) → World → Prop) (m0 : Nat → Value) (i : Nat) (o : Oper) (u : Value) (a : Act) : Prop :=
 ∃ D : List Nat, (D.all fun d => reach md ops ops.size i d) = true ∧
 ((Region.wanted o (yielded ops a.tmps) = true ∧ ∀ L m w, Shut md ops L → At m0 D L m → Dn L i = false → S L m w → match (execOp a.eval o).run P w with
  | .ok (.value u') w' => u' = u ∧ S (L.setIfInBounds i true) m w'
  | .ok .skip w' => u = undef ∧ S (L.setIfInBounds i true) m w'
  | .ok (.enter f args) w' => Calls P f args w' fun e w'' => e = .returned u ∧ S (L.setIfInBounds i true) m w''
  | _ => False) ∨
 (Region.wanted o (yielded ops a.tmps) = false ∧ u = undef ∧ ∀ L m w, Shut md ops L → At m0 D L m → Dn L i = false → S L m w → S (L.setIfInBounds i true) m w))
/-- not known: it yields some value, of which S tells -/
def TurnS (P : Program) (md : Region.Mode) (ops : Array Oper) (S : Array Bool → (Nat → Value) → World → Prop) (m0 : Nat → Value) (i : Nat) (o : Oper) (V : Value → Prop) (a : Act) : Prop :=
 ∃ D : List Nat, (D.all fun d => reach md ops ops.size i d) = true ∧
 (Region.wanted o (yielded ops a.tmps) = true ∧ ∀ L m w, Shut md ops L → At m0 D L m → Dn L i = false → S L m w → match (execOp a.eval o).run P w with
  | .ok (.value v) w' => V v ∧ S (L.setIfInBounds i true) (upd m i v) w'
  | .ok (.enter f args) w' => Calls P f args w' fun e w'' => ∃ v, e = .returned v ∧ V v ∧ S (L.setIfInBounds i true) (upd m i v) w''
  | _ => False)
theorem StepS.of_same {i : Nat} {o : Oper} {u : Value} {m0 : Nat → Value} {a a' : Act} (hy : StepS P md ops S m0 i o u a) (he : execOp a'.eval o = execOp a.eval o)
 (hw : Region.wanted o (yielded ops a'.tmps) = Region.wanted o (yielded ops a.tmps)) : StepS P md ops S m0 i o u a' := by
 unfold StepS at *
 rw [he, hw]
 exact hy
theorem TurnS.of_same {i : Nat} {o : Oper} {V : Value → Prop} {m0 : Nat → Value} {a a' : Act} (hy : TurnS P md ops S m0 i o V a) (he : execOp a'.eval o = execOp a.eval o)
 (hw : Region.wanted o (yielded ops a'.tmps) = Region.wanted o (yielded ops a.tmps)) : TurnS P md ops S m0 i o V a' := by
 unfold TurnS at *
 rw [he, hw]
 exact hy
theorem ready_dn {L : Array Bool} {i : Nat} (hr : i ∈ Region.ready md ops L) : ∀ o, ops[i]? = some o → ∀ e ∈ o.after, Region.binds md e = true → Dn L e.on = true := fun o ho e he hb => by
 obtain ⟨_, o', ho', hall⟩ := mem_ready.1 hr
 rw [ho] at ho'
 injection ho' with ho'
 subst ho'
 have h1 := hall e he hb
 unfold Dn
 rcases Nat.lt_or_ge e.on L.size with h' | h'
 · simp [h'] at h1 ⊢; exact h1
 · simp [Array.getElem?_eq_none h']
theorem all_at {L : Array Bool} {i : Nat} {D : List Nat} (hsh : Shut md ops L) (hr : i ∈ Region.ready md ops L) (hD : (D.all fun d => reach md ops ops.size i d) = true) : ∀ d ∈ D, Dn L d = true := fun d hd =>
 reach_dn hsh _ (ready_dn hr) (List.all_eq_true.1 hD d hd)
/-- a turn elsewhere is none of its business -/
theorem StepS.upd {i j : Nat} {o : Oper} {u v : Value} {m0 : Nat → Value} {a : Act} {L : Array Bool} (hsh : Shut md ops L) (hr : i ∈ Region.ready md ops L) (hj : Dn L j = false) (hy : StepS P md ops S m0 i o u a) : StepS P md ops S (upd m0 j v) i o u a := by
 obtain ⟨D, hD, hy⟩ := hy
 have hne : ∀ d ∈ D, d ≠ j := fun d hd e => by subst e; rw [all_at hsh hr hD d hd] at hj; cases hj
 have hat : ∀ L m, At (Proofs.YtoaggmldekejoaaGreatDoor.upd m0 j v) D L m → At m0 D L m := fun L m h d hd => ⟨(h d hd).1, (h d hd).2.trans (upd_ne (hne d hd))⟩
 refine ⟨D, hD, ?_⟩
 rcases hy with ⟨h1, h2⟩ | ⟨h1, h2, h3⟩
 · exact .inl ⟨h1, fun L m w hs ha => h2 L m w hs (hat L m ha)⟩
 · exact .inr ⟨h1, h2, fun L m w hs ha => h3 L m w hs (hat L m ha)⟩
theorem StepS.wpOp {i : Nat} {o : Oper} {u : Value} {a : Act} {L : Array Bool} {m : Nat → Value} (hi : ops[i]? = some o) (hsh : Shut md ops L) (hr : i ∈ Region.ready md ops L) (hy : StepS P md ops S m i o u a)
 {K : Act → World → Prop} {w : World} (hS : S L m w) (h : ∀ w', S (L.setIfInBounds i true) m w' → K (a.put o.dst u) w') : wpOp P ops Q i K a w := by
 have hun : Dn L i = false := (mem_ready.1 hr).1
 unfold Go.wpOp
 simp only [hi]
 obtain ⟨D, hD, hy⟩ := hy
 have hat : At m D L m := fun d hd => ⟨all_at hsh hr hD d hd, rfl⟩
 rcases hy with ⟨hw, hv⟩ | ⟨hw, rfl, hv⟩
 · simp only [hw, if_true]
   refine .inl ?_
   have hr := hv L m w hsh hat hun hS
   unfold Oper.wp
   generalize (execOp a.eval o).run P w = r at *
   cases r with
   | ok n w' =>
    cases n <;> simp only [Oper.upon] at hr ⊢
    case value u' => obtain ⟨rfl, hs⟩ := hr; exact h _ hs
    case skip => obtain ⟨rfl, hs⟩ := hr; exact h _ hs
    case enter f args =>
     refine Calls.mono hr fun e w'' ⟨he, hb⟩ => ?_
     subst he
     exact h _ hb
   | halt x w' => exact hr.elim
 · simp only [hw, Bool.false_eq_true, if_false]; exact h _ (hv L m w hsh hat hun hS)
theorem TurnS.wpOp {i : Nat} {o : Oper} {V : Value → Prop} {a : Act} {L : Array Bool} {m : Nat → Value} (hi : ops[i]? = some o) (hsh : Shut md ops L) (hr : i ∈ Region.ready md ops L) (hy : TurnS P md ops S m i o V a)
 {K : Act → World → Prop} {w : World} (hS : S L m w) (h : ∀ v w', V v → S (L.setIfInBounds i true) (upd m i v) w' → K (a.put o.dst v) w') : wpOp P ops Q i K a w := by
 have hun : Dn L i = false := (mem_ready.1 hr).1
 unfold Go.wpOp
 simp only [hi]
 obtain ⟨D, hD, hw, hv⟩ := hy
 have hat : At m D L m := fun d hd => ⟨all_at hsh hr hD d hd, rfl⟩
 simp only [hw, if_true]
 refine .inl ?_
 have hr := hv L m w hsh hat hun hS
 unfold Oper.wp
 generalize (execOp a.eval o).run P w = r at *
 cases r with
 | ok n w' =>
  cases n <;> simp only [Oper.upon] at hr ⊢
  case value v => exact h _ _ hr.1 hr.2
  case enter f args =>
   refine Calls.mono hr fun e w'' ⟨v, he, hV, hb⟩ => ?_
   subst he
   exact h _ _ hV hb
 | halt x w' => exact hr.elim
def Ps (P : Program) (md : Region.Mode) (ops : Array Oper) (Q : Exit → Act → World → Prop) (S : Array Bool → (Nat → Value) → World → Prop) : Nat → (Nat → Value) → Array Bool → Act → Prop
 | 0, m, L, a => Region.ready md ops L = [] ∧ ∀ w, S L m w → Q .normal a w
 | f + 1, m, L, a => (Region.ready md ops L = [] → ∀ w, S L m w → Q .normal a w) ∧
  ∀ i ∈ Region.ready md ops L, ∃ o, ops[i]? = some o ∧
   ((∃ u, StepS P md ops S m i o u a ∧ Ps P md ops Q S f m (L.setIfInBounds i true) (a.put o.dst u)) ∨
    (∃ V, TurnS P md ops S m i o V a ∧ ∀ v, V v → Ps P md ops Q S f (upd m i v) (L.setIfInBounds i true) (a.put o.dst v)))
theorem Shut.set {L : Array Bool} {i : Nat} (h : Shut md ops L) (hr : i ∈ Region.ready md ops L) : Shut md ops (L.setIfInBounds i true) := by
 obtain ⟨_, o', ho', hall⟩ := mem_ready.1 hr
 intro j o ho hj e he hb
 by_cases hji : j = i
 · subst hji
   rw [ho] at ho'
   injection ho' with ho'
   subst ho'
   have h1 := hall e he hb
   by_cases hei : e.on = j
   · rw [hei]; exact dn_eq L j
   · rw [dn_ne hei]
     unfold Dn
     rcases Nat.lt_or_ge e.on L.size with h' | h'
     · simp [h'] at h1 ⊢; exact h1
     · simp [Array.getElem?_eq_none h']
 · rw [dn_ne hji] at hj
   have := h j o ho hj e he hb
   by_cases hei : e.on = i
   · rw [hei]; exact dn_eq L i
   · rw [dn_ne hei]; exact this
theorem wpAny_of_ps : ∀ (f : Nat) (m : Nat → Value) (L : Array Bool) (a : Act), Shut md ops L → Ps P md ops Q S f m L a → ∀ w, S L m w → wpAny P md ops Q f L a w
 | 0, _, _, _, _, h, w, hS => ⟨h.1, h.2 w hS⟩
 | f + 1, m, L, a, hsh, h, w, hS => ⟨fun e => h.1 e w hS, fun i hi => by
  obtain ⟨o, ho, ⟨u, hs, hg⟩ | ⟨V, hs, hg⟩⟩ := h.2 i hi
  · exact hs.wpOp ho hsh hi hS fun w' hS' => wpAny_of_ps f m _ _ (hsh.set hi) hg w' hS'
  · exact hs.wpOp ho hsh hi hS fun v w' hV hS' => wpAny_of_ps f _ _ _ (hsh.set hi) (hg v hV) w' hS'⟩
theorem Ps.first {i : Nat} {oi : Oper} {u : Value} (hi : ops[i]? = some oi) (hsel : ∀ (j : Nat) (o : Oper) cs b, ops[j]? = some o → o.op ≠ .select cs b) :
 ∀ (f : Nat) (m : Nat → Value) (L : Array Bool) (a : Act), Shut md ops L →
  (∀ j oj, ops[j]? = some oj → j ≠ i → L.getD j true = false → (∀ e ∈ oj.after, Region.binds md e = true → e.on ≠ i) → oi.apart ops oj = true) →
  i ∈ Region.ready md ops L → StepS P md ops S m i oi u a →
  Ps P md ops Q S f m (L.setIfInBounds i true) (a.put oi.dst u) → Ps P md ops Q S (f + 1) m L a := by
 intro f
 induction f with
 | zero =>
  intro m L a _ _ hr hy H
  refine ⟨fun h => (by rw [h] at hr; cases hr), fun j hj => ?_⟩
  by_cases hji : j = i
  · subst hji; exact ⟨oi, hi, .inl ⟨u, hy, H⟩⟩
  · have := ready_mono hj hji
    rw [H.1] at this
    cases this
 | succ f ih =>
  intro m L a hsh hfree hr hy H
  refine ⟨fun h => (by rw [h] at hr; cases hr), fun j hj => ?_⟩
  by_cases hji : j = i
  · subst hji; exact ⟨oi, hi, .inl ⟨u, hy, H⟩⟩
  · obtain ⟨oj, hoj, hstep⟩ := H.2 j (ready_mono hj hji)
    obtain ⟨hjun, oj', hoj', hall⟩ := mem_ready.1 hj
    rw [hoj] at hoj'
    injection hoj' with hoj'
    subst hoj'
    have hnot : ∀ e ∈ oj.after, Region.binds md e = true → e.on ≠ i := fun e he hb heq => by
     have h1 := hall e he hb
     have h0 := (mem_ready.1 hr).1
     rw [heq] at h1
     rcases Nat.lt_or_ge i L.size with h' | h'
     · simp [h'] at h0 h1; rw [h0] at h1; cases h1
     · simp [Array.getElem?_eq_none h'] at h1
    obtain ⟨h1, h2, h3⟩ := Oper.apart_spec (hfree j oj hoj hji hjun hnot)
    have hsi := fun cs b => hsel i oi cs b hi
    have hsj := fun cs b => hsel j oj cs b hoj
    have hfree' : ∀ k ok, ops[k]? = some ok → k ≠ i → (L.setIfInBounds j true).getD k true = false →
     (∀ e ∈ ok.after, Region.binds md e = true → e.on ≠ i) → oi.apart ops ok = true := fun k ok hk hki hun hno => by
     refine hfree k ok hk hki ?_ hno
     by_cases hjk : j = k
     · subst hjk; exact hjun
     · rw [getD_set_ne true hjk] at hun; exact hun
    rcases hstep with ⟨u', hju, hg⟩ | ⟨V, hju, hg⟩
    · have hy' : StepS P md ops S m i oi u (a.put oj.dst u') := hy.of_same (execOp_put oi hsi a oj.dst u' h3) (wanted_put oi a oj.dst u' h3)
      have hju' : StepS P md ops S m j oj u' a := hju.of_same (execOp_put oj hsj a oi.dst u h1).symm (wanted_put oj a oi.dst u h1).symm
      refine ⟨oj, hoj, .inl ⟨u', hju', ih m (L.setIfInBounds j true) (a.put oj.dst u') (hsh.set hj) hfree' (ready_mono hr (Ne.symm hji)) hy' ?_⟩⟩
      rw [Array.setIfInBounds_comm _ _ hji, ← Act.put_comm a u u' h2]
      exact hg
    · have hju' : TurnS P md ops S m j oj V a := hju.of_same (execOp_put oj hsj a oi.dst u h1).symm (wanted_put oj a oi.dst u h1).symm
      refine ⟨oj, hoj, .inr ⟨V, hju', fun v hV => ?_⟩⟩
      have hy' : StepS P md ops S (upd m j v) i oi u (a.put oj.dst v) := (hy.upd hsh hr hjun).of_same (execOp_put oi hsi a oj.dst v h3) (wanted_put oi a oj.dst v h3)
      refine ih (upd m j v) (L.setIfInBounds j true) (a.put oj.dst v) (hsh.set hj) hfree' (ready_mono hr (Ne.symm hji)) hy' ?_
      rw [Array.setIfInBounds_comm _ _ hji, ← Act.put_comm a u v h2]
      exact hg v hV
def shutB (md : Region.Mode) (ops : Array Oper) (L : Array Bool) : Bool := (List.range ops.size).all fun j => match ops[j]? with
 | some o => !(Dn L j) || o.after.all fun e => !(Region.binds md e) || Dn L e.on
 | none => true
theorem shut_of {L : Array Bool} (h : shutB md ops L = true) : Shut md ops L := by
 intro j o ho hj e he hb
 have hjl : j < ops.size := (Array.getElem?_eq_some_iff.1 ho).1
 have h1 := List.all_eq_true.1 h j (List.mem_range.2 hjl)
 simp only [ho, hj, Bool.not_true, Bool.false_or] at h1
 have h2 := Array.all_eq_true'.1 h1 e he
 simpa [hb] using h2
/-- what is listed elsewhere is none of S's business -/
def Pass (S : Array Bool → (Nat → Value) → World → Prop) (i : Nat) : Prop := ∀ L m w, S L m w → S (L.setIfInBounds i true) m w
theorem nP {S : World → Prop} {i : Nat} : Pass (fun _ _ w' => S w') i := fun _ _ _ h => h
theorem StepS.pure {i : Nat} {o : Oper} {u : Value} {m0 : Nat → Value} {a : Act} (hp : Pass S i) (hw : Region.wanted o (yielded ops a.tmps) = true) (h : ∀ w, (execOp a.eval o).run P w = .ok (.value u) w) : StepS P md ops S m0 i o u a :=
 ⟨[], rfl, .inl ⟨hw, fun L m w _ _ _ hS => by rw [h w]; exact ⟨rfl, hp L m w hS⟩⟩⟩
theorem StepS.read {i : Nat} {o : Oper} {u : Value} {m0 : Nat → Value} {a : Act} (D : List Nat) (hD : (D.all fun d => reach md ops ops.size i d) = true) (hp : Pass S i) (hw : Region.wanted o (yielded ops a.tmps) = true)
 (h : ∀ L m w, Shut md ops L → At m0 D L m → Dn L i = false → S L m w → (execOp a.eval o).run P w = .ok (.value u) w) : StepS P md ops S m0 i o u a :=
 ⟨D, hD, .inl ⟨hw, fun L m w hs ha hn hS => by rw [h L m w hs ha hn hS]; exact ⟨rfl, hp L m w hS⟩⟩⟩
theorem StepS.skip {i : Nat} {o : Oper} {m0 : Nat → Value} {a : Act} (hp : Pass S i) (hw : Region.wanted o (yielded ops a.tmps) = false) : StepS P md ops S m0 i o undef a :=
 ⟨[], rfl, .inr ⟨hw, rfl, fun L m w _ _ _ hS => hp L m w hS⟩⟩
theorem StepS.call {i : Nat} {o : Oper} {u : Value} {m0 : Nat → Value} {a : Act} (fn : FuncId) (args : Array Value) (D : List Nat) (hD : (D.all fun d => reach md ops ops.size i d) = true) (hw : Region.wanted o (yielded ops a.tmps) = true)
 (h : ∀ w, (execOp a.eval o).run P w = .ok (.enter fn args) w) (hc : ∀ L m w, Shut md ops L → At m0 D L m → Dn L i = false → S L m w → Calls P fn args w fun e w' => e = .returned u ∧ S (L.setIfInBounds i true) m w') : StepS P md ops S m0 i o u a :=
 ⟨D, hD, .inl ⟨hw, fun L m w hs ha hn hS => by rw [h w]; exact hc L m w hs ha hn hS⟩⟩
theorem StepS.store {i : Nat} {o : Oper} {m0 : Nat → Value} {a : Act} (D : List Nat) (hD : (D.all fun d => reach md ops ops.size i d) = true) (hw : Region.wanted o (yielded ops a.tmps) = true)
 (h : ∀ L m w, Shut md ops L → At m0 D L m → Dn L i = false → S L m w → ∃ w', (execOp a.eval o).run P w = .ok .skip w' ∧ S (L.setIfInBounds i true) m w') : StepS P md ops S m0 i o undef a :=
 ⟨D, hD, .inl ⟨hw, fun L m w hs ha hn hS => by obtain ⟨w', e, h'⟩ := h L m w hs ha hn hS; rw [e]; exact ⟨rfl, h'⟩⟩⟩
theorem StepS.act {i : Nat} {o : Oper} {u : Value} {m0 : Nat → Value} {a : Act} (D : List Nat) (hD : (D.all fun d => reach md ops ops.size i d) = true) (hw : Region.wanted o (yielded ops a.tmps) = true)
 (h : ∀ L m w, Shut md ops L → At m0 D L m → Dn L i = false → S L m w → ∃ w', (execOp a.eval o).run P w = .ok (.value u) w' ∧ S (L.setIfInBounds i true) m w') : StepS P md ops S m0 i o u a :=
 ⟨D, hD, .inl ⟨hw, fun L m w hs ha hn hS => by obtain ⟨w', e, h'⟩ := h L m w hs ha hn hS; rw [e]; exact ⟨rfl, h'⟩⟩⟩
theorem TurnS.call {i : Nat} {o : Oper} {V : Value → Prop} {m0 : Nat → Value} {a : Act} (fn : FuncId) (args : Array Value) (D : List Nat) (hD : (D.all fun d => reach md ops ops.size i d) = true) (hw : Region.wanted o (yielded ops a.tmps) = true)
 (h : ∀ w, (execOp a.eval o).run P w = .ok (.enter fn args) w) (hc : ∀ L m w, Shut md ops L → At m0 D L m → Dn L i = false → S L m w → Calls P fn args w fun e w' => ∃ v, e = .returned v ∧ V v ∧ S (L.setIfInBounds i true) (upd m i v) w') : TurnS P md ops S m0 i o V a :=
 ⟨D, hD, hw, fun L m w hs ha hn hS => by rw [h w]; exact hc L m w hs ha hn hS⟩
theorem TurnS.value {i : Nat} {o : Oper} {V : Value → Prop} {m0 : Nat → Value} {a : Act} (D : List Nat) (hD : (D.all fun d => reach md ops ops.size i d) = true) (hw : Region.wanted o (yielded ops a.tmps) = true)
 (h : ∀ L m w, Shut md ops L → At m0 D L m → Dn L i = false → S L m w → ∃ v w', (execOp a.eval o).run P w = .ok (.value v) w' ∧ V v ∧ S (L.setIfInBounds i true) (upd m i v) w') : TurnS P md ops S m0 i o V a :=
 ⟨D, hD, hw, fun L m w hs ha hn hS => by obtain ⟨v, w', e, h'⟩ := h L m w hs ha hn hS; rw [e]; exact h'⟩
/-- S by one operation, by two, by three -/
def Sk1 (k : Nat) (C : Bool → (Nat → Value) → World → Prop) : Array Bool → (Nat → Value) → World → Prop := fun L m w => C (Dn L k) m w
def Sk2 (k l : Nat) (C : Bool → Bool → (Nat → Value) → World → Prop) : Array Bool → (Nat → Value) → World → Prop := fun L m w => C (Dn L k) (Dn L l) m w
def Sk3 (k l n : Nat) (C : Bool → Bool → Bool → (Nat → Value) → World → Prop) : Array Bool → (Nat → Value) → World → Prop := fun L m w => C (Dn L k) (Dn L l) (Dn L n) m w
theorem Sk1.pass {k i : Nat} {C : Bool → (Nat → Value) → World → Prop} (h : k ≠ i) : Pass (Sk1 k C) i := fun L m w hS => by unfold Sk1 at *; rw [dn_ne h]; exact hS
theorem Sk2.pass {k l i : Nat} {C : Bool → Bool → (Nat → Value) → World → Prop} (h : k ≠ i) (h2 : l ≠ i) : Pass (Sk2 k l C) i := fun L m w hS => by unfold Sk2 at *; rw [dn_ne h, dn_ne h2]; exact hS
theorem Sk3.pass {k l n i : Nat} {C : Bool → Bool → Bool → (Nat → Value) → World → Prop} (h : k ≠ i) (h2 : l ≠ i) (h3 : n ≠ i) : Pass (Sk3 k l n C) i := fun L m w hS => by unfold Sk3 at *; rw [dn_ne h, dn_ne h2, dn_ne h3]; exact hS
theorem Sk1.on {k : Nat} {C : Bool → (Nat → Value) → World → Prop} {L : Array Bool} {m : Nat → Value} {w : World} (h : C true m w) : Sk1 k C (L.setIfInBounds k true) m w := by unfold Sk1; rw [dn_eq]; exact h
theorem Sk2.on1 {k l : Nat} {C : Bool → Bool → (Nat → Value) → World → Prop} {L : Array Bool} {m : Nat → Value} {w : World} (hkl : l ≠ k) (h : C true (Dn L l) m w) : Sk2 k l C (L.setIfInBounds k true) m w := by unfold Sk2; rw [dn_eq, dn_ne hkl]; exact h
theorem Sk2.on2 {k l : Nat} {C : Bool → Bool → (Nat → Value) → World → Prop} {L : Array Bool} {m : Nat → Value} {w : World} (hkl : k ≠ l) (h : C (Dn L k) true m w) : Sk2 k l C (L.setIfInBounds l true) m w := by unfold Sk2; rw [dn_eq, dn_ne hkl]; exact h
theorem Sk3.on1 {k l n : Nat} {C : Bool → Bool → Bool → (Nat → Value) → World → Prop} {L : Array Bool} {m : Nat → Value} {w : World} (h1 : l ≠ k) (h2 : n ≠ k) (h : C true (Dn L l) (Dn L n) m w) : Sk3 k l n C (L.setIfInBounds k true) m w := by unfold Sk3; rw [dn_eq, dn_ne h1, dn_ne h2]; exact h
theorem Sk3.on2 {k l n : Nat} {C : Bool → Bool → Bool → (Nat → Value) → World → Prop} {L : Array Bool} {m : Nat → Value} {w : World} (h1 : k ≠ l) (h2 : n ≠ l) (h : C (Dn L k) true (Dn L n) m w) : Sk3 k l n C (L.setIfInBounds l true) m w := by unfold Sk3; rw [dn_eq, dn_ne h1, dn_ne h2]; exact h
theorem Sk3.on3 {k l n : Nat} {C : Bool → Bool → Bool → (Nat → Value) → World → Prop} {L : Array Bool} {m : Nat → Value} {w : World} (h1 : k ≠ n) (h2 : l ≠ n) (h : C (Dn L k) (Dn L l) true m w) : Sk3 k l n C (L.setIfInBounds n true) m w := by unfold Sk3; rw [dn_eq, dn_ne h1, dn_ne h2]; exact h
/-- one step, in the text's order -/
theorem Ps.step {i : Nat} {oi : Oper} {u : Value} {f : Nat} {m : Nat → Value} {L : Array Bool} {a : Act} {d : Option Tmp} (hi : ops[i]? = some oi) (hd : oi.dst = d) (hsh : shutB md ops L = true)
 (hs : Region.noSelect ops = true) (hf : Region.free md ops L i = true) (hr : (Region.ready md ops L).contains i = true) (hy : StepS P md ops S m i oi u a)
 (h : Ps P md ops Q S f m (L.setIfInBounds i true) (a.put d u)) : Ps P md ops Q S (f + 1) m L a :=
 Ps.first hi (Region.noSelect_spec hs) f m L a (shut_of hsh) (Region.free_spec hi hf) (by simpa using hr) hy (hd ▸ h)
theorem Ps.st {i : Nat} {oi : Oper} {u : Value} {f : Nat} {m : Nat → Value} {L : Array Bool} {a : Act} {d : Option Tmp} (hi : ops[i]? = some oi) (hd : oi.dst = d) (hy : StepS P md ops S m i oi u a)
 (h : Ps P md ops Q S f m (L.setIfInBounds i true) (a.put d u)) (hsh : shutB md ops L = true := by kernel_rfl) (hs : Region.noSelect ops = true := by kernel_rfl) (hf : Region.free md ops L i = true := by kernel_rfl) (hr : (Region.ready md ops L).contains i = true := by kernel_rfl) : Ps P md ops Q S (f + 1) m L a :=
 Ps.step hi hd hsh hs hf hr hy h
theorem Pz (i : Nat) (d : Option Tmp) (u : Value) {oi : Oper} {f : Nat} {m : Nat → Value} {L : Array Bool} {a : Act} (hi : ops[i]? = some oi) (hd : oi.dst = d) (hy : StepS P md ops S m i oi u a)
 (h : Ps P md ops Q S f m (L.setIfInBounds i true) (a.put d u)) (hsh : shutB md ops L = true := by kernel_rfl) (hs : Region.noSelect ops = true := by kernel_rfl) (hf : Region.free md ops L i = true := by kernel_rfl) (hr : (Region.ready md ops L).contains i = true := by kernel_rfl) : Ps P md ops Q S (f + 1) m L a :=
 Ps.step hi hd hsh hs hf hr hy h
theorem Ps.done {m : Nat → Value} {L : Array Bool} {a : Act} (hr : Region.ready md ops L = []) (h : ∀ w, S L m w → Q .normal a w) : ∀ f, Ps P md ops Q S f m L a
 | 0 => ⟨hr, h⟩
 | _ + 1 => ⟨fun _ => h, by rw [hr]; simp⟩
/-- what is not known, alone -/
theorem Ps.one {k : Nat} {o : Oper} {f : Nat} {m : Nat → Value} {L : Array Bool} {a : Act} {d : Option Tmp} (ho : ops[k]? = some o) (hd : o.dst = d) (hr : Region.ready md ops L = [k]) {V : Value → Prop} (ht : TurnS P md ops S m k o V a)
 (h : ∀ v, V v → Ps P md ops Q S f (upd m k v) (L.setIfInBounds k true) (a.put d v)) : Ps P md ops Q S (f + 1) m L a := by
 subst hd
 refine ⟨fun e => (by rw [hr] at e; cases e), fun j hj => ?_⟩
 rw [hr, List.mem_singleton] at hj
 subst hj
 exact ⟨o, ho, .inr ⟨V, ht, h⟩⟩
theorem Ps.two {k l : Nat} {o q : Oper} {f : Nat} {m : Nat → Value} {L : Array Bool} {a : Act} {d e : Option Tmp} (ho : ops[k]? = some o) (hd : o.dst = d) (hq : ops[l]? = some q) (he : q.dst = e) (hr : Region.ready md ops L = [k, l]) {V V2 : Value → Prop}
 (ht : TurnS P md ops S m k o V a) (ht2 : TurnS P md ops S m l q V2 a) (h : ∀ v, V v → Ps P md ops Q S f (upd m k v) (L.setIfInBounds k true) (a.put d v))
 (h2 : ∀ v, V2 v → Ps P md ops Q S f (upd m l v) (L.setIfInBounds l true) (a.put e v)) : Ps P md ops Q S (f + 1) m L a := by
 subst hd he
 refine ⟨fun e => (by rw [hr] at e; cases e), fun j hj => ?_⟩
 rw [hr] at hj
 rcases List.mem_cons.1 hj with rfl | hj
 · exact ⟨o, ho, .inr ⟨V, ht, h⟩⟩
 · rw [List.mem_singleton] at hj
   subst hj
   exact ⟨q, hq, .inr ⟨V2, ht2, h2⟩⟩
theorem wp_region_ps {id : Nat} {a : Act} {w : World} (S : Array Bool → (Nat → Value) → World → Prop) (hm : P.follows .mixedOrders = true) (hS : S (Array.replicate ops.size false) (fun _ => undef) w.drew)
 (h : Ps P .any ops Q S ops.size (fun _ => undef) (Array.replicate ops.size false) a) : (Code.region id ops true).wp P Q a w :=
 wp_region_any hm (wpAny_of_ps _ _ _ _ (fun j o ho hj => by
  exfalso
  unfold Dn at hj
  have hjl : j < ops.size := (Array.getElem?_eq_some_iff.1 ho).1
  simp [hjl] at hj) h _ hS)
/-- first B0; a call (number k) yields v, then B1 v; a store (number l), then B2 v -/
def Seq2 (k l : Nat) (B0 : World → Prop) (B1 B2 : Value → World → Prop) : Array Bool → (Nat → Value) → World → Prop :=
 Sk2 k l fun a b m w => (a = false → b = false → B0 w) ∧ (a = true → b = false → B1 (m k) w) ∧ (b = true → B2 (m k) w)
section
variable {k l : Nat} {B0 : World → Prop} {B1 B2 : Value → World → Prop} {L : Array Bool} {m : Nat → Value} {w : World}
theorem Seq2.start {n : Nat} (hk : k < n) (hl : l < n) (h : B0 w) : Seq2 k l B0 B1 B2 (Array.replicate n false) m w := by
 have d : ∀ j, j < n → Dn (Array.replicate n false) j = false := fun j hj => by unfold Dn; simp [hj]
 unfold Seq2 Sk2
 rw [d k hk, d l hl]
 exact ⟨fun _ _ => h, fun e => (by cases e), fun e => (by cases e)⟩
theorem Seq2.early {T : World → Prop} (h0 : ∀ w, B0 w → T w) (h1 : ∀ v w, B1 v w → T w) (hl : Dn L l = false) (hS : Seq2 k l B0 B1 B2 L m w) : T w := by
 unfold Seq2 Sk2 at hS
 cases hk : Dn L k
 · exact h0 _ (hS.1 hk hl)
 · exact h1 _ _ (hS.2.1 hk hl)
theorem Seq2.turn (hk : Dn L k = false) (hl : Dn L l = false) (hS : Seq2 k l B0 B1 B2 L m w) : B0 w := hS.1 hk hl
theorem Seq2.stored {m0 : Nat → Value} {w' : World} (hkl : k ≠ l) (hat : At m0 [k] L m) (h : B2 (m0 k) w') : Seq2 k l B0 B1 B2 (L.setIfInBounds l true) m w' := by
 have hk := hat k (by simp)
 refine Sk2.on2 hkl ⟨fun _ e => (by cases e), fun _ e => (by cases e), fun _ => ?_⟩
 rw [hk.2]
 exact h
theorem Seq2.pass {i : Nat} (h : k ≠ i) (h2 : l ≠ i) : Pass (Seq2 k l B0 B1 B2) i := Sk2.pass h h2
theorem Seq2.fin (hl : Dn L l = true) (hS : Seq2 k l B0 B1 B2 L m w) : B2 (m k) w := hS.2.2 hl
end
/-- three operations (k1, k2, k3), one behind the other, that change what is known -/
def Seq3 (k1 k2 k3 : Nat) (B0 B1 B2 B3 : (Nat → Value) → World → Prop) : Array Bool → (Nat → Value) → World → Prop :=
 Sk3 k1 k2 k3 fun a b c m w => (a = false → b = false → c = false → B0 m w) ∧ (a = true → b = false → c = false → B1 m w) ∧ (b = true → c = false → B2 m w) ∧ (c = true → B3 m w)
section
variable {k1 k2 k3 : Nat} {B0 B1 B2 B3 : (Nat → Value) → World → Prop} {L : Array Bool} {m : Nat → Value} {w w' : World}
theorem Seq3.start {n : Nat} (h1 : k1 < n) (h2 : k2 < n) (h3 : k3 < n) (h : B0 m w) : Seq3 k1 k2 k3 B0 B1 B2 B3 (Array.replicate n false) m w := by
 have d : ∀ j, j < n → Dn (Array.replicate n false) j = false := fun j hj => by unfold Dn; simp [hj]
 unfold Seq3 Sk3
 rw [d k1 h1, d k2 h2, d k3 h3]
 exact ⟨fun _ _ _ => h, fun e => (by cases e), fun e => (by cases e), fun e => (by cases e)⟩
theorem Seq3.at1 (h1 : Dn L k1 = false) (h2 : Dn L k2 = false) (h3 : Dn L k3 = false) (hS : Seq3 k1 k2 k3 B0 B1 B2 B3 L m w) : B0 m w := hS.1 h1 h2 h3
theorem Seq3.at2 (h1 : Dn L k1 = true) (h2 : Dn L k2 = false) (h3 : Dn L k3 = false) (hS : Seq3 k1 k2 k3 B0 B1 B2 B3 L m w) : B1 m w := hS.2.1 h1 h2 h3
theorem Seq3.fin (h3 : Dn L k3 = true) (hS : Seq3 k1 k2 k3 B0 B1 B2 B3 L m w) : B3 m w := hS.2.2.2 h3
theorem Seq3.set1 {m' : Nat → Value} (e2 : k2 ≠ k1) (e3 : k3 ≠ k1) (h2 : Dn L k2 = false) (h3 : Dn L k3 = false) (h : B1 m' w') : Seq3 k1 k2 k3 B0 B1 B2 B3 (L.setIfInBounds k1 true) m' w' :=
 Sk3.on1 e2 e3 ⟨fun e => (by cases e), fun _ _ _ => h, fun e => (by rw [h2] at e; cases e), fun e => (by rw [h3] at e; cases e)⟩
theorem Seq3.set2 {m' : Nat → Value} (e1 : k1 ≠ k2) (e3 : k3 ≠ k2) (h3 : Dn L k3 = false) (h : B2 m' w') : Seq3 k1 k2 k3 B0 B1 B2 B3 (L.setIfInBounds k2 true) m' w' :=
 Sk3.on2 e1 e3 ⟨fun _ e => (by cases e), fun _ e => (by cases e), fun _ _ => h, fun e => (by rw [h3] at e; cases e)⟩
theorem Seq3.pass {i : Nat} (h1 : k1 ≠ i) (h2 : k2 ≠ i) (h3 : k3 ≠ i) : Pass (Seq3 k1 k2 k3 B0 B1 B2 B3) i := Sk3.pass h1 h2 h3
end
theorem exec_append {o : Oper} {a : Act} {w w' : World} (s x : Operand) (t : TypeId) (ho : o.op = .call { callee := .builtin .append, args := #[s, x], argTypes := #[t, t] }) {v vx v' : Value} (hs : a.eval s = v) (hx : a.eval x = vx)
 (hrun : (Builtin.append_ #[t, t] o.type #[v, vx]).run P w = .ok v' w') : (execOp a.eval o).run P w = .ok (.value v') w' := by
 unfold execOp
 simp only [ho, resolve, invoke, builtin, Sem.run_bind, Sem.run_pure, Result.andThen_ok, List.map_toArray, List.map_cons, List.map_nil, hs, hx, hrun]
/-- a whole variable is stored -/
theorem exec_store_blk {o : Oper} {a : Act} {w : World} (ty : TypeId) (x y : Operand) (ho : o.op = .store ty x y) (g : Nat) (t : TypeId) (cs new : Array Value) (hx : a.eval x = .pointer (some ⟨g, 0, none⟩)) (hy : a.eval y = .agg new) (hb : Blk w g t cs) (hs : new.size = cs.size)
 (hi : (P.info? ty).map (·.size) = some new.size) (h1 : new.all (·.oneCell') = true) : ∃ w', (execOp a.eval o).run P w = .ok .skip w' ∧ Blk w' g t new ∧ w.grownBy w' (some g) := by
 refine ⟨w.setCells g 0 new.toList, ?_, blk_setAll hb hs, grown_setCells _ _ _ (World.grownBy.refl w _)⟩
 unfold execOp
 simp only [ho, hx, hy, Instr.storeAt, Instr.sureAddr, Sem.run_bind, Sem.run_pure, Result.andThen_ok, run_storeVar_mid w g 0 ty new (by rw [hs]; exact there_blk hb) hi h1]
/-- one operation (k) that changes what is known -/
def Seq1 (k1 : Nat) (B0 B1 : (Nat → Value) → World → Prop) : Array Bool → (Nat → Value) → World → Prop := Sk1 k1 fun a m w => (a = false → B0 m w) ∧ (a = true → B1 m w)
section
variable {k1 : Nat} {B0 B1 : (Nat → Value) → World → Prop} {L : Array Bool} {m : Nat → Value} {w w' : World}
theorem Seq1.start {n : Nat} (h1 : k1 < n) (h : B0 m w) : Seq1 k1 B0 B1 (Array.replicate n false) m w := by
 unfold Seq1 Sk1
 rw [show Dn (Array.replicate n false) k1 = false from by unfold Dn; simp [h1]]
 exact ⟨fun _ => h, fun e => (by cases e)⟩
theorem Seq1.any {T : World → Prop} (t0 : ∀ m w, B0 m w → T w) (t1 : ∀ m w, B1 m w → T w) (hS : Seq1 k1 B0 B1 L m w) : T w := by
 unfold Seq1 Sk1 at hS
 cases h1 : Dn L k1
 · exact t0 _ _ (hS.1 h1)
 · exact t1 _ _ (hS.2 h1)
theorem Seq1.at1 (h1 : Dn L k1 = false) (hS : Seq1 k1 B0 B1 L m w) : B0 m w := hS.1 h1
theorem Seq1.fin (h1 : Dn L k1 = true) (hS : Seq1 k1 B0 B1 L m w) : B1 m w := hS.2 h1
theorem Seq1.set1 {m' : Nat → Value} (h : B1 m' w') : Seq1 k1 B0 B1 (L.setIfInBounds k1 true) m' w' := Sk1.on ⟨fun e => (by cases e), fun _ => h⟩
theorem Seq1.pass {i : Nat} (h1 : k1 ≠ i) : Pass (Seq1 k1 B0 B1) i := Sk1.pass h1
end
/-- two operations (k1, k2), one behind the other, that change what is known -/
def SeqT (k1 k2 : Nat) (B0 B1 B2 : (Nat → Value) → World → Prop) : Array Bool → (Nat → Value) → World → Prop :=
 Sk2 k1 k2 fun a b m w => (a = false → b = false → B0 m w) ∧ (a = true → b = false → B1 m w) ∧ (b = true → B2 m w)
section
variable {k1 k2 : Nat} {B0 B1 B2 : (Nat → Value) → World → Prop} {L : Array Bool} {m : Nat → Value} {w w' : World}
theorem SeqT.start {n : Nat} (h1 : k1 < n) (h2 : k2 < n) (h : B0 m w) : SeqT k1 k2 B0 B1 B2 (Array.replicate n false) m w := by
 have d : ∀ j, j < n → Dn (Array.replicate n false) j = false := fun j hj => by unfold Dn; simp [hj]
 unfold SeqT Sk2
 rw [d k1 h1, d k2 h2]
 exact ⟨fun _ _ => h, fun e => (by cases e), fun e => (by cases e)⟩
theorem SeqT.any {T : World → Prop} (t0 : ∀ m w, B0 m w → T w) (t1 : ∀ m w, B1 m w → T w) (t2 : ∀ m w, B2 m w → T w) (hS : SeqT k1 k2 B0 B1 B2 L m w) : T w := by
 unfold SeqT Sk2 at hS
 cases h2 : Dn L k2
 · cases h1 : Dn L k1
   · exact t0 _ _ (hS.1 h1 h2)
   · exact t1 _ _ (hS.2.1 h1 h2)
 · exact t2 _ _ (hS.2.2 h2)
theorem SeqT.early {T : World → Prop} (t0 : ∀ m w, B0 m w → T w) (t1 : ∀ m w, B1 m w → T w) (h2 : Dn L k2 = false) (hS : SeqT k1 k2 B0 B1 B2 L m w) : T w := by
 unfold SeqT Sk2 at hS
 cases h1 : Dn L k1
 · exact t0 _ _ (hS.1 h1 h2)
 · exact t1 _ _ (hS.2.1 h1 h2)
theorem SeqT.at1 (h1 : Dn L k1 = false) (h2 : Dn L k2 = false) (hS : SeqT k1 k2 B0 B1 B2 L m w) : B0 m w := hS.1 h1 h2
theorem SeqT.at2 (h1 : Dn L k1 = true) (h2 : Dn L k2 = false) (hS : SeqT k1 k2 B0 B1 B2 L m w) : B1 m w := hS.2.1 h1 h2
theorem SeqT.fin (h2 : Dn L k2 = true) (hS : SeqT k1 k2 B0 B1 B2 L m w) : B2 m w := hS.2.2 h2
theorem SeqT.set1 {m' : Nat → Value} (e : k2 ≠ k1) (h2 : Dn L k2 = false) (h : B1 m' w') : SeqT k1 k2 B0 B1 B2 (L.setIfInBounds k1 true) m' w' :=
 Sk2.on1 e ⟨fun e => (by cases e), fun _ _ => h, fun e => (by rw [h2] at e; cases e)⟩
theorem SeqT.set2 {m' : Nat → Value} (e : k1 ≠ k2) (h : B2 m' w') : SeqT k1 k2 B0 B1 B2 (L.setIfInBounds k2 true) m' w' :=
 Sk2.on2 e ⟨fun _ e => (by cases e), fun _ e => (by cases e), fun _ => h⟩
theorem SeqT.pass {i : Nat} (h1 : k1 ≠ i) (h2 : k2 ≠ i) : Pass (SeqT k1 k2 B0 B1 B2) i := Sk2.pass h1 h2
end
end
end Go.Proofs.YtoaggmldekejoaaGreatDoor
/- Regions walked in one order, whether they draw or not; operations that are wanted or not by a truth that stands open. Conditions: none. -/
namespace Go.Proofs.YtoaggmldekejoaaGreatDoor
open Go.RowKit
section
variable {P : Program} {ops : Array Oper} {Q : Exit → Act → World → Prop}
/-- a region that does not draw, as one that does: the text's order is one of those -/
theorem wp_region_ps0 {id : Nat} {a : Act} {w : World} (md : Region.Mode) (S : Array Bool → (Nat → Value) → World → Prop)
 (hlin : Region.linearise.go md ops ops.size 0 (Array.replicate ops.size false) [] = List.range ops.size) (hS : S (Array.replicate ops.size false) (fun _ => undef) w)
 (h : Ps P md ops Q S ops.size (fun _ => undef) (Array.replicate ops.size false) a) : (Code.region id ops false).wp P Q a w :=
 wp_region (by
  rw [← hlin]
  exact wpAny_sound ops.size 0 _ a w (wpAny_of_ps _ _ _ _ (fun j o ho hj => by
   exfalso
   unfold Dn at hj
   have hjl : j < ops.size := (Array.getElem?_eq_some_iff.1 ho).1
   simp [hjl] at hj) h _ hS))
end
end Go.Proofs.YtoaggmldekejoaaGreatDoor
/- A region whose order Go leaves open, with any number of operations, one behind the other, that change what is known. Conditions: none. -/
namespace Go.Proofs.YtoaggmldekejoaaGreatDoor
open Go.RowKit
def cntD (L : Array Bool) : List Nat → Nat
 | [] => 0
 | k :: ks => (if Dn L k then 1 else 0) + cntD L ks
theorem cntD_ne {L : Array Bool} {i : Nat} : ∀ {ks : List Nat}, i ∉ ks → cntD (L.setIfInBounds i true) ks = cntD L ks
 | [], _ => rfl
 | k :: ks, h => by
  simp only [List.mem_cons, not_or] at h
  unfold cntD
  rw [dn_ne (Ne.symm h.1), cntD_ne h.2]
theorem cntD_all {L : Array Bool} : ∀ {ks : List Nat}, (∀ x ∈ ks, Dn L x = true) → cntD L ks = ks.length
 | [], _ => rfl
 | k :: ks, h => by
  unfold cntD
  rw [h k (by simp), cntD_all (fun x hx => h x (by simp [hx])), if_pos rfl, List.length_cons, Nat.add_comm]
theorem cntD_none {L : Array Bool} : ∀ {ks : List Nat}, (∀ x ∈ ks, Dn L x = false) → cntD L ks = 0
 | [], _ => rfl
 | k :: ks, h => by
  unfold cntD
  rw [h k (by simp), cntD_none (fun x hx => h x (by simp [hx]))]; rfl
theorem cntD_append (L : Array Bool) : ∀ (a b : List Nat), cntD L (a ++ b) = cntD L a + cntD L b
 | [], b => by simp [cntD]
 | k :: ks, b => by
  show (if Dn L k then 1 else 0) + cntD L (ks ++ b) = (if Dn L k then 1 else 0) + cntD L ks + cntD L b
  rw [cntD_append L ks b, Nat.add_assoc]
/-- how many of ks are done says what is known -/
def SeqN (ks : List Nat) (B : Nat → (Nat → Value) → World → Prop) : Array Bool → (Nat → Value) → World → Prop := fun L m w => B (cntD L ks) m w
section
variable {ks pre post : List Nat} {k : Nat} {B : Nat → (Nat → Value) → World → Prop} {L : Array Bool} {m : Nat → Value} {w w' : World}
theorem SeqN.start {n : Nat} (h1 : (ks.all fun k => decide (k < n)) = true) (h : B 0 m w) : SeqN ks B (Array.replicate n false) m w := by
 unfold SeqN
 rw [cntD_none (fun x hx => by
  have := List.all_eq_true.1 h1 x hx
  simp only [decide_eq_true_eq] at this
  unfold Dn
  simp [this])]
 exact h
theorem SeqN.any {T : World → Prop} (t : ∀ j m w, B j m w → T w) (hS : SeqN ks B L m w) : T w := t _ _ _ hS
theorem SeqN.pass {i : Nat} (h : (ks.all fun k => k != i) = true) : Pass (SeqN ks B) i := fun L m w hS => by
 unfold SeqN at *
 rw [cntD_ne (fun hi => by have := List.all_eq_true.1 h i hi; simp at this)]
 exact hS
theorem post_no {md : Region.Mode} {ops : Array Oper} (hsh : Shut md ops L) (hun : Dn L k = false) (h : (post.all fun x => reach md ops ops.size x k) = true) : ∀ x ∈ post, Dn L x = false :=
 fun x hx => reach_no hsh (List.all_eq_true.1 h x hx) hun
theorem SeqN.at_ (pre post : List Nat) {md : Region.Mode} {ops : Array Oper} {m0 m1 : Nat → Value} (hsh : Shut md ops L) (hat : At m0 pre L m1) (hun : Dn L k = false) (hp : (post.all fun x => reach md ops ops.size x k) = true)
 (hS : SeqN (pre ++ k :: post) B L m w) : B pre.length m w := by
 unfold SeqN at hS
 rw [cntD_append, cntD_all (fun x hx => (hat x hx).1)] at hS
 unfold cntD at hS
 rw [hun, cntD_none (post_no hsh hun hp)] at hS
 exact hS
theorem SeqN.set_ (pre post : List Nat) {md : Region.Mode} {ops : Array Oper} {m0 m1 m' : Nat → Value} (hsh : Shut md ops L) (hat : At m0 pre L m1) (hun : Dn L k = false) (hp : (post.all fun x => reach md ops ops.size x k) = true)
 (h1 : (pre.all fun x => x != k) = true) (h2 : (post.all fun x => x != k) = true) (h : B (pre.length + 1) m' w') : SeqN (pre ++ k :: post) B (L.setIfInBounds k true) m' w' := by
 unfold SeqN
 rw [cntD_append, cntD_ne (fun hi => by have := List.all_eq_true.1 h1 k hi; simp at this), cntD_all (fun x hx => (hat x hx).1)]
 unfold cntD
 rw [dn_eq, cntD_ne (fun hi => by have := List.all_eq_true.1 h2 k hi; simp at this), cntD_none (post_no hsh hun hp)]
 exact h
theorem SeqN.fin (h : (ks.all fun x => Dn L x) = true) (hS : SeqN ks B L m w) : B ks.length m w := by
 unfold SeqN at hS
 rw [cntD_all (fun x hx => List.all_eq_true.1 h x hx)] at hS
 exact hS
/-- what is listed elsewhere, of which B knows nothing -/
theorem SeqN.turn {i : Nat} {v : Value} (h : (ks.all fun k => k != i) = true) (hB : ∀ j m w, B j m w → B j (upd m i v) w) (hS : SeqN ks B L m w) : SeqN ks B (L.setIfInBounds i true) (upd m i v) w := by
 have := SeqN.pass h L m w hS
 exact hB _ _ _ this
end
end Go.Proofs.YtoaggmldekejoaaGreatDoor
/- A part of a whole variable is stored. Conditions: none. -/
namespace Go.Proofs.YtoaggmldekejoaaGreatDoor
open Go.RowKit
def splice (cs : Array Value) (o : Nat) (vs : List Value) : Array Value := (cs.toList.take o ++ vs ++ cs.toList.drop (o + vs.length)).toArray
theorem blk_setMid {g : Nat} {t : TypeId} : ∀ (vs : List Value) (o : Nat) (w : World) (cs : List Value), Blk w g t cs.toArray → o + vs.length ≤ cs.length → Blk (w.setCells g o vs) g t (cs.take o ++ vs ++ cs.drop (o + vs.length)).toArray
 | [], o, w, cs, h, _ => by rw [World.setCells]; simpa using h
 | v :: vs, o, w, cs, h, hl => by
  rw [World.setCells]
  simp only [List.length_cons] at hl
  have h1 := h.set_ o v
  rw [List.setIfInBounds_toArray] at h1
  have h2 := blk_setMid vs (o + 1) _ _ h1 (by rw [List.length_set]; omega)
  have e : (cs.set o v).take (o + 1) ++ vs ++ (cs.set o v).drop (o + 1 + vs.length) = cs.take o ++ v :: vs ++ cs.drop (o + (v :: vs).length) := by
   rw [List.take_add_one, List.take_set, List.set_eq_of_length_le (by rw [List.length_take]; omega), List.getElem?_set_self (by omega), List.drop_set_of_lt (by omega)]
   simp only [Option.toList, List.length_cons, List.append_assoc, List.cons_append]
   rw [show o + 1 + vs.length = o + (vs.length + 1) from by omega]
   rfl
  rw [e] at h2
  exact h2
theorem there_mid {w : World} {g : Nat} {t : TypeId} {cs : Array Value} (h : Blk w g t cs) {o n : Nat} (hl : o + n ≤ cs.size) : w.there g o n := fun j hj => by
 have := there_blk h (o + j) (by omega)
 rwa [Nat.zero_add] at this
section
variable {P : Program}
theorem exec_store_part {o : Oper} {a : Act} {w : World} (ty : TypeId) (x y : Operand) (ho : o.op = .store ty x y) (g k : Nat) (t : TypeId) (cs new cs' : Array Value) (hx : a.eval x = .pointer (some ⟨g, k, none⟩)) (hy : a.eval y = .agg new) (hb : Blk w g t cs) (hs : k + new.size ≤ cs.size)
 (hi : (P.info? ty).map (·.size) = some new.size) (h1 : new.all (·.oneCell') = true) (hc : splice cs k new.toList = cs') : ∃ w', (execOp a.eval o).run P w = .ok .skip w' ∧ Blk w' g t cs' ∧ w.grownBy w' (some g) := by
 refine ⟨w.setCells g k new.toList, ?_, ?_, grown_setCells _ _ _ (World.grownBy.refl w _)⟩
 · unfold execOp
   simp only [ho, hx, hy, Instr.storeAt, Instr.sureAddr, Sem.run_bind, Sem.run_pure, Result.andThen_ok, run_storeVar_mid w g k ty new (there_mid hb hs) hi h1]
 · rw [← hc]; exact blk_setMid new.toList k w cs.toList (by simpa using hb) (by simpa using hs)
end
end Go.Proofs.YtoaggmldekejoaaGreatDoor
