/- A region whose order Go leaves open, with any number of operations, one behind the other, that change what is known. Conditions: none. -/
import Derived.Test.YtoaggmldekejoaaDoorPs
namespace Go.Proofs.YtoaggmldekejoaaDoor
open Go.RowKit
def cntD (L : Array Bool) : List Nat → Nat
  | [] => 0
  | k :: ks => (if Dn L k then 1 else 0) + cntD L ks
theorem cntD_ne {L : Array Bool} {i : Nat} : ∀ {ks : List Nat}, i ∉ ks → cntD (L.setIfInBounds i true) ks = cntD L ks
  | [], _ => rfl
  | k :: ks, h => by
    simp only [List.mem_cons, not_or] at h
    unfold cntD
    rw [dn_ne (Ne.symm h.1), cntD_ne h.2]
theorem cntD_all {L : Array Bool} : ∀ {ks : List Nat}, (∀ x ∈ ks, Dn L x = true) → cntD L ks = ks.length
  | [], _ => rfl
  | k :: ks, h => by
    unfold cntD
    rw [h k (by simp), cntD_all (fun x hx => h x (by simp [hx])), if_pos rfl, List.length_cons, Nat.add_comm]
theorem cntD_none {L : Array Bool} : ∀ {ks : List Nat}, (∀ x ∈ ks, Dn L x = false) → cntD L ks = 0
  | [], _ => rfl
  | k :: ks, h => by
    unfold cntD
    rw [h k (by simp), cntD_none (fun x hx => h x (by simp [hx]))]; rfl
theorem cntD_append (L : Array Bool) : ∀ (a b : List Nat), cntD L (a ++ b) = cntD L a + cntD L b
  | [], b => by simp [cntD]
  | k :: ks, b => by
    show (if Dn L k then 1 else 0) + cntD L (ks ++ b) = (if Dn L k then 1 else 0) + cntD L ks + cntD L b
    rw [cntD_append L ks b, Nat.add_assoc]
/-- how many of ks are done says what is known -/
def SeqN (ks : List Nat) (B : Nat → (Nat → Value) → World → Prop) : Array Bool → (Nat → Value) → World → Prop := fun L m w => B (cntD L ks) m w
section
variable {ks pre post : List Nat} {k : Nat} {B : Nat → (Nat → Value) → World → Prop} {L : Array Bool} {m : Nat → Value} {w w' : World}
theorem SeqN.start {n : Nat} (h1 : (ks.all fun k => decide (k < n)) = true) (h : B 0 m w) : SeqN ks B (Array.replicate n false) m w := by
  unfold SeqN
  rw [cntD_none (fun x hx => by
    have := List.all_eq_true.1 h1 x hx
    simp only [decide_eq_true_eq] at this
    unfold Dn
    simp [this])]
  exact h
theorem SeqN.any {T : World → Prop} (t : ∀ j m w, B j m w → T w) (hS : SeqN ks B L m w) : T w := t _ _ _ hS
theorem SeqN.pass {i : Nat} (h : (ks.all fun k => k != i) = true) : Pass (SeqN ks B) i := fun L m w hS => by
  unfold SeqN at *
  rw [cntD_ne (fun hi => by have := List.all_eq_true.1 h i hi; simp at this)]
  exact hS
theorem post_no {md : Region.Mode} {ops : Array Oper} (hsh : Shut md ops L) (hun : Dn L k = false) (h : (post.all fun x => reach md ops ops.size x k) = true) : ∀ x ∈ post, Dn L x = false :=
  fun x hx => reach_no hsh (List.all_eq_true.1 h x hx) hun
theorem SeqN.at_ (pre post : List Nat) {md : Region.Mode} {ops : Array Oper} {m0 m1 : Nat → Value} (hsh : Shut md ops L) (hat : At m0 pre L m1) (hun : Dn L k = false) (hp : (post.all fun x => reach md ops ops.size x k) = true)
    (hS : SeqN (pre ++ k :: post) B L m w) : B pre.length m w := by
  unfold SeqN at hS
  rw [cntD_append, cntD_all (fun x hx => (hat x hx).1)] at hS
  unfold cntD at hS
  rw [hun, cntD_none (post_no hsh hun hp)] at hS
  exact hS
theorem SeqN.set_ (pre post : List Nat) {md : Region.Mode} {ops : Array Oper} {m0 m1 m' : Nat → Value} (hsh : Shut md ops L) (hat : At m0 pre L m1) (hun : Dn L k = false) (hp : (post.all fun x => reach md ops ops.size x k) = true)
    (h1 : (pre.all fun x => x != k) = true) (h2 : (post.all fun x => x != k) = true) (h : B (pre.length + 1) m' w') : SeqN (pre ++ k :: post) B (L.setIfInBounds k true) m' w' := by
  unfold SeqN
  rw [cntD_append, cntD_ne (fun hi => by have := List.all_eq_true.1 h1 k hi; simp at this), cntD_all (fun x hx => (hat x hx).1)]
  unfold cntD
  rw [dn_eq, cntD_ne (fun hi => by have := List.all_eq_true.1 h2 k hi; simp at this), cntD_none (post_no hsh hun hp)]
  exact h
theorem SeqN.fin (h : (ks.all fun x => Dn L x) = true) (hS : SeqN ks B L m w) : B ks.length m w := by
  unfold SeqN at hS
  rw [cntD_all (fun x hx => List.all_eq_true.1 h x hx)] at hS
  exact hS
/-- what is listed elsewhere, of which B knows nothing -/
theorem SeqN.turn {i : Nat} {v : Value} (h : (ks.all fun k => k != i) = true) (hB : ∀ j m w, B j m w → B j (upd m i v) w) (hS : SeqN ks B L m w) : SeqN ks B (L.setIfInBounds i true) (upd m i v) w := by
  have := SeqN.pass h L m w hS
  exact hB _ _ _ this
end
end Go.Proofs.YtoaggmldekejoaaDoor
