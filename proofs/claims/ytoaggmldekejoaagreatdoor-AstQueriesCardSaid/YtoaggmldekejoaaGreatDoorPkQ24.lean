/- Regions that draw, with a variable made beside two calls. Conditions: none. -/
import Derived.Test.YtoaggmldekejoaaGreatDoorPkQ23
namespace Go.Proofs.YtoaggmldekejoaaGreatDoor
open Go.RowKit
def WtA (B : Option Nat → Nat → (Nat → Value) → World → Prop) : Array Bool → (Nat → Value) → World → Prop := fun L m w =>
 ∃ al : Option Nat, (Dn L 6 = true → ∃ g, al = some g ∧ m 6 = .pointer (some ⟨g, 0, none⟩)) ∧ (Dn L 6 = false → al = none) ∧ SeqN [0, 2, 7] (B al) L m w
section
variable {B : Option Nat → Nat → (Nat → Value) → World → Prop} {L : Array Bool} {m m' : Nat → Value} {w w' : World}
theorem WtA.start {n : Nat} (hn : 7 < n) (h : B none 0 m w) : WtA B (Array.replicate n false) m w := by
 refine ⟨none, fun e => ?_, fun _ => rfl, SeqN.start (by simp; omega) h⟩
 unfold Dn at e
 rw [Array.getD_eq_getD_getElem?, Array.getElem?_replicate, if_pos (by omega)] at e
 cases e
theorem WtA.pass {i : Nat} (h8 : (6 != i) = true) (h : ([0, 2, 7].all fun k => k != i) = true) : Pass (WtA B) i := fun L m w hS => by
 obtain ⟨al, h1, h2, hS⟩ := hS
 have e : Dn (L.setIfInBounds i true) 6 = Dn L 6 := dn_ne (by simpa using h8)
 exact ⟨al, by rw [e]; exact h1, by rw [e]; exact h2, SeqN.pass h L m w hS⟩
/-- whatever is done -/
theorem WtA.any {T : World → Prop} (t : ∀ al j m w, B al j m w → T w) (hS : WtA B L m w) : T w := by
 obtain ⟨al, _, _, hS⟩ := hS
 exact t _ _ _ _ hS
theorem WtA.lt {T : World → Prop} (h9 : Dn L 7 = false) (t : ∀ al j m w, j < 3 → B al j m w → T w) (hS : WtA B L m w) : T w := by
 obtain ⟨al, _, _, hS⟩ := hS
 unfold SeqN cntD cntD cntD cntD at hS
 rw [h9] at hS
 refine t _ _ _ _ ?_ hS
 cases Dn L 0 <;> cases Dn L 2 <;> simp
/-- the variable is made -/
theorem WtA.made {v : Value} {g : Nat} (h8 : Dn L 6 = false) (h9 : Dn L 7 = false) (hv : v = .pointer (some ⟨g, 0, none⟩)) (t : ∀ j, j < 3 → B none j m w → B (some g) j (upd m 6 v) w') (hS : WtA B L m w) : WtA B (L.setIfInBounds 6 true) (upd m 6 v) w' := by
 obtain ⟨al, _, h2, hS⟩ := hS
 obtain rfl := h2 h8
 refine ⟨some g, fun _ => ⟨g, rfl, by rw [upd_same]; exact hv⟩, fun e => ?_, ?_⟩
 · rw [dn_eq] at e
   cases e
 · have hS2 := SeqN.pass (i := 6) (by decide) L m w hS
   unfold SeqN cntD cntD cntD cntD at *
   rw [dn_ne (by decide), dn_ne (by decide), dn_ne (by decide), h9] at *
   refine t _ ?_ hS2
   cases Dn L 0 <;> cases Dn L 2 <;> simp
theorem WtA.on2 (h2 : Dn L 0 = false) (h3 : Dn L 2 = false) (h9 : Dn L 7 = false) (hS : WtA B L m w) : ∃ al, B al 0 m w ∧ ∀ v w', B al 1 (upd m 0 v) w' → WtA B (L.setIfInBounds 0 true) (upd m 0 v) w' := by
 obtain ⟨al, a1, a2, hS⟩ := hS
 unfold SeqN cntD cntD cntD cntD at hS
 rw [h2, h3, h9] at hS
 refine ⟨al, hS, fun v w' hB => ⟨al, ?_, ?_, ?_⟩⟩
 · rw [dn_ne (by decide), upd_ne (by decide)]; exact a1
 · rw [dn_ne (by decide)]; exact a2
 · unfold SeqN cntD cntD cntD cntD
   rw [dn_eq, dn_ne (by decide), dn_ne (by decide), h3, h9]
   exact hB
theorem WtA.on3 (h2 : Dn L 0 = true) (h3 : Dn L 2 = false) (h9 : Dn L 7 = false) (hS : WtA B L m w) : ∃ al, B al 1 m w ∧ ∀ v w', B al 2 (upd m 2 v) w' → WtA B (L.setIfInBounds 2 true) (upd m 2 v) w' := by
 obtain ⟨al, a1, a2, hS⟩ := hS
 unfold SeqN cntD cntD cntD cntD at hS
 rw [h2, h3, h9] at hS
 refine ⟨al, hS, fun v w' hB => ⟨al, ?_, ?_, ?_⟩⟩
 · rw [dn_ne (by decide), upd_ne (by decide)]; exact a1
 · rw [dn_ne (by decide)]; exact a2
 · unfold SeqN cntD cntD cntD cntD
   rw [dn_eq, dn_ne (by decide), dn_ne (by decide), h2, h9]
   exact hB
theorem WtA.on9 (h2 : Dn L 0 = true) (h3 : Dn L 2 = true) (h8 : Dn L 6 = true) (h9 : Dn L 7 = false) (hS : WtA B L m w) : ∃ g, m 6 = .pointer (some ⟨g, 0, none⟩) ∧ B (some g) 2 m w ∧ ∀ w', B (some g) 3 m w' → WtA B (L.setIfInBounds 7 true) m w' := by
 obtain ⟨al, a1, a2, hS⟩ := hS
 obtain ⟨g, rfl, hm⟩ := a1 h8
 unfold SeqN cntD cntD cntD cntD at hS
 rw [h2, h3, h9] at hS
 refine ⟨g, hm, hS, fun w' hB => ⟨some g, ?_, ?_, ?_⟩⟩
 · exact fun _ => ⟨g, rfl, hm⟩
 · rw [dn_ne (by decide)]; exact a2
 · unfold SeqN cntD cntD cntD cntD
   rw [dn_eq, dn_ne (by decide), dn_ne (by decide), h2, h3]
   exact hB
theorem WtA.fin (h8 : Dn L 6 = true) (h : ([0, 2, 7].all fun x => Dn L x) = true) (hS : WtA B L m w) : ∃ g, m 6 = .pointer (some ⟨g, 0, none⟩) ∧ B (some g) 3 m w := by
 obtain ⟨al, a1, _, hS⟩ := hS
 obtain ⟨g, rfl, hm⟩ := a1 h8
 exact ⟨g, hm, SeqN.fin h hS⟩
end
def WtB (B : Option Nat → Nat → (Nat → Value) → World → Prop) : Array Bool → (Nat → Value) → World → Prop := fun L m w =>
 ∃ al : Option Nat, (Dn L 6 = true → ∃ g, al = some g ∧ m 6 = .pointer (some ⟨g, 0, none⟩)) ∧ (Dn L 6 = false → al = none) ∧ SeqN [1, 2, 7] (B al) L m w
section
variable {B : Option Nat → Nat → (Nat → Value) → World → Prop} {L : Array Bool} {m m' : Nat → Value} {w w' : World}
theorem WtB.start {n : Nat} (hn : 7 < n) (h : B none 0 m w) : WtB B (Array.replicate n false) m w := by
 refine ⟨none, fun e => ?_, fun _ => rfl, SeqN.start (by simp; omega) h⟩
 unfold Dn at e
 rw [Array.getD_eq_getD_getElem?, Array.getElem?_replicate, if_pos (by omega)] at e
 cases e
theorem WtB.pass {i : Nat} (h8 : (6 != i) = true) (h : ([1, 2, 7].all fun k => k != i) = true) : Pass (WtB B) i := fun L m w hS => by
 obtain ⟨al, h1, h2, hS⟩ := hS
 have e : Dn (L.setIfInBounds i true) 6 = Dn L 6 := dn_ne (by simpa using h8)
 exact ⟨al, by rw [e]; exact h1, by rw [e]; exact h2, SeqN.pass h L m w hS⟩
/-- whatever is done -/
theorem WtB.any {T : World → Prop} (t : ∀ al j m w, B al j m w → T w) (hS : WtB B L m w) : T w := by
 obtain ⟨al, _, _, hS⟩ := hS
 exact t _ _ _ _ hS
theorem WtB.lt {T : World → Prop} (h9 : Dn L 7 = false) (t : ∀ al j m w, j < 3 → B al j m w → T w) (hS : WtB B L m w) : T w := by
 obtain ⟨al, _, _, hS⟩ := hS
 unfold SeqN cntD cntD cntD cntD at hS
 rw [h9] at hS
 refine t _ _ _ _ ?_ hS
 cases Dn L 1 <;> cases Dn L 2 <;> simp
/-- the variable is made -/
theorem WtB.made {v : Value} {g : Nat} (h8 : Dn L 6 = false) (h9 : Dn L 7 = false) (hv : v = .pointer (some ⟨g, 0, none⟩)) (t : ∀ j, j < 3 → B none j m w → B (some g) j (upd m 6 v) w') (hS : WtB B L m w) : WtB B (L.setIfInBounds 6 true) (upd m 6 v) w' := by
 obtain ⟨al, _, h2, hS⟩ := hS
 obtain rfl := h2 h8
 refine ⟨some g, fun _ => ⟨g, rfl, by rw [upd_same]; exact hv⟩, fun e => ?_, ?_⟩
 · rw [dn_eq] at e
   cases e
 · have hS2 := SeqN.pass (i := 6) (by decide) L m w hS
   unfold SeqN cntD cntD cntD cntD at *
   rw [dn_ne (by decide), dn_ne (by decide), dn_ne (by decide), h9] at *
   refine t _ ?_ hS2
   cases Dn L 1 <;> cases Dn L 2 <;> simp
theorem WtB.on2 (h2 : Dn L 1 = false) (h3 : Dn L 2 = false) (h9 : Dn L 7 = false) (hS : WtB B L m w) : ∃ al, B al 0 m w ∧ ∀ v w', B al 1 (upd m 1 v) w' → WtB B (L.setIfInBounds 1 true) (upd m 1 v) w' := by
 obtain ⟨al, a1, a2, hS⟩ := hS
 unfold SeqN cntD cntD cntD cntD at hS
 rw [h2, h3, h9] at hS
 refine ⟨al, hS, fun v w' hB => ⟨al, ?_, ?_, ?_⟩⟩
 · rw [dn_ne (by decide), upd_ne (by decide)]; exact a1
 · rw [dn_ne (by decide)]; exact a2
 · unfold SeqN cntD cntD cntD cntD
   rw [dn_eq, dn_ne (by decide), dn_ne (by decide), h3, h9]
   exact hB
theorem WtB.on3 (h2 : Dn L 1 = true) (h3 : Dn L 2 = false) (h9 : Dn L 7 = false) (hS : WtB B L m w) : ∃ al, B al 1 m w ∧ ∀ v w', B al 2 (upd m 2 v) w' → WtB B (L.setIfInBounds 2 true) (upd m 2 v) w' := by
 obtain ⟨al, a1, a2, hS⟩ := hS
 unfold SeqN cntD cntD cntD cntD at hS
 rw [h2, h3, h9] at hS
 refine ⟨al, hS, fun v w' hB => ⟨al, ?_, ?_, ?_⟩⟩
 · rw [dn_ne (by decide), upd_ne (by decide)]; exact a1
 · rw [dn_ne (by decide)]; exact a2
 · unfold SeqN cntD cntD cntD cntD
   rw [dn_eq, dn_ne (by decide), dn_ne (by decide), h2, h9]
   exact hB
theorem WtB.on9 (h2 : Dn L 1 = true) (h3 : Dn L 2 = true) (h8 : Dn L 6 = true) (h9 : Dn L 7 = false) (hS : WtB B L m w) : ∃ g, m 6 = .pointer (some ⟨g, 0, none⟩) ∧ B (some g) 2 m w ∧ ∀ w', B (some g) 3 m w' → WtB B (L.setIfInBounds 7 true) m w' := by
 obtain ⟨al, a1, a2, hS⟩ := hS
 obtain ⟨g, rfl, hm⟩ := a1 h8
 unfold SeqN cntD cntD cntD cntD at hS
 rw [h2, h3, h9] at hS
 refine ⟨g, hm, hS, fun w' hB => ⟨some g, ?_, ?_, ?_⟩⟩
 · exact fun _ => ⟨g, rfl, hm⟩
 · rw [dn_ne (by decide)]; exact a2
 · unfold SeqN cntD cntD cntD cntD
   rw [dn_eq, dn_ne (by decide), dn_ne (by decide), h2, h3]
   exact hB
theorem WtB.fin (h8 : Dn L 6 = true) (h : ([1, 2, 7].all fun x => Dn L x) = true) (hS : WtB B L m w) : ∃ g, m 6 = .pointer (some ⟨g, 0, none⟩) ∧ B (some g) 3 m w := by
 obtain ⟨al, a1, _, hS⟩ := hS
 obtain ⟨g, rfl, hm⟩ := a1 h8
 exact ⟨g, hm, SeqN.fin h hS⟩
end
end Go.Proofs.YtoaggmldekejoaaGreatDoor
/- A region whose order Go leaves open, with several operations of unknown yield side by side; what follows is said once. Conditions: none. -/
namespace Go.Proofs.YtoaggmldekejoaaGreatDoor
open Go.RowKit
section
variable {P : Program} {ops : Array Oper} {Q Q' : Exit → Act → World → Prop} {md : Region.Mode} {S : Array Bool → (Nat → Value) → World → Prop}
theorem Ps.weak (h : ∀ a w, Q' .normal a w → Q .normal a w) : ∀ (f : Nat) (m : Nat → Value) (L : Array Bool) (a : Act), Ps P md ops Q' S f m L a → Ps P md ops Q S f m L a
 | 0, _, _, _, k => ⟨k.1, fun w hS => h _ _ (k.2 w hS)⟩
 | f + 1, m, L, a, k => ⟨fun e w hS => h _ _ (k.1 e w hS), fun i hi => by
  obtain ⟨o, ho, ⟨u, hs, hg⟩ | ⟨V, hs, hg⟩⟩ := k.2 i hi
  · exact ⟨o, ho, .inl ⟨u, hs, Ps.weak h f _ _ _ hg⟩⟩
  · exact ⟨o, ho, .inr ⟨V, hs, fun v hV => Ps.weak h f _ _ _ (hg v hV)⟩⟩⟩
/-- one of several that come next -/
def Turns (P : Program) (md : Region.Mode) (ops : Array Oper) (Q : Exit → Act → World → Prop) (S : Array Bool → (Nat → Value) → World → Prop) (f : Nat) (m : Nat → Value) (L : Array Bool) (a : Act) (i : Nat) : Prop :=
 ∃ o, ops[i]? = some o ∧ ∃ V, TurnS P md ops S m i o V a ∧ ∀ v, V v → Ps P md ops Q S f (upd m i v) (L.setIfInBounds i true) (a.put o.dst v)
theorem Turns.mk {f : Nat} {m : Nat → Value} {L : Array Bool} {a : Act} {i : Nat} {o : Oper} {d : Option Tmp} (ho : ops[i]? = some o) (hd : o.dst = d) {V : Value → Prop} (ht : TurnS P md ops S m i o V a)
 (h : ∀ v, V v → Ps P md ops Q S f (upd m i v) (L.setIfInBounds i true) (a.put d v)) : Turns P md ops Q S f m L a i := by subst hd; exact ⟨o, ho, V, ht, h⟩
theorem Ps.some2 {f : Nat} {m : Nat → Value} {L : Array Bool} {a : Act} {i j : Nat} (hr : Region.ready md ops L = [i, j]) (h1 : Turns P md ops Q S f m L a i) (h2 : Turns P md ops Q S f m L a j) : Ps P md ops Q S (f + 1) m L a := by
 refine ⟨fun e => (by rw [hr] at e; cases e), fun x hx => ?_⟩
 rw [hr] at hx
 rcases List.mem_cons.1 hx with rfl | hx
 · obtain ⟨o, ho, V, ht, h⟩ := h1; exact ⟨o, ho, .inr ⟨V, ht, h⟩⟩
 rcases List.mem_cons.1 hx with rfl | hx
 · obtain ⟨o, ho, V, ht, h⟩ := h2; exact ⟨o, ho, .inr ⟨V, ht, h⟩⟩
 · cases hx
theorem Ps.some3 {f : Nat} {m : Nat → Value} {L : Array Bool} {a : Act} {i j k : Nat} (hr : Region.ready md ops L = [i, j, k]) (h1 : Turns P md ops Q S f m L a i) (h2 : Turns P md ops Q S f m L a j) (h3 : Turns P md ops Q S f m L a k) : Ps P md ops Q S (f + 1) m L a := by
 refine ⟨fun e => (by rw [hr] at e; cases e), fun x hx => ?_⟩
 rw [hr] at hx
 rcases List.mem_cons.1 hx with rfl | hx
 · obtain ⟨o, ho, V, ht, h⟩ := h1; exact ⟨o, ho, .inr ⟨V, ht, h⟩⟩
 rcases List.mem_cons.1 hx with rfl | hx
 · obtain ⟨o, ho, V, ht, h⟩ := h2; exact ⟨o, ho, .inr ⟨V, ht, h⟩⟩
 rcases List.mem_cons.1 hx with rfl | hx
 · obtain ⟨o, ho, V, ht, h⟩ := h3; exact ⟨o, ho, .inr ⟨V, ht, h⟩⟩
 · cases hx
/-- what follows is said once: F tells how the region ends, of the act at its start -/
theorem wp_region_psF {id : Nat} {a : Act} {w : World} (F : Act → Act → World → Prop) (S : Array Bool → (Nat → Value) → World → Prop) (hm : P.follows .mixedOrders = true) (hS : S (Array.replicate ops.size false) (fun _ => undef) w.drew)
 (h : Ps P .any ops (fun _ a' w' => F a a' w') S ops.size (fun _ => undef) (Array.replicate ops.size false) a) (hk : ∀ a' w', F a a' w' → Q .normal a' w') : (Code.region id ops true).wp P Q a w :=
 wp_region_ps S hm hS (Ps.weak hk _ _ _ _ h)
end
end Go.Proofs.YtoaggmldekejoaaGreatDoor
