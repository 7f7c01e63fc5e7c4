/- Regions that draw, with a variable made beside two calls. Conditions: none. -/
import Derived.Test.YtoaggmldekejoaaDoorPsN
import Derived.Test.YtoaggmldekejoaaDoorBlk2
namespace Go.Proofs.YtoaggmldekejoaaDoor
open Go.RowKit
def WtA (B : Option Nat → Nat → (Nat → Value) → World → Prop) : Array Bool → (Nat → Value) → World → Prop := fun L m w =>
  ∃ al : Option Nat, (Dn L 6 = true → ∃ g, al = some g ∧ m 6 = .pointer (some ⟨g, 0, none⟩)) ∧ (Dn L 6 = false → al = none) ∧ SeqN [0, 2, 7] (B al) L m w
section
variable {B : Option Nat → Nat → (Nat → Value) → World → Prop} {L : Array Bool} {m m' : Nat → Value} {w w' : World}
theorem WtA.start {n : Nat} (hn : 7 < n) (h : B none 0 m w) : WtA B (Array.replicate n false) m w := by
  refine ⟨none, fun e => ?_, fun _ => rfl, SeqN.start (by simp; omega) h⟩
  unfold Dn at e
  rw [Array.getD_eq_getD_getElem?, Array.getElem?_replicate, if_pos (by omega)] at e
  cases e
theorem WtA.pass {i : Nat} (h8 : (6 != i) = true) (h : ([0, 2, 7].all fun k => k != i) = true) : Pass (WtA B) i := fun L m w hS => by
  obtain ⟨al, h1, h2, hS⟩ := hS
  have e : Dn (L.setIfInBounds i true) 6 = Dn L 6 := dn_ne (by simpa using h8)
  exact ⟨al, by rw [e]; exact h1, by rw [e]; exact h2, SeqN.pass h L m w hS⟩
/-- whatever is done -/
theorem WtA.any {T : World → Prop} (t : ∀ al j m w, B al j m w → T w) (hS : WtA B L m w) : T w := by
  obtain ⟨al, _, _, hS⟩ := hS
  exact t _ _ _ _ hS
theorem WtA.lt {T : World → Prop} (h9 : Dn L 7 = false) (t : ∀ al j m w, j < 3 → B al j m w → T w) (hS : WtA B L m w) : T w := by
  obtain ⟨al, _, _, hS⟩ := hS
  unfold SeqN cntD cntD cntD cntD at hS
  rw [h9] at hS
  refine t _ _ _ _ ?_ hS
  cases Dn L 0 <;> cases Dn L 2 <;> simp
/-- the variable is made -/
theorem WtA.made {v : Value} {g : Nat} (h8 : Dn L 6 = false) (h9 : Dn L 7 = false) (hv : v = .pointer (some ⟨g, 0, none⟩)) (t : ∀ j, j < 3 → B none j m w → B (some g) j (upd m 6 v) w') (hS : WtA B L m w) : WtA B (L.setIfInBounds 6 true) (upd m 6 v) w' := by
  obtain ⟨al, _, h2, hS⟩ := hS
  obtain rfl := h2 h8
  refine ⟨some g, fun _ => ⟨g, rfl, by rw [upd_same]; exact hv⟩, fun e => ?_, ?_⟩
  · rw [dn_eq] at e
    cases e
  · have hS2 := SeqN.pass (i := 6) (by decide) L m w hS
    unfold SeqN cntD cntD cntD cntD at *
    rw [dn_ne (by decide), dn_ne (by decide), dn_ne (by decide), h9] at *
    refine t _ ?_ hS2
    cases Dn L 0 <;> cases Dn L 2 <;> simp
theorem WtA.on2 (h2 : Dn L 0 = false) (h3 : Dn L 2 = false) (h9 : Dn L 7 = false) (hS : WtA B L m w) : ∃ al, B al 0 m w ∧ ∀ v w', B al 1 (upd m 0 v) w' → WtA B (L.setIfInBounds 0 true) (upd m 0 v) w' := by
  obtain ⟨al, a1, a2, hS⟩ := hS
  unfold SeqN cntD cntD cntD cntD at hS
  rw [h2, h3, h9] at hS
  refine ⟨al, hS, fun v w' hB => ⟨al, ?_, ?_, ?_⟩⟩
  · rw [dn_ne (by decide), upd_ne (by decide)]; exact a1
  · rw [dn_ne (by decide)]; exact a2
  · unfold SeqN cntD cntD cntD cntD
    rw [dn_eq, dn_ne (by decide), dn_ne (by decide), h3, h9]
    exact hB
theorem WtA.on3 (h2 : Dn L 0 = true) (h3 : Dn L 2 = false) (h9 : Dn L 7 = false) (hS : WtA B L m w) : ∃ al, B al 1 m w ∧ ∀ v w', B al 2 (upd m 2 v) w' → WtA B (L.setIfInBounds 2 true) (upd m 2 v) w' := by
  obtain ⟨al, a1, a2, hS⟩ := hS
  unfold SeqN cntD cntD cntD cntD at hS
  rw [h2, h3, h9] at hS
  refine ⟨al, hS, fun v w' hB => ⟨al, ?_, ?_, ?_⟩⟩
  · rw [dn_ne (by decide), upd_ne (by decide)]; exact a1
  · rw [dn_ne (by decide)]; exact a2
  · unfold SeqN cntD cntD cntD cntD
    rw [dn_eq, dn_ne (by decide), dn_ne (by decide), h2, h9]
    exact hB
theorem WtA.on9 (h2 : Dn L 0 = true) (h3 : Dn L 2 = true) (h8 : Dn L 6 = true) (h9 : Dn L 7 = false) (hS : WtA B L m w) : ∃ g, m 6 = .pointer (some ⟨g, 0, none⟩) ∧ B (some g) 2 m w ∧ ∀ w', B (some g) 3 m w' → WtA B (L.setIfInBounds 7 true) m w' := by
  obtain ⟨al, a1, a2, hS⟩ := hS
  obtain ⟨g, rfl, hm⟩ := a1 h8
  unfold SeqN cntD cntD cntD cntD at hS
  rw [h2, h3, h9] at hS
  refine ⟨g, hm, hS, fun w' hB => ⟨some g, ?_, ?_, ?_⟩⟩
  · exact fun _ => ⟨g, rfl, hm⟩
  · rw [dn_ne (by decide)]; exact a2
  · unfold SeqN cntD cntD cntD cntD
    rw [dn_eq, dn_ne (by decide), dn_ne (by decide), h2, h3]
    exact hB
theorem WtA.fin (h8 : Dn L 6 = true) (h : ([0, 2, 7].all fun x => Dn L x) = true) (hS : WtA B L m w) : ∃ g, m 6 = .pointer (some ⟨g, 0, none⟩) ∧ B (some g) 3 m w := by
  obtain ⟨al, a1, _, hS⟩ := hS
  obtain ⟨g, rfl, hm⟩ := a1 h8
  exact ⟨g, hm, SeqN.fin h hS⟩
end
def WtB (B : Option Nat → Nat → (Nat → Value) → World → Prop) : Array Bool → (Nat → Value) → World → Prop := fun L m w =>
  ∃ al : Option Nat, (Dn L 6 = true → ∃ g, al = some g ∧ m 6 = .pointer (some ⟨g, 0, none⟩)) ∧ (Dn L 6 = false → al = none) ∧ SeqN [1, 2, 7] (B al) L m w
section
variable {B : Option Nat → Nat → (Nat → Value) → World → Prop} {L : Array Bool} {m m' : Nat → Value} {w w' : World}
theorem WtB.start {n : Nat} (hn : 7 < n) (h : B none 0 m w) : WtB B (Array.replicate n false) m w := by
  refine ⟨none, fun e => ?_, fun _ => rfl, SeqN.start (by simp; omega) h⟩
  unfold Dn at e
  rw [Array.getD_eq_getD_getElem?, Array.getElem?_replicate, if_pos (by omega)] at e
  cases e
theorem WtB.pass {i : Nat} (h8 : (6 != i) = true) (h : ([1, 2, 7].all fun k => k != i) = true) : Pass (WtB B) i := fun L m w hS => by
  obtain ⟨al, h1, h2, hS⟩ := hS
  have e : Dn (L.setIfInBounds i true) 6 = Dn L 6 := dn_ne (by simpa using h8)
  exact ⟨al, by rw [e]; exact h1, by rw [e]; exact h2, SeqN.pass h L m w hS⟩
/-- whatever is done -/
theorem WtB.any {T : World → Prop} (t : ∀ al j m w, B al j m w → T w) (hS : WtB B L m w) : T w := by
  obtain ⟨al, _, _, hS⟩ := hS
  exact t _ _ _ _ hS
theorem WtB.lt {T : World → Prop} (h9 : Dn L 7 = false) (t : ∀ al j m w, j < 3 → B al j m w → T w) (hS : WtB B L m w) : T w := by
  obtain ⟨al, _, _, hS⟩ := hS
  unfold SeqN cntD cntD cntD cntD at hS
  rw [h9] at hS
  refine t _ _ _ _ ?_ hS
  cases Dn L 1 <;> cases Dn L 2 <;> simp
/-- the variable is made -/
theorem WtB.made {v : Value} {g : Nat} (h8 : Dn L 6 = false) (h9 : Dn L 7 = false) (hv : v = .pointer (some ⟨g, 0, none⟩)) (t : ∀ j, j < 3 → B none j m w → B (some g) j (upd m 6 v) w') (hS : WtB B L m w) : WtB B (L.setIfInBounds 6 true) (upd m 6 v) w' := by
  obtain ⟨al, _, h2, hS⟩ := hS
  obtain rfl := h2 h8
  refine ⟨some g, fun _ => ⟨g, rfl, by rw [upd_same]; exact hv⟩, fun e => ?_, ?_⟩
  · rw [dn_eq] at e
    cases e
  · have hS2 := SeqN.pass (i := 6) (by decide) L m w hS
    unfold SeqN cntD cntD cntD cntD at *
    rw [dn_ne (by decide), dn_ne (by decide), dn_ne (by decide), h9] at *
    refine t _ ?_ hS2
    cases Dn L 1 <;> cases Dn L 2 <;> simp
theorem WtB.on2 (h2 : Dn L 1 = false) (h3 : Dn L 2 = false) (h9 : Dn L 7 = false) (hS : WtB B L m w) : ∃ al, B al 0 m w ∧ ∀ v w', B al 1 (upd m 1 v) w' → WtB B (L.setIfInBounds 1 true) (upd m 1 v) w' := by
  obtain ⟨al, a1, a2, hS⟩ := hS
  unfold SeqN cntD cntD cntD cntD at hS
  rw [h2, h3, h9] at hS
  refine ⟨al, hS, fun v w' hB => ⟨al, ?_, ?_, ?_⟩⟩
  · rw [dn_ne (by decide), upd_ne (by decide)]; exact a1
  · rw [dn_ne (by decide)]; exact a2
  · unfold SeqN cntD cntD cntD cntD
    rw [dn_eq, dn_ne (by decide), dn_ne (by decide), h3, h9]
    exact hB
theorem WtB.on3 (h2 : Dn L 1 = true) (h3 : Dn L 2 = false) (h9 : Dn L 7 = false) (hS : WtB B L m w) : ∃ al, B al 1 m w ∧ ∀ v w', B al 2 (upd m 2 v) w' → WtB B (L.setIfInBounds 2 true) (upd m 2 v) w' := by
  obtain ⟨al, a1, a2, hS⟩ := hS
  unfold SeqN cntD cntD cntD cntD at hS
  rw [h2, h3, h9] at hS
  refine ⟨al, hS, fun v w' hB => ⟨al, ?_, ?_, ?_⟩⟩
  · rw [dn_ne (by decide), upd_ne (by decide)]; exact a1
  · rw [dn_ne (by decide)]; exact a2
  · unfold SeqN cntD cntD cntD cntD
    rw [dn_eq, dn_ne (by decide), dn_ne (by decide), h2, h9]
    exact hB
theorem WtB.on9 (h2 : Dn L 1 = true) (h3 : Dn L 2 = true) (h8 : Dn L 6 = true) (h9 : Dn L 7 = false) (hS : WtB B L m w) : ∃ g, m 6 = .pointer (some ⟨g, 0, none⟩) ∧ B (some g) 2 m w ∧ ∀ w', B (some g) 3 m w' → WtB B (L.setIfInBounds 7 true) m w' := by
  obtain ⟨al, a1, a2, hS⟩ := hS
  obtain ⟨g, rfl, hm⟩ := a1 h8
  unfold SeqN cntD cntD cntD cntD at hS
  rw [h2, h3, h9] at hS
  refine ⟨g, hm, hS, fun w' hB => ⟨some g, ?_, ?_, ?_⟩⟩
  · exact fun _ => ⟨g, rfl, hm⟩
  · rw [dn_ne (by decide)]; exact a2
  · unfold SeqN cntD cntD cntD cntD
    rw [dn_eq, dn_ne (by decide), dn_ne (by decide), h2, h3]
    exact hB
theorem WtB.fin (h8 : Dn L 6 = true) (h : ([1, 2, 7].all fun x => Dn L x) = true) (hS : WtB B L m w) : ∃ g, m 6 = .pointer (some ⟨g, 0, none⟩) ∧ B (some g) 3 m w := by
  obtain ⟨al, a1, _, hS⟩ := hS
  obtain ⟨g, rfl, hm⟩ := a1 h8
  exact ⟨g, hm, SeqN.fin h hS⟩
end
end Go.Proofs.YtoaggmldekejoaaDoor
