/- A region that copies two rows and stores them: what is known for each set of done operations. Conditions: none. -/
import Derived.Test.YthgcdilkkldgjaaDoorCWith2
namespace Go.Proofs.YthgcdilkkldgjaaDoor
open Go.RowKit
theorem LCO_free (w w' : World) (F G : Nat → Prop) : ∀ (ys : List CO) (cs : List Value), LCO.reps w F ys cs → LCO.reps w' G ys cs
  | [], _, h => h
  | _ :: l, _, ⟨x, y, e, h1, h2⟩ => ⟨x, y, e, h1, LCO_free w w' F G l y h2⟩
theorem LK_free (w w' : World) (F G : Nat → Prop) : ∀ (ys : List Int) (cs : List Value), LK.reps w F ys cs → LK.reps w' G ys cs
  | [], _, h => h
  | _ :: l, _, ⟨x, y, e, h1, h2⟩ => ⟨x, y, e, h1, LK_free w w' F G l y h2⟩
structure CpS (W0 : World) (g5 : Nat) (T : TypeId) (x s2 : Value) (cols : List CO) (keys : List Int) (n1 m1 : Nat) (L : Array Bool) (m : Nat → Value) (w : World) : Prop where
  bel : Dn L 9 = false → Below W0.heap.size W0 w
  ch : Chg (fun b => b = g5) W0 w
  k0 : Dn L 0 = true → ∃ g, m 0 = .slice (some ⟨g, 0, none⟩) 0 0
  k4 : Dn L 4 = true → ∃ g, m 4 = .slice (some ⟨g, 0, none⟩) 0 0
  k3 : Dn L 3 = true → ∃ A c, m 3 = .slice A n1 c ∧ LCO.rd w (fun b => W0.heap.size ≤ b) A n1 cols ∧ n1 ≤ c ∧ c ≤ 9223372036854775807
  k7 : Dn L 7 = true → ∃ A c, m 7 = .slice A m1 c ∧ LK.rd w (fun b => W0.heap.size ≤ b) A m1 keys ∧ m1 ≤ c ∧ c ≤ 9223372036854775807
  b9 : Dn L 9 = true → Dn L 11 = false → Blk w g5 T #[x, m 3, s2]
  b11 : Dn L 11 = true → Dn L 9 = true ∧ Blk w g5 T #[x, m 3, m 7]
section
variable {W0 : World} {g5 : Nat} {T : TypeId} {x s2 : Value} {cols : List CO} {keys : List Int} {n1 m1 : Nat} {L : Array Bool} {m : Nat → Value} {w w' : World}
theorem CpS.mono (h : CpS W0 g5 T x s2 cols keys n1 m1 L m w) (h9 : Dn L 9 = false) (q : Below w.heap.size w w') : CpS W0 g5 T x s2 cols keys n1 m1 L m w' :=
  ⟨fun e => bl_ca (h.bel e) q, h.ch.below q h.ch.size, h.k0, h.k4, fun e => by obtain ⟨A, c, e1, h1, h2⟩ := h.k3 e; exact ⟨A, c, e1, Lay.rd_below h1 q, h2⟩, fun e => by obtain ⟨A, c, e1, h1, h2⟩ := h.k7 e; exact ⟨A, c, e1, Lay.rd_below h1 q, h2⟩, (fun e => by rw [h9] at e; cases e), fun e => by have := (h.b11 e).1; rw [h9] at this; cases this⟩
theorem CpS.start {n : Nat} (hn : 11 < n) (q : Below W0.heap.size W0 w) (m : Nat → Value) : CpS W0 g5 T x s2 cols keys n1 m1 (Array.replicate n false) m w := by
  have d : ∀ j, j < n → Dn (Array.replicate n false) j = false := fun j hj => by unfold Dn; simp [hj]
  have no : ∀ {j : Nat} {p : Prop}, j < n → Dn (Array.replicate n false) j = true → p := fun {j p} hj e => by rw [d j hj] at e; cases e
  exact ⟨fun _ => q, Chg.of_below q, no (by omega), no (by omega), no (by omega), no (by omega), fun e => no (by omega) e, no (by omega)⟩
theorem CpS.pass {i : Nat} (h : (i != 0 && (i != 3 && (i != 4 && (i != 7 && (i != 9 && i != 11))))) = true) : Pass (CpS W0 g5 T x s2 cols keys n1 m1) i := fun L m w hS => by
  simp only [Bool.and_eq_true, bne_iff_ne] at h
  obtain ⟨h0, h3, h4, h7, h9, h11⟩ := h
  have e0 := dn_ne (L := L) (Ne.symm h0); have e3 := dn_ne (L := L) (Ne.symm h3); have e4 := dn_ne (L := L) (Ne.symm h4); have e7 := dn_ne (L := L) (Ne.symm h7); have e9 := dn_ne (L := L) (Ne.symm h9); have e11 := dn_ne (L := L) (Ne.symm h11)
  exact ⟨by rw [e9]; exact hS.bel, hS.ch, by rw [e0]; exact hS.k0, by rw [e4]; exact hS.k4, by rw [e3]; exact hS.k3, by rw [e7]; exact hS.k7, by rw [e9, e11]; exact hS.b9, by rw [e9, e11]; exact hS.b11⟩
theorem CpS.set0 {v : Value} (h : CpS W0 g5 T x s2 cols keys n1 m1 L m w) (h9 : Dn L 9 = false) (q : Below w.heap.size w w') (hv : ∃ g, v = .slice (some ⟨g, 0, none⟩) 0 0) : CpS W0 g5 T x s2 cols keys n1 m1 (L.setIfInBounds 0 true) (upd m 0 v) w' := by
  have k := h.mono h9 q
  exact ⟨by rw [dn_ne (by decide)]; exact k.bel, k.ch, fun _ => hv, by rw [dn_ne (by decide)]; exact k.k4, by rw [dn_ne (by decide)]; exact k.k3, by rw [dn_ne (by decide)]; exact k.k7, by rw [dn_ne (by decide), dn_ne (by decide)]; exact k.b9, by rw [dn_ne (by decide), dn_ne (by decide)]; exact k.b11⟩
theorem CpS.set4 {v : Value} (h : CpS W0 g5 T x s2 cols keys n1 m1 L m w) (h9 : Dn L 9 = false) (q : Below w.heap.size w w') (hv : ∃ g, v = .slice (some ⟨g, 0, none⟩) 0 0) : CpS W0 g5 T x s2 cols keys n1 m1 (L.setIfInBounds 4 true) (upd m 4 v) w' := by
  have k := h.mono h9 q
  exact ⟨by rw [dn_ne (by decide)]; exact k.bel, k.ch, by rw [dn_ne (by decide)]; exact k.k0, fun _ => hv, by rw [dn_ne (by decide)]; exact k.k3, by rw [dn_ne (by decide)]; exact k.k7, by rw [dn_ne (by decide), dn_ne (by decide)]; exact k.b9, by rw [dn_ne (by decide), dn_ne (by decide)]; exact k.b11⟩
theorem CpS.set3 {v : Value} (h : CpS W0 g5 T x s2 cols keys n1 m1 L m w) (h9 : Dn L 9 = false) (q : Below w.heap.size w w') (hv : ∃ A c, v = .slice A n1 c ∧ LCO.rd w' (fun b => W0.heap.size ≤ b) A n1 cols ∧ n1 ≤ c ∧ c ≤ 9223372036854775807) : CpS W0 g5 T x s2 cols keys n1 m1 (L.setIfInBounds 3 true) (upd m 3 v) w' := by
  have k := h.mono h9 q
  exact ⟨by rw [dn_ne (by decide)]; exact k.bel, k.ch, by rw [dn_ne (by decide)]; exact k.k0, by rw [dn_ne (by decide)]; exact k.k4, fun _ => hv, by rw [dn_ne (by decide)]; exact k.k7, (fun e => by rw [dn_ne (by decide), h9] at e; cases e), fun e => by rw [dn_ne (by decide)] at e; have := (h.b11 e).1; rw [h9] at this; cases this⟩
theorem CpS.set7 {v : Value} (h : CpS W0 g5 T x s2 cols keys n1 m1 L m w) (h9 : Dn L 9 = false) (q : Below w.heap.size w w') (hv : ∃ A c, v = .slice A m1 c ∧ LK.rd w' (fun b => W0.heap.size ≤ b) A m1 keys ∧ m1 ≤ c ∧ c ≤ 9223372036854775807) : CpS W0 g5 T x s2 cols keys n1 m1 (L.setIfInBounds 7 true) (upd m 7 v) w' := by
  have k := h.mono h9 q
  exact ⟨by rw [dn_ne (by decide)]; exact k.bel, k.ch, by rw [dn_ne (by decide)]; exact k.k0, by rw [dn_ne (by decide)]; exact k.k4, by rw [dn_ne (by decide)]; exact k.k3, fun _ => hv, (fun e => by rw [dn_ne (by decide), h9] at e; cases e), fun e => by rw [dn_ne (by decide)] at e; have := (h.b11 e).1; rw [h9] at this; cases this⟩
theorem CpS.store (h : CpS W0 g5 T x s2 cols keys n1 m1 L m w) (q : w.grownBy w' (some g5)) (hg : g5 < W0.heap.size) : (∀ A, (LCO.rd w (fun b => W0.heap.size ≤ b) A n1 cols → LCO.rd w' (fun b => W0.heap.size ≤ b) A n1 cols)) ∧ (∀ A, (LK.rd w (fun b => W0.heap.size ≤ b) A m1 keys → LK.rd w' (fun b => W0.heap.size ≤ b) A m1 keys)) ∧ Chg (fun b => b = g5) W0 w' :=
  ⟨fun A h1 => rd_grownH h1 q (fun b hb => by omega), fun A h1 => rd_grownH h1 q (fun b hb => by omega), h.ch.grown q (fun k e => .inl (by injection e with e; exact e.symm))⟩
theorem CpS.set9 (h : CpS W0 g5 T x s2 cols keys n1 m1 L m w) (q : w.grownBy w' (some g5)) (hg : g5 < W0.heap.size) (h11 : Dn L 11 = false) (hb : Blk w' g5 T #[x, m 3, s2]) : CpS W0 g5 T x s2 cols keys n1 m1 (L.setIfInBounds 9 true) m w' := by
  obtain ⟨s1, s3, s4⟩ := CpS.store h q hg
  exact ⟨(fun e => by rw [dn_eq] at e; cases e), s4, by rw [dn_ne (by decide)]; exact h.k0, by rw [dn_ne (by decide)]; exact h.k4, by rw [dn_ne (by decide)]; exact fun e => by obtain ⟨A, c, e1, h1, h2⟩ := h.k3 e; exact ⟨A, c, e1, s1 A h1, h2⟩, by rw [dn_ne (by decide)]; exact fun e => by obtain ⟨A, c, e1, h1, h2⟩ := h.k7 e; exact ⟨A, c, e1, s3 A h1, h2⟩, fun _ _ => hb, (fun e => by rw [dn_ne (by decide), h11] at e; cases e)⟩
theorem CpS.set11 (h : CpS W0 g5 T x s2 cols keys n1 m1 L m w) (q : w.grownBy w' (some g5)) (hg : g5 < W0.heap.size) (h9 : Dn L 9 = true) (hb : Blk w' g5 T #[x, m 3, m 7]) : CpS W0 g5 T x s2 cols keys n1 m1 (L.setIfInBounds 11 true) m w' := by
  obtain ⟨s1, s3, s4⟩ := CpS.store h q hg
  exact ⟨(fun e => by rw [dn_ne (by decide), h9] at e; cases e), s4, by rw [dn_ne (by decide)]; exact h.k0, by rw [dn_ne (by decide)]; exact h.k4, by rw [dn_ne (by decide)]; exact fun e => by obtain ⟨A, c, e1, h1, h2⟩ := h.k3 e; exact ⟨A, c, e1, s1 A h1, h2⟩, by rw [dn_ne (by decide)]; exact fun e => by obtain ⟨A, c, e1, h1, h2⟩ := h.k7 e; exact ⟨A, c, e1, s3 A h1, h2⟩, (fun _ e => by rw [dn_eq] at e; cases e), fun _ => ⟨by rw [dn_ne (by decide)]; exact h9, hb⟩⟩
end
end Go.Proofs.YthgcdilkkldgjaaDoor
