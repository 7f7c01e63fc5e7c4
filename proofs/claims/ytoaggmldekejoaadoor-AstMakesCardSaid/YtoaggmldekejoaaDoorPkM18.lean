/- A region that draws, with two variables made beside two calls. Conditions: none. -/
import Derived.Test.YtoaggmldekejoaaDoorPkM17
namespace Go.Proofs.YtoaggmldekejoaaDoor
open Go.RowKit
def W2C (B : Option Nat → Option Nat → Nat → (Nat → Value) → World → Prop) : Array Bool → (Nat → Value) → World → Prop := fun L m w =>
  ∃ a b : Option Nat, (Dn L 6 = true → ∃ g, a = some g ∧ m 6 = .pointer (some ⟨g, 0, none⟩)) ∧ (Dn L 6 = false → a = none) ∧ (Dn L 7 = true → ∃ g, b = some g ∧ m 7 = .pointer (some ⟨g, 0, none⟩)) ∧ (Dn L 7 = false → b = none) ∧ SeqN [2, 5, 8, 9] (B a b) L m w
section
variable {B : Option Nat → Option Nat → Nat → (Nat → Value) → World → Prop} {L : Array Bool} {m m' : Nat → Value} {w w' : World}
theorem W2C.start {n : Nat} (hn : 9 < n) (h : B none none 0 m w) : W2C B (Array.replicate n false) m w := by
  have hf : ∀ i, i < n → Dn (Array.replicate n false) i = false := fun i hi => by
    unfold Dn
    rw [Array.getD_eq_getD_getElem?, Array.getElem?_replicate, if_pos hi]
    rfl
  exact ⟨none, none, (fun e => by rw [hf 6 (by omega)] at e; cases e), (fun _ => rfl), (fun e => by rw [hf 7 (by omega)] at e; cases e), (fun _ => rfl), SeqN.start (by simp; omega) h⟩
theorem W2C.pass {i : Nat} (h4 : (6 != i) = true) (h5 : (7 != i) = true) (h : ([2, 5, 8, 9].all fun k => k != i) = true) : Pass (W2C B) i := fun L m w hS => by
  obtain ⟨a, b, h1, h2, h3, h4', hS⟩ := hS
  have e : Dn (L.setIfInBounds i true) 6 = Dn L 6 := dn_ne (by simpa using h4)
  have e' : Dn (L.setIfInBounds i true) 7 = Dn L 7 := dn_ne (by simpa using h5)
  exact ⟨a, b, by rw [e]; exact h1, by rw [e]; exact h2, by rw [e']; exact h3, by rw [e']; exact h4', SeqN.pass h L m w hS⟩
theorem W2C.any {T : World → Prop} (t : ∀ a b j m w, B a b j m w → T w) (hS : W2C B L m w) : T w := by
  obtain ⟨a, b, _, _, _, _, hS⟩ := hS
  exact t _ _ _ _ _ hS
theorem W2C.made4 {v : Value} {g : Nat} (hd : Dn L 6 = false) (h6 : Dn L 8 = false) (h7 : Dn L 9 = false) (hv : v = .pointer (some ⟨g, 0, none⟩)) (t : ∀ b j, j < 3 → B none b j m w → B (some g) b j (upd m 6 v) w') (hS : W2C B L m w) : W2C B (L.setIfInBounds 6 true) (upd m 6 v) w' := by
  obtain ⟨a, b, _, h2, h3, h4, hS⟩ := hS
  obtain rfl := h2 hd
  refine ⟨some g, b, fun _ => ⟨g, rfl, by rw [upd_same]; exact hv⟩, fun e => ?_, ?_, ?_, ?_⟩
  · rw [dn_eq] at e; cases e
  · rw [dn_ne (by decide), upd_ne (by decide)]; exact h3
  · rw [dn_ne (by decide)]; exact h4
  · have hS2 := SeqN.pass (i := 6) (by decide) L m w hS
    unfold SeqN cntD cntD cntD cntD cntD at *
    rw [dn_ne (by decide), dn_ne (by decide), dn_ne (by decide), dn_ne (by decide), h6, h7] at *
    refine t _ _ ?_ hS2
    cases Dn L 2 <;> cases Dn L 5 <;> simp
theorem W2C.made5 {v : Value} {g : Nat} (hd : Dn L 7 = false) (h6 : Dn L 8 = false) (h7 : Dn L 9 = false) (hv : v = .pointer (some ⟨g, 0, none⟩)) (t : ∀ a j, j < 3 → B a none j m w → B a (some g) j (upd m 7 v) w') (hS : W2C B L m w) : W2C B (L.setIfInBounds 7 true) (upd m 7 v) w' := by
  obtain ⟨a, b, h1, h2, _, h4, hS⟩ := hS
  obtain rfl := h4 hd
  refine ⟨a, some g, ?_, ?_, fun _ => ⟨g, rfl, by rw [upd_same]; exact hv⟩, fun e => ?_, ?_⟩
  · rw [dn_ne (by decide), upd_ne (by decide)]; exact h1
  · rw [dn_ne (by decide)]; exact h2
  · rw [dn_eq] at e; cases e
  · have hS2 := SeqN.pass (i := 7) (by decide) L m w hS
    unfold SeqN cntD cntD cntD cntD cntD at *
    rw [dn_ne (by decide), dn_ne (by decide), dn_ne (by decide), dn_ne (by decide), h6, h7] at *
    refine t _ _ ?_ hS2
    cases Dn L 2 <;> cases Dn L 5 <;> simp
theorem W2C.on1 (h1 : Dn L 2 = false) (h3 : Dn L 5 = false) (h6 : Dn L 8 = false) (h7 : Dn L 9 = false) (hS : W2C B L m w) : ∃ a b, B a b 0 m w ∧ ∀ v w', B a b 1 (upd m 2 v) w' → W2C B (L.setIfInBounds 2 true) (upd m 2 v) w' := by
  obtain ⟨a, b, a1, a2, a3, a4, hS⟩ := hS
  unfold SeqN cntD cntD cntD cntD cntD at hS
  rw [h1, h3, h6, h7] at hS
  refine ⟨a, b, hS, fun v w' hB => ⟨a, b, ?_, ?_, ?_, ?_, ?_⟩⟩
  · rw [dn_ne (by decide), upd_ne (by decide)]; exact a1
  · rw [dn_ne (by decide)]; exact a2
  · rw [dn_ne (by decide), upd_ne (by decide)]; exact a3
  · rw [dn_ne (by decide)]; exact a4
  · unfold SeqN cntD cntD cntD cntD cntD
    rw [dn_eq, dn_ne (by decide), dn_ne (by decide), dn_ne (by decide), h3, h6, h7]
    exact hB
theorem W2C.on3 (h1 : Dn L 2 = true) (h3 : Dn L 5 = false) (h6 : Dn L 8 = false) (h7 : Dn L 9 = false) (hS : W2C B L m w) : ∃ a b, B a b 1 m w ∧ ∀ v w', B a b 2 (upd m 5 v) w' → W2C B (L.setIfInBounds 5 true) (upd m 5 v) w' := by
  obtain ⟨a, b, a1, a2, a3, a4, hS⟩ := hS
  unfold SeqN cntD cntD cntD cntD cntD at hS
  rw [h1, h3, h6, h7] at hS
  refine ⟨a, b, hS, fun v w' hB => ⟨a, b, ?_, ?_, ?_, ?_, ?_⟩⟩
  · rw [dn_ne (by decide), upd_ne (by decide)]; exact a1
  · rw [dn_ne (by decide)]; exact a2
  · rw [dn_ne (by decide), upd_ne (by decide)]; exact a3
  · rw [dn_ne (by decide)]; exact a4
  · unfold SeqN cntD cntD cntD cntD cntD
    rw [dn_eq, dn_ne (by decide), dn_ne (by decide), dn_ne (by decide), h1, h6, h7]
    exact hB
theorem W2C.on6 (h1 : Dn L 2 = true) (h3 : Dn L 5 = true) (h4 : Dn L 6 = true) (h5 : Dn L 7 = true) (h6 : Dn L 8 = false) (h7 : Dn L 9 = false) (hS : W2C B L m w) : ∃ g k, m 6 = .pointer (some ⟨g, 0, none⟩) ∧ m 7 = .pointer (some ⟨k, 0, none⟩) ∧ B (some g) (some k) 2 m w ∧ ∀ w', B (some g) (some k) 3 m w' → W2C B (L.setIfInBounds 8 true) m w' := by
  obtain ⟨a, b, a1, a2, a3, a4, hS⟩ := hS
  obtain ⟨g, rfl, hm⟩ := a1 h4
  obtain ⟨k, rfl, hk⟩ := a3 h5
  unfold SeqN cntD cntD cntD cntD cntD at hS
  rw [h1, h3, h6, h7] at hS
  refine ⟨g, k, hm, hk, hS, fun w' hB => ⟨some g, some k, fun _ => ⟨g, rfl, hm⟩, ?_, fun _ => ⟨k, rfl, hk⟩, ?_, ?_⟩⟩
  · rw [dn_ne (by decide)]; exact a2
  · rw [dn_ne (by decide)]; exact a4
  · unfold SeqN cntD cntD cntD cntD cntD
    rw [dn_eq, dn_ne (by decide), dn_ne (by decide), dn_ne (by decide), h1, h3, h7]
    exact hB
theorem W2C.on7 (h1 : Dn L 2 = true) (h3 : Dn L 5 = true) (h4 : Dn L 6 = true) (h5 : Dn L 7 = true) (h6 : Dn L 8 = true) (h7 : Dn L 9 = false) (hS : W2C B L m w) : ∃ g k, m 6 = .pointer (some ⟨g, 0, none⟩) ∧ m 7 = .pointer (some ⟨k, 0, none⟩) ∧ B (some g) (some k) 3 m w ∧ ∀ w', B (some g) (some k) 4 m w' → W2C B (L.setIfInBounds 9 true) m w' := by
  obtain ⟨a, b, a1, a2, a3, a4, hS⟩ := hS
  obtain ⟨g, rfl, hm⟩ := a1 h4
  obtain ⟨k, rfl, hk⟩ := a3 h5
  unfold SeqN cntD cntD cntD cntD cntD at hS
  rw [h1, h3, h6, h7] at hS
  refine ⟨g, k, hm, hk, hS, fun w' hB => ⟨some g, some k, fun _ => ⟨g, rfl, hm⟩, ?_, fun _ => ⟨k, rfl, hk⟩, ?_, ?_⟩⟩
  · rw [dn_ne (by decide)]; exact a2
  · rw [dn_ne (by decide)]; exact a4
  · unfold SeqN cntD cntD cntD cntD cntD
    rw [dn_eq, dn_ne (by decide), dn_ne (by decide), dn_ne (by decide), h1, h3, h6]
    exact hB
theorem W2C.fin (h4 : Dn L 6 = true) (h5 : Dn L 7 = true) (h : ([2, 5, 8, 9].all fun x => Dn L x) = true) (hS : W2C B L m w) : ∃ g k, m 6 = .pointer (some ⟨g, 0, none⟩) ∧ m 7 = .pointer (some ⟨k, 0, none⟩) ∧ B (some g) (some k) 4 m w := by
  obtain ⟨a, b, a1, _, a3, _, hS⟩ := hS
  obtain ⟨g, rfl, hm⟩ := a1 h4
  obtain ⟨k, rfl, hk⟩ := a3 h5
  exact ⟨g, k, hm, hk, SeqN.fin h hS⟩
end
/-- what is known of the two calls' trees and of the two variables -/
def W2KC (R1 R2 : List Nd) (tr : TypeId) (W : World) : Option Nat → Option Nat → Nat → (Nat → Value) → World → Prop := fun a b j m w' =>
  Below W.heap.size W w' ∧ match j with
  | 0 => ((∀ g, a = some g → W.heap.size ≤ g ∧ b ≠ some g ∧ Blk w' g tr #[.slice none 0 0]) ∧ (∀ g, b = some g → W.heap.size ≤ g ∧ Blk w' g tr #[.slice none 0 0]))
  | 1 => ((∀ g, a = some g → W.heap.size ≤ g ∧ b ≠ some g ∧ Blk w' g tr #[.slice none 0 0]) ∧ (∀ g, b = some g → W.heap.size ≤ g ∧ Blk w' g tr #[.slice none 0 0])) ∧ ∃ A n c, m 2 = .agg #[.slice A n c] ∧ LN.rd w' (fun k => W.heap.size ≤ k ∧ a ≠ some k ∧ b ≠ some k) A n R1 ∧ n ≤ c ∧ c ≤ 9223372036854775807
  | 2 => ((∀ g, a = some g → W.heap.size ≤ g ∧ b ≠ some g ∧ Blk w' g tr #[.slice none 0 0]) ∧ (∀ g, b = some g → W.heap.size ≤ g ∧ Blk w' g tr #[.slice none 0 0])) ∧ (∃ A n c, m 2 = .agg #[.slice A n c] ∧ LN.rd w' (fun k => W.heap.size ≤ k ∧ a ≠ some k ∧ b ≠ some k) A n R1 ∧ n ≤ c ∧ c ≤ 9223372036854775807) ∧ ∃ A n c, m 5 = .agg #[.slice A n c] ∧ LN.rd w' (fun k => W.heap.size ≤ k ∧ a ≠ some k ∧ b ≠ some k) A n R2 ∧ n ≤ c ∧ c ≤ 9223372036854775807
  | 3 => ∃ A n c, (∀ g, a = some g → W.heap.size ≤ g ∧ b ≠ some g ∧ Blk w' g tr #[.slice A n c]) ∧ (∀ g, b = some g → W.heap.size ≤ g ∧ Blk w' g tr #[.slice none 0 0]) ∧ m 2 = .agg #[.slice A n c] ∧ LN.rd w' (fun k => W.heap.size ≤ k ∧ a ≠ some k ∧ b ≠ some k) A n R1 ∧ (n ≤ c ∧ c ≤ 9223372036854775807) ∧ ∃ A n c, m 5 = .agg #[.slice A n c] ∧ LN.rd w' (fun k => W.heap.size ≤ k ∧ a ≠ some k ∧ b ≠ some k) A n R2 ∧ n ≤ c ∧ c ≤ 9223372036854775807
  | _ => ∃ A n c A' n' c', (∀ g, a = some g → W.heap.size ≤ g ∧ b ≠ some g ∧ Blk w' g tr #[.slice A n c]) ∧ (∀ g, b = some g → W.heap.size ≤ g ∧ Blk w' g tr #[.slice A' n' c']) ∧ m 2 = .agg #[.slice A n c] ∧ m 5 = .agg #[.slice A' n' c'] ∧ LN.rd w' (fun k => W.heap.size ≤ k ∧ a ≠ some k ∧ b ≠ some k) A n R1 ∧ LN.rd w' (fun k => W.heap.size ≤ k ∧ a ≠ some k ∧ b ≠ some k) A' n' R2 ∧ (n ≤ c ∧ c ≤ 9223372036854775807) ∧ n' ≤ c' ∧ c' ≤ 9223372036854775807
section
variable {R1 R2 : List Nd} {tr : TypeId} {W w w' : World} {a b : Option Nat} {m : Nat → Value}
theorem W2KC.m4 {v : Value} : ∀ (b : Option Nat) (j : Nat), j < 3 → W2KC R1 R2 tr W none b j m w → W2KC R1 R2 tr W (some w.heap.size) b j (upd m 6 v) (w.alloc (.cells #[.slice none 0 0] tr)) := fun b j hj hB => by
  obtain ⟨hT, hB⟩ := hB
  refine ⟨bl_al hT _, ?_⟩
  have ral := bl_al (Below.refl w.heap.size w) (.cells #[.slice none 0 0] tr)
  have VV : ∀ (_ : (∀ g, none = some g → W.heap.size ≤ g ∧ b ≠ some g ∧ Blk w g tr #[.slice none 0 0]) ∧ (∀ g, b = some g → W.heap.size ≤ g ∧ Blk w g tr #[.slice none 0 0])),
      (∀ g, some w.heap.size = some g → W.heap.size ≤ g ∧ b ≠ some g ∧ Blk (w.alloc (.cells #[.slice none 0 0] tr)) g tr #[.slice none 0 0]) ∧ (∀ g, b = some g → W.heap.size ≤ g ∧ Blk (w.alloc (.cells #[.slice none 0 0] tr)) g tr #[.slice none 0 0]) := fun h =>
    ⟨fun g e => by
      injection e with e
      subst e
      exact ⟨hT.size, fun e => by have := (h.2 _ e).2.lt; omega, Blk.new w _ _⟩, fun g e => ⟨(h.2 g e).1, (h.2 g e).2.ca ral⟩⟩
  have RR : ∀ {A n xs}, LN.rd w (fun k => W.heap.size ≤ k ∧ (none : Option Nat) ≠ some k ∧ b ≠ some k) A n xs → LN.rd (w.alloc (.cells #[.slice none 0 0] tr)) (fun k => W.heap.size ≤ k ∧ some w.heap.size ≠ some k ∧ b ≠ some k) A n xs := fun h =>
    Lay.rd_below (Lay.rd_weak (fun k hk hl => ⟨hk.1, fun e => by injection e with e; omega, hk.2.2⟩) h) ral
  match j, hj, hB with
  | 0, _, h => exact VV h
  | 1, _, ⟨h, A, n, c, hv, hr, hc⟩ => exact ⟨VV h, A, n, c, (upd_ne (by decide)).trans hv, RR hr, hc⟩
  | 2, _, ⟨h, ⟨A, n, c, hv, hr, hc⟩, A', n', c', hv', hr', hc'⟩ => exact ⟨VV h, ⟨A, n, c, (upd_ne (by decide)).trans hv, RR hr, hc⟩, A', n', c', (upd_ne (by decide)).trans hv', RR hr', hc'⟩
  | _ + 3, hj, _ => exact absurd hj (by omega)
theorem W2KC.m5 {v : Value} : ∀ (a : Option Nat) (j : Nat), j < 3 → W2KC R1 R2 tr W a none j m w → W2KC R1 R2 tr W a (some w.heap.size) j (upd m 7 v) (w.alloc (.cells #[.slice none 0 0] tr)) := fun a j hj hB => by
  obtain ⟨hT, hB⟩ := hB
  refine ⟨bl_al hT _, ?_⟩
  have ral := bl_al (Below.refl w.heap.size w) (.cells #[.slice none 0 0] tr)
  have VV : ∀ (_ : (∀ g, a = some g → W.heap.size ≤ g ∧ (none : Option Nat) ≠ some g ∧ Blk w g tr #[.slice none 0 0]) ∧ (∀ g, none = some g → W.heap.size ≤ g ∧ Blk w g tr #[.slice none 0 0])),
      (∀ g, a = some g → W.heap.size ≤ g ∧ some w.heap.size ≠ some g ∧ Blk (w.alloc (.cells #[.slice none 0 0] tr)) g tr #[.slice none 0 0]) ∧ (∀ g, some w.heap.size = some g → W.heap.size ≤ g ∧ Blk (w.alloc (.cells #[.slice none 0 0] tr)) g tr #[.slice none 0 0]) := fun h =>
    ⟨fun g e => ⟨(h.1 g e).1, fun e2 => by injection e2 with e2; have := (h.1 g e).2.2.lt; omega, (h.1 g e).2.2.ca ral⟩, fun g e => by
      injection e with e
      subst e
      exact ⟨hT.size, Blk.new w _ _⟩⟩
  have RR : ∀ {A n xs}, LN.rd w (fun k => W.heap.size ≤ k ∧ a ≠ some k ∧ (none : Option Nat) ≠ some k) A n xs → LN.rd (w.alloc (.cells #[.slice none 0 0] tr)) (fun k => W.heap.size ≤ k ∧ a ≠ some k ∧ some w.heap.size ≠ some k) A n xs := fun h =>
    Lay.rd_below (Lay.rd_weak (fun k hk hl => ⟨hk.1, hk.2.1, fun e => by injection e with e; omega⟩) h) ral
  match j, hj, hB with
  | 0, _, h => exact VV h
  | 1, _, ⟨h, A, n, c, hv, hr, hc⟩ => exact ⟨VV h, A, n, c, (upd_ne (by decide)).trans hv, RR hr, hc⟩
  | 2, _, ⟨h, ⟨A, n, c, hv, hr, hc⟩, A', n', c', hv', hr', hc'⟩ => exact ⟨VV h, ⟨A, n, c, (upd_ne (by decide)).trans hv, RR hr, hc⟩, A', n', c', (upd_ne (by decide)).trans hv', RR hr', hc'⟩
  | _ + 3, hj, _ => exact absurd hj (by omega)
/-- the first call is done -/
theorem W2KC.c1 {A : Option Addr} {n c : Nat} (hB : W2KC R1 R2 tr W a b 0 m w) (q : Below w.heap.size w w') (hr : LN.rd w' (fun k => w.heap.size ≤ k) A n R1) (h1 : n ≤ c) (h2 : c ≤ 9223372036854775807) : W2KC R1 R2 tr W a b 1 (upd m 2 (.agg #[.slice A n c])) w' := by
  obtain ⟨hT, hA, hb⟩ := hB
  exact ⟨bl_ca hT q, ⟨fun g e => ⟨(hA g e).1, (hA g e).2.1, (hA g e).2.2.ca q⟩, fun g e => ⟨(hb g e).1, (hb g e).2.ca q⟩⟩, A, n, c, upd_same _ _ _, Lay.rd_weak (fun k hk _ => ⟨Nat.le_trans hT.size hk, fun e => by have := (hA k e).2.2.lt; have h9 : w.heap.size ≤ k := hk; omega, fun e => by have := (hb k e).2.lt; have h9 : w.heap.size ≤ k := hk; omega⟩) hr, h1, h2⟩
/-- the second call is done -/
theorem W2KC.c3 {A : Option Addr} {n c : Nat} (hB : W2KC R1 R2 tr W a b 1 m w) (q : Below w.heap.size w w') (hr : LN.rd w' (fun k => w.heap.size ≤ k) A n R2) (h1 : n ≤ c) (h2 : c ≤ 9223372036854775807) : W2KC R1 R2 tr W a b 2 (upd m 5 (.agg #[.slice A n c])) w' := by
  obtain ⟨hT, ⟨hA, hb⟩, A1, n1, c1, hv, hr1, hc1⟩ := hB
  exact ⟨bl_ca hT q, ⟨fun g e => ⟨(hA g e).1, (hA g e).2.1, (hA g e).2.2.ca q⟩, fun g e => ⟨(hb g e).1, (hb g e).2.ca q⟩⟩, ⟨A1, n1, c1, (upd_ne (by decide)).trans hv, Lay.rd_below hr1 q, hc1⟩, A, n, c, upd_same _ _ _, Lay.rd_weak (fun k hk _ => ⟨Nat.le_trans hT.size hk, fun e => by have := (hA k e).2.2.lt; have h9 : w.heap.size ≤ k := hk; omega, fun e => by have := (hb k e).2.lt; have h9 : w.heap.size ≤ k := hk; omega⟩) hr, h1, h2⟩
theorem W2KC.st6 {A : Option Addr} {n c g k : Nat} (hB : W2KC R1 R2 tr W (some g) (some k) 2 m w) (hm : m 2 = .agg #[.slice A n c]) (hb : Blk w' g tr #[.slice A n c]) (hg : w.grownBy w' (some g)) : W2KC R1 R2 tr W (some g) (some k) 3 m w' := by
  obtain ⟨hT, ⟨hA, hb2⟩, ⟨A1, n1, c1, hv, hr1, hc1⟩, A2, n2, c2, hv2, hr2, hc2⟩ := hB
  obtain ⟨rfl, rfl, rfl⟩ : A = A1 ∧ n = n1 ∧ c = c1 := by have h9 : Value.agg #[.slice A n c] = .agg #[.slice A1 n1 c1] := hm.symm.trans hv; simpa using h9
  have hgk : g ≠ k := fun e => (hA g rfl).2.1 (by rw [e])
  exact ⟨bl_gr hT hg (hA g rfl).1, A, n, c, fun x e => by
    injection e with e
    subst e
    exact ⟨(hA g rfl).1, (hA g rfl).2.1, hb⟩, fun x e => by
    injection e with e
    subst e
    exact ⟨(hb2 k rfl).1, (hb2 k rfl).2.apart hg (Ne.symm hgk)⟩, hm, rd_grownH hr1 hg (fun x hx e => hx.2.1 (by rw [e])), hc1, A2, n2, c2, hv2, rd_grownH hr2 hg (fun x hx e => hx.2.1 (by rw [e])), hc2⟩
theorem W2KC.st7 {A : Option Addr} {n c g k : Nat} (hB : W2KC R1 R2 tr W (some g) (some k) 3 m w) (hm : m 5 = .agg #[.slice A n c]) (hb : Blk w' k tr #[.slice A n c]) (hg : w.grownBy w' (some k)) : W2KC R1 R2 tr W (some g) (some k) 4 m w' := by
  obtain ⟨hT, A1, n1, c1, hA, hb2, hv, hr1, hc1, A2, n2, c2, hv2, hr2, hc2⟩ := hB
  obtain ⟨rfl, rfl, rfl⟩ : A = A2 ∧ n = n2 ∧ c = c2 := by have h9 : Value.agg #[.slice A n c] = .agg #[.slice A2 n2 c2] := hm.symm.trans hv2; simpa using h9
  have hgk : g ≠ k := fun e => (hA g rfl).2.1 (by rw [e])
  exact ⟨bl_gr hT hg (hb2 k rfl).1, A1, n1, c1, A, n, c, fun x e => by
    injection e with e
    subst e
    exact ⟨(hA g rfl).1, (hA g rfl).2.1, (hA g rfl).2.2.apart hg hgk⟩, fun x e => by
    injection e with e
    subst e
    exact ⟨(hb2 k rfl).1, hb⟩, hv, hm, rd_grownH hr1 hg (fun x hx e => hx.2.2 (by rw [e])), rd_grownH hr2 hg (fun x hx e => hx.2.2 (by rw [e])), hc1, hc2⟩
theorem W2KC.pair {A A' : Option Addr} {n c n' c' g k : Nat} (hB : W2KC R1 R2 tr W (some g) (some k) 4 m w) (hm : m 2 = .agg #[.slice A n c]) (hm' : m 5 = .agg #[.slice A' n' c']) : Below W.heap.size W w ∧ (W.heap.size ≤ g ∧ W.heap.size ≤ k ∧ g ≠ k) ∧ Blk w g tr #[.slice A n c] ∧ Blk w k tr #[.slice A' n' c'] ∧ LN.rd w (fun x => W.heap.size ≤ x ∧ x ≠ g ∧ x ≠ k) A n R1 ∧ LN.rd w (fun x => W.heap.size ≤ x ∧ x ≠ g ∧ x ≠ k) A' n' R2 ∧ (n ≤ c ∧ c ≤ 9223372036854775807) ∧ n' ≤ c' ∧ c' ≤ 9223372036854775807 := by
  obtain ⟨hT, A1, n1, c1, A2, n2, c2, hA, hb2, hv, hv2, hr1, hr2, hc1, hc2⟩ := hB
  obtain ⟨rfl, rfl, rfl⟩ : A = A1 ∧ n = n1 ∧ c = c1 := by have h9 : Value.agg #[.slice A n c] = .agg #[.slice A1 n1 c1] := hm.symm.trans hv; simpa using h9
  obtain ⟨rfl, rfl, rfl⟩ : A' = A2 ∧ n' = n2 ∧ c' = c2 := by have h9 : Value.agg #[.slice A' n' c'] = .agg #[.slice A2 n2 c2] := hm'.symm.trans hv2; simpa using h9
  exact ⟨hT, ⟨(hA g rfl).1, (hb2 k rfl).1, fun e => (hA g rfl).2.1 (by rw [e])⟩, (hA g rfl).2.2, (hb2 k rfl).2, Lay.rd_weak (fun x hx _ => ⟨hx.1, fun e => hx.2.1 (by rw [e]), fun e => hx.2.2 (by rw [e])⟩) hr1, Lay.rd_weak (fun x hx _ => ⟨hx.1, fun e => hx.2.1 (by rw [e]), fun e => hx.2.2 (by rw [e])⟩) hr2, hc1, hc2⟩
end
end Go.Proofs.YtoaggmldekejoaaDoor
