/- Two variables made and filled by calls in one statement whose order Go leaves open. Conditions: none. -/
import Derived.Test.YtnbcffnhgijmcaaPkD19
namespace Go.Proofs.Ytnbcffnhgijmcaa
open Go.RowKit
def pt (g : Nat) : Value := .pointer (some ⟨g, 0, none⟩)
theorem pt_inj {a b : Nat} (h : pt a = pt b) : a = b := by
  unfold pt at h
  injection h with h
  injection h with h
  injection h
theorem undef_pt (b : Nat) : undef ≠ pt b := by unfold pt undef; simp
/-- the blocks that are none of the two variables -/
def Av (a1 a2 : Nat) (m : Nat → Value) (b : Nat) : Prop := m a1 ≠ pt b ∧ m a2 ≠ pt b
/-- what a call's answer is: it stays so as long as the blocks that it leads to do -/
structure Res (R : Value → (Nat → Prop) → World → Prop) : Prop where
  keep : ∀ {v F w w'}, (∀ b, F b → b < w.heap.size → w'.heap[b]? = w.heap[b]?) → R v F w → R v F w'
  weak : ∀ {v F G w}, (∀ b, F b → b < w.heap.size → G b) → R v F w → R v G w
def LRes {α : Type} (Ly : Lay α) (P : α → Prop) (v : Value) (F : Nat → Prop) (w : World) : Prop := ∃ a cs, v = .agg cs ∧ Ly.rep w F a cs.toList ∧ P a
theorem LRes.res {α : Type} (Ly : Lay α) (P : α → Prop) : Res (LRes Ly P) :=
  ⟨fun hk ⟨a, cs, e, h, p⟩ => ⟨a, cs, e, Ly.keep hk h, p⟩, fun hk ⟨a, cs, e, h, p⟩ => ⟨a, cs, e, Ly.weak hk h, p⟩⟩
def NoRes (_ : Value) (_ : Nat → Prop) (_ : World) : Prop := True
theorem NoRes.res : Res NoRes := ⟨fun _ h => h, fun _ h => h⟩
section
variable (W : World) (k0 k1 k2 a1 a2 : Nat) (t1 t2 : TypeId) (Z1 Z2 : Array Value) (R0 R1 R2 : Value → (Nat → Prop) → World → Prop)
structure TwoA (L : Array Bool) (m : Nat → Value) (w : World) : Prop where
  bel : Below W.heap.size W w
  v1 : Dn L a1 = true → ∃ g, m a1 = pt g ∧ W.heap.size ≤ g ∧ Blk w g t1 Z1
  n1 : Dn L a1 = false → m a1 = undef
  v2 : Dn L a2 = true → ∃ g, m a2 = pt g ∧ W.heap.size ≤ g ∧ Blk w g t2 Z2
  n2 : Dn L a2 = false → m a2 = undef
  ne : Dn L a1 = true → Dn L a2 = true → m a1 ≠ m a2
  r0 : Dn L k0 = true → R0 (m k0) (Av a1 a2 m) w
  r1 : Dn L k1 = true → R1 (m k1) (Av a1 a2 m) w
  r2 : Dn L k2 = true → R2 (m k2) (Av a1 a2 m) w
structure TwoB (c1 c2 : Array Value) (g1 g2 : Nat) (m : Nat → Value) (w : World) : Prop where
  e1 : m a1 = pt g1
  e2 : m a2 = pt g2
  ne : g1 ≠ g2
  l1 : W.heap.size ≤ g1
  l2 : W.heap.size ≤ g2
  b1 : Blk w g1 t1 c1
  b2 : Blk w g2 t2 c2
  bel : Below W.heap.size W w
  r1 : R1 (m k1) (Av a1 a2 m) w
  r2 : R2 (m k2) (Av a1 a2 m) w
/-- s1, s2: the two stores -/
def TwoS (s1 s2 : Nat) (L : Array Bool) (m : Nat → Value) (w : World) : Prop :=
  (Dn L s1 = false → TwoA W k0 k1 k2 a1 a2 t1 t2 Z1 Z2 R0 R1 R2 L m w) ∧
  (Dn L s1 = true → Dn L s2 = false → ∃ g1 g2 c1, m k1 = .agg c1 ∧ TwoB W k1 k2 a1 a2 t1 t2 R1 R2 c1 Z2 g1 g2 m w) ∧
  (Dn L s2 = true → ∃ g1 g2 c1 c2, m k1 = .agg c1 ∧ m k2 = .agg c2 ∧ TwoB W k1 k2 a1 a2 t1 t2 R1 R2 c1 c2 g1 g2 m w)
end
section
variable {W : World} {k0 k1 k2 a1 a2 s1 s2 : Nat} {t1 t2 : TypeId} {Z1 Z2 : Array Value} {R0 R1 R2 : Value → (Nat → Prop) → World → Prop} {L : Array Bool} {m : Nat → Value} {w w' : World}
theorem TwoA.mono (h : TwoA W k0 k1 k2 a1 a2 t1 t2 Z1 Z2 R0 R1 R2 L m w) (H0 : Res R0) (H1 : Res R1) (H2 : Res R2) (q : Below w.heap.size w w') : TwoA W k0 k1 k2 a1 a2 t1 t2 Z1 Z2 R0 R1 R2 L m w' :=
  ⟨bl_ca h.bel q, fun e => by obtain ⟨g, x, y, z⟩ := h.v1 e; exact ⟨g, x, y, z.ca q⟩, h.n1, fun e => by obtain ⟨g, x, y, z⟩ := h.v2 e; exact ⟨g, x, y, z.ca q⟩, h.n2, h.ne,
    fun e => H0.keep (fun b _ hb => q.block b hb) (h.r0 e), fun e => H1.keep (fun b _ hb => q.block b hb) (h.r1 e), fun e => H2.keep (fun b _ hb => q.block b hb) (h.r2 e)⟩
theorem TwoA.set (h : TwoA W k0 k1 k2 a1 a2 t1 t2 Z1 Z2 R0 R1 R2 L m w) {i : Nat} (hi : i ≠ k0 ∧ i ≠ k1 ∧ i ≠ k2 ∧ i ≠ a1 ∧ i ≠ a2) : TwoA W k0 k1 k2 a1 a2 t1 t2 Z1 Z2 R0 R1 R2 (L.setIfInBounds i true) m w := by
  obtain ⟨x0, x1, x2, y1, y2⟩ := hi
  have d : ∀ j, i ≠ j → Dn (L.setIfInBounds i true) j = Dn L j := fun j hj => dn_ne (Ne.symm hj)
  exact ⟨h.bel, fun e => h.v1 (d _ y1 ▸ e), fun e => h.n1 (d _ y1 ▸ e), fun e => h.v2 (d _ y2 ▸ e), fun e => h.n2 (d _ y2 ▸ e), fun e f => h.ne (d _ y1 ▸ e) (d _ y2 ▸ f), fun e => h.r0 (d _ x0 ▸ e), fun e => h.r1 (d _ x1 ▸ e), fun e => h.r2 (d _ x2 ▸ e)⟩
theorem TwoS.start {n : Nat} (hl : (decide (k1 < n) && decide (k2 < n) && decide (a1 < n) && decide (a2 < n) && decide (s1 < n) && decide (s2 < n)) = true) (h0 : k0 < n ∨ R0 = NoRes) : TwoS W k0 k1 k2 a1 a2 t1 t2 Z1 Z2 R0 R1 R2 s1 s2 (Array.replicate n false) (fun _ => undef) W.drew := by
  simp only [Bool.and_eq_true, decide_eq_true_eq] at hl
  obtain ⟨⟨⟨⟨⟨l1, l2⟩, l3⟩, l4⟩, l5⟩, l6⟩ := hl
  have d : ∀ j, j < n → Dn (Array.replicate n false) j = false := fun j hj => by unfold Dn; simp [hj]
  refine ⟨fun _ => ⟨(Below.refl _ _).drew, fun e => ?_, fun _ => rfl, fun e => ?_, fun _ => rfl, fun e => ?_, fun e => ?_, fun e => ?_, fun e => ?_⟩, fun e => ?_, fun e => ?_⟩
  · rw [d _ l3] at e; cases e
  · rw [d _ l4] at e; cases e
  · rw [d _ l3] at e; cases e
  · rcases h0 with h0 | h0
    · rw [d _ h0] at e; cases e
    · rw [h0]; trivial
  · rw [d _ l1] at e; cases e
  · rw [d _ l2] at e; cases e
  · rw [d _ l5] at e; cases e
  · rw [d _ l6] at e; cases e
theorem TwoS.pass {i : Nat} (h : (i != k0 && i != k1 && i != k2 && i != a1 && i != a2 && i != s1 && i != s2) = true) : Pass (TwoS W k0 k1 k2 a1 a2 t1 t2 Z1 Z2 R0 R1 R2 s1 s2) i := fun L m w hS => by
  simp only [Bool.and_eq_true, bne_iff_ne] at h
  obtain ⟨⟨⟨⟨⟨⟨x0, x1⟩, x2⟩, y1⟩, y2⟩, z1⟩, z2⟩ := h
  unfold TwoS at *
  rw [dn_ne (Ne.symm z1), dn_ne (Ne.symm z2)]
  exact ⟨fun e => (hS.1 e).set ⟨x0, x1, x2, y1, y2⟩, hS.2⟩
theorem TwoS.any (hS : TwoS W k0 k1 k2 a1 a2 t1 t2 Z1 Z2 R0 R1 R2 s1 s2 L m w) : Below W.heap.size W w := by
  cases h1 : Dn L s1
  · exact (hS.1 h1).bel
  · cases h2 : Dn L s2
    · obtain ⟨_, _, _, _, h⟩ := hS.2.1 h1 h2; exact h.bel
    · obtain ⟨_, _, _, _, _, _, h⟩ := hS.2.2 h2; exact h.bel
theorem TwoS.at0 (hS : TwoS W k0 k1 k2 a1 a2 t1 t2 Z1 Z2 R0 R1 R2 s1 s2 L m w) (h1 : Dn L s1 = false) : TwoA W k0 k1 k2 a1 a2 t1 t2 Z1 Z2 R0 R1 R2 L m w := hS.1 h1
/-- a variable is made: the first -/
theorem TwoS.make1 (hS : TwoS W k0 k1 k2 a1 a2 t1 t2 Z1 Z2 R0 R1 R2 s1 s2 L m w) (H0 : Res R0) (H1 : Res R1) (H2 : Res R2) (hs : Dn L s1 = false) (hs2 : Dn L s2 = false) (hn : (a1 != k0 && a1 != k1 && a1 != k2 && a1 != a2 && a1 != s1 && a1 != s2) = true) :
    TwoS W k0 k1 k2 a1 a2 t1 t2 Z1 Z2 R0 R1 R2 s1 s2 (L.setIfInBounds a1 true) (upd m a1 (pt w.heap.size)) (w.alloc (.cells Z1 t1)) := by
  simp only [Bool.and_eq_true, bne_iff_ne] at hn
  obtain ⟨⟨⟨⟨⟨x0, x1⟩, x2⟩, y2⟩, z1⟩, z2⟩ := hn
  have h := hS.1 hs
  have q := bl_al (Below.refl w.heap.size w) (.cells Z1 t1)
  have hav : ∀ b, Av a1 a2 m b → b < w.heap.size → Av a1 a2 (upd m a1 (pt w.heap.size)) b := fun b hb hl => ⟨by rw [upd_same]; intro e; have := pt_inj e; omega, by rw [upd_ne (Ne.symm y2)]; exact hb.2⟩
  refine ⟨fun _ => ⟨bl_ca h.bel q, fun _ => ⟨_, upd_same _ _ _, h.bel.size, Blk.new _ _ _⟩, fun e => ?_, fun e => ?_, fun e => ?_, fun _ e => ?_, fun e => ?_, fun e => ?_, fun e => ?_⟩, fun e => ?_, fun e => ?_⟩
  · rw [dn_eq] at e; cases e
  · rw [dn_ne (Ne.symm y2)] at e
    obtain ⟨g, x, y, z⟩ := h.v2 e
    exact ⟨g, by rw [upd_ne (Ne.symm y2)]; exact x, y, z.ca q⟩
  · rw [dn_ne (Ne.symm y2)] at e; rw [upd_ne (Ne.symm y2)]; exact h.n2 e
  · rw [dn_ne (Ne.symm y2)] at e
    obtain ⟨g, x, _, z⟩ := h.v2 e
    rw [upd_same, upd_ne (Ne.symm y2), x]
    intro e'
    have := pt_inj e'
    have := z.lt
    omega
  · rw [dn_ne (Ne.symm x0)] at e; rw [upd_ne (Ne.symm x0)]; exact H0.keep (fun b _ hb => q.block b hb) (H0.weak hav (h.r0 e))
  · rw [dn_ne (Ne.symm x1)] at e; rw [upd_ne (Ne.symm x1)]; exact H1.keep (fun b _ hb => q.block b hb) (H1.weak hav (h.r1 e))
  · rw [dn_ne (Ne.symm x2)] at e; rw [upd_ne (Ne.symm x2)]; exact H2.keep (fun b _ hb => q.block b hb) (H2.weak hav (h.r2 e))
  · rw [dn_ne (Ne.symm z1), hs] at e; cases e
  · rw [dn_ne (Ne.symm z2), hs2] at e; cases e
/-- a variable is made: the second -/
theorem TwoS.make2 (hS : TwoS W k0 k1 k2 a1 a2 t1 t2 Z1 Z2 R0 R1 R2 s1 s2 L m w) (H0 : Res R0) (H1 : Res R1) (H2 : Res R2) (hs : Dn L s1 = false) (hs2 : Dn L s2 = false) (hn : (a2 != k0 && a2 != k1 && a2 != k2 && a2 != a1 && a2 != s1 && a2 != s2) = true) :
    TwoS W k0 k1 k2 a1 a2 t1 t2 Z1 Z2 R0 R1 R2 s1 s2 (L.setIfInBounds a2 true) (upd m a2 (pt w.heap.size)) (w.alloc (.cells Z2 t2)) := by
  simp only [Bool.and_eq_true, bne_iff_ne] at hn
  obtain ⟨⟨⟨⟨⟨x0, x1⟩, x2⟩, y2⟩, z1⟩, z2⟩ := hn
  have h := hS.1 hs
  have q := bl_al (Below.refl w.heap.size w) (.cells Z2 t2)
  have hav : ∀ b, Av a1 a2 m b → b < w.heap.size → Av a1 a2 (upd m a2 (pt w.heap.size)) b := fun b hb hl => ⟨by rw [upd_ne (Ne.symm y2)]; exact hb.1, by rw [upd_same]; intro e; have := pt_inj e; omega⟩
  refine ⟨fun _ => ⟨bl_ca h.bel q, fun e => ?_, fun e => ?_, fun _ => ⟨_, upd_same _ _ _, h.bel.size, Blk.new _ _ _⟩, fun e => ?_, fun e _ => ?_, fun e => ?_, fun e => ?_, fun e => ?_⟩, fun e => ?_, fun e => ?_⟩
  · rw [dn_ne (Ne.symm y2)] at e
    obtain ⟨g, x, y, z⟩ := h.v1 e
    exact ⟨g, by rw [upd_ne (Ne.symm y2)]; exact x, y, z.ca q⟩
  · rw [dn_ne (Ne.symm y2)] at e; rw [upd_ne (Ne.symm y2)]; exact h.n1 e
  · rw [dn_eq] at e; cases e
  · rw [dn_ne (Ne.symm y2)] at e
    obtain ⟨g, x, _, z⟩ := h.v1 e
    rw [upd_same, upd_ne (Ne.symm y2), x]
    intro e'
    have := pt_inj e'
    have := z.lt
    omega
  · rw [dn_ne (Ne.symm x0)] at e; rw [upd_ne (Ne.symm x0)]; exact H0.keep (fun b _ hb => q.block b hb) (H0.weak hav (h.r0 e))
  · rw [dn_ne (Ne.symm x1)] at e; rw [upd_ne (Ne.symm x1)]; exact H1.keep (fun b _ hb => q.block b hb) (H1.weak hav (h.r1 e))
  · rw [dn_ne (Ne.symm x2)] at e; rw [upd_ne (Ne.symm x2)]; exact H2.keep (fun b _ hb => q.block b hb) (H2.weak hav (h.r2 e))
  · rw [dn_ne (Ne.symm z1), hs] at e; cases e
  · rw [dn_ne (Ne.symm z2), hs2] at e; cases e
/-- what a call answers leads to no variable that was made before it: an answer in new memory, or in memory that was there -/
theorem TwoA.avoid (h : TwoA W k0 k1 k2 a1 a2 t1 t2 Z1 Z2 R0 R1 R2 L m w) {b : Nat} (hb : b < W.heap.size ∨ w.heap.size ≤ b) : Av a1 a2 m b := by
  constructor
  · cases e : Dn L a1
    · rw [h.n1 e]; exact undef_pt b
    · obtain ⟨g, x, y, z⟩ := h.v1 e
      rw [x]
      intro e'
      have := pt_inj e'
      have := z.lt
      omega
  · cases e : Dn L a2
    · rw [h.n2 e]; exact undef_pt b
    · obtain ⟨g, x, y, z⟩ := h.v2 e
      rw [x]
      intro e'
      have := pt_inj e'
      have := z.lt
      omega
/-- a call has answered -/
theorem TwoS.call {v : Value} {i : Nat} (hS : TwoS W k0 k1 k2 a1 a2 t1 t2 Z1 Z2 R0 R1 R2 s1 s2 L m w) (H0 : Res R0) (H1 : Res R1) (H2 : Res R2) (hs : Dn L s1 = false) (hs2 : Dn L s2 = false) (hn : (i != a1 && i != a2 && i != s1 && i != s2) = true) (q : Below w.heap.size w w')
    (c0 : i = k0 → R0 v (Av a1 a2 m) w') (c1 : i = k1 → R1 v (Av a1 a2 m) w') (c2 : i = k2 → R2 v (Av a1 a2 m) w') : TwoS W k0 k1 k2 a1 a2 t1 t2 Z1 Z2 R0 R1 R2 s1 s2 (L.setIfInBounds i true) (upd m i v) w' := by
  simp only [Bool.and_eq_true, bne_iff_ne] at hn
  obtain ⟨⟨⟨y1, y2⟩, z1⟩, z2⟩ := hn
  have h := (hS.1 hs).mono H0 H1 H2 q
  have hav : ∀ b, Av a1 a2 m b → Av a1 a2 (upd m i v) b := fun b hb => ⟨by rw [upd_ne (Ne.symm y1)]; exact hb.1, by rw [upd_ne (Ne.symm y2)]; exact hb.2⟩
  have key : ∀ {R : Value → (Nat → Prop) → World → Prop} {k : Nat}, Res R → (Dn L k = true → R (m k) (Av a1 a2 m) w') → (i = k → R v (Av a1 a2 m) w') → Dn (L.setIfInBounds i true) k = true → R (upd m i v k) (Av a1 a2 (upd m i v)) w' := fun {R k} hR h1 h2 e => by
    by_cases ik : i = k
    · subst ik; rw [upd_same]; exact hR.weak (fun b hb _ => hav b hb) (h2 rfl)
    · rw [dn_ne (Ne.symm ik)] at e; rw [upd_ne (Ne.symm ik)]; exact hR.weak (fun b hb _ => hav b hb) (h1 e)
  refine ⟨fun _ => ⟨h.bel, fun e => ?_, fun e => ?_, fun e => ?_, fun e => ?_, fun e f => ?_, key H0 h.r0 c0, key H1 h.r1 c1, key H2 h.r2 c2⟩, fun e => ?_, fun e => ?_⟩
  · rw [dn_ne (Ne.symm y1)] at e; rw [upd_ne (Ne.symm y1)]; exact h.v1 e
  · rw [dn_ne (Ne.symm y1)] at e; rw [upd_ne (Ne.symm y1)]; exact h.n1 e
  · rw [dn_ne (Ne.symm y2)] at e; rw [upd_ne (Ne.symm y2)]; exact h.v2 e
  · rw [dn_ne (Ne.symm y2)] at e; rw [upd_ne (Ne.symm y2)]; exact h.n2 e
  · rw [dn_ne (Ne.symm y1)] at e; rw [dn_ne (Ne.symm y2)] at f; rw [upd_ne (Ne.symm y1), upd_ne (Ne.symm y2)]; exact h.ne e f
  · rw [dn_ne (Ne.symm z1), hs] at e; cases e
  · rw [dn_ne (Ne.symm z2), hs2] at e; cases e
/-- all is ready for the first store -/
theorem TwoS.ready1 (hS : TwoS W k0 k1 k2 a1 a2 t1 t2 Z1 Z2 R0 R1 R2 s1 s2 L m w) (hs : Dn L s1 = false) (d1 : Dn L a1 = true) (d2 : Dn L a2 = true) (e1 : Dn L k1 = true) (e2 : Dn L k2 = true) : ∃ g1 g2, TwoB W k1 k2 a1 a2 t1 t2 R1 R2 Z1 Z2 g1 g2 m w := by
  have h := hS.1 hs
  obtain ⟨g1, x1, y1, b1⟩ := h.v1 d1
  obtain ⟨g2, x2, y2, b2⟩ := h.v2 d2
  exact ⟨g1, g2, x1, x2, fun e => h.ne d1 d2 (by rw [x1, x2, e]), y1, y2, b1, b2, h.bel, h.r1 e1, h.r2 e2⟩
theorem TwoB.store1 {z1 z2 c : Array Value} {g1 g2 : Nat} (h : TwoB W k1 k2 a1 a2 t1 t2 R1 R2 z1 z2 g1 g2 m w) (H1 : Res R1) (H2 : Res R2) (hb : Blk w' g1 t1 c) (hg : w.grownBy w' (some g1)) : TwoB W k1 k2 a1 a2 t1 t2 R1 R2 c z2 g1 g2 m w' :=
  ⟨h.e1, h.e2, h.ne, h.l1, h.l2, hb, h.b2.apart hg (fun e => h.ne e.symm), bl_gr h.bel hg h.l1,
    H1.keep (fun b hb hl => hg.block b hl (fun e => hb.1 (by rw [h.e1]; injection e with e; rw [e]))) h.r1, H2.keep (fun b hb hl => hg.block b hl (fun e => hb.1 (by rw [h.e1]; injection e with e; rw [e]))) h.r2⟩
theorem TwoB.store2 {z1 z2 c : Array Value} {g1 g2 : Nat} (h : TwoB W k1 k2 a1 a2 t1 t2 R1 R2 z1 z2 g1 g2 m w) (H1 : Res R1) (H2 : Res R2) (hb : Blk w' g2 t2 c) (hg : w.grownBy w' (some g2)) : TwoB W k1 k2 a1 a2 t1 t2 R1 R2 z1 c g1 g2 m w' :=
  ⟨h.e1, h.e2, h.ne, h.l1, h.l2, h.b1.apart hg h.ne, hb, bl_gr h.bel hg h.l2,
    H1.keep (fun b hb hl => hg.block b hl (fun e => hb.2 (by rw [h.e2]; injection e with e; rw [e]))) h.r1, H2.keep (fun b hb hl => hg.block b hl (fun e => hb.2 (by rw [h.e2]; injection e with e; rw [e]))) h.r2⟩
theorem TwoS.set1 {c1 : Array Value} {g1 g2 : Nat} (hs2 : Dn L s2 = false) (hne : s2 ≠ s1) (hk : m k1 = .agg c1) (h : TwoB W k1 k2 a1 a2 t1 t2 R1 R2 c1 Z2 g1 g2 m w) : TwoS W k0 k1 k2 a1 a2 t1 t2 Z1 Z2 R0 R1 R2 s1 s2 (L.setIfInBounds s1 true) m w :=
  ⟨fun e => (by rw [dn_eq] at e; cases e), fun _ _ => ⟨g1, g2, c1, hk, h⟩, fun e => (by rw [dn_ne hne, hs2] at e; cases e)⟩
theorem TwoS.at1 (hS : TwoS W k0 k1 k2 a1 a2 t1 t2 Z1 Z2 R0 R1 R2 s1 s2 L m w) (h1 : Dn L s1 = true) (h2 : Dn L s2 = false) : ∃ g1 g2 c1, m k1 = .agg c1 ∧ TwoB W k1 k2 a1 a2 t1 t2 R1 R2 c1 Z2 g1 g2 m w := hS.2.1 h1 h2
theorem TwoS.set2 {c1 c2 : Array Value} {g1 g2 : Nat} (hne : s1 ≠ s2) (h1 : Dn L s1 = true) (hk : m k1 = .agg c1) (hk2 : m k2 = .agg c2) (h : TwoB W k1 k2 a1 a2 t1 t2 R1 R2 c1 c2 g1 g2 m w) : TwoS W k0 k1 k2 a1 a2 t1 t2 Z1 Z2 R0 R1 R2 s1 s2 (L.setIfInBounds s2 true) m w :=
  ⟨fun e => (by rw [dn_ne hne, h1] at e; cases e), fun _ e => (by rw [dn_eq] at e; cases e), fun _ => ⟨g1, g2, c1, c2, hk, hk2, h⟩⟩
theorem TwoS.fin (hS : TwoS W k0 k1 k2 a1 a2 t1 t2 Z1 Z2 R0 R1 R2 s1 s2 L m w) (h2 : Dn L s2 = true) : ∃ g1 g2 c1 c2, m k1 = .agg c1 ∧ m k2 = .agg c2 ∧ TwoB W k1 k2 a1 a2 t1 t2 R1 R2 c1 c2 g1 g2 m w := hS.2.2 h2
end
end Go.Proofs.Ytnbcffnhgijmcaa
/- What NetDoes asks: Op.wants in all; rows of ops; the memory that a round changes; nets that stay short. Conditions: none. -/
namespace Go.Proofs.Ytnbcffnhgijmcaa
open Go.ChangeShapes Go.WideShapes Go.ChangeAt Go.RowKit Go.Deep
theorem want_any (o : OpC) (oA : Option Addr) (on oc : Nat) (sent : Int) (A : Option Addr) (m c : Nat) (ps : List PC) (w : World) (h : LP.rd w AllB A m ps) (hm : m ≤ 9223372036854775807) (hs0 : 0 ≤ sent) (hb : RdB w oA on o.bs) (hc1 : on ≤ oc) (hc2 : oc ≤ 9223372036854775807) :
    Calls Try.prog 23 #[.agg (o.cells oA on oc), .agg #[.int .u64 sent, .slice A m c]] w (WantC w (runT o sent ps)) := by
  cases hc : chkB sent ps
  · rw [run_wrong hc]
    exact want_wrong o oA on oc sent A m c ps w hc h hm
  · have hm2 : m ≤ 20000 := by have := (chk_rng hc).2; have := Lay.rd_len h; omega
    have hl : ∀ p ∈ ps, p.bs.length ≤ 100000 := fun p hp => by have := ((chk_iff.1 hc).2.2.1 p hp).len; omega
    rcases kind_cases o with k | k | k | k | k | k | k | k
    · rw [show runT o sent ps = _ from by unfold runT; rw [k, if_pos (by decide)]]
      exact want_send0 o oA on oc sent A m c ps w k h hc hm2 hl hs0 hb hc1 hc2
    · rw [show runT o sent ps = _ from by unfold runT; rw [k, if_pos (by decide)]]
      exact want_send1 o oA on oc sent A m c ps w k h hc hm2 hl hs0 hb hc1 hc2
    · rw [show runT o sent ps = _ from by unfold runT; rw [k, if_pos (by decide)]]
      exact want_send2 o oA on oc sent A m c ps w k h hc hm2 hl hs0 hb hc1 hc2
    · rw [show runT o sent ps = _ from by unfold runT; rw [k, if_neg (by decide), if_pos rfl]]
      exact want_come o oA on oc sent A m c ps w k h hc hm2 hl
    · rw [show runT o sent ps = _ from by unfold runT; rw [k, if_neg (by decide), if_neg (by decide), if_pos rfl]]
      exact want_lose o oA on oc sent A m c ps w k h hc hm2 hl
    · rw [show runT o sent ps = _ from by unfold runT; rw [k, if_neg (by decide), if_neg (by decide), if_neg (by decide), if_pos rfl]]
      exact want_drop o oA on oc sent A m c ps w k hc h hm2 hl
    · rw [show runT o sent ps = _ from by unfold runT; rw [k, if_neg (by decide), if_neg (by decide), if_neg (by decide), if_neg (by decide), if_pos rfl]]
      exact want_twin o oA on oc sent A m c ps w k h hc hm2 hl hs0
    · rw [show runT o sent ps = _ from by unfold runT; rw [k, if_neg (by decide), if_neg (by decide), if_neg (by decide), if_neg (by decide), if_neg (by decide)]]
      exact want_spoil o oA on oc sent A m c ps w k h hc hm2 hl
/-- a row of ops, as an argument -/
theorem opens_ops : Opens Try.prog 47 LO.slice (fun xs => ∀ a ∈ xs, True) :=
  opens_slice Try.underlying47 (by kernel_rfl) (by decide) opens_op
theorem open_ops {H : Type} {enc : TypeId × Value → H} {W : World} {A : Option Addr} {n c : Nat} {d : DataW H} {p : List MemPlace} (h : DataW.Trod enc Try.prog W 0 (fun _ => true) true 47 (.slice A n c) d p) :
    ∃ xs, LO.rd W AllB A n xs ∧ (∀ a ∈ xs, True) ∧ n ≤ c ∧ c ≤ 9223372036854775807 := open_arg opens_ops h
/-- an op lies at this place -/
structure SO (w : World) (p : Addr) (o : OpC) (B : Option Addr) (n c : Nat) : Prop where
  c0 : w.cell? p = some (.int .i64 o.kind)
  c1 : w.cell? ⟨p.block, p.off + 1, none⟩ = some (.int .i64 o.frm)
  c2 : w.cell? ⟨p.block, p.off + 2, none⟩ = some (.int .i64 o.to)
  c3 : w.cell? ⟨p.block, p.off + 3, none⟩ = some (.int .i64 o.at_)
  c4 : w.cell? ⟨p.block, p.off + 4, none⟩ = some (.int .i64 o.place)
  c5 : w.cell? ⟨p.block, p.off + 5, none⟩ = some (.bool o.oth)
  c6 : w.cell? ⟨p.block, p.off + 6, none⟩ = some (vb o.by_)
  c7 : w.cell? ⟨p.block, p.off + 7, none⟩ = some (.slice B n c)
  nc : n ≤ c
  cm : c ≤ 9223372036854775807
  bs : RdB w B n o.bs
theorem LO_at {w : World} {F : Nat → Prop} {A : Option Addr} {n i : Nat} {xs : List OpC} (h : LO.rd w F A n xs) (hi : i < n) : ∃ ad o B k c, A = some ad ∧ xs[i]? = some o ∧ SO w (ad.add (i * 8)) o B k c := by
  obtain ⟨ad, o, cs, e, hx, hb, _, ⟨B, k, c, rfl, h1, h2, hr⟩, hcl⟩ := Lay.rd_at h hi
  refine ⟨ad, o, B, k, c, e, hx, ⟨hcl 0 _ rfl, ?_, ?_, ?_, ?_, ?_, ?_, ?_, h1, h2, LB_rd hr⟩⟩
  · rw [← addr_more _ _ 1 (by omega)]; exact hcl 1 _ rfl
  · rw [← addr_more _ _ 2 (by omega)]; exact hcl 2 _ rfl
  · rw [← addr_more _ _ 3 (by omega)]; exact hcl 3 _ rfl
  · rw [← addr_more _ _ 4 (by omega)]; exact hcl 4 _ rfl
  · rw [← addr_more _ _ 5 (by omega)]; exact hcl 5 _ rfl
  · rw [← addr_more _ _ 6 (by omega)]; exact hcl 6 _ rfl
  · rw [← addr_more _ _ 7 (by omega)]; exact hcl 7 _ rfl
theorem out_cap' {w : World} {B : Nat} {A : Option Addr} {m c : Nat} {ps : List PC} (h : OutN w B A m c ps) : m ≤ c ∧ c ≤ 9223372036854775807 := by
  obtain ⟨es, hd, _⟩ := h
  have := hd.row.cap_
  exact ⟨this.1, by have := this.2; first | exact this | (unfold maxLen at this; omega)⟩
/-- a row of the call's own stays as long as its block does -/
theorem ownsRow_same {w w' : World} {B s n : Nat} {e : TypeId} {v : Value} {xs : List Value} (h : w.ownsRow B e s v n xs) (hk : ∀ k, v.ownBlock = some k → w'.heap[k]? = w.heap[k]?) : w'.ownsRow B e s v n xs := by
  refine ⟨h.1, ?_⟩
  rcases h.2 with h2 | ⟨g, cap, cur, rfl, hg, hh, r⟩
  · exact .inl h2
  · exact .inr ⟨g, cap, cur, rfl, hg, (hk g (by simp [Value.ownBlock])).trans hh, r⟩
/-- the answer of Op.run: its blocks lie behind B, among F -/
def RunR (B : Nat) (T : Told) (v : Value) (F : Nat → Prop) (w : World) : Prop :=
  ∃ A m c D n d es, v = .agg (tcells T.s A m c T.num T.p D n d T.gone T.e) ∧ DO w B A m c es ∧ es.map El.p = T.ps ∧ OwnB w B D n d T.p.bs ∧
    (∀ k, (Value.slice A m c).ownBlock = some k → F k) ∧ (∀ y ∈ es, ∀ k, y.bk = some k → F k) ∧ (∀ k, (Value.slice D n d).ownBlock = some k → F k) ∧
    (∀ y ∈ es, ∀ k, (Value.slice D n d).ownBlock = some k → y.bk ≠ some k)
theorem RunR.res (B : Nat) (T : Told) : Res (RunR B T) := by
  refine ⟨fun hk ⟨A, m, c, D, n, d, es, e, hd, hes, ho, f1, f2, f3, hz⟩ => ⟨A, m, c, D, n, d, es, e, ⟨?_, fun y hy => ?_, hd.apart⟩, hes, ?_, f1, f2, f3, hz⟩, fun hk ⟨A, m, c, D, n, d, es, e, hd, hes, ho, f1, f2, f3, hz⟩ => ⟨A, m, c, D, n, d, es, e, hd, hes, ho, fun k hb => ?_, fun y hy k hb => ?_, fun k hb => ?_, hz⟩⟩
  · exact ownsRow_same hd.row (fun k hb => hk k (f1 k hb) (own_base' hd.row k hb).2)
  · exact ownsRow_same (hd.own y hy) (fun k hb => hk k (f2 y hy k hb) (own_base' (hd.own y hy) k hb).2)
  · exact ownsRow_same ho (fun k hb => hk k (f3 k hb) (own_base' ho k hb).2)
  · exact hk k (f1 k hb) (own_base' hd.row k hb).2
  · exact hk k (f2 y hy k hb) (own_base' (hd.own y hy) k hb).2
  · exact hk k (f3 k hb) (own_base' ho k hb).2
/-- the answer of Op.wants: it leads among F -/
def WantR (T : Told) (v : Value) (F : Nat → Prop) (w : World) : Prop :=
  ∃ A m c D n d, v = .agg (tcells T.s A m c T.num T.p D n d T.gone T.e) ∧ LP.rd w F A m T.ps ∧ LB.rd w F D n T.p.bs
theorem WantR.res (T : Told) : Res (WantR T) :=
  ⟨fun hk ⟨A, m, c, D, n, d, e, h1, h2⟩ => ⟨A, m, c, D, n, d, e, Lay.rd_keep hk h1, Lay.rd_keep hk h2⟩, fun hk ⟨A, m, c, D, n, d, e, h1, h2⟩ => ⟨A, m, c, D, n, d, e, Lay.rd_weak hk h1, Lay.rd_weak hk h2⟩⟩
theorem RunR.of {w w' : World} {B : Nat} {T : Told} {A : Option Addr} {m c : Nat} {D : Option Addr} {n d : Nat} {F : Nat → Prop} (h : Sep w' w.heap.size T A m c D n d) (hB : B ≤ w.heap.size) (hF : ∀ b, w.heap.size ≤ b → F b) : RunR B T (.agg (tcells T.s A m c T.num T.p D n d T.gone T.e)) F w' := by
  obtain ⟨es, hd, hes, ho, hz⟩ := h
  exact ⟨A, m, c, D, n, d, es, rfl, hd.less hB, hes, OwnB.less ho hB, fun k hb => hF k (own_base' hd.row k hb).1, fun y hy k hb => hF k (own_base' (hd.own y hy) k hb).1, fun k hb => hF k (own_base' ho k hb).1, hz⟩
theorem WantR.of {w w' : World} {T : Told} {A : Option Addr} {m c : Nat} {D : Option Addr} {n d : Nat} {F : Nat → Prop} (h : RSep w' w.heap.size T A m c D n d) (hF : ∀ b, w.heap.size ≤ b → F b) : WantR T (.agg (tcells T.s A m c T.num T.p D n d T.gone T.e)) F w' :=
  ⟨A, m, c, D, n, d, rfl, Lay.rd_weak (fun b hb _ => hF b hb) h.1, reads_of_LB h.2 hF⟩
/-- from w to w' at most blocks of X change -/
structure Chg (X : Nat → Prop) (w w' : World) : Prop where
  os : w'.os = w.os
  tape : w'.tape = w.tape
  output : w'.output = w.output
  size : w.heap.size ≤ w'.heap.size
  block : ∀ b, b < w.heap.size → ¬ X b → w'.heap[b]? = w.heap[b]?
theorem Chg.refl (X : Nat → Prop) (w : World) : Chg X w w := ⟨rfl, rfl, rfl, Nat.le_refl _, fun _ _ _ => rfl⟩
theorem Chg.grown {X : Nat → Prop} {w w1 w2 : World} {r : Nat} (h : Chg X w w1) (hg : w1.grownBy w2 (some r)) (hr : X r) : Chg X w w2 := by
  have k := Kept.of_grown hg (Nat.le_refl _) (.inl rfl)
  exact ⟨k.os.trans h.os, k.tape.trans h.tape, k.output.trans h.output, Nat.le_trans h.size k.size, fun b hb hx => (hg.block b (Nat.lt_of_lt_of_le hb h.size) (fun e => hx (by injection e with e; rw [e]; exact hr))).trans (h.block b hb hx)⟩
theorem Chg.below {X : Nat → Prop} {w0 w w' : World} {B : Nat} (h : Below B w0 w) (k : Chg X w w') (hX : ∀ b, X b → B ≤ b) (hB : B ≤ w.heap.size) : Below B w0 w' := by
  have h2 : Kept w w' B B := ⟨k.os, k.tape, k.output, k.size, fun b hb _ => k.block b (by omega) (fun hx => by have := hX b hx; omega)⟩
  exact h2.below h (Nat.le_refl _) (Nat.le_refl _)
theorem Blk.chg {X : Nat → Prop} {w w' : World} {g : Nat} {t : TypeId} {cs : Array Value} (h : Blk w g t cs) (k : Chg X w w') (hx : ¬ X g) : Blk w' g t cs := (k.block g h.lt hx).trans h
theorem rd_chg {α : Type} {L : Lay α} {X F : Nat → Prop} {w w' : World} {A : Option Addr} {m : Nat} {xs : List α} (h : L.rd w F A m xs) (k : Chg X w w') (hF : ∀ b, F b → ¬ X b) : L.rd w' F A m xs :=
  Lay.rd_keep (fun b hb hl => k.block b hl (hF b hb)) h
/-- each row of bytes of the elements is the call's own, whatever it holds -/
def Bys (w : World) (B : Nat) (es : List El) : Prop := ∀ y ∈ es, ∃ bs, OwnB w B y.A y.n y.c bs
theorem Bys.set_ {w : World} {B : Nat} {es : List El} (h : Bys w B es) (hp : es.Pairwise Apart) {y : El} (hy : y ∈ es) {i g : Nat} {x : UInt8} (hg : y.A = some ⟨g, 0, none⟩) :
    Bys (w.setCell ⟨g, i, none⟩ (vb x)) B es ∧ w.grownBy (w.setCell ⟨g, i, none⟩ (vb x)) (some g) := by
  obtain ⟨k, hk⟩ := List.getElem?_of_mem hy
  obtain ⟨bs, ho⟩ := h y hy
  rw [hg] at ho
  obtain ⟨o1, o2⟩ := OwnB.set_ ho i x
  refine ⟨fun z hz => ?_, o2⟩
  obtain ⟨j, hj⟩ := List.getElem?_of_mem hz
  by_cases e : j = k
  · subst e
    rw [hk] at hj
    injection hj with hj
    subst hj
    exact ⟨_, by rw [hg]; exact o1⟩
  · obtain ⟨cs, hc⟩ := h z hz
    refine ⟨cs, hc.kept o2 (fun e' => ?_)⟩
    have hyb : y.bk = some g := by unfold El.bk; rw [hg]; simp [Value.ownBlock]
    obtain ⟨hj1, hj2⟩ := List.getElem?_eq_some_iff.1 hj
    obtain ⟨hk1, hk2⟩ := List.getElem?_eq_some_iff.1 hk
    have hpw := List.pairwise_iff_getElem.1 hp
    rcases Nat.lt_or_gt_of_ne e with hlt | hlt
    · have := hpw j k hj1 hk1 hlt
      rw [hj2, hk2] at this
      exact this g e' hyb
    · have := hpw k j hk1 hj1 hlt
      rw [hj2, hk2] at this
      exact this g hyb e'
/-- nets that are short stay as they are -/
def Brief (ps : List PC) : Prop := shortP ps = ps
theorem brief_of {ps : List PC} (h1 : ps.length ≤ 20001) (h2 : ∀ p ∈ ps, p.bs.length ≤ 60001) : Brief ps := by
  unfold Brief shortP
  rw [List.take_of_length_le h1]
  refine (List.map_congr_left fun p hp => ?_).trans (List.map_id _)
  unfold cutP
  rw [List.take_of_length_le (h2 p hp)]
  rfl
theorem brief_short (ps : List PC) : Brief (shortP ps) := brief_of (by rw [shortP_len]; omega) (shortP_bytes ps)
theorem brief_len {ps : List PC} (h : Brief ps) : ps.length ≤ 20001 := by
  have := shortP_len ps
  rw [show shortP ps = ps from h] at this
  omega
theorem brief_bytes {ps : List PC} (h : Brief ps) : ∀ p ∈ ps, p.bs.length ≤ 60001 := by
  have := shortP_bytes ps
  rwa [show shortP ps = ps from h] at this
theorem run_brief {o : OpC} {sent : Int} {ps : List PC} (h0 : 0 ≤ sent) : Brief (runT o sent ps).ps ∧ 0 ≤ (runT o sent ps).s := by
  have nil : Brief [] ∧ (0 : Int) ≤ 0 := ⟨rfl, Int.le_refl _⟩
  cases hc : chkB sent ps
  · rw [run_wrong hc]
    exact nil
  · obtain ⟨c1, c2, c3, c4⟩ := chk_iff.1 hc
    have hl : ∀ p ∈ ps, p.bs.length ≤ 60001 := fun p hp => by have := (c3 p hp).len; omega
    have hg : ∀ x, (getP ps x).bs.length ≤ 60001 := fun x => by
      unfold getP
      cases hx : ps[ixP ps x]? with
      | none => show (0 : Nat) ≤ _; omega
      | some q => exact hl q (List.mem_of_getElem? hx)
    have one : ∀ (q : PC), q.bs.length ≤ 60001 → Brief (ps ++ [added sent q]) ∧ 0 ≤ sent + 1 := fun q hq => ⟨brief_of (by simp; omega) (fun p hp => by
      rcases List.mem_append.1 hp with hp | hp
      · exact hl p hp
      · rw [List.mem_singleton.1 hp]; exact hq), by omega⟩
    have hcome : Brief (comeR sent ps (numI o ps)).2 ∧ 0 ≤ (comeR sent ps (numI o ps)).1 := by
      unfold comeR
      split
      · refine ⟨brief_of (by simp; omega) (fun p hp => ?_), h0⟩
        rcases List.mem_append.1 hp with hp | hp
        · exact hl p (List.mem_of_mem_take hp)
        · exact hl p (List.mem_of_mem_drop hp)
      · exact nil
    have hsend : Brief (sendR sent ps o.frm o.to (bytesO o)).2 ∧ 0 ≤ (sendR sent ps o.frm o.to (bytesO o)).1 := by
      unfold sendR
      split
      · exact one _ (by show (bytesO o).length ≤ 60001; unfold bytesO; rw [List.length_take]; omega)
      · exact nil
    have hdrop : Brief (dropR sent ps o.frm o.to).2 ∧ 0 ≤ (dropR sent ps o.frm o.to).1 := by
      unfold dropR
      split
      · exact ⟨brief_of (Nat.le_trans (List.length_filter_le _ _) (by omega)) (fun p hp => hl p (List.mem_filter.1 hp).1), h0⟩
      · exact nil
    have htwin : Brief (twinR sent ps (numI o ps)).2 ∧ 0 ≤ (twinR sent ps (numI o ps)).1 := by
      unfold twinR
      split
      · exact one _ (hg _)
      · exact nil
    have hspoil : Brief (spoilR sent ps (numI o ps) o.place o.by_).2 ∧ 0 ≤ (spoilR sent ps (numI o ps) o.place o.by_).1 := by
      unfold spoilR
      split
      · refine ⟨brief_of (by simp; omega) (fun p hp => ?_), h0⟩
        rcases List.mem_or_eq_of_mem_set hp with hp | hp
        · exact hl p hp
        · subst hp
          show (((getP ps (numI o ps)).bs.set _ _)).length ≤ 60001
          rw [List.length_set]
          exact hg _
      · exact nil
    unfold runT
    repeat' split
    · exact hsend
    · exact hcome
    · exact hcome
    · exact hdrop
    · exact htwin
    · exact hspoil
theorem DO.chg_ {X : Nat → Prop} {w w' : World} {B : Nat} {A : Option Addr} {n c : Nat} {es : List El} (h : DO w B A n c es) (k : Chg X w w') (h1 : ∀ b, (Value.slice A n c).ownBlock = some b → ¬ X b) (h2 : ∀ y ∈ es, ∀ b, y.bk = some b → ¬ X b) : DO w' B A n c es :=
  ⟨ownsRow_same h.row (fun b e => k.block b (own_base' h.row b e).2 (h1 b e)), fun y hy => ownsRow_same (h.own y hy) (fun b e => k.block b (own_base' (h.own y hy) b e).2 (h2 y hy b e)), h.apart⟩
/-- rows of different types lie in different blocks -/
theorem ro_ne {w : World} {B : Nat} {A D : Option Addr} {m c n d : Nat} {es : List El} {bs : List UInt8} (h : Ro w B A m c es) (k : OwnB w B D n d bs) : ∀ g, (Value.slice A m c).ownBlock = some g → (Value.slice D n d).ownBlock ≠ some g := by
  intro g h1 h2
  rcases h.2 with ⟨e, _⟩ | ⟨a, _, _, e, _, ha, _⟩
  · injection e with e; subst e; simp [Value.ownBlock] at h1
  · rcases k.2 with ⟨e', _⟩ | ⟨b, _, _, e', _, hb, _⟩
    · injection e' with e'; subst e'; simp [Value.ownBlock] at h2
    · injection e with e; injection e' with e'
      subst e e'
      have h1 : a = g := by simpa [Value.ownBlock] using h1
      have h2 : b = g := by simpa [Value.ownBlock] using h2
      subst h1 h2
      rw [ha] at hb
      injection hb with hb
      injection hb with _ hb
      exact absurd hb (by decide)
theorem ro_ney {w : World} {B : Nat} {A : Option Addr} {m c : Nat} {es : List El} (h : Ro w B A m c es) (hb : Bys w B es) : ∀ g, (Value.slice A m c).ownBlock = some g → ∀ y ∈ es, y.bk ≠ some g := fun g hg y hy => by
  obtain ⟨bs, ho⟩ := hb y hy
  exact ro_ne h ho g hg
end Go.Proofs.Ytnbcffnhgijmcaa
