/- Two variables made and filled by calls in one statement whose order Go leaves open. Conditions: none. -/
import Derived.Test.YtojghgbaiiajfaaPkS14
namespace Go.Proofs.Ytojghgbaiiajfaa
open Go.RowKit
def pt (g : Nat) : Value := .pointer (some ⟨g, 0, none⟩)
theorem pt_inj {a b : Nat} (h : pt a = pt b) : a = b := by
  unfold pt at h
  injection h with h
  injection h with h
  injection h
theorem undef_pt (b : Nat) : undef ≠ pt b := by unfold pt undef; simp
/-- the blocks that are none of the two variables -/
def Av (a1 a2 : Nat) (m : Nat → Value) (b : Nat) : Prop := m a1 ≠ pt b ∧ m a2 ≠ pt b
/-- what a call's answer is: it stays so as long as the blocks that it leads to do -/
structure Res (R : Value → (Nat → Prop) → World → Prop) : Prop where
  keep : ∀ {v F w w'}, (∀ b, F b → b < w.heap.size → w'.heap[b]? = w.heap[b]?) → R v F w → R v F w'
  weak : ∀ {v F G w}, (∀ b, F b → b < w.heap.size → G b) → R v F w → R v G w
def LRes {α : Type} (Ly : Lay α) (P : α → Prop) (v : Value) (F : Nat → Prop) (w : World) : Prop := ∃ a cs, v = .agg cs ∧ Ly.rep w F a cs.toList ∧ P a
theorem LRes.res {α : Type} (Ly : Lay α) (P : α → Prop) : Res (LRes Ly P) :=
  ⟨fun hk ⟨a, cs, e, h, p⟩ => ⟨a, cs, e, Ly.keep hk h, p⟩, fun hk ⟨a, cs, e, h, p⟩ => ⟨a, cs, e, Ly.weak hk h, p⟩⟩
def NoRes (_ : Value) (_ : Nat → Prop) (_ : World) : Prop := True
theorem NoRes.res : Res NoRes := ⟨fun _ h => h, fun _ h => h⟩
section
variable (W : World) (k0 k1 k2 a1 a2 : Nat) (t1 t2 : TypeId) (Z1 Z2 : Array Value) (R0 R1 R2 : Value → (Nat → Prop) → World → Prop)
structure TwoA (L : Array Bool) (m : Nat → Value) (w : World) : Prop where
  bel : Below W.heap.size W w
  v1 : Dn L a1 = true → ∃ g, m a1 = pt g ∧ W.heap.size ≤ g ∧ Blk w g t1 Z1
  n1 : Dn L a1 = false → m a1 = undef
  v2 : Dn L a2 = true → ∃ g, m a2 = pt g ∧ W.heap.size ≤ g ∧ Blk w g t2 Z2
  n2 : Dn L a2 = false → m a2 = undef
  ne : Dn L a1 = true → Dn L a2 = true → m a1 ≠ m a2
  r0 : Dn L k0 = true → R0 (m k0) (Av a1 a2 m) w
  r1 : Dn L k1 = true → R1 (m k1) (Av a1 a2 m) w
  r2 : Dn L k2 = true → R2 (m k2) (Av a1 a2 m) w
structure TwoB (c1 c2 : Array Value) (g1 g2 : Nat) (m : Nat → Value) (w : World) : Prop where
  e1 : m a1 = pt g1
  e2 : m a2 = pt g2
  ne : g1 ≠ g2
  l1 : W.heap.size ≤ g1
  l2 : W.heap.size ≤ g2
  b1 : Blk w g1 t1 c1
  b2 : Blk w g2 t2 c2
  bel : Below W.heap.size W w
  r1 : R1 (m k1) (Av a1 a2 m) w
  r2 : R2 (m k2) (Av a1 a2 m) w
/-- s1, s2: the two stores -/
def TwoS (s1 s2 : Nat) (L : Array Bool) (m : Nat → Value) (w : World) : Prop :=
  (Dn L s1 = false → TwoA W k0 k1 k2 a1 a2 t1 t2 Z1 Z2 R0 R1 R2 L m w) ∧
  (Dn L s1 = true → Dn L s2 = false → ∃ g1 g2 c1, m k1 = .agg c1 ∧ TwoB W k1 k2 a1 a2 t1 t2 R1 R2 c1 Z2 g1 g2 m w) ∧
  (Dn L s2 = true → ∃ g1 g2 c1 c2, m k1 = .agg c1 ∧ m k2 = .agg c2 ∧ TwoB W k1 k2 a1 a2 t1 t2 R1 R2 c1 c2 g1 g2 m w)
end
section
variable {W : World} {k0 k1 k2 a1 a2 s1 s2 : Nat} {t1 t2 : TypeId} {Z1 Z2 : Array Value} {R0 R1 R2 : Value → (Nat → Prop) → World → Prop} {L : Array Bool} {m : Nat → Value} {w w' : World}
theorem TwoA.mono (h : TwoA W k0 k1 k2 a1 a2 t1 t2 Z1 Z2 R0 R1 R2 L m w) (H0 : Res R0) (H1 : Res R1) (H2 : Res R2) (q : Below w.heap.size w w') : TwoA W k0 k1 k2 a1 a2 t1 t2 Z1 Z2 R0 R1 R2 L m w' :=
  ⟨bl_ca h.bel q, fun e => by obtain ⟨g, x, y, z⟩ := h.v1 e; exact ⟨g, x, y, z.ca q⟩, h.n1, fun e => by obtain ⟨g, x, y, z⟩ := h.v2 e; exact ⟨g, x, y, z.ca q⟩, h.n2, h.ne,
    fun e => H0.keep (fun b _ hb => q.block b hb) (h.r0 e), fun e => H1.keep (fun b _ hb => q.block b hb) (h.r1 e), fun e => H2.keep (fun b _ hb => q.block b hb) (h.r2 e)⟩
theorem TwoA.set (h : TwoA W k0 k1 k2 a1 a2 t1 t2 Z1 Z2 R0 R1 R2 L m w) {i : Nat} (hi : i ≠ k0 ∧ i ≠ k1 ∧ i ≠ k2 ∧ i ≠ a1 ∧ i ≠ a2) : TwoA W k0 k1 k2 a1 a2 t1 t2 Z1 Z2 R0 R1 R2 (L.setIfInBounds i true) m w := by
  obtain ⟨x0, x1, x2, y1, y2⟩ := hi
  have d : ∀ j, i ≠ j → Dn (L.setIfInBounds i true) j = Dn L j := fun j hj => dn_ne (Ne.symm hj)
  exact ⟨h.bel, fun e => h.v1 (d _ y1 ▸ e), fun e => h.n1 (d _ y1 ▸ e), fun e => h.v2 (d _ y2 ▸ e), fun e => h.n2 (d _ y2 ▸ e), fun e f => h.ne (d _ y1 ▸ e) (d _ y2 ▸ f), fun e => h.r0 (d _ x0 ▸ e), fun e => h.r1 (d _ x1 ▸ e), fun e => h.r2 (d _ x2 ▸ e)⟩
theorem TwoS.start {n : Nat} (hl : (decide (k1 < n) && decide (k2 < n) && decide (a1 < n) && decide (a2 < n) && decide (s1 < n) && decide (s2 < n)) = true) (h0 : k0 < n ∨ R0 = NoRes) : TwoS W k0 k1 k2 a1 a2 t1 t2 Z1 Z2 R0 R1 R2 s1 s2 (Array.replicate n false) (fun _ => undef) W.drew := by
  simp only [Bool.and_eq_true, decide_eq_true_eq] at hl
  obtain ⟨⟨⟨⟨⟨l1, l2⟩, l3⟩, l4⟩, l5⟩, l6⟩ := hl
  have d : ∀ j, j < n → Dn (Array.replicate n false) j = false := fun j hj => by unfold Dn; simp [hj]
  refine ⟨fun _ => ⟨(Below.refl _ _).drew, fun e => ?_, fun _ => rfl, fun e => ?_, fun _ => rfl, fun e => ?_, fun e => ?_, fun e => ?_, fun e => ?_⟩, fun e => ?_, fun e => ?_⟩
  · rw [d _ l3] at e; cases e
  · rw [d _ l4] at e; cases e
  · rw [d _ l3] at e; cases e
  · rcases h0 with h0 | h0
    · rw [d _ h0] at e; cases e
    · rw [h0]; trivial
  · rw [d _ l1] at e; cases e
  · rw [d _ l2] at e; cases e
  · rw [d _ l5] at e; cases e
  · rw [d _ l6] at e; cases e
theorem TwoS.pass {i : Nat} (h : (i != k0 && i != k1 && i != k2 && i != a1 && i != a2 && i != s1 && i != s2) = true) : Pass (TwoS W k0 k1 k2 a1 a2 t1 t2 Z1 Z2 R0 R1 R2 s1 s2) i := fun L m w hS => by
  simp only [Bool.and_eq_true, bne_iff_ne] at h
  obtain ⟨⟨⟨⟨⟨⟨x0, x1⟩, x2⟩, y1⟩, y2⟩, z1⟩, z2⟩ := h
  unfold TwoS at *
  rw [dn_ne (Ne.symm z1), dn_ne (Ne.symm z2)]
  exact ⟨fun e => (hS.1 e).set ⟨x0, x1, x2, y1, y2⟩, hS.2⟩
theorem TwoS.any (hS : TwoS W k0 k1 k2 a1 a2 t1 t2 Z1 Z2 R0 R1 R2 s1 s2 L m w) : Below W.heap.size W w := by
  cases h1 : Dn L s1
  · exact (hS.1 h1).bel
  · cases h2 : Dn L s2
    · obtain ⟨_, _, _, _, h⟩ := hS.2.1 h1 h2; exact h.bel
    · obtain ⟨_, _, _, _, _, _, h⟩ := hS.2.2 h2; exact h.bel
theorem TwoS.at0 (hS : TwoS W k0 k1 k2 a1 a2 t1 t2 Z1 Z2 R0 R1 R2 s1 s2 L m w) (h1 : Dn L s1 = false) : TwoA W k0 k1 k2 a1 a2 t1 t2 Z1 Z2 R0 R1 R2 L m w := hS.1 h1
/-- a variable is made: the first -/
theorem TwoS.make1 (hS : TwoS W k0 k1 k2 a1 a2 t1 t2 Z1 Z2 R0 R1 R2 s1 s2 L m w) (H0 : Res R0) (H1 : Res R1) (H2 : Res R2) (hs : Dn L s1 = false) (hs2 : Dn L s2 = false) (hn : (a1 != k0 && a1 != k1 && a1 != k2 && a1 != a2 && a1 != s1 && a1 != s2) = true) :
    TwoS W k0 k1 k2 a1 a2 t1 t2 Z1 Z2 R0 R1 R2 s1 s2 (L.setIfInBounds a1 true) (upd m a1 (pt w.heap.size)) (w.alloc (.cells Z1 t1)) := by
  simp only [Bool.and_eq_true, bne_iff_ne] at hn
  obtain ⟨⟨⟨⟨⟨x0, x1⟩, x2⟩, y2⟩, z1⟩, z2⟩ := hn
  have h := hS.1 hs
  have q := bl_al (Below.refl w.heap.size w) (.cells Z1 t1)
  have hav : ∀ b, Av a1 a2 m b → b < w.heap.size → Av a1 a2 (upd m a1 (pt w.heap.size)) b := fun b hb hl => ⟨by rw [upd_same]; intro e; have := pt_inj e; omega, by rw [upd_ne (Ne.symm y2)]; exact hb.2⟩
  refine ⟨fun _ => ⟨bl_ca h.bel q, fun _ => ⟨_, upd_same _ _ _, h.bel.size, Blk.new _ _ _⟩, fun e => ?_, fun e => ?_, fun e => ?_, fun _ e => ?_, fun e => ?_, fun e => ?_, fun e => ?_⟩, fun e => ?_, fun e => ?_⟩
  · rw [dn_eq] at e; cases e
  · rw [dn_ne (Ne.symm y2)] at e
    obtain ⟨g, x, y, z⟩ := h.v2 e
    exact ⟨g, by rw [upd_ne (Ne.symm y2)]; exact x, y, z.ca q⟩
  · rw [dn_ne (Ne.symm y2)] at e; rw [upd_ne (Ne.symm y2)]; exact h.n2 e
  · rw [dn_ne (Ne.symm y2)] at e
    obtain ⟨g, x, _, z⟩ := h.v2 e
    rw [upd_same, upd_ne (Ne.symm y2), x]
    intro e'
    have := pt_inj e'
    have := z.lt
    omega
  · rw [dn_ne (Ne.symm x0)] at e; rw [upd_ne (Ne.symm x0)]; exact H0.keep (fun b _ hb => q.block b hb) (H0.weak hav (h.r0 e))
  · rw [dn_ne (Ne.symm x1)] at e; rw [upd_ne (Ne.symm x1)]; exact H1.keep (fun b _ hb => q.block b hb) (H1.weak hav (h.r1 e))
  · rw [dn_ne (Ne.symm x2)] at e; rw [upd_ne (Ne.symm x2)]; exact H2.keep (fun b _ hb => q.block b hb) (H2.weak hav (h.r2 e))
  · rw [dn_ne (Ne.symm z1), hs] at e; cases e
  · rw [dn_ne (Ne.symm z2), hs2] at e; cases e
/-- a variable is made: the second -/
theorem TwoS.make2 (hS : TwoS W k0 k1 k2 a1 a2 t1 t2 Z1 Z2 R0 R1 R2 s1 s2 L m w) (H0 : Res R0) (H1 : Res R1) (H2 : Res R2) (hs : Dn L s1 = false) (hs2 : Dn L s2 = false) (hn : (a2 != k0 && a2 != k1 && a2 != k2 && a2 != a1 && a2 != s1 && a2 != s2) = true) :
    TwoS W k0 k1 k2 a1 a2 t1 t2 Z1 Z2 R0 R1 R2 s1 s2 (L.setIfInBounds a2 true) (upd m a2 (pt w.heap.size)) (w.alloc (.cells Z2 t2)) := by
  simp only [Bool.and_eq_true, bne_iff_ne] at hn
  obtain ⟨⟨⟨⟨⟨x0, x1⟩, x2⟩, y2⟩, z1⟩, z2⟩ := hn
  have h := hS.1 hs
  have q := bl_al (Below.refl w.heap.size w) (.cells Z2 t2)
  have hav : ∀ b, Av a1 a2 m b → b < w.heap.size → Av a1 a2 (upd m a2 (pt w.heap.size)) b := fun b hb hl => ⟨by rw [upd_ne (Ne.symm y2)]; exact hb.1, by rw [upd_same]; intro e; have := pt_inj e; omega⟩
  refine ⟨fun _ => ⟨bl_ca h.bel q, fun e => ?_, fun e => ?_, fun _ => ⟨_, upd_same _ _ _, h.bel.size, Blk.new _ _ _⟩, fun e => ?_, fun e _ => ?_, fun e => ?_, fun e => ?_, fun e => ?_⟩, fun e => ?_, fun e => ?_⟩
  · rw [dn_ne (Ne.symm y2)] at e
    obtain ⟨g, x, y, z⟩ := h.v1 e
    exact ⟨g, by rw [upd_ne (Ne.symm y2)]; exact x, y, z.ca q⟩
  · rw [dn_ne (Ne.symm y2)] at e; rw [upd_ne (Ne.symm y2)]; exact h.n1 e
  · rw [dn_eq] at e; cases e
  · rw [dn_ne (Ne.symm y2)] at e
    obtain ⟨g, x, _, z⟩ := h.v1 e
    rw [upd_same, upd_ne (Ne.symm y2), x]
    intro e'
    have := pt_inj e'
    have := z.lt
    omega
  · rw [dn_ne (Ne.symm x0)] at e; rw [upd_ne (Ne.symm x0)]; exact H0.keep (fun b _ hb => q.block b hb) (H0.weak hav (h.r0 e))
  · rw [dn_ne (Ne.symm x1)] at e; rw [upd_ne (Ne.symm x1)]; exact H1.keep (fun b _ hb => q.block b hb) (H1.weak hav (h.r1 e))
  · rw [dn_ne (Ne.symm x2)] at e; rw [upd_ne (Ne.symm x2)]; exact H2.keep (fun b _ hb => q.block b hb) (H2.weak hav (h.r2 e))
  · rw [dn_ne (Ne.symm z1), hs] at e; cases e
  · rw [dn_ne (Ne.symm z2), hs2] at e; cases e
/-- what a call answers leads to no variable that was made before it: an answer in new memory, or in memory that was there -/
theorem TwoA.avoid (h : TwoA W k0 k1 k2 a1 a2 t1 t2 Z1 Z2 R0 R1 R2 L m w) {b : Nat} (hb : b < W.heap.size ∨ w.heap.size ≤ b) : Av a1 a2 m b := by
  constructor
  · cases e : Dn L a1
    · rw [h.n1 e]; exact undef_pt b
    · obtain ⟨g, x, y, z⟩ := h.v1 e
      rw [x]
      intro e'
      have := pt_inj e'
      have := z.lt
      omega
  · cases e : Dn L a2
    · rw [h.n2 e]; exact undef_pt b
    · obtain ⟨g, x, y, z⟩ := h.v2 e
      rw [x]
      intro e'
      have := pt_inj e'
      have := z.lt
      omega
/-- a call has answered -/
theorem TwoS.call {v : Value} {i : Nat} (hS : TwoS W k0 k1 k2 a1 a2 t1 t2 Z1 Z2 R0 R1 R2 s1 s2 L m w) (H0 : Res R0) (H1 : Res R1) (H2 : Res R2) (hs : Dn L s1 = false) (hs2 : Dn L s2 = false) (hn : (i != a1 && i != a2 && i != s1 && i != s2) = true) (q : Below w.heap.size w w')
    (c0 : i = k0 → R0 v (Av a1 a2 m) w') (c1 : i = k1 → R1 v (Av a1 a2 m) w') (c2 : i = k2 → R2 v (Av a1 a2 m) w') : TwoS W k0 k1 k2 a1 a2 t1 t2 Z1 Z2 R0 R1 R2 s1 s2 (L.setIfInBounds i true) (upd m i v) w' := by
  simp only [Bool.and_eq_true, bne_iff_ne] at hn
  obtain ⟨⟨⟨y1, y2⟩, z1⟩, z2⟩ := hn
  have h := (hS.1 hs).mono H0 H1 H2 q
  have hav : ∀ b, Av a1 a2 m b → Av a1 a2 (upd m i v) b := fun b hb => ⟨by rw [upd_ne (Ne.symm y1)]; exact hb.1, by rw [upd_ne (Ne.symm y2)]; exact hb.2⟩
  have key : ∀ {R : Value → (Nat → Prop) → World → Prop} {k : Nat}, Res R → (Dn L k = true → R (m k) (Av a1 a2 m) w') → (i = k → R v (Av a1 a2 m) w') → Dn (L.setIfInBounds i true) k = true → R (upd m i v k) (Av a1 a2 (upd m i v)) w' := fun {R k} hR h1 h2 e => by
    by_cases ik : i = k
    · subst ik; rw [upd_same]; exact hR.weak (fun b hb _ => hav b hb) (h2 rfl)
    · rw [dn_ne (Ne.symm ik)] at e; rw [upd_ne (Ne.symm ik)]; exact hR.weak (fun b hb _ => hav b hb) (h1 e)
  refine ⟨fun _ => ⟨h.bel, fun e => ?_, fun e => ?_, fun e => ?_, fun e => ?_, fun e f => ?_, key H0 h.r0 c0, key H1 h.r1 c1, key H2 h.r2 c2⟩, fun e => ?_, fun e => ?_⟩
  · rw [dn_ne (Ne.symm y1)] at e; rw [upd_ne (Ne.symm y1)]; exact h.v1 e
  · rw [dn_ne (Ne.symm y1)] at e; rw [upd_ne (Ne.symm y1)]; exact h.n1 e
  · rw [dn_ne (Ne.symm y2)] at e; rw [upd_ne (Ne.symm y2)]; exact h.v2 e
  · rw [dn_ne (Ne.symm y2)] at e; rw [upd_ne (Ne.symm y2)]; exact h.n2 e
  · rw [dn_ne (Ne.symm y1)] at e; rw [dn_ne (Ne.symm y2)] at f; rw [upd_ne (Ne.symm y1), upd_ne (Ne.symm y2)]; exact h.ne e f
  · rw [dn_ne (Ne.symm z1), hs] at e; cases e
  · rw [dn_ne (Ne.symm z2), hs2] at e; cases e
/-- all is ready for the first store -/
theorem TwoS.ready1 (hS : TwoS W k0 k1 k2 a1 a2 t1 t2 Z1 Z2 R0 R1 R2 s1 s2 L m w) (hs : Dn L s1 = false) (d1 : Dn L a1 = true) (d2 : Dn L a2 = true) (e1 : Dn L k1 = true) (e2 : Dn L k2 = true) : ∃ g1 g2, TwoB W k1 k2 a1 a2 t1 t2 R1 R2 Z1 Z2 g1 g2 m w := by
  have h := hS.1 hs
  obtain ⟨g1, x1, y1, b1⟩ := h.v1 d1
  obtain ⟨g2, x2, y2, b2⟩ := h.v2 d2
  exact ⟨g1, g2, x1, x2, fun e => h.ne d1 d2 (by rw [x1, x2, e]), y1, y2, b1, b2, h.bel, h.r1 e1, h.r2 e2⟩
theorem TwoB.store1 {z1 z2 c : Array Value} {g1 g2 : Nat} (h : TwoB W k1 k2 a1 a2 t1 t2 R1 R2 z1 z2 g1 g2 m w) (H1 : Res R1) (H2 : Res R2) (hb : Blk w' g1 t1 c) (hg : w.grownBy w' (some g1)) : TwoB W k1 k2 a1 a2 t1 t2 R1 R2 c z2 g1 g2 m w' :=
  ⟨h.e1, h.e2, h.ne, h.l1, h.l2, hb, h.b2.apart hg (fun e => h.ne e.symm), bl_gr h.bel hg h.l1,
    H1.keep (fun b hb hl => hg.block b hl (fun e => hb.1 (by rw [h.e1]; injection e with e; rw [e]))) h.r1, H2.keep (fun b hb hl => hg.block b hl (fun e => hb.1 (by rw [h.e1]; injection e with e; rw [e]))) h.r2⟩
theorem TwoB.store2 {z1 z2 c : Array Value} {g1 g2 : Nat} (h : TwoB W k1 k2 a1 a2 t1 t2 R1 R2 z1 z2 g1 g2 m w) (H1 : Res R1) (H2 : Res R2) (hb : Blk w' g2 t2 c) (hg : w.grownBy w' (some g2)) : TwoB W k1 k2 a1 a2 t1 t2 R1 R2 z1 c g1 g2 m w' :=
  ⟨h.e1, h.e2, h.ne, h.l1, h.l2, h.b1.apart hg h.ne, hb, bl_gr h.bel hg h.l2,
    H1.keep (fun b hb hl => hg.block b hl (fun e => hb.2 (by rw [h.e2]; injection e with e; rw [e]))) h.r1, H2.keep (fun b hb hl => hg.block b hl (fun e => hb.2 (by rw [h.e2]; injection e with e; rw [e]))) h.r2⟩
theorem TwoS.set1 {c1 : Array Value} {g1 g2 : Nat} (hs2 : Dn L s2 = false) (hne : s2 ≠ s1) (hk : m k1 = .agg c1) (h : TwoB W k1 k2 a1 a2 t1 t2 R1 R2 c1 Z2 g1 g2 m w) : TwoS W k0 k1 k2 a1 a2 t1 t2 Z1 Z2 R0 R1 R2 s1 s2 (L.setIfInBounds s1 true) m w :=
  ⟨fun e => (by rw [dn_eq] at e; cases e), fun _ _ => ⟨g1, g2, c1, hk, h⟩, fun e => (by rw [dn_ne hne, hs2] at e; cases e)⟩
theorem TwoS.at1 (hS : TwoS W k0 k1 k2 a1 a2 t1 t2 Z1 Z2 R0 R1 R2 s1 s2 L m w) (h1 : Dn L s1 = true) (h2 : Dn L s2 = false) : ∃ g1 g2 c1, m k1 = .agg c1 ∧ TwoB W k1 k2 a1 a2 t1 t2 R1 R2 c1 Z2 g1 g2 m w := hS.2.1 h1 h2
theorem TwoS.set2 {c1 c2 : Array Value} {g1 g2 : Nat} (hne : s1 ≠ s2) (h1 : Dn L s1 = true) (hk : m k1 = .agg c1) (hk2 : m k2 = .agg c2) (h : TwoB W k1 k2 a1 a2 t1 t2 R1 R2 c1 c2 g1 g2 m w) : TwoS W k0 k1 k2 a1 a2 t1 t2 Z1 Z2 R0 R1 R2 s1 s2 (L.setIfInBounds s2 true) m w :=
  ⟨fun e => (by rw [dn_ne hne, h1] at e; cases e), fun _ e => (by rw [dn_eq] at e; cases e), fun _ => ⟨g1, g2, c1, c2, hk, hk2, h⟩⟩
theorem TwoS.fin (hS : TwoS W k0 k1 k2 a1 a2 t1 t2 Z1 Z2 R0 R1 R2 s1 s2 L m w) (h2 : Dn L s2 = true) : ∃ g1 g2 c1 c2, m k1 = .agg c1 ∧ m k2 = .agg c2 ∧ TwoB W k1 k2 a1 a2 t1 t2 R1 R2 c1 c2 g1 g2 m w := hS.2.2 h2
end
end Go.Proofs.Ytojghgbaiiajfaa
/- Senders, receivers and packets as data in memory. Conditions: none. -/
namespace Go.Proofs.Ytojghgbaiiajfaa
open Go.RowKit
def SC.rng (s : SC) : Prop := 0 ≤ s.base ∧ 0 ≤ s.sent ∧ 0 ≤ s.lim ∧ s.lim ≤ 18446744073709551615 ∧ s.base ≤ 18446744073709551615
def RC.rng (r : RC) : Prop := 0 ≤ r.next ∧ r.next ≤ 18446744073709551615
def PK.rng (p : PK) : Prop := 0 ≤ p.seq ∧ p.seq ≤ 18446744073709551615 ∧ 0 ≤ p.lim ∧ p.lim ≤ 18446744073709551615
def LSN : Lay SC where
  size := 7
  rep := fun w F s cs => ∃ A n c, cs = [.int .u32 s.ses, .int .u64 s.base, .slice A n c, .int .u64 s.sent, .int .u64 s.lim, .int .i64 s.timer, .bool s.ended] ∧ n ≤ c ∧ c ≤ 9223372036854775807 ∧ LB3.rd w F A n s.q
  len := fun h => by obtain ⟨A, n, c, rfl, _⟩ := h; rfl
  one := fun h u hu => by obtain ⟨A, n, c, rfl, _⟩ := h; simp at hu; rcases hu with rfl | rfl | rfl | rfl | rfl | rfl | rfl <;> rfl
  keep := fun hk h => by obtain ⟨A, n, c, e, h1, h2, hr⟩ := h; exact ⟨A, n, c, e, h1, h2, Lay.rd_keep hk hr⟩
  weak := fun hk h => by obtain ⟨A, n, c, e, h1, h2, hr⟩ := h; exact ⟨A, n, c, e, h1, h2, Lay.rd_weak hk hr⟩
def LRV : Lay RC where
  size := 6
  rep := fun w F s cs => ∃ A n c B m d, cs = [.int .u32 s.ses, .int .u64 s.next, .slice A n c, .slice B m d, .int .i64 s.room, .bool s.over] ∧ n ≤ c ∧ c ≤ 9223372036854775807 ∧ m ≤ d ∧ d ≤ 9223372036854775807 ∧ LH4.rd w F A n s.ahead ∧ LB3.rd w F B m s.buf
  len := fun h => by obtain ⟨A, n, c, B, m, d, rfl, _⟩ := h; rfl
  one := fun h u hu => by obtain ⟨A, n, c, B, m, d, rfl, _⟩ := h; simp at hu; rcases hu with rfl | rfl | rfl | rfl | rfl | rfl <;> rfl
  keep := fun hk h => by obtain ⟨A, n, c, B, m, d, e, h1, h2, h3, h4, hr, hr2⟩ := h; exact ⟨A, n, c, B, m, d, e, h1, h2, h3, h4, Lay.rd_keep hk hr, Lay.rd_keep hk hr2⟩
  weak := fun hk h => by obtain ⟨A, n, c, B, m, d, e, h1, h2, h3, h4, hr, hr2⟩ := h; exact ⟨A, n, c, B, m, d, e, h1, h2, h3, h4, Lay.rd_weak hk hr, Lay.rd_weak hk hr2⟩
structure SSP (w : World) (F : Nat → Prop) (p : Addr) (s : SC) (A : Option Addr) (n c : Nat) : Prop where
  c0 : w.cell? p = some (.int .u32 s.ses)
  c1 : w.cell? ⟨p.block, p.off + 1, none⟩ = some (.int .u64 s.base)
  c2 : w.cell? ⟨p.block, p.off + 2, none⟩ = some (.slice A n c)
  c3 : w.cell? ⟨p.block, p.off + 3, none⟩ = some (.int .u64 s.sent)
  c4 : w.cell? ⟨p.block, p.off + 4, none⟩ = some (.int .u64 s.lim)
  c5 : w.cell? ⟨p.block, p.off + 5, none⟩ = some (.int .i64 s.timer)
  c6 : w.cell? ⟨p.block, p.off + 6, none⟩ = some (.bool s.ended)
  nc : n ≤ c
  cm : c ≤ 9223372036854775807
  rd : LB3.rd w F A n s.q
structure SRP (w : World) (F : Nat → Prop) (p : Addr) (s : RC) (A : Option Addr) (n c : Nat) (B : Option Addr) (m d : Nat) : Prop where
  c0 : w.cell? p = some (.int .u32 s.ses)
  c1 : w.cell? ⟨p.block, p.off + 1, none⟩ = some (.int .u64 s.next)
  c2 : w.cell? ⟨p.block, p.off + 2, none⟩ = some (.slice A n c)
  c3 : w.cell? ⟨p.block, p.off + 3, none⟩ = some (.slice B m d)
  c4 : w.cell? ⟨p.block, p.off + 4, none⟩ = some (.int .i64 s.room)
  c5 : w.cell? ⟨p.block, p.off + 5, none⟩ = some (.bool s.over)
  nc : n ≤ c
  cm : c ≤ 9223372036854775807
  nc2 : m ≤ d
  cm2 : d ≤ 9223372036854775807
  rd : LH4.rd w F A n s.ahead
  rd2 : LB3.rd w F B m s.buf
structure SPP (w : World) (F : Nat → Prop) (p : Addr) (s : PK) (A : Option Addr) (n c : Nat) : Prop where
  c0 : w.cell? p = some (.int .i64 s.kind)
  c1 : w.cell? ⟨p.block, p.off + 1, none⟩ = some (.int .u32 s.ses)
  c2 : w.cell? ⟨p.block, p.off + 2, none⟩ = some (.int .u64 s.seq)
  c3 : w.cell? ⟨p.block, p.off + 3, none⟩ = some (.int .u64 s.lim)
  c4 : w.cell? ⟨p.block, p.off + 4, none⟩ = some (.slice A n c)
  c5 : w.cell? ⟨p.block, p.off + 5, none⟩ = some (.bool s.b.fin)
  c6 : w.cell? ⟨p.block, p.off + 6, none⟩ = some (.int .u64 s.b.cnt)
  nc : n ≤ c
  cm : c ≤ 9223372036854775807
  rd : LR.rd w F A n s.b.rows
theorem LSN_at {w : World} {F : Nat → Prop} {A : Option Addr} {n i : Nat} {xs : List SC} (h : LSN.rd w F A n xs) (hi : i < n) : ∃ ad s B k c, A = some ad ∧ xs[i]? = some s ∧ (ad.add (i * 7)).block < w.heap.size ∧ SSP w F (ad.add (i * 7)) s B k c := by
  obtain ⟨ad, s, cs, e, hx, hb, _, ⟨B, k, c, rfl, h1, h2, hr⟩, hc⟩ := Lay.rd_at h hi
  exact ⟨ad, s, B, k, c, e, hx, by rw [block_of_add]; exact hb, ⟨hc 0 _ rfl, (by rw [← addr_more _ _ 1 (by omega)]; exact hc 1 _ rfl), (by rw [← addr_more _ _ 2 (by omega)]; exact hc 2 _ rfl), (by rw [← addr_more _ _ 3 (by omega)]; exact hc 3 _ rfl), (by rw [← addr_more _ _ 4 (by omega)]; exact hc 4 _ rfl), (by rw [← addr_more _ _ 5 (by omega)]; exact hc 5 _ rfl), (by rw [← addr_more _ _ 6 (by omega)]; exact hc 6 _ rfl), h1, h2, hr⟩⟩
theorem LRV_at {w : World} {F : Nat → Prop} {A : Option Addr} {n i : Nat} {xs : List RC} (h : LRV.rd w F A n xs) (hi : i < n) : ∃ ad s B k c B2 k2 c2, A = some ad ∧ xs[i]? = some s ∧ (ad.add (i * 6)).block < w.heap.size ∧ SRP w F (ad.add (i * 6)) s B k c B2 k2 c2 := by
  obtain ⟨ad, s, cs, e, hx, hb, _, ⟨B, k, c, B2, k2, c2, rfl, h1, h2, h3, h4, hr, hr2⟩, hc⟩ := Lay.rd_at h hi
  exact ⟨ad, s, B, k, c, B2, k2, c2, e, hx, by rw [block_of_add]; exact hb, ⟨hc 0 _ rfl, (by rw [← addr_more _ _ 1 (by omega)]; exact hc 1 _ rfl), (by rw [← addr_more _ _ 2 (by omega)]; exact hc 2 _ rfl), (by rw [← addr_more _ _ 3 (by omega)]; exact hc 3 _ rfl), (by rw [← addr_more _ _ 4 (by omega)]; exact hc 4 _ rfl), (by rw [← addr_more _ _ 5 (by omega)]; exact hc 5 _ rfl), h1, h2, h3, h4, hr, hr2⟩⟩
theorem LP7_at {w : World} {F : Nat → Prop} {A : Option Addr} {n i : Nat} {xs : List PK} (h : LP7.rd w F A n xs) (hi : i < n) : ∃ ad s B k c, A = some ad ∧ xs[i]? = some s ∧ (ad.add (i * 7)).block < w.heap.size ∧ SPP w F (ad.add (i * 7)) s B k c := by
  obtain ⟨ad, s, cs, e, hx, hb, _, ⟨B, k, c, rfl, h1, h2, hr⟩, hc⟩ := Lay.rd_at h hi
  exact ⟨ad, s, B, k, c, e, hx, by rw [block_of_add]; exact hb, ⟨hc 0 _ rfl, (by rw [← addr_more _ _ 1 (by omega)]; exact hc 1 _ rfl), (by rw [← addr_more _ _ 2 (by omega)]; exact hc 2 _ rfl), (by rw [← addr_more _ _ 3 (by omega)]; exact hc 3 _ rfl), (by rw [← addr_more _ _ 4 (by omega)]; exact hc 4 _ rfl), (by rw [← addr_more _ _ 5 (by omega)]; exact hc 5 _ rfl), (by rw [← addr_more _ _ 6 (by omega)]; exact hc 6 _ rfl), h1, h2, hr⟩⟩
theorem res_rdS {F : Nat → Prop} {w : World} {s : SC} {A : Option Addr} {m c : Nat} (h : LRes LSN (fun a => a = s) (.agg (s.cells A m c)) F w) : LB3.rd w AllB A m s.q := by
  obtain ⟨a, cs, e, ⟨B, n, d, hcs, _, _, hr⟩, rfl⟩ := h
  injection e with e
  subst e
  simp at hcs
  obtain ⟨rfl, rfl, rfl⟩ := hcs
  exact Lay.rd_weak (fun _ _ _ => trivial) hr
theorem res_capS {F : Nat → Prop} {w : World} {s : SC} {A : Option Addr} {m c : Nat} (h : LRes LSN (fun a => a = s) (.agg (s.cells A m c)) F w) : m ≤ 9223372036854775807 := by
  obtain ⟨a, cs, e, ⟨B, n, d, hcs, h1, h2, hr⟩, rfl⟩ := h
  injection e with e
  subst e
  simp at hcs
  obtain ⟨rfl, rfl, rfl⟩ := hcs
  exact Nat.le_trans h1 h2
theorem res_rdR {F : Nat → Prop} {w : World} {s : RC} {A : Option Addr} {m c : Nat} {B : Option Addr} {k d : Nat} (h : LRes LRV (fun a => a = s) (.agg (s.cells A m c B k d)) F w) : LH4.rd w AllB A m s.ahead ∧ LB3.rd w AllB B k s.buf := by
  obtain ⟨a, cs, e, ⟨A1, m1, c1, B1, k1, d1, hcs, _, _, _, _, hr, hr2⟩, rfl⟩ := h
  injection e with e
  subst e
  simp at hcs
  obtain ⟨⟨rfl, rfl, rfl⟩, rfl, rfl, rfl⟩ := hcs
  exact ⟨Lay.rd_weak (fun _ _ _ => trivial) hr, Lay.rd_weak (fun _ _ _ => trivial) hr2⟩
theorem res_capR {F : Nat → Prop} {w : World} {s : RC} {A : Option Addr} {m c : Nat} {B : Option Addr} {k d : Nat} (h : LRes LRV (fun a => a = s) (.agg (s.cells A m c B k d)) F w) : m ≤ 9223372036854775807 ∧ k ≤ 9223372036854775807 := by
  obtain ⟨a, cs, e, ⟨A1, m1, c1, B1, k1, d1, hcs, h1, h2, h3, h4, hr, hr2⟩, rfl⟩ := h
  injection e with e
  subst e
  simp at hcs
  obtain ⟨⟨rfl, rfl, rfl⟩, rfl, rfl, rfl⟩ := hcs
  exact ⟨Nat.le_trans h1 h2, Nat.le_trans h3 h4⟩
theorem SeqN.move {ks : List Nat} {B : Nat → (Nat → Value) → World → Prop} {L : Array Bool} {m : Nat → Value} {w w' : World} {i : Nat} (h : (ks.all fun k => k != i) = true) (hB : ∀ j m, B j m w → B j m w') (hS : SeqN ks B L m w) : SeqN ks B (L.setIfInBounds i true) m w' := by
  have := SeqN.pass h L m w hS
  exact hB _ _ this
theorem SeqN.after24 {B : Nat → (Nat → Value) → World → Prop} {L : Array Bool} {m : Nat → Value} {w : World} {k : Nat} (hd : Dn L k = true) (hS : SeqN [k] B L m w) : B 1 m w := by
  unfold SeqN cntD cntD at hS
  rw [hd] at hS
  exact hS
end Go.Proofs.Ytojghgbaiiajfaa
/- bowspritref22.Close, Put. Conditions: the slices read so; the sender's numbers are in their range. -/
namespace Go.Proofs.Ytojghgbaiiajfaa
open Go.RowKit
/-- a sender and an error: what the reference's Put and Close answer -/
def PutW (w0 : World) (Fr : Nat → Prop) (E : Int) (s2 : SC) (e : Ending) (w' : World) : Prop :=
  ∃ C N, e = .returned (.tuple #[.agg C, .int .i64 N]) ∧ N = E ∧ Below w0.heap.size w0 w' ∧
    ((E ≠ 0 ∧ C = zeroS.cells none 0 0) ∨ (E = 0 ∧ ∃ A2 n2 c2, C = s2.cells A2 n2 c2 ∧ LB3.rd w' (fun k => Fr k ∨ w0.heap.size ≤ k) A2 n2 s2.q ∧ n2 ≤ c2 ∧ c2 ≤ 9223372036854775807))
theorem rd_grown {α : Type} {L : Lay α} {w w' : World} {F : Nat → Prop} {A : Option Addr} {n g : Nat} {xs : List α} (h : L.rd w F A n xs) (q : w.grownBy w' (some g)) (hF : ∀ b, F b → b ≠ g) : L.rd w' F A n xs := Lay.rd_keep (fun b hb hl => q.block b hl (fun e => by injection e with e; exact hF b hb e)) h

theorem SeqN.earlyA {k4 k7 : Nat} {B : Nat → (Nat → Value) → World → Prop} {L : Array Bool} {m : Nat → Value} {w : World} {T : World → Prop} (h7 : Dn L k7 = false) (t0 : ∀ m w, B 0 m w → T w) (t1 : ∀ m w, B 1 m w → T w) (hS : SeqN [k4, k7] B L m w) : T w := by
  unfold SeqN cntD cntD cntD at hS
  rw [h7] at hS
  cases h : Dn L k4
  · rw [h] at hS; exact t0 _ _ hS
  · rw [h] at hS; exact t1 _ _ hS
theorem SeqN.moveA {k4 k7 i : Nat} {B : Nat → (Nat → Value) → World → Prop} {L : Array Bool} {m : Nat → Value} {w w' : World} (hn : ([k4, k7].all fun k => k != i) = true) (h7 : Dn L k7 = false) (t0 : ∀ m, B 0 m w → B 0 m w') (t1 : ∀ m, B 1 m w → B 1 m w') (hS : SeqN [k4, k7] B L m w) : SeqN [k4, k7] B (L.setIfInBounds i true) m w' := by
  have hS2 := SeqN.pass hn L m w hS
  simp only [List.all_cons, List.all_nil, Bool.and_true, Bool.and_eq_true, bne_iff_ne] at hn
  unfold SeqN cntD cntD cntD at *
  rw [dn_ne hn.1, dn_ne hn.2, h7] at *
  cases h : Dn L k4
  · rw [h] at hS2; exact t0 _ hS2
  · rw [h] at hS2; exact t1 _ hS2
theorem Seq1.re {k1 : Nat} {B0 B1 : (Nat → Value) → World → Prop} {L : Array Bool} {m : Nat → Value} {w : World} (h1 : Dn L k1 = false) (h : B0 m w) : Seq1 k1 B0 B1 L m w := by
  unfold Seq1 Sk1
  rw [h1]
  exact ⟨fun _ => h, fun e => by cases e⟩
set_option maxRecDepth 100000 in
set_option maxHeartbeats 16000000 in
theorem rclose_any (Fr : Nat → Prop) (s : SC) (A : Option Addr) (n c : Nat) (w : World) (h : LB3.rd w Fr A n s.q) (hn : n ≤ 100) (h1 : 1 ≤ s.base) (h2 : s.base ≤ 2000000000000) :
    Calls Try.prog 55 #[.agg (s.cells A n c)] w (PutW w Fr (putE s) (putR s ⟨[], true, s.base - 1 + (n : Int)⟩)) := by
  obtain ⟨E, hE⟩ : ∃ E, E = putE s := ⟨_, rfl⟩
  rw [← hE]
  have HE := Lib.hid hE
  clear hE
  have q1 := bl_al (Below.refl w.heap.size w) (.cells #[.int .u32 s.ses, .int .u64 s.base, .slice A n c, .int .u64 s.sent, .int .u64 s.lim, .int .i64 s.timer, .bool s.ended] 29)
  have q2 := bl_al q1 (.cells #[.int .u32 0, .int .u64 0, .slice none 0 0, .int .u64 0, .int .u64 0, .int .i64 0, .bool false] 29)
  have HRD := Lib.hid h
  have HK1 := Lib.hid ((Blk.new w 29 #[.int .u32 s.ses, .int .u64 s.base, .slice A n c, .int .u64 s.sent, .int .u64 s.lim, .int .i64 s.timer, .bool s.ended]).alloc (.cells #[.int .u32 0, .int .u64 0, .slice none 0 0, .int .u64 0, .int .u64 0, .int .i64 0, .bool false] 29))
  have HK2 := Lib.hid (show Blk ((w.alloc (.cells #[.int .u32 s.ses, .int .u64 s.base, .slice A n c, .int .u64 s.sent, .int .u64 s.lim, .int .i64 s.timer, .bool s.ended] 29)).alloc (.cells #[.int .u32 0, .int .u64 0, .slice none 0 0, .int .u64 0, .int .u64 0, .int .i64 0, .bool false] 29)) (w.heap.size + 1) 29 #[.int .u32 0, .int .u64 0, .slice none 0 0, .int .u64 0, .int .u64 0, .int .i64 0, .bool false] from by have := Blk.new (w.alloc (.cells #[.int .u32 s.ses, .int .u64 s.base, .slice A n c, .int .u64 s.sent, .int .u64 s.lim, .int .i64 s.timer, .bool s.ended] 29)) 29 #[.int .u32 0, .int .u64 0, .slice none 0 0, .int .u64 0, .int .u64 0, .int .i64 0, .bool false]; simp only [World.size_alloc] at this; exact this)
  have HQ2 := Lib.hid q2
  have hs2 : ((w.alloc (.cells #[.int .u32 s.ses, .int .u64 s.base, .slice A n c, .int .u64 s.sent, .int .u64 s.lim, .int .i64 s.timer, .bool s.ended] 29)).alloc (.cells #[.int .u32 0, .int .u64 0, .slice none 0 0, .int .u64 0, .int .u64 0, .int .i64 0, .bool false] 29)).heap.size = w.heap.size + 2 := by simp only [World.size_alloc]
  have x0 : True := trivial
  clear h q1 q2 x0
  by_cases h0 : E = 0
  · subst h0
    go_enter Try.func55, Try.ntmps55
    go_upto_region 1 with fail
    generalize ((w.alloc (.cells #[.int .u32 s.ses, .int .u64 s.base, .slice A n c, .int .u64 s.sent, .int .u64 s.lim, .int .i64 s.timer, .bool s.ended] 29)).alloc (.cells #[.int .u32 0, .int .u64 0, .slice none 0 0, .int .u64 0, .int .u64 0, .int .i64 0, .bool false] 29)) = w2 at *
    refine wp_region_ps (S := SeqN [4, 7] (fun z m w' => match z with | 0 => Below w2.heap.size w2 w' | 1 => Below w2.heap.size w2 w' ∧ ∃ A2 c2, m 4 = .tuple #[.agg ((putR s ⟨[], true, s.base - 1 + (n : Int)⟩).cells A2 (n + 1) c2), .int .i64 0] ∧ LB3.rd w' (fun k => (Fr k ∧ k < w.heap.size) ∨ w2.heap.size ≤ k) A2 (n + 1) (s.q ++ [⟨[], true, s.base - 1 + (n : Int)⟩]) ∧ n + 1 ≤ c2 ∧ c2 ≤ 9223372036854775807 | _ => Below w.heap.size w w' ∧ ∃ A2 c2, m 4 = .tuple #[.agg ((putR s ⟨[], true, s.base - 1 + (n : Int)⟩).cells A2 (n + 1) c2), .int .i64 0] ∧ Blk w' (w.heap.size + 1) 29 ((putR s ⟨[], true, s.base - 1 + (n : Int)⟩).cells A2 (n + 1) c2) ∧ LB3.rd w' (fun k => (Fr k ∧ k < w.heap.size) ∨ w2.heap.size ≤ k) A2 (n + 1) (s.q ++ [⟨[], true, s.base - 1 + (n : Int)⟩]) ∧ n + 1 ≤ c2 ∧ c2 ≤ 9223372036854775807)) (by kernel_rfl) ?spswcl ?ppswcl
    case spswcl =>
      exact SeqN.start (by decide) (Below.refl _ _).drew
    refine Ps.st (i := 0) (d := some 4) (u := ?uwcl_1) rfl rfl ?ywcl_1 ?rwcl_1
    case ywcl_1 =>
      refine StepS.read [] (by kernel_rfl) (SeqN.pass (by decide)) (by rfl) (fun L9 m9 w9 hSh hAt hDn hS => ?_)
      have hT : Below w2.heap.size w2 w9 := SeqN.earlyA (reach_no hSh (f := 9) (j := 7) (by kernel_rfl) hDn) (fun _ _ h => h) (fun _ _ h => h.1) hS
      have x0 : w9.cell? ⟨w.heap.size, 0, none⟩ = some (.int .u32 s.ses) := (HK1.out.ca hT).cell 0
      have x1 : w9.cell? ⟨w.heap.size, 1, none⟩ = some (.int .u64 s.base) := (HK1.out.ca hT).cell 1
      have x2 : w9.cell? ⟨w.heap.size, 2, none⟩ = some (.slice A n c) := (HK1.out.ca hT).cell 2
      have x3 : w9.cell? ⟨w.heap.size, 3, none⟩ = some (.int .u64 s.sent) := (HK1.out.ca hT).cell 3
      have x4 : w9.cell? ⟨w.heap.size, 4, none⟩ = some (.int .u64 s.lim) := (HK1.out.ca hT).cell 4
      have x5 : w9.cell? ⟨w.heap.size, 5, none⟩ = some (.int .i64 s.timer) := (HK1.out.ca hT).cell 5
      have x6 : w9.cell? ⟨w.heap.size, 6, none⟩ = some (.bool s.ended) := (HK1.out.ca hT).cell 6
      clear hT hS
      go_simp
      try rfl
    try simp only [Act.put, sA, sZ, sS]
    refine Ps.st (i := 1) (d := some 5) (u := ?uwcl_2) rfl rfl ?ywcl_2 ?rwcl_2
    case ywcl_2 =>
      refine StepS.read [] (by kernel_rfl) (SeqN.pass (by decide)) (by rfl) (fun L9 m9 w9 hSh hAt hDn hS => ?_)
      have hT : Below w2.heap.size w2 w9 := SeqN.earlyA (reach_no hSh (f := 9) (j := 7) (by kernel_rfl) hDn) (fun _ _ h => h) (fun _ _ h => h.1) hS
      have x0 : w9.cell? ⟨w.heap.size, 0, none⟩ = some (.int .u32 s.ses) := (HK1.out.ca hT).cell 0
      have x1 : w9.cell? ⟨w.heap.size, 1, none⟩ = some (.int .u64 s.base) := (HK1.out.ca hT).cell 1
      have x2 : w9.cell? ⟨w.heap.size, 2, none⟩ = some (.slice A n c) := (HK1.out.ca hT).cell 2
      have x3 : w9.cell? ⟨w.heap.size, 3, none⟩ = some (.int .u64 s.sent) := (HK1.out.ca hT).cell 3
      have x4 : w9.cell? ⟨w.heap.size, 4, none⟩ = some (.int .u64 s.lim) := (HK1.out.ca hT).cell 4
      have x5 : w9.cell? ⟨w.heap.size, 5, none⟩ = some (.int .i64 s.timer) := (HK1.out.ca hT).cell 5
      have x6 : w9.cell? ⟨w.heap.size, 6, none⟩ = some (.bool s.ended) := (HK1.out.ca hT).cell 6
      clear hT hS
      go_simp
      try rfl
    try simp only [Act.put, sA, sZ, sS]
    refine Ps.st (i := 2) (d := some 6) (u := (.int .u64 (s.base - 1 + (n : Int)))) rfl rfl ?ywcl_3 ?rwcl_3
    case ywcl_3 =>
      refine StepS.call ?fwcl_3 ?awcl_3 [] (by kernel_rfl) (by rfl) (fun w9 => ?hwcl_3) (fun L9 m9 w9 hSh hAt hDn hS => ?cwcl_3)
      case hwcl_3 => go_simp; refine ⟨?_, ?_⟩ <;> rfl
      case cwcl_3 =>
        have hT : Below w2.heap.size w2 w9 := SeqN.earlyA (reach_no hSh (f := 9) (j := 7) (by kernel_rfl) hDn) (fun _ _ h => h) (fun _ _ h => h.1) hS
        refine (rlast_any s A n c w9 h1 h2 (by omega)).mono ?_
        rintro e w8 ⟨rfl, q8⟩
        exact ⟨rfl, SeqN.moveA (by decide) (reach_no hSh (f := 9) (j := 7) (by kernel_rfl) hDn) (fun _ h => bl_ca h q8) (fun _ ⟨h, A2, c2, e, r, h3⟩ => ⟨bl_ca h q8, A2, c2, e, Lay.rd_below r q8, h3⟩) hS⟩
    try simp only [Act.put, sA, sZ, sS]
    refine Ps.st (i := 3) (d := some 7) (u := _) rfl rfl (StepS.pure (SeqN.pass (by decide)) rfl fun w9 => by go_simp; try rfl) ?_
    try simp only [Act.put, sA, sZ, sS]
    refine Ps.one (k := 4) (d := some 8) rfl rfl (by kernel_rfl) (TurnS.call (V := fun v => ∃ A2 c2, v = .tuple #[.agg ((putR s ⟨[], true, s.base - 1 + (n : Int)⟩).cells A2 (n + 1) c2), .int .i64 0]) ?fwcl_5 ?awcl_5 [] (by kernel_rfl) (by rfl) (fun w9 => ?hwcl_5) (fun L9 m9 w9 hSh hAt hDn hS => ?cwcl_5)) (fun v4 hVv4 => ?rwcl_5)
    case hwcl_5 => go_simp; refine ⟨?_, ?_⟩ <;> rfl
    case cwcl_5 =>
      have hT : Below w2.heap.size w2 w9 := SeqN.at_ (m0 := m9) (m1 := m9) [] [7] hSh (fun d hd => by cases hd) hDn (by kernel_rfl) hS
      refine (rwith_any (fun k => Fr k ∧ k < w.heap.size) s A n c ⟨[], true, s.base - 1 + (n : Int)⟩ none 0 0 w9 (Lay.rd_below (Lay.rd_weak (fun b h1 h2 => ⟨h1, h2⟩) HRD.out) (bl_ca HQ2.out hT)) (Lay.rd_nil _) (by omega) (by omega) (by omega) h1 h2).mono ?_
      rintro e w8 (⟨hne, _⟩ | ⟨_, A2, c2, rfl, hrd, hk1, hk2, q8⟩)
      · exact absurd HE.out.symm hne
      · exact ⟨_, rfl, ⟨A2, c2, rfl⟩, SeqN.set_ (m0 := m9) (m1 := m9) [] [7] hSh (fun d hd => by cases hd) hDn (by kernel_rfl) (by decide) (by decide) ⟨bl_ca hT q8, A2, c2, upd_same _ _ _, Lay.rd_weak (fun b hb _ => hb.elim .inl (fun h => .inr (Nat.le_trans hT.size h))) hrd, hk1, hk2⟩⟩
    try simp only [Act.put, sA, sZ, sS]
    obtain ⟨A2, c2, rfl⟩ := hVv4
    refine Ps.st (i := 5) (d := some 9) (u := _) rfl rfl (StepS.pure (SeqN.pass (by decide)) rfl fun w9 => by go_simp; try rfl) ?_
    try simp only [Act.put, sA, sZ, sS]
    refine Ps.st (i := 6) (d := some 10) (u := _) rfl rfl (StepS.pure (SeqN.pass (by decide)) rfl fun w9 => by go_simp; try rfl) ?_
    try simp only [Act.put, sA, sZ, sS]
    refine Ps.st (i := 7) (d := none) (u := undef) rfl rfl ?ywcl_8 ?rwcl_8
    case ywcl_8 =>
      refine StepS.store [4] (by kernel_rfl) (by rfl) (fun L9 m9 w9 hSh hAt hDn hS => ?_)
      obtain ⟨hT, A3, c3, hv, hrd, hk1, hk2⟩ := SeqN.at_ [4] [] hSh hAt hDn (by kernel_rfl) hS
      obtain ⟨rfl, rfl⟩ : A2 = A3 ∧ c2 = c3 := by have h9 : Value.tuple #[.agg ((putR s ⟨[], true, s.base - 1 + (n : Int)⟩).cells A2 (n + 1) c2), .int .i64 0] = .tuple #[.agg ((putR s ⟨[], true, s.base - 1 + (n : Int)⟩).cells A3 (n + 1) c3), .int .i64 0] := (hAt 4 (by simp)).2.symm.trans hv; simpa using h9
      refine (exec_store_blk (w := w9) 29 (.tmp 2) (.tmp 9) (by rfl) (w.heap.size + 1) 29 #[.int .u32 0, .int .u64 0, .slice none 0 0, .int .u64 0, .int .u64 0, .int .i64 0, .bool false] ((putR s ⟨[], true, s.base - 1 + (n : Int)⟩).cells A2 (n + 1) c2) (by rfl) (by rfl) (HK2.out.ca hT) rfl senderI (by simp [Value.oneCell'])).imp fun w7 hx => ⟨hx.1, SeqN.set_ [4] [] hSh hAt hDn (by kernel_rfl) (by decide) (by decide) ⟨bl_gr (bl_ca HQ2.out hT) hx.2.2 (by omega), A2, c2, hv, hx.2.1, rd_grown hrd hx.2.2 (fun b hb => hb.elim (fun h => by have := h.2; omega) (fun h => by omega)), hk1, hk2⟩⟩
    try simp only [Act.put]
    refine Ps.st (i := 8) (d := some 3) (u := _) rfl rfl (StepS.pure (SeqN.pass (by decide)) rfl fun w9 => by go_simp; try rfl) ?_
    try simp only [Act.put, sA, sZ, sS]
    refine Ps.done (by kernel_rfl) (fun wcl hS => ?_) _
    obtain ⟨hT, A3, c3, hv, hb, hrd, hk1, hk2⟩ := SeqN.fin (by rfl) hS
    clear hS
    obtain ⟨rfl, rfl⟩ : A2 = A3 ∧ c2 = c3 := by have h9 : Value.tuple #[.agg ((putR s ⟨[], true, s.base - 1 + (n : Int)⟩).cells A2 (n + 1) c2), .int .i64 0] = .tuple #[.agg ((putR s ⟨[], true, s.base - 1 + (n : Int)⟩).cells A3 (n + 1) c3), .int .i64 0] := hv; simpa using h9
    have HBB := Lib.hid hb
    have HRR := Lib.hid hrd
    have HTT := Lib.hid hT
    have HKK := Lib.hid (And.intro hk1 hk2)
    clear hT hv hb hrd hk1 hk2
    obtain ⟨w4, rfl⟩ : ∃ x, x = wcl := ⟨_, rfl⟩
    go_wp2_with fail
    exact bodyPost_ret (res2 Try.results55 rfl rfl HBB.out Try.underlying29 rfl senderI) rfl ⟨_, 0, rfl, rfl, HTT.out, .inr ⟨rfl, A2, n + 1, c2, rfl, Lay.rd_weak (fun b hb _ => hb.elim (fun h => .inl h.1) (fun h => .inr (by omega))) HRR.out, HKK.out.1, HKK.out.2⟩⟩
  · have HNE := Lib.hid h0
    clear h0
    go_enter Try.func55, Try.ntmps55
    go_upto_region 1 with fail
    generalize ((w.alloc (.cells #[.int .u32 s.ses, .int .u64 s.base, .slice A n c, .int .u64 s.sent, .int .u64 s.lim, .int .i64 s.timer, .bool s.ended] 29)).alloc (.cells #[.int .u32 0, .int .u64 0, .slice none 0 0, .int .u64 0, .int .u64 0, .int .i64 0, .bool false] 29)) = w2 at *
    refine wp_region_ps (S := Seq1 7 (fun _ w' => Below w2.heap.size w2 w') (fun _ w' => Below w.heap.size w w' ∧ Blk w' (w.heap.size + 1) 29 (zeroS.cells none 0 0))) (by kernel_rfl) ?spswcm ?ppswcm
    case spswcm =>
      exact Seq1.start (by decide) (Below.refl _ _).drew
    refine Ps.st (i := 0) (d := some 4) (u := ?uwcm_10) rfl rfl ?ywcm_10 ?rwcm_10
    case ywcm_10 =>
      refine StepS.read [] (by kernel_rfl) (Seq1.pass (by decide)) (by rfl) (fun L9 m9 w9 hSh hAt hDn hS => ?_)
      have hT : Below w2.heap.size w2 w9 := Seq1.at1 (reach_no hSh (f := 9) (j := 7) (by kernel_rfl) hDn) hS
      have x0 : w9.cell? ⟨w.heap.size, 0, none⟩ = some (.int .u32 s.ses) := (HK1.out.ca hT).cell 0
      have x1 : w9.cell? ⟨w.heap.size, 1, none⟩ = some (.int .u64 s.base) := (HK1.out.ca hT).cell 1
      have x2 : w9.cell? ⟨w.heap.size, 2, none⟩ = some (.slice A n c) := (HK1.out.ca hT).cell 2
      have x3 : w9.cell? ⟨w.heap.size, 3, none⟩ = some (.int .u64 s.sent) := (HK1.out.ca hT).cell 3
      have x4 : w9.cell? ⟨w.heap.size, 4, none⟩ = some (.int .u64 s.lim) := (HK1.out.ca hT).cell 4
      have x5 : w9.cell? ⟨w.heap.size, 5, none⟩ = some (.int .i64 s.timer) := (HK1.out.ca hT).cell 5
      have x6 : w9.cell? ⟨w.heap.size, 6, none⟩ = some (.bool s.ended) := (HK1.out.ca hT).cell 6
      clear hT hS
      go_simp
      try rfl
    try simp only [Act.put, sA, sZ, sS]
    refine Ps.st (i := 1) (d := some 5) (u := ?uwcm_11) rfl rfl ?ywcm_11 ?rwcm_11
    case ywcm_11 =>
      refine StepS.read [] (by kernel_rfl) (Seq1.pass (by decide)) (by rfl) (fun L9 m9 w9 hSh hAt hDn hS => ?_)
      have hT : Below w2.heap.size w2 w9 := Seq1.at1 (reach_no hSh (f := 9) (j := 7) (by kernel_rfl) hDn) hS
      have x0 : w9.cell? ⟨w.heap.size, 0, none⟩ = some (.int .u32 s.ses) := (HK1.out.ca hT).cell 0
      have x1 : w9.cell? ⟨w.heap.size, 1, none⟩ = some (.int .u64 s.base) := (HK1.out.ca hT).cell 1
      have x2 : w9.cell? ⟨w.heap.size, 2, none⟩ = some (.slice A n c) := (HK1.out.ca hT).cell 2
      have x3 : w9.cell? ⟨w.heap.size, 3, none⟩ = some (.int .u64 s.sent) := (HK1.out.ca hT).cell 3
      have x4 : w9.cell? ⟨w.heap.size, 4, none⟩ = some (.int .u64 s.lim) := (HK1.out.ca hT).cell 4
      have x5 : w9.cell? ⟨w.heap.size, 5, none⟩ = some (.int .i64 s.timer) := (HK1.out.ca hT).cell 5
      have x6 : w9.cell? ⟨w.heap.size, 6, none⟩ = some (.bool s.ended) := (HK1.out.ca hT).cell 6
      clear hT hS
      go_simp
      try rfl
    try simp only [Act.put, sA, sZ, sS]
    refine Ps.st (i := 2) (d := some 6) (u := (.int .u64 (s.base - 1 + (n : Int)))) rfl rfl ?ywcm_12 ?rwcm_12
    case ywcm_12 =>
      refine StepS.call ?fwcm_12 ?awcm_12 [] (by kernel_rfl) (by rfl) (fun w9 => ?hwcm_12) (fun L9 m9 w9 hSh hAt hDn hS => ?cwcm_12)
      case hwcm_12 => go_simp; refine ⟨?_, ?_⟩ <;> rfl
      case cwcm_12 =>
        have hT : Below w2.heap.size w2 w9 := Seq1.at1 (reach_no hSh (f := 9) (j := 7) (by kernel_rfl) hDn) hS
        refine (rlast_any s A n c w9 h1 h2 (by omega)).mono ?_
        rintro e w8 ⟨rfl, q8⟩
        exact ⟨rfl, (Seq1.pass (by decide) _ _ _ (Seq1.re (reach_no hSh (f := 9) (j := 7) (by kernel_rfl) hDn) (bl_ca hT q8)))⟩
    try simp only [Act.put, sA, sZ, sS]
    refine Ps.st (i := 3) (d := some 7) (u := _) rfl rfl (StepS.pure (Seq1.pass (by decide)) rfl fun w9 => by go_simp; try rfl) ?_
    try simp only [Act.put, sA, sZ, sS]
    refine Ps.st (i := 4) (d := some 8) (u := (.tuple #[.agg (zeroS.cells none 0 0), .int .i64 E])) rfl rfl ?ywcm_14 ?rwcm_14
    case ywcm_14 =>
      refine StepS.call ?fwcm_14 ?awcm_14 [] (by kernel_rfl) (by rfl) (fun w9 => ?hwcm_14) (fun L9 m9 w9 hSh hAt hDn hS => ?cwcm_14)
      case hwcm_14 => go_simp; refine ⟨?_, ?_⟩ <;> rfl
      case cwcm_14 =>
        have hT : Below w2.heap.size w2 w9 := Seq1.at1 (reach_no hSh (f := 9) (j := 7) (by kernel_rfl) hDn) hS
        refine (rwith_any (fun k => Fr k ∧ k < w.heap.size) s A n c ⟨[], true, s.base - 1 + (n : Int)⟩ none 0 0 w9 (Lay.rd_below (Lay.rd_weak (fun b h1 h2 => ⟨h1, h2⟩) HRD.out) (bl_ca HQ2.out hT)) (Lay.rd_nil _) (by omega) (by omega) (by omega) h1 h2).mono ?_
        rintro e w8 (⟨_, rfl, q8⟩ | ⟨h0, _⟩)
        · exact ⟨by rw [HE.out], (Seq1.pass (by decide) _ _ _ (Seq1.re (reach_no hSh (f := 9) (j := 7) (by kernel_rfl) hDn) (bl_ca hT q8)))⟩
        · exact absurd (HE.out.trans h0) HNE.out
    try simp only [Act.put, sA, sZ, sS]
    refine Ps.st (i := 5) (d := some 9) (u := _) rfl rfl (StepS.pure (Seq1.pass (by decide)) rfl fun w9 => by go_simp; try rfl) ?_
    try simp only [Act.put, sA, sZ, sS]
    refine Ps.st (i := 6) (d := some 10) (u := _) rfl rfl (StepS.pure (Seq1.pass (by decide)) rfl fun w9 => by go_simp; try rfl) ?_
    try simp only [Act.put, sA, sZ, sS]
    refine Ps.st (i := 7) (d := none) (u := undef) rfl rfl ?ywcm_17 ?rwcm_17
    case ywcm_17 =>
      refine StepS.store [] (by kernel_rfl) (by rfl) (fun L9 m9 w9 hSh hAt hDn hS => ?_)
      have hT : Below w2.heap.size w2 w9 := Seq1.at1 hDn hS
      refine (exec_store_blk (w := w9) 29 (.tmp 2) (.tmp 9) (by rfl) (w.heap.size + 1) 29 #[.int .u32 0, .int .u64 0, .slice none 0 0, .int .u64 0, .int .u64 0, .int .i64 0, .bool false] (zeroS.cells none 0 0) (by rfl) (by rfl) (HK2.out.ca hT) rfl senderI (by simp [Value.oneCell'])).imp fun w7 hx => ⟨hx.1, Seq1.set1 ⟨bl_gr (bl_ca HQ2.out hT) hx.2.2 (by omega), hx.2.1⟩⟩
    try simp only [Act.put]
    refine Ps.st (i := 8) (d := some 3) (u := _) rfl rfl (StepS.pure (Seq1.pass (by decide)) rfl fun w9 => by go_simp; try rfl) ?_
    try simp only [Act.put, sA, sZ, sS]
    refine Ps.done (by kernel_rfl) (fun wcm hS => ?_) _
    obtain ⟨hT, hb⟩ := Seq1.fin (by rfl) hS
    clear hS
    have HBB := Lib.hid hb
    have HTT := Lib.hid hT
    clear hT hb
    obtain ⟨w4, rfl⟩ : ∃ x, x = wcm := ⟨_, rfl⟩
    go_wp2_with fail
    exact bodyPost_ret (res2 Try.results55 rfl rfl HBB.out Try.underlying29 rfl senderI) rfl ⟨_, E, rfl, rfl, HTT.out, .inl ⟨HNE.out, rfl⟩⟩
end Go.Proofs.Ytojghgbaiiajfaa
