/- Two variables made and filled by calls in one statement whose order Go leaves open. Conditions: none. -/
import Derived.Test.YtojghgbaiiajfaaPkO3
import Derived.ProofKit
import Derived.OpenShut
import Derived.ShutString
import Derived.ChangeOld
import Derived.Deep.Slices
import Derived.Deep.Fields
import Derived.ChangeSame
import Derived.Deep.LoopGhost
import Derived.Shelf.Abstract
import Derived.BigQuiet
import Derived.Deep.QuietTactic
namespace Go.Proofs.Ytojghgbaiiajfaa
open Go.RowKit
def pt (g : Nat) : Value := .pointer (some ⟨g, 0, none⟩)
theorem pt_inj {a b : Nat} (h : pt a = pt b) : a = b := by
  unfold pt at h
  injection h with h
  injection h with h
  injection h
theorem undef_pt (b : Nat) : undef ≠ pt b := by unfold pt undef; simp
/-- the blocks that are none of the two variables -/
def Av (a1 a2 : Nat) (m : Nat → Value) (b : Nat) : Prop := m a1 ≠ pt b ∧ m a2 ≠ pt b
/-- what a call's answer is: it stays so as long as the blocks that it leads to do -/
structure Res (R : Value → (Nat → Prop) → World → Prop) : Prop where
  keep : ∀ {v F w w'}, (∀ b, F b → b < w.heap.size → w'.heap[b]? = w.heap[b]?) → R v F w → R v F w'
  weak : ∀ {v F G w}, (∀ b, F b → b < w.heap.size → G b) → R v F w → R v G w
def LRes {α : Type} (Ly : Lay α) (P : α → Prop) (v : Value) (F : Nat → Prop) (w : World) : Prop := ∃ a cs, v = .agg cs ∧ Ly.rep w F a cs.toList ∧ P a
theorem LRes.res {α : Type} (Ly : Lay α) (P : α → Prop) : Res (LRes Ly P) :=
  ⟨fun hk ⟨a, cs, e, h, p⟩ => ⟨a, cs, e, Ly.keep hk h, p⟩, fun hk ⟨a, cs, e, h, p⟩ => ⟨a, cs, e, Ly.weak hk h, p⟩⟩
def NoRes (_ : Value) (_ : Nat → Prop) (_ : World) : Prop := True
theorem NoRes.res : Res NoRes := ⟨fun _ h => h, fun _ h => h⟩
section
variable (W : World) (k0 k1 k2 a1 a2 : Nat) (t1 t2 : TypeId) (Z1 Z2 : Array Value) (R0 R1 R2 : Value → (Nat → Prop) → World → Prop)
structure TwoA (L : Array Bool) (m : Nat → Value) (w : World) : Prop where
  bel : Below W.heap.size W w
  v1 : Dn L a1 = true → ∃ g, m a1 = pt g ∧ W.heap.size ≤ g ∧ Blk w g t1 Z1
  n1 : Dn L a1 = false → m a1 = undef
  v2 : Dn L a2 = true → ∃ g, m a2 = pt g ∧ W.heap.size ≤ g ∧ Blk w g t2 Z2
  n2 : Dn L a2 = false → m a2 = undef
  ne : Dn L a1 = true → Dn L a2 = true → m a1 ≠ m a2
  r0 : Dn L k0 = true → R0 (m k0) (Av a1 a2 m) w
  r1 : Dn L k1 = true → R1 (m k1) (Av a1 a2 m) w
  r2 : Dn L k2 = true → R2 (m k2) (Av a1 a2 m) w
structure TwoB (c1 c2 : Array Value) (g1 g2 : Nat) (m : Nat → Value) (w : World) : Prop where
  e1 : m a1 = pt g1
  e2 : m a2 = pt g2
  ne : g1 ≠ g2
  l1 : W.heap.size ≤ g1
  l2 : W.heap.size ≤ g2
  b1 : Blk w g1 t1 c1
  b2 : Blk w g2 t2 c2
  bel : Below W.heap.size W w
  r1 : R1 (m k1) (Av a1 a2 m) w
  r2 : R2 (m k2) (Av a1 a2 m) w
/-- s1, s2: the two stores -/
def TwoS (s1 s2 : Nat) (L : Array Bool) (m : Nat → Value) (w : World) : Prop :=
  (Dn L s1 = false → TwoA W k0 k1 k2 a1 a2 t1 t2 Z1 Z2 R0 R1 R2 L m w) ∧
  (Dn L s1 = true → Dn L s2 = false → ∃ g1 g2 c1, m k1 = .agg c1 ∧ TwoB W k1 k2 a1 a2 t1 t2 R1 R2 c1 Z2 g1 g2 m w) ∧
  (Dn L s2 = true → ∃ g1 g2 c1 c2, m k1 = .agg c1 ∧ m k2 = .agg c2 ∧ TwoB W k1 k2 a1 a2 t1 t2 R1 R2 c1 c2 g1 g2 m w)
end
section
variable {W : World} {k0 k1 k2 a1 a2 s1 s2 : Nat} {t1 t2 : TypeId} {Z1 Z2 : Array Value} {R0 R1 R2 : Value → (Nat → Prop) → World → Prop} {L : Array Bool} {m : Nat → Value} {w w' : World}
theorem TwoA.mono (h : TwoA W k0 k1 k2 a1 a2 t1 t2 Z1 Z2 R0 R1 R2 L m w) (H0 : Res R0) (H1 : Res R1) (H2 : Res R2) (q : Below w.heap.size w w') : TwoA W k0 k1 k2 a1 a2 t1 t2 Z1 Z2 R0 R1 R2 L m w' :=
  ⟨bl_ca h.bel q, fun e => by obtain ⟨g, x, y, z⟩ := h.v1 e; exact ⟨g, x, y, z.ca q⟩, h.n1, fun e => by obtain ⟨g, x, y, z⟩ := h.v2 e; exact ⟨g, x, y, z.ca q⟩, h.n2, h.ne,
    fun e => H0.keep (fun b _ hb => q.block b hb) (h.r0 e), fun e => H1.keep (fun b _ hb => q.block b hb) (h.r1 e), fun e => H2.keep (fun b _ hb => q.block b hb) (h.r2 e)⟩
theorem TwoA.set (h : TwoA W k0 k1 k2 a1 a2 t1 t2 Z1 Z2 R0 R1 R2 L m w) {i : Nat} (hi : i ≠ k0 ∧ i ≠ k1 ∧ i ≠ k2 ∧ i ≠ a1 ∧ i ≠ a2) : TwoA W k0 k1 k2 a1 a2 t1 t2 Z1 Z2 R0 R1 R2 (L.setIfInBounds i true) m w := by
  obtain ⟨x0, x1, x2, y1, y2⟩ := hi
  have d : ∀ j, i ≠ j → Dn (L.setIfInBounds i true) j = Dn L j := fun j hj => dn_ne (Ne.symm hj)
  exact ⟨h.bel, fun e => h.v1 (d _ y1 ▸ e), fun e => h.n1 (d _ y1 ▸ e), fun e => h.v2 (d _ y2 ▸ e), fun e => h.n2 (d _ y2 ▸ e), fun e f => h.ne (d _ y1 ▸ e) (d _ y2 ▸ f), fun e => h.r0 (d _ x0 ▸ e), fun e => h.r1 (d _ x1 ▸ e), fun e => h.r2 (d _ x2 ▸ e)⟩
theorem TwoS.start {n : Nat} (hl : (decide (k1 < n) && decide (k2 < n) && decide (a1 < n) && decide (a2 < n) && decide (s1 < n) && decide (s2 < n)) = true) (h0 : k0 < n ∨ R0 = NoRes) : TwoS W k0 k1 k2 a1 a2 t1 t2 Z1 Z2 R0 R1 R2 s1 s2 (Array.replicate n false) (fun _ => undef) W.drew := by
  simp only [Bool.and_eq_true, decide_eq_true_eq] at hl
  obtain ⟨⟨⟨⟨⟨l1, l2⟩, l3⟩, l4⟩, l5⟩, l6⟩ := hl
  have d : ∀ j, j < n → Dn (Array.replicate n false) j = false := fun j hj => by unfold Dn; simp [hj]
  refine ⟨fun _ => ⟨(Below.refl _ _).drew, fun e => ?_, fun _ => rfl, fun e => ?_, fun _ => rfl, fun e => ?_, fun e => ?_, fun e => ?_, fun e => ?_⟩, fun e => ?_, fun e => ?_⟩
  · rw [d _ l3] at e; cases e
  · rw [d _ l4] at e; cases e
  · rw [d _ l3] at e; cases e
  · rcases h0 with h0 | h0
    · rw [d _ h0] at e; cases e
    · rw [h0]; trivial
  · rw [d _ l1] at e; cases e
  · rw [d _ l2] at e; cases e
  · rw [d _ l5] at e; cases e
  · rw [d _ l6] at e; cases e
theorem TwoS.pass {i : Nat} (h : (i != k0 && i != k1 && i != k2 && i != a1 && i != a2 && i != s1 && i != s2) = true) : Pass (TwoS W k0 k1 k2 a1 a2 t1 t2 Z1 Z2 R0 R1 R2 s1 s2) i := fun L m w hS => by
  simp only [Bool.and_eq_true, bne_iff_ne] at h
  obtain ⟨⟨⟨⟨⟨⟨x0, x1⟩, x2⟩, y1⟩, y2⟩, z1⟩, z2⟩ := h
  unfold TwoS at *
  rw [dn_ne (Ne.symm z1), dn_ne (Ne.symm z2)]
  exact ⟨fun e => (hS.1 e).set ⟨x0, x1, x2, y1, y2⟩, hS.2⟩
theorem TwoS.any (hS : TwoS W k0 k1 k2 a1 a2 t1 t2 Z1 Z2 R0 R1 R2 s1 s2 L m w) : Below W.heap.size W w := by
  cases h1 : Dn L s1
  · exact (hS.1 h1).bel
  · cases h2 : Dn L s2
    · obtain ⟨_, _, _, _, h⟩ := hS.2.1 h1 h2; exact h.bel
    · obtain ⟨_, _, _, _, _, _, h⟩ := hS.2.2 h2; exact h.bel
theorem TwoS.at0 (hS : TwoS W k0 k1 k2 a1 a2 t1 t2 Z1 Z2 R0 R1 R2 s1 s2 L m w) (h1 : Dn L s1 = false) : TwoA W k0 k1 k2 a1 a2 t1 t2 Z1 Z2 R0 R1 R2 L m w := hS.1 h1
/-- a variable is made: the first -/
theorem TwoS.make1 (hS : TwoS W k0 k1 k2 a1 a2 t1 t2 Z1 Z2 R0 R1 R2 s1 s2 L m w) (H0 : Res R0) (H1 : Res R1) (H2 : Res R2) (hs : Dn L s1 = false) (hs2 : Dn L s2 = false) (hn : (a1 != k0 && a1 != k1 && a1 != k2 && a1 != a2 && a1 != s1 && a1 != s2) = true) :
    TwoS W k0 k1 k2 a1 a2 t1 t2 Z1 Z2 R0 R1 R2 s1 s2 (L.setIfInBounds a1 true) (upd m a1 (pt w.heap.size)) (w.alloc (.cells Z1 t1)) := by
  simp only [Bool.and_eq_true, bne_iff_ne] at hn
  obtain ⟨⟨⟨⟨⟨x0, x1⟩, x2⟩, y2⟩, z1⟩, z2⟩ := hn
  have h := hS.1 hs
  have q := bl_al (Below.refl w.heap.size w) (.cells Z1 t1)
  have hav : ∀ b, Av a1 a2 m b → b < w.heap.size → Av a1 a2 (upd m a1 (pt w.heap.size)) b := fun b hb hl => ⟨by rw [upd_same]; intro e; have := pt_inj e; omega, by rw [upd_ne (Ne.symm y2)]; exact hb.2⟩
  refine ⟨fun _ => ⟨bl_ca h.bel q, fun _ => ⟨_, upd_same _ _ _, h.bel.size, Blk.new _ _ _⟩, fun e => ?_, fun e => ?_, fun e => ?_, fun _ e => ?_, fun e => ?_, fun e => ?_, fun e => ?_⟩, fun e => ?_, fun e => ?_⟩
  · rw [dn_eq] at e; cases e
  · rw [dn_ne (Ne.symm y2)] at e
    obtain ⟨g, x, y, z⟩ := h.v2 e
    exact ⟨g, by rw [upd_ne (Ne.symm y2)]; exact x, y, z.ca q⟩
  · rw [dn_ne (Ne.symm y2)] at e; rw [upd_ne (Ne.symm y2)]; exact h.n2 e
  · rw [dn_ne (Ne.symm y2)] at e
    obtain ⟨g, x, _, z⟩ := h.v2 e
    rw [upd_same, upd_ne (Ne.symm y2), x]
    intro e'
    have := pt_inj e'
    have := z.lt
    omega
  · rw [dn_ne (Ne.symm x0)] at e; rw [upd_ne (Ne.symm x0)]; exact H0.keep (fun b _ hb => q.block b hb) (H0.weak hav (h.r0 e))
  · rw [dn_ne (Ne.symm x1)] at e; rw [upd_ne (Ne.symm x1)]; exact H1.keep (fun b _ hb => q.block b hb) (H1.weak hav (h.r1 e))
  · rw [dn_ne (Ne.symm x2)] at e; rw [upd_ne (Ne.symm x2)]; exact H2.keep (fun b _ hb => q.block b hb) (H2.weak hav (h.r2 e))
  · rw [dn_ne (Ne.symm z1), hs] at e; cases e
  · rw [dn_ne (Ne.symm z2), hs2] at e; cases e
/-- a variable is made: the second -/
theorem TwoS.make2 (hS : TwoS W k0 k1 k2 a1 a2 t1 t2 Z1 Z2 R0 R1 R2 s1 s2 L m w) (H0 : Res R0) (H1 : Res R1) (H2 : Res R2) (hs : Dn L s1 = false) (hs2 : Dn L s2 = false) (hn : (a2 != k0 && a2 != k1 && a2 != k2 && a2 != a1 && a2 != s1 && a2 != s2) = true) :
    TwoS W k0 k1 k2 a1 a2 t1 t2 Z1 Z2 R0 R1 R2 s1 s2 (L.setIfInBounds a2 true) (upd m a2 (pt w.heap.size)) (w.alloc (.cells Z2 t2)) := by
  simp only [Bool.and_eq_true, bne_iff_ne] at hn
  obtain ⟨⟨⟨⟨⟨x0, x1⟩, x2⟩, y2⟩, z1⟩, z2⟩ := hn
  have h := hS.1 hs
  have q := bl_al (Below.refl w.heap.size w) (.cells Z2 t2)
  have hav : ∀ b, Av a1 a2 m b → b < w.heap.size → Av a1 a2 (upd m a2 (pt w.heap.size)) b := fun b hb hl => ⟨by rw [upd_ne (Ne.symm y2)]; exact hb.1, by rw [upd_same]; intro e; have := pt_inj e; omega⟩
  refine ⟨fun _ => ⟨bl_ca h.bel q, fun e => ?_, fun e => ?_, fun _ => ⟨_, upd_same _ _ _, h.bel.size, Blk.new _ _ _⟩, fun e => ?_, fun e _ => ?_, fun e => ?_, fun e => ?_, fun e => ?_⟩, fun e => ?_, fun e => ?_⟩
  · rw [dn_ne (Ne.symm y2)] at e
    obtain ⟨g, x, y, z⟩ := h.v1 e
    exact ⟨g, by rw [upd_ne (Ne.symm y2)]; exact x, y, z.ca q⟩
  · rw [dn_ne (Ne.symm y2)] at e; rw [upd_ne (Ne.symm y2)]; exact h.n1 e
  · rw [dn_eq] at e; cases e
  · rw [dn_ne (Ne.symm y2)] at e
    obtain ⟨g, x, _, z⟩ := h.v1 e
    rw [upd_same, upd_ne (Ne.symm y2), x]
    intro e'
    have := pt_inj e'
    have := z.lt
    omega
  · rw [dn_ne (Ne.symm x0)] at e; rw [upd_ne (Ne.symm x0)]; exact H0.keep (fun b _ hb => q.block b hb) (H0.weak hav (h.r0 e))
  · rw [dn_ne (Ne.symm x1)] at e; rw [upd_ne (Ne.symm x1)]; exact H1.keep (fun b _ hb => q.block b hb) (H1.weak hav (h.r1 e))
  · rw [dn_ne (Ne.symm x2)] at e; rw [upd_ne (Ne.symm x2)]; exact H2.keep (fun b _ hb => q.block b hb) (H2.weak hav (h.r2 e))
  · rw [dn_ne (Ne.symm z1), hs] at e; cases e
  · rw [dn_ne (Ne.symm z2), hs2] at e; cases e
/-- what a call answers leads to no variable that was made before it: an answer in new memory, or in memory that was there -/
theorem TwoA.avoid (h : TwoA W k0 k1 k2 a1 a2 t1 t2 Z1 Z2 R0 R1 R2 L m w) {b : Nat} (hb : b < W.heap.size ∨ w.heap.size ≤ b) : Av a1 a2 m b := by
  constructor
  · cases e : Dn L a1
    · rw [h.n1 e]; exact undef_pt b
    · obtain ⟨g, x, y, z⟩ := h.v1 e
      rw [x]
      intro e'
      have := pt_inj e'
      have := z.lt
      omega
  · cases e : Dn L a2
    · rw [h.n2 e]; exact undef_pt b
    · obtain ⟨g, x, y, z⟩ := h.v2 e
      rw [x]
      intro e'
      have := pt_inj e'
      have := z.lt
      omega
/-- a call has answered -/
theorem TwoS.call {v : Value} {i : Nat} (hS : TwoS W k0 k1 k2 a1 a2 t1 t2 Z1 Z2 R0 R1 R2 s1 s2 L m w) (H0 : Res R0) (H1 : Res R1) (H2 : Res R2) (hs : Dn L s1 = false) (hs2 : Dn L s2 = false) (hn : (i != a1 && i != a2 && i != s1 && i != s2) = true) (q : Below w.heap.size w w')
    (c0 : i = k0 → R0 v (Av a1 a2 m) w') (c1 : i = k1 → R1 v (Av a1 a2 m) w') (c2 : i = k2 → R2 v (Av a1 a2 m) w') : TwoS W k0 k1 k2 a1 a2 t1 t2 Z1 Z2 R0 R1 R2 s1 s2 (L.setIfInBounds i true) (upd m i v) w' := by
  simp only [Bool.and_eq_true, bne_iff_ne] at hn
  obtain ⟨⟨⟨y1, y2⟩, z1⟩, z2⟩ := hn
  have h := (hS.1 hs).mono H0 H1 H2 q
  have hav : ∀ b, Av a1 a2 m b → Av a1 a2 (upd m i v) b := fun b hb => ⟨by rw [upd_ne (Ne.symm y1)]; exact hb.1, by rw [upd_ne (Ne.symm y2)]; exact hb.2⟩
  have key : ∀ {R : Value → (Nat → Prop) → World → Prop} {k : Nat}, Res R → (Dn L k = true → R (m k) (Av a1 a2 m) w') → (i = k → R v (Av a1 a2 m) w') → Dn (L.setIfInBounds i true) k = true → R (upd m i v k) (Av a1 a2 (upd m i v)) w' := fun {R k} hR h1 h2 e => by
    by_cases ik : i = k
    · subst ik; rw [upd_same]; exact hR.weak (fun b hb _ => hav b hb) (h2 rfl)
    · rw [dn_ne (Ne.symm ik)] at e; rw [upd_ne (Ne.symm ik)]; exact hR.weak (fun b hb _ => hav b hb) (h1 e)
  refine ⟨fun _ => ⟨h.bel, fun e => ?_, fun e => ?_, fun e => ?_, fun e => ?_, fun e f => ?_, key H0 h.r0 c0, key H1 h.r1 c1, key H2 h.r2 c2⟩, fun e => ?_, fun e => ?_⟩
  · rw [dn_ne (Ne.symm y1)] at e; rw [upd_ne (Ne.symm y1)]; exact h.v1 e
  · rw [dn_ne (Ne.symm y1)] at e; rw [upd_ne (Ne.symm y1)]; exact h.n1 e
  · rw [dn_ne (Ne.symm y2)] at e; rw [upd_ne (Ne.symm y2)]; exact h.v2 e
  · rw [dn_ne (Ne.symm y2)] at e; rw [upd_ne (Ne.symm y2)]; exact h.n2 e
  · rw [dn_ne (Ne.symm y1)] at e; rw [dn_ne (Ne.symm y2)] at f; rw [upd_ne (Ne.symm y1), upd_ne (Ne.symm y2)]; exact h.ne e f
  · rw [dn_ne (Ne.symm z1), hs] at e; cases e
  · rw [dn_ne (Ne.symm z2), hs2] at e; cases e
/-- all is ready for the first store -/
theorem TwoS.ready1 (hS : TwoS W k0 k1 k2 a1 a2 t1 t2 Z1 Z2 R0 R1 R2 s1 s2 L m w) (hs : Dn L s1 = false) (d1 : Dn L a1 = true) (d2 : Dn L a2 = true) (e1 : Dn L k1 = true) (e2 : Dn L k2 = true) : ∃ g1 g2, TwoB W k1 k2 a1 a2 t1 t2 R1 R2 Z1 Z2 g1 g2 m w := by
  have h := hS.1 hs
  obtain ⟨g1, x1, y1, b1⟩ := h.v1 d1
  obtain ⟨g2, x2, y2, b2⟩ := h.v2 d2
  exact ⟨g1, g2, x1, x2, fun e => h.ne d1 d2 (by rw [x1, x2, e]), y1, y2, b1, b2, h.bel, h.r1 e1, h.r2 e2⟩
theorem TwoB.store1 {z1 z2 c : Array Value} {g1 g2 : Nat} (h : TwoB W k1 k2 a1 a2 t1 t2 R1 R2 z1 z2 g1 g2 m w) (H1 : Res R1) (H2 : Res R2) (hb : Blk w' g1 t1 c) (hg : w.grownBy w' (some g1)) : TwoB W k1 k2 a1 a2 t1 t2 R1 R2 c z2 g1 g2 m w' :=
  ⟨h.e1, h.e2, h.ne, h.l1, h.l2, hb, h.b2.apart hg (fun e => h.ne e.symm), bl_gr h.bel hg h.l1,
    H1.keep (fun b hb hl => hg.block b hl (fun e => hb.1 (by rw [h.e1]; injection e with e; rw [e]))) h.r1, H2.keep (fun b hb hl => hg.block b hl (fun e => hb.1 (by rw [h.e1]; injection e with e; rw [e]))) h.r2⟩
theorem TwoB.store2 {z1 z2 c : Array Value} {g1 g2 : Nat} (h : TwoB W k1 k2 a1 a2 t1 t2 R1 R2 z1 z2 g1 g2 m w) (H1 : Res R1) (H2 : Res R2) (hb : Blk w' g2 t2 c) (hg : w.grownBy w' (some g2)) : TwoB W k1 k2 a1 a2 t1 t2 R1 R2 z1 c g1 g2 m w' :=
  ⟨h.e1, h.e2, h.ne, h.l1, h.l2, h.b1.apart hg h.ne, hb, bl_gr h.bel hg h.l2,
    H1.keep (fun b hb hl => hg.block b hl (fun e => hb.2 (by rw [h.e2]; injection e with e; rw [e]))) h.r1, H2.keep (fun b hb hl => hg.block b hl (fun e => hb.2 (by rw [h.e2]; injection e with e; rw [e]))) h.r2⟩
theorem TwoS.set1 {c1 : Array Value} {g1 g2 : Nat} (hs2 : Dn L s2 = false) (hne : s2 ≠ s1) (hk : m k1 = .agg c1) (h : TwoB W k1 k2 a1 a2 t1 t2 R1 R2 c1 Z2 g1 g2 m w) : TwoS W k0 k1 k2 a1 a2 t1 t2 Z1 Z2 R0 R1 R2 s1 s2 (L.setIfInBounds s1 true) m w :=
  ⟨fun e => (by rw [dn_eq] at e; cases e), fun _ _ => ⟨g1, g2, c1, hk, h⟩, fun e => (by rw [dn_ne hne, hs2] at e; cases e)⟩
theorem TwoS.at1 (hS : TwoS W k0 k1 k2 a1 a2 t1 t2 Z1 Z2 R0 R1 R2 s1 s2 L m w) (h1 : Dn L s1 = true) (h2 : Dn L s2 = false) : ∃ g1 g2 c1, m k1 = .agg c1 ∧ TwoB W k1 k2 a1 a2 t1 t2 R1 R2 c1 Z2 g1 g2 m w := hS.2.1 h1 h2
theorem TwoS.set2 {c1 c2 : Array Value} {g1 g2 : Nat} (hne : s1 ≠ s2) (h1 : Dn L s1 = true) (hk : m k1 = .agg c1) (hk2 : m k2 = .agg c2) (h : TwoB W k1 k2 a1 a2 t1 t2 R1 R2 c1 c2 g1 g2 m w) : TwoS W k0 k1 k2 a1 a2 t1 t2 Z1 Z2 R0 R1 R2 s1 s2 (L.setIfInBounds s2 true) m w :=
  ⟨fun e => (by rw [dn_ne hne, h1] at e; cases e), fun _ e => (by rw [dn_eq] at e; cases e), fun _ => ⟨g1, g2, c1, c2, hk, hk2, h⟩⟩
theorem TwoS.fin (hS : TwoS W k0 k1 k2 a1 a2 t1 t2 Z1 Z2 R0 R1 R2 s1 s2 L m w) (h2 : Dn L s2 = true) : ∃ g1 g2 c1 c2, m k1 = .agg c1 ∧ m k2 = .agg c2 ∧ TwoB W k1 k2 a1 a2 t1 t2 R1 R2 c1 c2 g1 g2 m w := hS.2.2 h2
end
end Go.Proofs.Ytojghgbaiiajfaa
/- Senders, receivers and packets as data in memory. Conditions: none. -/
namespace Go.Proofs.Ytojghgbaiiajfaa
open Go.RowKit
def SC.rng (s : SC) : Prop := 0 ≤ s.base ∧ 0 ≤ s.sent ∧ 0 ≤ s.lim ∧ s.lim ≤ 18446744073709551615 ∧ s.base ≤ 18446744073709551615
def RC.rng (r : RC) : Prop := 0 ≤ r.next ∧ r.next ≤ 18446744073709551615
def PK.rng (p : PK) : Prop := 0 ≤ p.seq ∧ p.seq ≤ 18446744073709551615 ∧ 0 ≤ p.lim ∧ p.lim ≤ 18446744073709551615
def LSN : Lay SC where
  size := 7
  rep := fun w F s cs => ∃ A n c, cs = [.int .u32 s.ses, .int .u64 s.base, .slice A n c, .int .u64 s.sent, .int .u64 s.lim, .int .i64 s.timer, .bool s.ended] ∧ n ≤ c ∧ c ≤ 9223372036854775807 ∧ LB3.rd w F A n s.q
  len := fun h => by obtain ⟨A, n, c, rfl, _⟩ := h; rfl
  one := fun h u hu => by obtain ⟨A, n, c, rfl, _⟩ := h; simp at hu; rcases hu with rfl | rfl | rfl | rfl | rfl | rfl | rfl <;> rfl
  keep := fun hk h => by obtain ⟨A, n, c, e, h1, h2, hr⟩ := h; exact ⟨A, n, c, e, h1, h2, Lay.rd_keep hk hr⟩
  weak := fun hk h => by obtain ⟨A, n, c, e, h1, h2, hr⟩ := h; exact ⟨A, n, c, e, h1, h2, Lay.rd_weak hk hr⟩
def LRV : Lay RC where
  size := 6
  rep := fun w F s cs => ∃ A n c B m d, cs = [.int .u32 s.ses, .int .u64 s.next, .slice A n c, .slice B m d, .int .i64 s.room, .bool s.over] ∧ n ≤ c ∧ c ≤ 9223372036854775807 ∧ m ≤ d ∧ d ≤ 9223372036854775807 ∧ LH4.rd w F A n s.ahead ∧ LB3.rd w F B m s.buf
  len := fun h => by obtain ⟨A, n, c, B, m, d, rfl, _⟩ := h; rfl
  one := fun h u hu => by obtain ⟨A, n, c, B, m, d, rfl, _⟩ := h; simp at hu; rcases hu with rfl | rfl | rfl | rfl | rfl | rfl <;> rfl
  keep := fun hk h => by obtain ⟨A, n, c, B, m, d, e, h1, h2, h3, h4, hr, hr2⟩ := h; exact ⟨A, n, c, B, m, d, e, h1, h2, h3, h4, Lay.rd_keep hk hr, Lay.rd_keep hk hr2⟩
  weak := fun hk h => by obtain ⟨A, n, c, B, m, d, e, h1, h2, h3, h4, hr, hr2⟩ := h; exact ⟨A, n, c, B, m, d, e, h1, h2, h3, h4, Lay.rd_weak hk hr, Lay.rd_weak hk hr2⟩
structure SSP (w : World) (F : Nat → Prop) (p : Addr) (s : SC) (A : Option Addr) (n c : Nat) : Prop where
  c0 : w.cell? p = some (.int .u32 s.ses)
  c1 : w.cell? ⟨p.block, p.off + 1, none⟩ = some (.int .u64 s.base)
  c2 : w.cell? ⟨p.block, p.off + 2, none⟩ = some (.slice A n c)
  c3 : w.cell? ⟨p.block, p.off + 3, none⟩ = some (.int .u64 s.sent)
  c4 : w.cell? ⟨p.block, p.off + 4, none⟩ = some (.int .u64 s.lim)
  c5 : w.cell? ⟨p.block, p.off + 5, none⟩ = some (.int .i64 s.timer)
  c6 : w.cell? ⟨p.block, p.off + 6, none⟩ = some (.bool s.ended)
  nc : n ≤ c
  cm : c ≤ 9223372036854775807
  rd : LB3.rd w F A n s.q
structure SRP (w : World) (F : Nat → Prop) (p : Addr) (s : RC) (A : Option Addr) (n c : Nat) (B : Option Addr) (m d : Nat) : Prop where
  c0 : w.cell? p = some (.int .u32 s.ses)
  c1 : w.cell? ⟨p.block, p.off + 1, none⟩ = some (.int .u64 s.next)
  c2 : w.cell? ⟨p.block, p.off + 2, none⟩ = some (.slice A n c)
  c3 : w.cell? ⟨p.block, p.off + 3, none⟩ = some (.slice B m d)
  c4 : w.cell? ⟨p.block, p.off + 4, none⟩ = some (.int .i64 s.room)
  c5 : w.cell? ⟨p.block, p.off + 5, none⟩ = some (.bool s.over)
  nc : n ≤ c
  cm : c ≤ 9223372036854775807
  nc2 : m ≤ d
  cm2 : d ≤ 9223372036854775807
  rd : LH4.rd w F A n s.ahead
  rd2 : LB3.rd w F B m s.buf
structure SPP (w : World) (F : Nat → Prop) (p : Addr) (s : PK) (A : Option Addr) (n c : Nat) : Prop where
  c0 : w.cell? p = some (.int .i64 s.kind)
  c1 : w.cell? ⟨p.block, p.off + 1, none⟩ = some (.int .u32 s.ses)
  c2 : w.cell? ⟨p.block, p.off + 2, none⟩ = some (.int .u64 s.seq)
  c3 : w.cell? ⟨p.block, p.off + 3, none⟩ = some (.int .u64 s.lim)
  c4 : w.cell? ⟨p.block, p.off + 4, none⟩ = some (.slice A n c)
  c5 : w.cell? ⟨p.block, p.off + 5, none⟩ = some (.bool s.b.fin)
  c6 : w.cell? ⟨p.block, p.off + 6, none⟩ = some (.int .u64 s.b.cnt)
  nc : n ≤ c
  cm : c ≤ 9223372036854775807
  rd : LR.rd w F A n s.b.rows
theorem LSN_at {w : World} {F : Nat → Prop} {A : Option Addr} {n i : Nat} {xs : List SC} (h : LSN.rd w F A n xs) (hi : i < n) : ∃ ad s B k c, A = some ad ∧ xs[i]? = some s ∧ (ad.add (i * 7)).block < w.heap.size ∧ SSP w F (ad.add (i * 7)) s B k c := by
  obtain ⟨ad, s, cs, e, hx, hb, _, ⟨B, k, c, rfl, h1, h2, hr⟩, hc⟩ := Lay.rd_at h hi
  exact ⟨ad, s, B, k, c, e, hx, by rw [block_of_add]; exact hb, ⟨hc 0 _ rfl, (by rw [← addr_more _ _ 1 (by omega)]; exact hc 1 _ rfl), (by rw [← addr_more _ _ 2 (by omega)]; exact hc 2 _ rfl), (by rw [← addr_more _ _ 3 (by omega)]; exact hc 3 _ rfl), (by rw [← addr_more _ _ 4 (by omega)]; exact hc 4 _ rfl), (by rw [← addr_more _ _ 5 (by omega)]; exact hc 5 _ rfl), (by rw [← addr_more _ _ 6 (by omega)]; exact hc 6 _ rfl), h1, h2, hr⟩⟩
theorem LRV_at {w : World} {F : Nat → Prop} {A : Option Addr} {n i : Nat} {xs : List RC} (h : LRV.rd w F A n xs) (hi : i < n) : ∃ ad s B k c B2 k2 c2, A = some ad ∧ xs[i]? = some s ∧ (ad.add (i * 6)).block < w.heap.size ∧ SRP w F (ad.add (i * 6)) s B k c B2 k2 c2 := by
  obtain ⟨ad, s, cs, e, hx, hb, _, ⟨B, k, c, B2, k2, c2, rfl, h1, h2, h3, h4, hr, hr2⟩, hc⟩ := Lay.rd_at h hi
  exact ⟨ad, s, B, k, c, B2, k2, c2, e, hx, by rw [block_of_add]; exact hb, ⟨hc 0 _ rfl, (by rw [← addr_more _ _ 1 (by omega)]; exact hc 1 _ rfl), (by rw [← addr_more _ _ 2 (by omega)]; exact hc 2 _ rfl), (by rw [← addr_more _ _ 3 (by omega)]; exact hc 3 _ rfl), (by rw [← addr_more _ _ 4 (by omega)]; exact hc 4 _ rfl), (by rw [← addr_more _ _ 5 (by omega)]; exact hc 5 _ rfl), h1, h2, h3, h4, hr, hr2⟩⟩
theorem LP7_at {w : World} {F : Nat → Prop} {A : Option Addr} {n i : Nat} {xs : List PK} (h : LP7.rd w F A n xs) (hi : i < n) : ∃ ad s B k c, A = some ad ∧ xs[i]? = some s ∧ (ad.add (i * 7)).block < w.heap.size ∧ SPP w F (ad.add (i * 7)) s B k c := by
  obtain ⟨ad, s, cs, e, hx, hb, _, ⟨B, k, c, rfl, h1, h2, hr⟩, hc⟩ := Lay.rd_at h hi
  exact ⟨ad, s, B, k, c, e, hx, by rw [block_of_add]; exact hb, ⟨hc 0 _ rfl, (by rw [← addr_more _ _ 1 (by omega)]; exact hc 1 _ rfl), (by rw [← addr_more _ _ 2 (by omega)]; exact hc 2 _ rfl), (by rw [← addr_more _ _ 3 (by omega)]; exact hc 3 _ rfl), (by rw [← addr_more _ _ 4 (by omega)]; exact hc 4 _ rfl), (by rw [← addr_more _ _ 5 (by omega)]; exact hc 5 _ rfl), (by rw [← addr_more _ _ 6 (by omega)]; exact hc 6 _ rfl), h1, h2, hr⟩⟩
theorem res_rdS {F : Nat → Prop} {w : World} {s : SC} {A : Option Addr} {m c : Nat} (h : LRes LSN (fun a => a = s) (.agg (s.cells A m c)) F w) : LB3.rd w AllB A m s.q := by
  obtain ⟨a, cs, e, ⟨B, n, d, hcs, _, _, hr⟩, rfl⟩ := h
  injection e with e
  subst e
  simp at hcs
  obtain ⟨rfl, rfl, rfl⟩ := hcs
  exact Lay.rd_weak (fun _ _ _ => trivial) hr
theorem res_capS {F : Nat → Prop} {w : World} {s : SC} {A : Option Addr} {m c : Nat} (h : LRes LSN (fun a => a = s) (.agg (s.cells A m c)) F w) : m ≤ 9223372036854775807 := by
  obtain ⟨a, cs, e, ⟨B, n, d, hcs, h1, h2, hr⟩, rfl⟩ := h
  injection e with e
  subst e
  simp at hcs
  obtain ⟨rfl, rfl, rfl⟩ := hcs
  exact Nat.le_trans h1 h2
theorem res_rdR {F : Nat → Prop} {w : World} {s : RC} {A : Option Addr} {m c : Nat} {B : Option Addr} {k d : Nat} (h : LRes LRV (fun a => a = s) (.agg (s.cells A m c B k d)) F w) : LH4.rd w AllB A m s.ahead ∧ LB3.rd w AllB B k s.buf := by
  obtain ⟨a, cs, e, ⟨A1, m1, c1, B1, k1, d1, hcs, _, _, _, _, hr, hr2⟩, rfl⟩ := h
  injection e with e
  subst e
  simp at hcs
  obtain ⟨⟨rfl, rfl, rfl⟩, rfl, rfl, rfl⟩ := hcs
  exact ⟨Lay.rd_weak (fun _ _ _ => trivial) hr, Lay.rd_weak (fun _ _ _ => trivial) hr2⟩
theorem res_capR {F : Nat → Prop} {w : World} {s : RC} {A : Option Addr} {m c : Nat} {B : Option Addr} {k d : Nat} (h : LRes LRV (fun a => a = s) (.agg (s.cells A m c B k d)) F w) : m ≤ 9223372036854775807 ∧ k ≤ 9223372036854775807 := by
  obtain ⟨a, cs, e, ⟨A1, m1, c1, B1, k1, d1, hcs, h1, h2, h3, h4, hr, hr2⟩, rfl⟩ := h
  injection e with e
  subst e
  simp at hcs
  obtain ⟨⟨rfl, rfl, rfl⟩, rfl, rfl, rfl⟩ := hcs
  exact ⟨Nat.le_trans h1 h2, Nat.le_trans h3 h4⟩
theorem SeqN.move {ks : List Nat} {B : Nat → (Nat → Value) → World → Prop} {L : Array Bool} {m : Nat → Value} {w w' : World} {i : Nat} (h : (ks.all fun k => k != i) = true) (hB : ∀ j m, B j m w → B j m w') (hS : SeqN ks B L m w) : SeqN ks B (L.setIfInBounds i true) m w' := by
  have := SeqN.pass h L m w hS
  exact hB _ _ this
theorem SeqN.after24 {B : Nat → (Nat → Value) → World → Prop} {L : Array Bool} {m : Nat → Value} {w : World} {k : Nat} (hd : Dn L k = true) (hS : SeqN [k] B L m w) : B 1 m w := by
  unfold SeqN cntD cntD at hS
  rw [hd] at hS
  exact hS
end Go.Proofs.Ytojghgbaiiajfaa
/- The program is laid out. Conditions: none. -/
namespace Go.Proofs.Ytojghgbaiiajfaa
open Go.ChangeShapes Go.WideShapes Go.ChangeAt Go.RowKit Go.Deep
theorem Try.own : ownKnob Try.prog.godebug = none := by kernel_rfl
theorem Try.laidOut : laidOutB Try.prog = true := by kernel_rfl
end Go.Proofs.Ytojghgbaiiajfaa
/- slices.IndexFunc and ContainsFunc over values and rows. Conditions: the slice reads as these; what is handed over answers for each and turns no memory that was there. -/
namespace Go.Proofs.Ytojghgbaiiajfaa
open Go.RowKit
/-- what is handed over: a test of a value -/
def TestV (D : FuncId) (cap : Array Value) (f : VV → Bool) (G : World → Prop) : Prop :=
  ∀ (q : VV)  (W : World), G W → Calls Try.prog D (#[.agg #[.int .i64 q.k, .int .i64 q.n, .int .u64 q.u, .string q.s]] ++ cap) W fun e w' => e = .returned (.bool (f q)) ∧ Below W.heap.size W w'
set_option maxRecDepth 100000 in
set_option maxHeartbeats 4000000 in
theorem indexV (F : Nat → Prop) (A : Option Addr) (m c : Nat) (xs : List VV) (D : FuncId) (cap : Array Value) (f : VV → Bool) (w : World) (h : LV.rd w F A m xs) (hm : m ≤ 9223372036854775807)
    (hent : ∀ (args : Array Value) (w : World), (callFunc D args).run Try.prog w = .ok (.enter D args) w) (hD : TestV D cap f (fun W => Below w.heap.size w W)) :
    Calls Try.prog 133 #[.slice A m c, .func (.func D) #[] cap] w fun e w' => e = .returned (.int .i64 (idxL f xs)) ∧ Below w.heap.size w w' := by
  have HL := Lib.hid h.1
  have HEN := hent
  have HD := Lib.hid hD
  clear hent hD
  go_enter Try.func133, Try.ntmps133
  go_wp2_with fail
  go_loopg [8] m (fun g a wr => ∃ i : Nat, i + g = m ∧ a = .int .i64 i ∧ (∀ (k : Nat) (q : VV), k < i → xs[k]? = some q → f q = false) ∧ Below w.heap.size w wr)
  case atStart => exact ⟨0, by omega, rfl, fun k q hk => by omega, Below.refl _ _⟩
  case round =>
    obtain ⟨i, hig, rfl, hlo, bb⟩ := hrel
    have HLO := Lib.hid hlo
    have HBB := Lib.hid bb
    clear hlo
    by_cases hlt : i < m
    · have hi1 : (i : Int) < (m : Int) := by omega
      obtain ⟨p, q, rfl, hx, s1⟩ := LV_at (Lay.rd_below h bb) hlt
      have e0 := s1.c0
      have e1 := s1.c1
      have e2 := s1.c2
      have e3 := s1.c3
      have HX := Lib.hid hx
      have HC := Lib.hid (HD.out q  wr bb )
      clear hx s1 bb
      cases hq : f q
      · rw [hq] at HC
        have HF := Lib.hid (show ∀ (k : Nat) (r : VV), k < i + 1 → xs[k]? = some r → f r = false from fun k r hk hr => by
          rcases Nat.lt_or_ge k i with h1 | h1
          · exact HLO.out k r h1 hr
          · obtain rfl : k = i := by omega
            have h2 := HX.out
            rw [hr] at h2
            injection h2 with h2
            subst h2
            exact hq)
        clear hq
        go_wp2_with fail
        refine HC.out.mono ?_
        rintro e w2 ⟨rfl, q2⟩
        have b2 := bl_ca HBB.out q2
        clear q2
        go_wp2
        go_roundg (gk - 1)
        · exact ⟨i + 1, by omega, by go_num, HF.out, b2⟩
        · omega
      · rw [hq] at HC
        have HF := Lib.hid (idxL_at HX.out hq HLO.out)
        clear hq
        go_wp2_with fail
        refine HC.out.mono ?_
        rintro e w2 ⟨rfl, q2⟩
        have b2 := bl_ca HBB.out q2
        clear q2
        go_wp2
        go_ret
        exact ⟨ret_int (by rw [HF.out]), b2⟩
    · obtain rfl : i = m := by omega
      have hi1 : (i : Int) ≤ (i : Int) := by omega
      have HF := Lib.hid (idxL_no (fun k q hk => HLO.out k q (by rw [← HL.out]; exact hk)))
      clear bb
      go_wp2
      go_ret
      exact ⟨ret_int (by rw [HF.out]), HBB.out⟩
set_option maxRecDepth 100000 in
theorem containsV (F : Nat → Prop) (A : Option Addr) (m c : Nat) (xs : List VV) (D : FuncId) (cap : Array Value) (f : VV → Bool) (w : World) (h : LV.rd w F A m xs) (hm : m ≤ 9223372036854775807)
    (hent : ∀ (args : Array Value) (w : World), (callFunc D args).run Try.prog w = .ok (.enter D args) w) (hD : TestV D cap f (fun W => Below w.heap.size w W)) :
    Calls Try.prog 131 #[.slice A m c, .func (.func D) #[] cap] w fun e w' => e = .returned (.bool (xs.any f)) ∧ Below w.heap.size w w' := by
  have HI := Lib.hid (indexV F A m c xs D cap f w h hm hent hD)
  have HE := Lib.hid (idxL_has f xs)
  clear h hent hD
  generalize idxL f xs = z at *
  go_enter Try.func131, Try.ntmps131
  go_wp2_with fail
  refine HI.out.mono ?_
  rintro e w2 ⟨rfl, q2⟩
  have HQ := Lib.hid q2
  clear q2
  go_wp2
  go_ret
  exact ⟨ret_bool (by rw [← HE.out]), HQ.out⟩
/-- what is handed over: a test of a row -/
def TestR (F0 : Nat → Prop) (D : FuncId) (cap : Array Value) (f : (List VV) → Bool) (G : World → Prop) : Prop :=
  ∀ (q : (List VV)) (B : Option Addr) (k d : Nat) (W : World), G W → LV.rd W F0 B k q → k ≤ 9223372036854775807 → Calls Try.prog D (#[.slice B k d] ++ cap) W fun e w' => e = .returned (.bool (f q)) ∧ Below W.heap.size W w'
set_option maxRecDepth 100000 in
set_option maxHeartbeats 4000000 in
theorem indexR (F : Nat → Prop) (A : Option Addr) (m c : Nat) (xs : List (List VV)) (D : FuncId) (cap : Array Value) (f : (List VV) → Bool) (w : World) (h : LR.rd w F A m xs) (hm : m ≤ 9223372036854775807)
    (hent : ∀ (args : Array Value) (w : World), (callFunc D args).run Try.prog w = .ok (.enter D args) w) (hD : TestR F D cap f (fun W => Below w.heap.size w W)) :
    Calls Try.prog 125 #[.slice A m c, .func (.func D) #[] cap] w fun e w' => e = .returned (.int .i64 (idxL f xs)) ∧ Below w.heap.size w w' := by
  have HL := Lib.hid h.1
  have HEN := hent
  have HD := Lib.hid hD
  clear hent hD
  go_enter Try.func125, Try.ntmps125
  go_wp2_with fail
  go_loopg [8] m (fun g a wr => ∃ i : Nat, i + g = m ∧ a = .int .i64 i ∧ (∀ (k : Nat) (q : (List VV)), k < i → xs[k]? = some q → f q = false) ∧ Below w.heap.size w wr)
  case atStart => exact ⟨0, by omega, rfl, fun k q hk => by omega, Below.refl _ _⟩
  case round =>
    obtain ⟨i, hig, rfl, hlo, bb⟩ := hrel
    have HLO := Lib.hid hlo
    have HBB := Lib.hid bb
    clear hlo
    by_cases hlt : i < m
    · have hi1 : (i : Int) < (m : Int) := by omega
      obtain ⟨p, q, B, k, d, rfl, hx, e0, hk1, hk2, hr⟩ := LR_at (Lay.rd_below h bb) hlt

      have HX := Lib.hid hx
      have HC := Lib.hid (HD.out q B k d wr bb hr (Nat.le_trans hk1 hk2))
      clear hx hr hk1 hk2 bb
      cases hq : f q
      · rw [hq] at HC
        have HF := Lib.hid (show ∀ (k : Nat) (r : (List VV)), k < i + 1 → xs[k]? = some r → f r = false from fun k r hk hr => by
          rcases Nat.lt_or_ge k i with h1 | h1
          · exact HLO.out k r h1 hr
          · obtain rfl : k = i := by omega
            have h2 := HX.out
            rw [hr] at h2
            injection h2 with h2
            subst h2
            exact hq)
        clear hq
        go_wp2_with fail
        refine HC.out.mono ?_
        rintro e w2 ⟨rfl, q2⟩
        have b2 := bl_ca HBB.out q2
        clear q2
        go_wp2
        go_roundg (gk - 1)
        · exact ⟨i + 1, by omega, by go_num, HF.out, b2⟩
        · omega
      · rw [hq] at HC
        have HF := Lib.hid (idxL_at HX.out hq HLO.out)
        clear hq
        go_wp2_with fail
        refine HC.out.mono ?_
        rintro e w2 ⟨rfl, q2⟩
        have b2 := bl_ca HBB.out q2
        clear q2
        go_wp2
        go_ret
        exact ⟨ret_int (by rw [HF.out]), b2⟩
    · obtain rfl : i = m := by omega
      have hi1 : (i : Int) ≤ (i : Int) := by omega
      have HF := Lib.hid (idxL_no (fun k q hk => HLO.out k q (by rw [← HL.out]; exact hk)))
      clear bb
      go_wp2
      go_ret
      exact ⟨ret_int (by rw [HF.out]), HBB.out⟩
set_option maxRecDepth 100000 in
theorem containsR (F : Nat → Prop) (A : Option Addr) (m c : Nat) (xs : List (List VV)) (D : FuncId) (cap : Array Value) (f : (List VV) → Bool) (w : World) (h : LR.rd w F A m xs) (hm : m ≤ 9223372036854775807)
    (hent : ∀ (args : Array Value) (w : World), (callFunc D args).run Try.prog w = .ok (.enter D args) w) (hD : TestR F D cap f (fun W => Below w.heap.size w W)) :
    Calls Try.prog 116 #[.slice A m c, .func (.func D) #[] cap] w fun e w' => e = .returned (.bool (xs.any f)) ∧ Below w.heap.size w w' := by
  have HI := Lib.hid (indexR F A m c xs D cap f w h hm hent hD)
  have HE := Lib.hid (idxL_has f xs)
  clear h hent hD
  generalize idxL f xs = z at *
  go_enter Try.func116, Try.ntmps116
  go_wp2_with fail
  refine HI.out.mono ?_
  rintro e w2 ⟨rfl, q2⟩
  have HQ := Lib.hid q2
  clear q2
  go_wp2
  go_ret
  exact ⟨ret_bool (by rw [← HE.out]), HQ.out⟩
end Go.Proofs.Ytojghgbaiiajfaa
/- Which rows and batches may be: row.Check, link.rows, link.batch, link.inRow, link.ends. Conditions: the slices read so. -/
namespace Go.Proofs.Ytojghgbaiiajfaa
open Go.RowKit
def rowOk (r : List VV) : Bool := decide ((r.length : Int) ≤ 16) && !(r.any fun v => !v.ok)
theorem not_any {α : Type} (f : α → Bool) (l : List α) : (!(l.any fun x => !f x)) = l.all f := by
  induction l with
  | nil => rfl
  | cons x l ih => rw [List.any_cons, List.all_cons, ← ih]; cases f x <;> rfl
set_option maxRecDepth 100000 in
theorem wrong_any (w0 : World) : TestV 129 #[] (fun v => !v.ok) (fun W => Below w0.heap.size w0 W) := by
  intro q W _
  show Calls Try.prog 129 #[.agg #[.int .i64 q.k, .int .i64 q.n, .int .u64 q.u, .string q.s]] W fun e w' => e = .returned (.bool (!q.ok)) ∧ Below W.heap.size W w'
  have b1 := bl_al (Below.refl W.heap.size W) (.cells #[.int .i64 q.k, .int .i64 q.n, .int .u64 q.u, .string q.s] 142)
  have HC := Lib.hid (fun W => check_any q.k q.n q.u q.s W)
  have hok : q.ok = rightB q.k q.n q.u q.s := rfl
  rw [hok]
  clear hok
  generalize rightB q.k q.n q.u q.s = b at *
  cases b
  all_goals
    go_enter Try.func129, Try.ntmps129
    go_wp2_with fail
    refine (HC.out _).mono ?_
    rintro e w1 ⟨rfl, q1⟩
    have HB := Lib.hid (bl_ca b1 q1)
    clear q1
    go_wp2
    go_ret
    exact ⟨rfl, HB.out⟩
set_option maxRecDepth 100000 in
theorem rright_any (F : Nat → Prop) (A : Option Addr) (m c : Nat) (r : List VV) (w : World) (h : LV.rd w F A m r) (hm : m ≤ 9223372036854775807) :
    Calls Try.prog 126 #[.slice A m c] w fun e w' => e = .returned (.bool (rowOk r)) ∧ Below w.heap.size w w' := by
  have HC := Lib.hid (containsV F A m c r 129 #[] (fun v => !v.ok) w h hm (Go.Proofs.enters_of Try.func129 (by kernel_rfl) rfl) (wrong_any w))
  have HR := Lib.hid (show rowOk r = (decide ((m : Int) ≤ 16) && !(r.any fun v => !v.ok)) from by unfold rowOk; rw [Lay.rd_len h])
  clear h
  generalize (r.any fun v => !v.ok) = b at *
  by_cases hl : m ≤ 16
  · have h1 : (m : Int) ≤ 16 := by omega
    rw [show decide ((m : Int) ≤ 16) = true from by simpa using h1] at HR
    go_enter Try.func126, Try.ntmps126
    go_wp2_with fail
    refine HC.out.mono ?_
    rintro e w1 ⟨rfl, q1⟩
    have HB := Lib.hid q1
    clear q1
    go_wp2
    go_ret
    exact ⟨ret_bool (by rw [HR.out]; rfl), HB.out⟩
  · have h1 : (16 : Int) < (m : Int) := by omega
    rw [show decide ((m : Int) ≤ 16) = false from by simp; omega] at HR
    go_enter Try.func126, Try.ntmps126
    go_wp2
    go_ret
    exact ⟨ret_bool (by rw [HR.out]; rfl), Below.refl _ _⟩
set_option maxRecDepth 100000 in
theorem rcheck_any (F : Nat → Prop) (A : Option Addr) (m c : Nat) (r : List VV) (w : World) (h : LV.rd w F A m r) (hm : m ≤ 9223372036854775807) :
    Calls Try.prog 118 #[.slice A m c] w fun e w' => e = .returned (.int .i64 (if rowOk r then 0 else 150)) ∧ Below w.heap.size w w' := by
  have HC := Lib.hid (rright_any F A m c r w h hm)
  clear h
  generalize rowOk r = b at *
  cases b
  all_goals
    go_enter Try.func118, Try.ntmps118
    go_wp2_with fail
    refine HC.out.mono ?_
    rintro e w1 ⟨rfl, q1⟩
    have HB := Lib.hid q1
    clear q1
    go_wp2
    go_ret
    exact ⟨rfl, HB.out⟩
set_option maxRecDepth 100000 in
theorem wrongR_any (F : Nat → Prop) (w0 : World) : TestR F 117 #[] (fun r => !rowOk r) (fun W => Below w0.heap.size w0 W) := by
  intro q B k d W _ hr hk
  show Calls Try.prog 117 #[.slice B k d] W fun e w' => e = .returned (.bool (!rowOk q)) ∧ Below W.heap.size W w'
  have HC := Lib.hid (rcheck_any F B k d q W hr hk)
  clear hr
  generalize rowOk q = b at *
  cases b
  all_goals
    go_enter Try.func117, Try.ntmps117
    go_wp2_with fail
    refine HC.out.mono ?_
    rintro e w1 ⟨rfl, q1⟩
    have HB := Lib.hid q1
    clear q1
    go_wp2
    go_ret
    exact ⟨rfl, HB.out⟩
def rowsOk (l : List (List VV)) : Bool := decide (0 < (l.length : Int)) && decide ((l.length : Int) ≤ 4) && !(l.any fun r => !rowOk r)
set_option maxRecDepth 100000 in
theorem rows_any (F : Nat → Prop) (A : Option Addr) (m c : Nat) (l : List (List VV)) (w : World) (h : LR.rd w F A m l) (hm : m ≤ 9223372036854775807) :
    Calls Try.prog 98 #[.slice A m c] w fun e w' => e = .returned (.bool (rowsOk l)) ∧ Below w.heap.size w w' := by
  have HC := Lib.hid (containsR F A m c l 117 #[] (fun r => !rowOk r) w h hm (Go.Proofs.enters_of Try.func117 (by kernel_rfl) rfl) (wrongR_any F w))
  have HR := Lib.hid (show rowsOk l = (decide (0 < (m : Int)) && decide ((m : Int) ≤ 4) && !(l.any fun r => !rowOk r)) from by unfold rowsOk; rw [Lay.rd_len h])
  clear h
  generalize (l.any fun r => !rowOk r) = b at *
  by_cases h0 : 0 < m
  · have h1 : (0 : Int) < (m : Int) := by omega
    rw [show decide (0 < (m : Int)) = true from by simpa using h0] at HR
    by_cases hl : m ≤ 4
    · have h2 : (m : Int) ≤ 4 := by omega
      rw [show decide ((m : Int) ≤ 4) = true from by simpa using h2] at HR
      go_enter Try.func98, Try.ntmps98
      go_wp2_with fail
      refine HC.out.mono ?_
      rintro e w1 ⟨rfl, q1⟩
      have HB := Lib.hid q1
      clear q1
      go_wp2
      go_ret
      exact ⟨ret_bool (by rw [HR.out]; rfl), HB.out⟩
    · have h2 : (4 : Int) < (m : Int) := by omega
      rw [show decide ((m : Int) ≤ 4) = false from by simp; omega] at HR
      go_enter Try.func98, Try.ntmps98
      go_wp2
      go_ret
      exact ⟨ret_bool (by rw [HR.out]; rfl), Below.refl _ _⟩
  · obtain rfl : m = 0 := by omega
    go_enter Try.func98, Try.ntmps98
    go_wp2
    go_ret
    exact ⟨ret_bool (by rw [HR.out]; rfl), Below.refl _ _⟩
def sesB (n : Int) : Bool := decide (1 ≤ n) && decide (n ≤ 2147483647)
set_option maxRecDepth 100000 in
theorem session_any (n : Int) (w : World) : Calls Try.prog 49 #[.int .u32 n] w fun e w' => e = .returned (.bool (sesB n)) ∧ w = w' := by
  have HR := Lib.hid (show sesB n = (decide (1 ≤ n) && decide (n ≤ 2147483647)) from rfl)
  generalize sesB n = r at *
  go_enter Try.func49, Try.ntmps49
  go_wp2
  all_goals
    go_ret
    exact ⟨ret_bool (by rw [HR.out]; simp [*] <;> omega), rfl⟩
def batchB (b : BC) (seq : Int) : Bool :=
  decide (1 ≤ seq) && decide (seq ≤ 1099511627776) && (if b.fin then decide ((b.rows.length : Int) = 0) && (b.cnt == seq - 1) else (b.cnt == 0) && rowsOk b.rows)
set_option maxRecDepth 100000 in
set_option maxHeartbeats 4000000 in
theorem batch_any (F : Nat → Prop) (b : BC) (A : Option Addr) (n c : Nat) (seq : Int) (w : World) (h : LR.rd w F A n b.rows) (hn : n ≤ 9223372036854775807) :
    Calls Try.prog 71 #[.agg (b.cells A n c), .int .u64 seq] w fun e w' => e = .returned (.bool (batchB b seq)) ∧ Below w.heap.size w w' := by
  have b1 := bl_al (Below.refl w.heap.size w) (.cells (b.cells A n c) 45)
  have HL := Lib.hid (Lay.rd_len h)
  have HRW := Lib.hid (rows_any F A n c b.rows _ (Lay.rd_below h b1) hn)
  have HB := Lib.hid b1
  have HR := Lib.hid (show batchB b seq = _ from rfl)
  clear h b1
  by_cases h1 : 1 ≤ seq
  · by_cases h2 : seq ≤ 1099511627776
    · have d1 : decide (seq < 1) = false := by simp; omega
      have d2 : decide ((1099511627776 : Int) < seq) = false := by simp; omega
      unfold batchB at HR ⊢
      obtain ⟨rows, fin, cnt⟩ := b
      dsimp only at *
      rw [show decide (1 ≤ seq) = true from by simpa using h1, show decide (seq ≤ 1099511627776) = true from by simpa using h2]
      rw [HL.out]
      clear HR
      cases fin
      · generalize rowsOk rows = ok at *
        clear h1 h2
        by_cases hc : cnt = 0
        · subst hc
          go_enter Try.func71, Try.ntmps71
          go_wp2_with fail
          refine HRW.out.mono ?_
          rintro e w2 ⟨rfl, q2⟩
          have HB2 := Lib.hid (bl_ca HB.out q2)
          clear q2
          go_wp2
          go_ret
          exact ⟨ret_bool (by simp), HB2.out⟩
        · have d3 : (cnt == 0) = false := by simpa using hc
          clear hc
          go_enter Try.func71, Try.ntmps71
          go_wp2
          go_ret
          exact ⟨ret_bool rfl, HB.out⟩
      · rcases Nat.eq_zero_or_pos n with h0 | h0
        · subst h0
          have hsq : IntKind.u64.wrap (seq - 1) = seq - 1 := by simp [IntKind.wrap, IntKind.signed, IntKind.bits]; omega
          generalize hz : seq - 1 = z at *
          go_enter Try.func71, Try.ntmps71
          go_wp2
          go_ret
          exact ⟨ret_bool (by simp), HB.out⟩
        · have d3 : ((n : Int) == 0) = false := by simp; omega
          clear h1 h2
          go_enter Try.func71, Try.ntmps71
          go_wp2
          go_ret
          exact ⟨ret_bool (by simp; omega), HB.out⟩
    · have d1 : decide (seq < 1) = false := by simp; omega
      have d2 : decide ((1099511627776 : Int) < seq) = true := by simp; omega
      have HF := Lib.hid (show batchB b seq = false from by unfold batchB; rw [show decide (seq ≤ 1099511627776) = false from by simpa using h2]; simp)
      clear HR h1 h2
      go_enter Try.func71, Try.ntmps71
      go_wp2
      go_ret
      exact ⟨ret_bool HF.out.symm, HB.out⟩
  · have d1 : decide (seq < 1) = true := by simp; omega
    have HF := Lib.hid (show batchB b seq = false from by unfold batchB; rw [show decide (1 ≤ seq) = false from by simpa using h1]; simp)
    clear HR h1
    go_enter Try.func71, Try.ntmps71
    go_wp2
    go_ret
    exact ⟨ret_bool HF.out.symm, HB.out⟩
end Go.Proofs.Ytojghgbaiiajfaa
/- When rows and batches are one: slices.Equal, row.Same, link.same. Conditions: the slices read so. -/
namespace Go.Proofs.Ytojghgbaiiajfaa
open Go.RowKit
/-- are two values one? -/
def eqVV (v u : VV) : Bool := v.k == u.k && (v.n == u.n && (v.u == u.u && v.s.toList == u.s.toList))
theorem eqVV_iff (v u : VV) : eqVV v u = true ↔ v = u := by
  rcases v with ⟨k, n, x, ⟨⟨s⟩⟩⟩
  rcases u with ⟨k', n', x', ⟨⟨s'⟩⟩⟩
  simp [eqVV, ByteArray.toList_eq]
theorem run_eqVV (v u : VV) : ∀ W, (Op.equalIn 10000 142 (.agg #[.int .i64 v.k, .int .i64 v.n, .int .u64 v.u, .string v.s]) (.agg #[.int .i64 u.k, .int .i64 u.n, .int .u64 u.u, .string u.s])).run Try.prog W = .ok (eqVV v u) W := by
  intro W
  unfold eqVV
  rw [run_equalIn_agg W 9999 _ _ _ (by kernel_rfl) (by kernel_rfl)]
  go_simp
  by_cases h1 : v.k = u.k <;> by_cases h2 : v.n = u.n <;> by_cases h3 : v.u = u.u <;> by_cases h4 : v.s.toList = u.s.toList <;> simp [h1, h2, h3, h4]
instance : DecidableEq VV := fun a b => decidable_of_iff (eqVV a b = true) (eqVV_iff a b)
set_option maxRecDepth 100000 in
set_option maxHeartbeats 8000000 in
theorem equalV (F G : Nat → Prop) (A B : Option Addr) (m c n d : Nat) (xs ys : List VV) (w : World) (hx : LV.rd w F A m xs) (hy : LV.rd w G B n ys) (hm : m ≤ 9223372036854775807) :
    Calls Try.prog 124 #[.slice A m c, .slice B n d] w fun e w' => e = .returned (.bool (decide (xs = ys))) ∧ Below w.heap.size w w' := by
  have hxl := Lay.rd_len hx
  have hyl := Lay.rd_len hy
  by_cases hmn : m = n
  · subst hmn
    obtain ⟨r, hr⟩ : ∃ r, r = decide (xs = ys) := ⟨_, rfl⟩
    rw [← hr]
    have HR := Lib.hid hr
    have HXL := Lib.hid hxl
    have HYL := Lib.hid hyl
    skip
    clear hr hxl hyl
    go_enter Try.func124, Try.ntmps124
    go_wp2_with fail
    go_loopg [13] m (fun g s wr => ∃ i : Nat, i + g ≤ m ∧ m ≤ i + g ∧ s = .int .i64 i ∧ xs.take i = ys.take i ∧ Below w.heap.size w wr)
    case atStart => exact ⟨0, by omega, by omega, rfl, rfl, Below.refl _ _⟩
    case round =>
      obtain ⟨i, hi1, hi2, rfl, hp, bb⟩ := hrel
      have HBB := Lib.hid bb
      have HP := Lib.hid hp
      clear hp
      by_cases hi : i < m
      · have hil : (i : Int) < (m : Int) := by omega
        obtain ⟨p1, v, rfl, hv, s1⟩ := LV_at (Lay.rd_below hx bb) hi
        obtain ⟨p2, u, rfl, hu, s2⟩ := LV_at (Lay.rd_below hy bb) hi
        have e0 := s1.c0
        have e1 := s1.c1
        have e2 := s1.c2
        have e3 := s1.c3
        have f0 := s2.c0
        have f1 := s2.c1
        have f2 := s2.c2
        have f3 := s2.c3
        clear s1 s2
        have HVI := Lib.hid hv
        have HUI := Lib.hid hu
        clear hv hu hx hy bb
        by_cases hvu : v = u
        · have HP2 := Lib.hid (show xs.take (i + 1) = ys.take (i + 1) from by rw [List.take_add_one, List.take_add_one, HP.out, HVI.out, HUI.out, hvu])
          have HVU := Lib.hid hvu
          clear hvu
          have HQ : ∀ W, (Op.equalIn 10000 142 (.agg #[.int .i64 v.k, .int .i64 v.n, .int .u64 v.u, .string v.s]) (.agg #[.int .i64 u.k, .int .i64 u.n, .int .u64 u.u, .string u.s])).run Try.prog W = .ok true W := fun W => by rw [run_eqVV, show eqVV v u = true from (eqVV_iff v u).2 HVU.out]
          go_wp2_with fail
          go_quiet (fail)
          go_wp2
          go_roundg (gk - 1)
          · exact ⟨i + 1, by omega, by omega, by go_num, HP2.out, bl_dr HBB.out _⟩
          · omega
        · have HF := Lib.hid (show r = false from by
            rw [HR.out]
            refine decide_eq_false fun e => hvu ?_
            have h1 := HVI.out
            rw [e, HUI.out] at h1
            injection h1 with h1
            exact h1.symm)
          have HVU := Lib.hid hvu
          clear hvu
          have HQ : ∀ W, (Op.equalIn 10000 142 (.agg #[.int .i64 v.k, .int .i64 v.n, .int .u64 v.u, .string v.s]) (.agg #[.int .i64 u.k, .int .i64 u.n, .int .u64 u.u, .string u.s])).run Try.prog W = .ok false W := fun W => by rw [run_eqVV, show eqVV v u = false from by cases he : eqVV v u; rfl; exact absurd ((eqVV_iff v u).1 he) HVU.out]
          go_wp2_with fail
          go_quiet (fail)
          go_wp2
          go_ret
          exact ⟨ret_bool (by rw [HF.out]), bl_dr HBB.out _⟩
      · obtain rfl : i = m := by omega
        have hil : (i : Int) ≤ (i : Int) := by omega
        have HT := Lib.hid (show r = true from by
          have hp := HP.out
          rw [List.take_of_length_le (by rw [HXL.out]; omega), List.take_of_length_le (by rw [HYL.out]; omega)] at hp
          rw [HR.out]
          exact decide_eq_true hp)
        clear hx hy bb
        go_wp2
        go_ret
        exact ⟨ret_bool (by rw [HT.out]), HBB.out⟩
  · have e : decide (xs = ys) = false := decide_eq_false fun e => hmn (by rw [← hxl, ← hyl, e])
    rw [e]
    clear e hx hy hxl hyl
    go_enter Try.func124, Try.ntmps124
    go_wp2
    go_ret
    exact ⟨rfl, Below.refl _ _⟩
set_option maxRecDepth 100000 in
theorem rowEq_any (F G : Nat → Prop) (A B : Option Addr) (m c n d : Nat) (xs ys : List VV) (w : World) (hx : LV.rd w F A m xs) (hy : LV.rd w G B n ys) (hm : m ≤ 9223372036854775807) :
    Calls Try.prog 115 #[.slice A m c, .slice B n d] w fun e w' => e = .returned (.bool (decide (xs = ys))) ∧ Below w.heap.size w w' := by
  have HE := Lib.hid (equalV F G A B m c n d xs ys w hx hy hm)
  clear hx hy
  generalize decide (xs = ys) = r at *
  go_enter Try.func115, Try.ntmps115
  go_wp2_with fail
  refine HE.out.mono ?_
  rintro e w2 ⟨rfl, q2⟩
  have HQ := Lib.hid q2
  clear q2
  go_wp2
  go_ret
  exact ⟨rfl, HQ.out⟩
set_option maxRecDepth 100000 in
set_option maxHeartbeats 8000000 in
theorem eqfR (F G : Nat → Prop) (A B : Option Addr) (m c n d : Nat) (xs ys : List (List VV)) (w : World) (hx : LR.rd w F A m xs) (hy : LR.rd w G B n ys) (hm : m ≤ 9223372036854775807) :
    Calls Try.prog 114 #[.slice A m c, .slice B n d, .func (.func 115) #[] #[]] w fun e w' => e = .returned (.bool (decide (xs = ys))) ∧ Below w.heap.size w w' := by
  have hxl := Lay.rd_len hx
  have hyl := Lay.rd_len hy
  by_cases hmn : m = n
  · subst hmn
    obtain ⟨r, hr⟩ : ∃ r, r = decide (xs = ys) := ⟨_, rfl⟩
    rw [← hr]
    have HR := Lib.hid hr
    have HXL := Lib.hid hxl
    have HYL := Lib.hid hyl
    have HEN : ∀ (args : Array Value) (w : World), (callFunc 115 args).run Try.prog w = .ok (.enter 115 args) w := Go.Proofs.enters_of Try.func115 (by kernel_rfl) rfl
    clear hr hxl hyl
    go_enter Try.func114, Try.ntmps114
    go_wp2_with fail
    go_loopg [17] m (fun g s wr => ∃ i : Nat, i + g ≤ m ∧ m ≤ i + g ∧ s = .int .i64 i ∧ xs.take i = ys.take i ∧ Below w.heap.size w wr)
    case atStart => exact ⟨0, by omega, by omega, rfl, rfl, Below.refl _ _⟩
    case round =>
      obtain ⟨i, hi1, hi2, rfl, hp, bb⟩ := hrel
      have HBB := Lib.hid bb
      have HP := Lib.hid hp
      clear hp
      by_cases hi : i < m
      · have hil : (i : Int) < (m : Int) := by omega
        obtain ⟨p1, v, B1, k1, c1, rfl, hv, e0, _, hk1, hr1⟩ := LR_at (Lay.rd_below hx bb) hi
        obtain ⟨p2, u, B2, k2, c2, rfl, hu, f0, _, _, hr2⟩ := LR_at (Lay.rd_below hy bb) hi
        have HC := Lib.hid (rowEq_any F G B1 B2 k1 c1 k2 c2 v u wr hr1 hr2 (by omega))
        clear hr1 hr2
        have HVI := Lib.hid hv
        have HUI := Lib.hid hu
        clear hv hu hx hy bb
        by_cases hvu : v = u
        · have HP2 := Lib.hid (show xs.take (i + 1) = ys.take (i + 1) from by rw [List.take_add_one, List.take_add_one, HP.out, HVI.out, HUI.out, hvu])
          have HVU := Lib.hid hvu
          clear hvu
          rw [show decide (v = u) = true from decide_eq_true HVU.out] at HC
          go_wp2_with fail
          refine HC.out.mono ?_
          rintro e w2 ⟨rfl, q2⟩
          have HBN := Lib.hid (bl_ca HBB.out q2)
          clear q2 e0 f0
          go_wp2
          go_roundg (gk - 1)
          · exact ⟨i + 1, by omega, by omega, by go_num, HP2.out, HBN.out⟩
          · omega
        · have HF := Lib.hid (show r = false from by
            rw [HR.out]
            refine decide_eq_false fun e => hvu ?_
            have h1 := HVI.out
            rw [e, HUI.out] at h1
            injection h1 with h1
            exact h1.symm)
          have HVU := Lib.hid hvu
          clear hvu
          rw [show decide (v = u) = false from decide_eq_false HVU.out] at HC
          go_wp2_with fail
          refine HC.out.mono ?_
          rintro e w2 ⟨rfl, q2⟩
          have HBN := Lib.hid (bl_ca HBB.out q2)
          clear q2 e0 f0
          go_wp2
          go_ret
          exact ⟨ret_bool (by rw [HF.out]), HBN.out⟩
      · obtain rfl : i = m := by omega
        have hil : (i : Int) ≤ (i : Int) := by omega
        have HT := Lib.hid (show r = true from by
          have hp := HP.out
          rw [List.take_of_length_le (by rw [HXL.out]; omega), List.take_of_length_le (by rw [HYL.out]; omega)] at hp
          rw [HR.out]
          exact decide_eq_true hp)
        clear hx hy bb
        go_wp2
        go_ret
        exact ⟨ret_bool (by rw [HT.out]), HBB.out⟩
  · have e : decide (xs = ys) = false := decide_eq_false fun e => hmn (by rw [← hxl, ← hyl, e])
    rw [e]
    clear e hx hy hxl hyl
    go_enter Try.func114, Try.ntmps114
    go_wp2
    go_ret
    exact ⟨rfl, Below.refl _ _⟩
set_option maxRecDepth 100000 in
theorem rowSame_any (F G : Nat → Prop) (A B : Option Addr) (m c n d : Nat) (xs ys : List (List VV)) (w : World) (hx : LR.rd w F A m xs) (hy : LR.rd w G B n ys) (hm : m ≤ 9223372036854775807) :
    Calls Try.prog 96 #[.slice A m c, .slice B n d] w fun e w' => e = .returned (.bool (decide (xs = ys))) ∧ Below w.heap.size w w' := by
  have HE := Lib.hid (eqfR F G A B m c n d xs ys w hx hy hm)
  clear hx hy
  generalize decide (xs = ys) = r at *
  go_enter Try.func96, Try.ntmps96
  go_wp2_with fail
  refine HE.out.mono ?_
  rintro e w2 ⟨rfl, q2⟩
  have HQ := Lib.hid q2
  clear q2
  go_wp2
  go_ret
  exact ⟨rfl, HQ.out⟩
/-- are two batches one? -/
def eqBC (a b : BC) : Bool := a.fin == b.fin && (a.cnt == b.cnt && decide (a.rows = b.rows))
theorem eqBC_iff (a b : BC) : eqBC a b = true ↔ a = b := by
  rcases a with ⟨r, f, n⟩
  rcases b with ⟨r', f', n'⟩
  simp [eqBC]
  exact ⟨fun ⟨x, y, z⟩ => ⟨z, x, y⟩, fun ⟨x, y, z⟩ => ⟨y, z, x⟩⟩
instance : DecidableEq BC := fun a b => decidable_of_iff (eqBC a b = true) (eqBC_iff a b)
set_option maxRecDepth 100000 in
set_option maxHeartbeats 4000000 in
theorem lsame_any (F G : Nat → Prop) (a b : BC) (A B : Option Addr) (m c n d : Nat) (w : World) (hx : LR.rd w F A m a.rows) (hy : LR.rd w G B n b.rows) (hm : m ≤ 9223372036854775807) :
    Calls Try.prog 65 #[.agg (a.cells A m c), .agg (b.cells B n d)] w fun e w' => e = .returned (.bool (eqBC a b)) ∧ Below w.heap.size w w' := by
  have b1 := bl_al (bl_al (Below.refl w.heap.size w) (.cells (a.cells A m c) 45)) (.cells (b.cells B n d) 45)
  have HE := Lib.hid (rowSame_any F G A B m c n d a.rows b.rows _ (Lay.rd_below hx b1) (Lay.rd_below hy b1) hm)
  have HB := Lib.hid b1
  have HR := Lib.hid (show eqBC a b = (a.fin == b.fin && (a.cnt == b.cnt && decide (a.rows = b.rows))) from rfl)
  generalize eqBC a b = r at *
  clear hx hy b1
  obtain ⟨ra, fa, na⟩ := a
  obtain ⟨rb, fb, nb⟩ := b
  dsimp only at *
  generalize decide (ra = rb) = z at *
  by_cases hf : fa = fb
  · subst hf
    by_cases hn : na = nb
    · subst hn
      go_enter Try.func65, Try.ntmps65
      go_wp2_with fail
      refine HE.out.mono ?_
      rintro e w2 ⟨rfl, q2⟩
      have HQ := Lib.hid (bl_ca HB.out q2)
      clear q2
      go_wp2
      go_ret
      exact ⟨ret_bool (by rw [HR.out]; simp), HQ.out⟩
    · have d1 : (na == nb) = false := by simpa using hn
      clear hn
      go_enter Try.func65, Try.ntmps65
      go_wp2
      go_ret
      exact ⟨ret_bool (by rw [HR.out, d1]; simp), HB.out⟩
  · have d1 : (fa == fb) = false := by simpa using hf
    clear hf
    go_enter Try.func65, Try.ntmps65
    go_wp2
    go_ret
    exact ⟨ret_bool (by rw [HR.out, d1]; simp), HB.out⟩
end Go.Proofs.Ytojghgbaiiajfaa
