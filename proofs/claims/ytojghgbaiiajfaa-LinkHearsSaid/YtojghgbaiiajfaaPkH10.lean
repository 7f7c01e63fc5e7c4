/- Two variables made and filled by calls in one statement whose order Go leaves open. Conditions: none. -/
import Derived.Test.YtojghgbaiiajfaaPkH9
import Derived.ProofKit
import Derived.OpenShut
import Derived.ShutString
import Derived.ChangeOld
import Derived.Deep.Slices
import Derived.Deep.Fields
import Derived.ChangeSame
import Derived.RangeFuncNested
import Derived.RangeFuncBound
import Derived.RangeFuncCalls
import Derived.RangeFuncLeaves
import Derived.RangeFuncBox
import Derived.Shelf.Abstract
import Derived.Shelf.RegionOpen
import Derived.WalkKit
import Derived.OwnWalkIn
import Derived.TacticsInMore
import Derived.LoopNIn
import Derived.LoopIn
import Derived.Maps.AppendAt
import Derived.Lib.Hide
namespace Go.Proofs.Ytojghgbaiiajfaa
open Go.RowKit
def pt (g : Nat) : Value := .pointer (some ⟨g, 0, none⟩)
theorem pt_inj {a b : Nat} (h : pt a = pt b) : a = b := by
 unfold pt at h
 injection h with h
 injection h with h
 injection h
theorem undef_pt (b : Nat) : undef ≠ pt b := by unfold pt undef; simp
/-- the blocks that are none of the two variables -/
def Av (a1 a2 : Nat) (m : Nat → Value) (b : Nat) : Prop := m a1 ≠ pt b ∧ m a2 ≠ pt b
/-- what a call's answer is: it stays so as long as the blocks that it leads to do -/
structure Res (R : Value → (Nat → Prop) → World → Prop) : Prop where
 keep : ∀ {v F w w'}, (∀ b, F b → b < w.heap.size → w'.heap[b]? = w.heap[b]?) → R v F w → R v F w'
 weak : ∀ {v F G w}, (∀ b, F b → b < w.heap.size → G b) → R v F w → R v G w
def LRes {α : Type} (Ly : Lay α) (P : α → Prop) (v : Value) (F : Nat → Prop) (w : World) : Prop := ∃ a cs, v = .agg cs ∧ Ly.rep w F a cs.toList ∧ P a
theorem LRes.res {α : Type} (Ly : Lay α) (P : α → Prop) : Res (LRes Ly P) :=
 ⟨fun hk ⟨a, cs, e, h, p⟩ => ⟨a, cs, e, Ly.keep hk h, p⟩, fun hk ⟨a, cs, e, h, p⟩ => ⟨a, cs, e, Ly.weak hk h, p⟩⟩
def NoRes (_ : Value) (_ : Nat → Prop) (_ : World) : Prop := True
theorem NoRes.res : Res NoRes := ⟨fun _ h => h, fun _ h => h⟩
section
variable (W : World) (k0 k1 k2 a1 a2 : Nat) (t1 t2 : TypeId) (Z1 Z2 : Array Value) (R0 R1 R2 : Value → (Nat → Prop) → World → Prop)
structure TwoA (L : Array Bool) (m : Nat → Value) (w : World) : Prop where
 bel : Below W.heap.size W w
 v1 : Dn L a1 = true → ∃ g, m a1 = pt g ∧ W.heap.size ≤ g ∧ Blk w g t1 Z1
 n1 : Dn L a1 = false → m a1 = undef
 v2 : Dn L a2 = true → ∃ g, m a2 = pt g ∧ W.heap.size ≤ g ∧ Blk w g t2 Z2
 n2 : Dn L a2 = false → m a2 = undef
 ne : Dn L a1 = true → Dn L a2 = true → m a1 ≠ m a2
 r0 : Dn L k0 = true → R0 (m k0) (Av a1 a2 m) w
 r1 : Dn L k1 = true → R1 (m k1) (Av a1 a2 m) w
 r2 : Dn L k2 = true → R2 (m k2) (Av a1 a2 m) w
structure TwoB (c1 c2 : Array Value) (g1 g2 : Nat) (m : Nat → Value) (w : World) : Prop where
 e1 : m a1 = pt g1
 e2 : m a2 = pt g2
 ne : g1 ≠ g2
 l1 : W.heap.size ≤ g1
 l2 : W.heap.size ≤ g2
 b1 : Blk w g1 t1 c1
 b2 : Blk w g2 t2 c2
 bel : Below W.heap.size W w
 r1 : R1 (m k1) (Av a1 a2 m) w
 r2 : R2 (m k2) (Av a1 a2 m) w
/-- s1, s2: the two stores -/
def TwoS (s1 s2 : Nat) (L : Array Bool) (m : Nat → Value) (w : World) : Prop :=
 (Dn L s1 = false → TwoA W k0 k1 k2 a1 a2 t1 t2 Z1 Z2 R0 R1 R2 L m w) ∧
 (Dn L s1 = true → Dn L s2 = false → ∃ g1 g2 c1, m k1 = .agg c1 ∧ TwoB W k1 k2 a1 a2 t1 t2 R1 R2 c1 Z2 g1 g2 m w) ∧
 (Dn L s2 = true → ∃ g1 g2 c1 c2, m k1 = .agg c1 ∧ m k2 = .agg c2 ∧ TwoB W k1 k2 a1 a2 t1 t2 R1 R2 c1 c2 g1 g2 m w)
end
section
variable {W : World} {k0 k1 k2 a1 a2 s1 s2 : Nat} {t1 t2 : TypeId} {Z1 Z2 : Array Value} {R0 R1 R2 : Value → (Nat → Prop) → World → Prop} {L : Array Bool} {m : Nat → Value} {w w' : World}
theorem TwoA.mono (h : TwoA W k0 k1 k2 a1 a2 t1 t2 Z1 Z2 R0 R1 R2 L m w) (H0 : Res R0) (H1 : Res R1) (H2 : Res R2) (q : Below w.heap.size w w') : TwoA W k0 k1 k2 a1 a2 t1 t2 Z1 Z2 R0 R1 R2 L m w' :=
 ⟨bl_ca h.bel q, fun e => by obtain ⟨g, x, y, z⟩ := h.v1 e; exact ⟨g, x, y, z.ca q⟩, h.n1, fun e => by obtain ⟨g, x, y, z⟩ := h.v2 e; exact ⟨g, x, y, z.ca q⟩, h.n2, h.ne,
  fun e => H0.keep (fun b _ hb => q.block b hb) (h.r0 e), fun e => H1.keep (fun b _ hb => q.block b hb) (h.r1 e), fun e => H2.keep (fun b _ hb => q.block b hb) (h.r2 e)⟩
theorem TwoA.set (h : TwoA W k0 k1 k2 a1 a2 t1 t2 Z1 Z2 R0 R1 R2 L m w) {i : Nat} (hi : i ≠ k0 ∧ i ≠ k1 ∧ i ≠ k2 ∧ i ≠ a1 ∧ i ≠ a2) : TwoA W k0 k1 k2 a1 a2 t1 t2 Z1 Z2 R0 R1 R2 (L.setIfInBounds i true) m w := by
 obtain ⟨x0, x1, x2, y1, y2⟩ := hi
 have d : ∀ j, i ≠ j → Dn (L.setIfInBounds i true) j = Dn L j := fun j hj => dn_ne (Ne.symm hj)
 exact ⟨h.bel, fun e => h.v1 (d _ y1 ▸ e), fun e => h.n1 (d _ y1 ▸ e), fun e => h.v2 (d _ y2 ▸ e), fun e => h.n2 (d _ y2 ▸ e), fun e f => h.ne (d _ y1 ▸ e) (d _ y2 ▸ f), fun e => h.r0 (d _ x0 ▸ e), fun e => h.r1 (d _ x1 ▸ e), fun e => h.r2 (d _ x2 ▸ e)⟩
theorem TwoS.start {n : Nat} (hl : (decide (k1 < n) && decide (k2 < n) && decide (a1 < n) && decide (a2 < n) && decide (s1 < n) && decide (s2 < n)) = true) (h0 : k0 < n ∨ R0 = NoRes) : TwoS W k0 k1 k2 a1 a2 t1 t2 Z1 Z2 R0 R1 R2 s1 s2 (Array.replicate n false) (fun _ => undef) W.drew := by
 simp only [Bool.and_eq_true, decide_eq_true_eq] at hl
 obtain ⟨⟨⟨⟨⟨l1, l2⟩, l3⟩, l4⟩, l5⟩, l6⟩ := hl
 have d : ∀ j, j < n → Dn (Array.replicate n false) j = false := fun j hj => by unfold Dn; simp [hj]
 refine ⟨fun _ => ⟨(Below.refl _ _).drew, fun e => ?_, fun _ => rfl, fun e => ?_, fun _ => rfl, fun e => ?_, fun e => ?_, fun e => ?_, fun e => ?_⟩, fun e => ?_, fun e => ?_⟩
 · rw [d _ l3] at e; cases e
 · rw [d _ l4] at e; cases e
 · rw [d _ l3] at e; cases e
 · rcases h0 with h0 | h0
  · rw [d _ h0] at e; cases e
  · rw [h0]; trivial
 · rw [d _ l1] at e; cases e
 · rw [d _ l2] at e; cases e
 · rw [d _ l5] at e; cases e
 · rw [d _ l6] at e; cases e
theorem TwoS.pass {i : Nat} (h : (i != k0 && i != k1 && i != k2 && i != a1 && i != a2 && i != s1 && i != s2) = true) : Pass (TwoS W k0 k1 k2 a1 a2 t1 t2 Z1 Z2 R0 R1 R2 s1 s2) i := fun L m w hS => by
 simp only [Bool.and_eq_true, bne_iff_ne] at h
 obtain ⟨⟨⟨⟨⟨⟨x0, x1⟩, x2⟩, y1⟩, y2⟩, z1⟩, z2⟩ := h
 unfold TwoS at *
 rw [dn_ne (Ne.symm z1), dn_ne (Ne.symm z2)]
 exact ⟨fun e => (hS.1 e).set ⟨x0, x1, x2, y1, y2⟩, hS.2⟩
theorem TwoS.any (hS : TwoS W k0 k1 k2 a1 a2 t1 t2 Z1 Z2 R0 R1 R2 s1 s2 L m w) : Below W.heap.size W w := by
 cases h1 : Dn L s1
 · exact (hS.1 h1).bel
 · cases h2 : Dn L s2
  · obtain ⟨_, _, _, _, h⟩ := hS.2.1 h1 h2; exact h.bel
  · obtain ⟨_, _, _, _, _, _, h⟩ := hS.2.2 h2; exact h.bel
theorem TwoS.at0 (hS : TwoS W k0 k1 k2 a1 a2 t1 t2 Z1 Z2 R0 R1 R2 s1 s2 L m w) (h1 : Dn L s1 = false) : TwoA W k0 k1 k2 a1 a2 t1 t2 Z1 Z2 R0 R1 R2 L m w := hS.1 h1
/-- a variable is made: the first -/
theorem TwoS.make1 (hS : TwoS W k0 k1 k2 a1 a2 t1 t2 Z1 Z2 R0 R1 R2 s1 s2 L m w) (H0 : Res R0) (H1 : Res R1) (H2 : Res R2) (hs : Dn L s1 = false) (hs2 : Dn L s2 = false) (hn : (a1 != k0 && a1 != k1 && a1 != k2 && a1 != a2 && a1 != s1 && a1 != s2) = true) :
  TwoS W k0 k1 k2 a1 a2 t1 t2 Z1 Z2 R0 R1 R2 s1 s2 (L.setIfInBounds a1 true) (upd m a1 (pt w.heap.size)) (w.alloc (.cells Z1 t1)) := by
 simp only [Bool.and_eq_true, bne_iff_ne] at hn
 obtain ⟨⟨⟨⟨⟨x0, x1⟩, x2⟩, y2⟩, z1⟩, z2⟩ := hn
 have h := hS.1 hs
 have q := bl_al (Below.refl w.heap.size w) (.cells Z1 t1)
 have hav : ∀ b, Av a1 a2 m b → b < w.heap.size → Av a1 a2 (upd m a1 (pt w.heap.size)) b := fun b hb hl => ⟨by rw [upd_same]; intro e; have := pt_inj e; omega, by rw [upd_ne (Ne.symm y2)]; exact hb.2⟩
 refine ⟨fun _ => ⟨bl_ca h.bel q, fun _ => ⟨_, upd_same _ _ _, h.bel.size, Blk.new _ _ _⟩, fun e => ?_, fun e => ?_, fun e => ?_, fun _ e => ?_, fun e => ?_, fun e => ?_, fun e => ?_⟩, fun e => ?_, fun e => ?_⟩
 · rw [dn_eq] at e; cases e
 · rw [dn_ne (Ne.symm y2)] at e
  obtain ⟨g, x, y, z⟩ := h.v2 e
  exact ⟨g, by rw [upd_ne (Ne.symm y2)]; exact x, y, z.ca q⟩
 · rw [dn_ne (Ne.symm y2)] at e; rw [upd_ne (Ne.symm y2)]; exact h.n2 e
 · rw [dn_ne (Ne.symm y2)] at e
  obtain ⟨g, x, _, z⟩ := h.v2 e
  rw [upd_same, upd_ne (Ne.symm y2), x]
  intro e'
  have := pt_inj e'
  have := z.lt
  omega
 · rw [dn_ne (Ne.symm x0)] at e; rw [upd_ne (Ne.symm x0)]; exact H0.keep (fun b _ hb => q.block b hb) (H0.weak hav (h.r0 e))
 · rw [dn_ne (Ne.symm x1)] at e; rw [upd_ne (Ne.symm x1)]; exact H1.keep (fun b _ hb => q.block b hb) (H1.weak hav (h.r1 e))
 · rw [dn_ne (Ne.symm x2)] at e; rw [upd_ne (Ne.symm x2)]; exact H2.keep (fun b _ hb => q.block b hb) (H2.weak hav (h.r2 e))
 · rw [dn_ne (Ne.symm z1), hs] at e; cases e
 · rw [dn_ne (Ne.symm z2), hs2] at e; cases e
/-- a variable is made: the second -/
theorem TwoS.make2 (hS : TwoS W k0 k1 k2 a1 a2 t1 t2 Z1 Z2 R0 R1 R2 s1 s2 L m w) (H0 : Res R0) (H1 : Res R1) (H2 : Res R2) (hs : Dn L s1 = false) (hs2 : Dn L s2 = false) (hn : (a2 != k0 && a2 != k1 && a2 != k2 && a2 != a1 && a2 != s1 && a2 != s2) = true) :
  TwoS W k0 k1 k2 a1 a2 t1 t2 Z1 Z2 R0 R1 R2 s1 s2 (L.setIfInBounds a2 true) (upd m a2 (pt w.heap.size)) (w.alloc (.cells Z2 t2)) := by
 simp only [Bool.and_eq_true, bne_iff_ne] at hn
 obtain ⟨⟨⟨⟨⟨x0, x1⟩, x2⟩, y2⟩, z1⟩, z2⟩ := hn
 have h := hS.1 hs
 have q := bl_al (Below.refl w.heap.size w) (.cells Z2 t2)
 have hav : ∀ b, Av a1 a2 m b → b < w.heap.size → Av a1 a2 (upd m a2 (pt w.heap.size)) b := fun b hb hl => ⟨by rw [upd_ne (Ne.symm y2)]; exact hb.1, by rw [upd_same]; intro e; have := pt_inj e; omega⟩
 refine ⟨fun _ => ⟨bl_ca h.bel q, fun e => ?_, fun e => ?_, fun _ => ⟨_, upd_same _ _ _, h.bel.size, Blk.new _ _ _⟩, fun e => ?_, fun e _ => ?_, fun e => ?_, fun e => ?_, fun e => ?_⟩, fun e => ?_, fun e => ?_⟩
 · rw [dn_ne (Ne.symm y2)] at e
  obtain ⟨g, x, y, z⟩ := h.v1 e
  exact ⟨g, by rw [upd_ne (Ne.symm y2)]; exact x, y, z.ca q⟩
 · rw [dn_ne (Ne.symm y2)] at e; rw [upd_ne (Ne.symm y2)]; exact h.n1 e
 · rw [dn_eq] at e; cases e
 · rw [dn_ne (Ne.symm y2)] at e
  obtain ⟨g, x, _, z⟩ := h.v1 e
  rw [upd_same, upd_ne (Ne.symm y2), x]
  intro e'
  have := pt_inj e'
  have := z.lt
  omega
 · rw [dn_ne (Ne.symm x0)] at e; rw [upd_ne (Ne.symm x0)]; exact H0.keep (fun b _ hb => q.block b hb) (H0.weak hav (h.r0 e))
 · rw [dn_ne (Ne.symm x1)] at e; rw [upd_ne (Ne.symm x1)]; exact H1.keep (fun b _ hb => q.block b hb) (H1.weak hav (h.r1 e))
 · rw [dn_ne (Ne.symm x2)] at e; rw [upd_ne (Ne.symm x2)]; exact H2.keep (fun b _ hb => q.block b hb) (H2.weak hav (h.r2 e))
 · rw [dn_ne (Ne.symm z1), hs] at e; cases e
 · rw [dn_ne (Ne.symm z2), hs2] at e; cases e
/-- what a call answers leads to no variable that was made before it: an answer in new memory, or in memory that was there -/
theorem TwoA.avoid (h : TwoA W k0 k1 k2 a1 a2 t1 t2 Z1 Z2 R0 R1 R2 L m w) {b : Nat} (hb : b < W.heap.size ∨ w.heap.size ≤ b) : Av a1 a2 m b := by
 constructor
 · cases e : Dn L a1
  · rw [h.n1 e]; exact undef_pt b
  · obtain ⟨g, x, y, z⟩ := h.v1 e
   rw [x]
   intro e'
   have := pt_inj e'
   have := z.lt
   omega
 · cases e : Dn L a2
  · rw [h.n2 e]; exact undef_pt b
  · obtain ⟨g, x, y, z⟩ := h.v2 e
   rw [x]
   intro e'
   have := pt_inj e'
   have := z.lt
   omega
/-- a call has answered -/
theorem TwoS.call {v : Value} {i : Nat} (hS : TwoS W k0 k1 k2 a1 a2 t1 t2 Z1 Z2 R0 R1 R2 s1 s2 L m w) (H0 : Res R0) (H1 : Res R1) (H2 : Res R2) (hs : Dn L s1 = false) (hs2 : Dn L s2 = false) (hn : (i != a1 && i != a2 && i != s1 && i != s2) = true) (q : Below w.heap.size w w')
  (c0 : i = k0 → R0 v (Av a1 a2 m) w') (c1 : i = k1 → R1 v (Av a1 a2 m) w') (c2 : i = k2 → R2 v (Av a1 a2 m) w') : TwoS W k0 k1 k2 a1 a2 t1 t2 Z1 Z2 R0 R1 R2 s1 s2 (L.setIfInBounds i true) (upd m i v) w' := by
 simp only [Bool.and_eq_true, bne_iff_ne] at hn
 obtain ⟨⟨⟨y1, y2⟩, z1⟩, z2⟩ := hn
 have h := (hS.1 hs).mono H0 H1 H2 q
 have hav : ∀ b, Av a1 a2 m b → Av a1 a2 (upd m i v) b := fun b hb => ⟨by rw [upd_ne (Ne.symm y1)]; exact hb.1, by rw [upd_ne (Ne.symm y2)]; exact hb.2⟩
 have key : ∀ {R : Value → (Nat → Prop) → World → Prop} {k : Nat}, Res R → (Dn L k = true → R (m k) (Av a1 a2 m) w') → (i = k → R v (Av a1 a2 m) w') → Dn (L.setIfInBounds i true) k = true → R (upd m i v k) (Av a1 a2 (upd m i v)) w' := fun {R k} hR h1 h2 e => by
  by_cases ik : i = k
  · subst ik; rw [upd_same]; exact hR.weak (fun b hb _ => hav b hb) (h2 rfl)
  · rw [dn_ne (Ne.symm ik)] at e; rw [upd_ne (Ne.symm ik)]; exact hR.weak (fun b hb _ => hav b hb) (h1 e)
 refine ⟨fun _ => ⟨h.bel, fun e => ?_, fun e => ?_, fun e => ?_, fun e => ?_, fun e f => ?_, key H0 h.r0 c0, key H1 h.r1 c1, key H2 h.r2 c2⟩, fun e => ?_, fun e => ?_⟩
 · rw [dn_ne (Ne.symm y1)] at e; rw [upd_ne (Ne.symm y1)]; exact h.v1 e
 · rw [dn_ne (Ne.symm y1)] at e; rw [upd_ne (Ne.symm y1)]; exact h.n1 e
 · rw [dn_ne (Ne.symm y2)] at e; rw [upd_ne (Ne.symm y2)]; exact h.v2 e
 · rw [dn_ne (Ne.symm y2)] at e; rw [upd_ne (Ne.symm y2)]; exact h.n2 e
 · rw [dn_ne (Ne.symm y1)] at e; rw [dn_ne (Ne.symm y2)] at f; rw [upd_ne (Ne.symm y1), upd_ne (Ne.symm y2)]; exact h.ne e f
 · rw [dn_ne (Ne.symm z1), hs] at e; cases e
 · rw [dn_ne (Ne.symm z2), hs2] at e; cases e
/-- all is ready for the first store -/
theorem TwoS.ready1 (hS : TwoS W k0 k1 k2 a1 a2 t1 t2 Z1 Z2 R0 R1 R2 s1 s2 L m w) (hs : Dn L s1 = false) (d1 : Dn L a1 = true) (d2 : Dn L a2 = true) (e1 : Dn L k1 = true) (e2 : Dn L k2 = true) : ∃ g1 g2, TwoB W k1 k2 a1 a2 t1 t2 R1 R2 Z1 Z2 g1 g2 m w := by
 have h := hS.1 hs
 obtain ⟨g1, x1, y1, b1⟩ := h.v1 d1
 obtain ⟨g2, x2, y2, b2⟩ := h.v2 d2
 exact ⟨g1, g2, x1, x2, fun e => h.ne d1 d2 (by rw [x1, x2, e]), y1, y2, b1, b2, h.bel, h.r1 e1, h.r2 e2⟩
theorem TwoB.store1 {z1 z2 c : Array Value} {g1 g2 : Nat} (h : TwoB W k1 k2 a1 a2 t1 t2 R1 R2 z1 z2 g1 g2 m w) (H1 : Res R1) (H2 : Res R2) (hb : Blk w' g1 t1 c) (hg : w.grownBy w' (some g1)) : TwoB W k1 k2 a1 a2 t1 t2 R1 R2 c z2 g1 g2 m w' :=
 ⟨h.e1, h.e2, h.ne, h.l1, h.l2, hb, h.b2.apart hg (fun e => h.ne e.symm), bl_gr h.bel hg h.l1,
  H1.keep (fun b hb hl => hg.block b hl (fun e => hb.1 (by rw [h.e1]; injection e with e; rw [e]))) h.r1, H2.keep (fun b hb hl => hg.block b hl (fun e => hb.1 (by rw [h.e1]; injection e with e; rw [e]))) h.r2⟩
theorem TwoB.store2 {z1 z2 c : Array Value} {g1 g2 : Nat} (h : TwoB W k1 k2 a1 a2 t1 t2 R1 R2 z1 z2 g1 g2 m w) (H1 : Res R1) (H2 : Res R2) (hb : Blk w' g2 t2 c) (hg : w.grownBy w' (some g2)) : TwoB W k1 k2 a1 a2 t1 t2 R1 R2 z1 c g1 g2 m w' :=
 ⟨h.e1, h.e2, h.ne, h.l1, h.l2, h.b1.apart hg h.ne, hb, bl_gr h.bel hg h.l2,
  H1.keep (fun b hb hl => hg.block b hl (fun e => hb.2 (by rw [h.e2]; injection e with e; rw [e]))) h.r1, H2.keep (fun b hb hl => hg.block b hl (fun e => hb.2 (by rw [h.e2]; injection e with e; rw [e]))) h.r2⟩
theorem TwoS.set1 {c1 : Array Value} {g1 g2 : Nat} (hs2 : Dn L s2 = false) (hne : s2 ≠ s1) (hk : m k1 = .agg c1) (h : TwoB W k1 k2 a1 a2 t1 t2 R1 R2 c1 Z2 g1 g2 m w) : TwoS W k0 k1 k2 a1 a2 t1 t2 Z1 Z2 R0 R1 R2 s1 s2 (L.setIfInBounds s1 true) m w :=
 ⟨fun e => (by rw [dn_eq] at e; cases e), fun _ _ => ⟨g1, g2, c1, hk, h⟩, fun e => (by rw [dn_ne hne, hs2] at e; cases e)⟩
theorem TwoS.at1 (hS : TwoS W k0 k1 k2 a1 a2 t1 t2 Z1 Z2 R0 R1 R2 s1 s2 L m w) (h1 : Dn L s1 = true) (h2 : Dn L s2 = false) : ∃ g1 g2 c1, m k1 = .agg c1 ∧ TwoB W k1 k2 a1 a2 t1 t2 R1 R2 c1 Z2 g1 g2 m w := hS.2.1 h1 h2
theorem TwoS.set2 {c1 c2 : Array Value} {g1 g2 : Nat} (hne : s1 ≠ s2) (h1 : Dn L s1 = true) (hk : m k1 = .agg c1) (hk2 : m k2 = .agg c2) (h : TwoB W k1 k2 a1 a2 t1 t2 R1 R2 c1 c2 g1 g2 m w) : TwoS W k0 k1 k2 a1 a2 t1 t2 Z1 Z2 R0 R1 R2 s1 s2 (L.setIfInBounds s2 true) m w :=
 ⟨fun e => (by rw [dn_ne hne, h1] at e; cases e), fun _ e => (by rw [dn_eq] at e; cases e), fun _ => ⟨g1, g2, c1, c2, hk, hk2, h⟩⟩
theorem TwoS.fin (hS : TwoS W k0 k1 k2 a1 a2 t1 t2 Z1 Z2 R0 R1 R2 s1 s2 L m w) (h2 : Dn L s2 = true) : ∃ g1 g2 c1 c2, m k1 = .agg c1 ∧ m k2 = .agg c2 ∧ TwoB W k1 k2 a1 a2 t1 t2 R1 R2 c1 c2 g1 g2 m w := hS.2.2 h2
end
end Go.Proofs.Ytojghgbaiiajfaa
/- Senders, receivers and packets as data in memory. Conditions: none. -/
namespace Go.Proofs.Ytojghgbaiiajfaa
open Go.RowKit
def SC.rng (s : SC) : Prop := 0 ≤ s.base ∧ 0 ≤ s.sent ∧ 0 ≤ s.lim ∧ s.lim ≤ 18446744073709551615 ∧ s.base ≤ 18446744073709551615
def RC.rng (r : RC) : Prop := 0 ≤ r.next ∧ r.next ≤ 18446744073709551615
def PK.rng (p : PK) : Prop := 0 ≤ p.seq ∧ p.seq ≤ 18446744073709551615 ∧ 0 ≤ p.lim ∧ p.lim ≤ 18446744073709551615
def LSN : Lay SC where
 size := 7
 rep := fun w F s cs => ∃ A n c, cs = [.int .u32 s.ses, .int .u64 s.base, .slice A n c, .int .u64 s.sent, .int .u64 s.lim, .int .i64 s.timer, .bool s.ended] ∧ n ≤ c ∧ c ≤ 9223372036854775807 ∧ LB3.rd w F A n s.q
 len := fun h => by obtain ⟨A, n, c, rfl, _⟩ := h; rfl
 one := fun h u hu => by obtain ⟨A, n, c, rfl, _⟩ := h; simp at hu; rcases hu with rfl | rfl | rfl | rfl | rfl | rfl | rfl <;> rfl
 keep := fun hk h => by obtain ⟨A, n, c, e, h1, h2, hr⟩ := h; exact ⟨A, n, c, e, h1, h2, Lay.rd_keep hk hr⟩
 weak := fun hk h => by obtain ⟨A, n, c, e, h1, h2, hr⟩ := h; exact ⟨A, n, c, e, h1, h2, Lay.rd_weak hk hr⟩
def LRV : Lay RC where
 size := 6
 rep := fun w F s cs => ∃ A n c B m d, cs = [.int .u32 s.ses, .int .u64 s.next, .slice A n c, .slice B m d, .int .i64 s.room, .bool s.over] ∧ n ≤ c ∧ c ≤ 9223372036854775807 ∧ m ≤ d ∧ d ≤ 9223372036854775807 ∧ LH4.rd w F A n s.ahead ∧ LB3.rd w F B m s.buf
 len := fun h => by obtain ⟨A, n, c, B, m, d, rfl, _⟩ := h; rfl
 one := fun h u hu => by obtain ⟨A, n, c, B, m, d, rfl, _⟩ := h; simp at hu; rcases hu with rfl | rfl | rfl | rfl | rfl | rfl <;> rfl
 keep := fun hk h => by obtain ⟨A, n, c, B, m, d, e, h1, h2, h3, h4, hr, hr2⟩ := h; exact ⟨A, n, c, B, m, d, e, h1, h2, h3, h4, Lay.rd_keep hk hr, Lay.rd_keep hk hr2⟩
 weak := fun hk h => by obtain ⟨A, n, c, B, m, d, e, h1, h2, h3, h4, hr, hr2⟩ := h; exact ⟨A, n, c, B, m, d, e, h1, h2, h3, h4, Lay.rd_weak hk hr, Lay.rd_weak hk hr2⟩
structure SSP (w : World) (F : Nat → Prop) (p : Addr) (s : SC) (A : Option Addr) (n c : Nat) : Prop where
 c0 : w.cell? p = some (.int .u32 s.ses)
 c1 : w.cell? ⟨p.block, p.off + 1, none⟩ = some (.int .u64 s.base)
 c2 : w.cell? ⟨p.block, p.off + 2, none⟩ = some (.slice A n c)
 c3 : w.cell? ⟨p.block, p.off + 3, none⟩ = some (.int .u64 s.sent)
 c4 : w.cell? ⟨p.block, p.off + 4, none⟩ = some (.int .u64 s.lim)
 c5 : w.cell? ⟨p.block, p.off + 5, none⟩ = some (.int .i64 s.timer)
 c6 : w.cell? ⟨p.block, p.off + 6, none⟩ = some (.bool s.ended)
 nc : n ≤ c
 cm : c ≤ 9223372036854775807
 rd : LB3.rd w F A n s.q
structure SRP (w : World) (F : Nat → Prop) (p : Addr) (s : RC) (A : Option Addr) (n c : Nat) (B : Option Addr) (m d : Nat) : Prop where
 c0 : w.cell? p = some (.int .u32 s.ses)
 c1 : w.cell? ⟨p.block, p.off + 1, none⟩ = some (.int .u64 s.next)
 c2 : w.cell? ⟨p.block, p.off + 2, none⟩ = some (.slice A n c)
 c3 : w.cell? ⟨p.block, p.off + 3, none⟩ = some (.slice B m d)
 c4 : w.cell? ⟨p.block, p.off + 4, none⟩ = some (.int .i64 s.room)
 c5 : w.cell? ⟨p.block, p.off + 5, none⟩ = some (.bool s.over)
 nc : n ≤ c
 cm : c ≤ 9223372036854775807
 nc2 : m ≤ d
 cm2 : d ≤ 9223372036854775807
 rd : LH4.rd w F A n s.ahead
 rd2 : LB3.rd w F B m s.buf
structure SPP (w : World) (F : Nat → Prop) (p : Addr) (s : PK) (A : Option Addr) (n c : Nat) : Prop where
 c0 : w.cell? p = some (.int .i64 s.kind)
 c1 : w.cell? ⟨p.block, p.off + 1, none⟩ = some (.int .u32 s.ses)
 c2 : w.cell? ⟨p.block, p.off + 2, none⟩ = some (.int .u64 s.seq)
 c3 : w.cell? ⟨p.block, p.off + 3, none⟩ = some (.int .u64 s.lim)
 c4 : w.cell? ⟨p.block, p.off + 4, none⟩ = some (.slice A n c)
 c5 : w.cell? ⟨p.block, p.off + 5, none⟩ = some (.bool s.b.fin)
 c6 : w.cell? ⟨p.block, p.off + 6, none⟩ = some (.int .u64 s.b.cnt)
 nc : n ≤ c
 cm : c ≤ 9223372036854775807
 rd : LR.rd w F A n s.b.rows
theorem LSN_at {w : World} {F : Nat → Prop} {A : Option Addr} {n i : Nat} {xs : List SC} (h : LSN.rd w F A n xs) (hi : i < n) : ∃ ad s B k c, A = some ad ∧ xs[i]? = some s ∧ (ad.add (i * 7)).block < w.heap.size ∧ SSP w F (ad.add (i * 7)) s B k c := by
 obtain ⟨ad, s, cs, e, hx, hb, _, ⟨B, k, c, rfl, h1, h2, hr⟩, hc⟩ := Lay.rd_at h hi
 exact ⟨ad, s, B, k, c, e, hx, by rw [block_of_add]; exact hb, ⟨hc 0 _ rfl, (by rw [← addr_more _ _ 1 (by omega)]; exact hc 1 _ rfl), (by rw [← addr_more _ _ 2 (by omega)]; exact hc 2 _ rfl), (by rw [← addr_more _ _ 3 (by omega)]; exact hc 3 _ rfl), (by rw [← addr_more _ _ 4 (by omega)]; exact hc 4 _ rfl), (by rw [← addr_more _ _ 5 (by omega)]; exact hc 5 _ rfl), (by rw [← addr_more _ _ 6 (by omega)]; exact hc 6 _ rfl), h1, h2, hr⟩⟩
theorem LRV_at {w : World} {F : Nat → Prop} {A : Option Addr} {n i : Nat} {xs : List RC} (h : LRV.rd w F A n xs) (hi : i < n) : ∃ ad s B k c B2 k2 c2, A = some ad ∧ xs[i]? = some s ∧ (ad.add (i * 6)).block < w.heap.size ∧ SRP w F (ad.add (i * 6)) s B k c B2 k2 c2 := by
 obtain ⟨ad, s, cs, e, hx, hb, _, ⟨B, k, c, B2, k2, c2, rfl, h1, h2, h3, h4, hr, hr2⟩, hc⟩ := Lay.rd_at h hi
 exact ⟨ad, s, B, k, c, B2, k2, c2, e, hx, by rw [block_of_add]; exact hb, ⟨hc 0 _ rfl, (by rw [← addr_more _ _ 1 (by omega)]; exact hc 1 _ rfl), (by rw [← addr_more _ _ 2 (by omega)]; exact hc 2 _ rfl), (by rw [← addr_more _ _ 3 (by omega)]; exact hc 3 _ rfl), (by rw [← addr_more _ _ 4 (by omega)]; exact hc 4 _ rfl), (by rw [← addr_more _ _ 5 (by omega)]; exact hc 5 _ rfl), h1, h2, h3, h4, hr, hr2⟩⟩
theorem LP7_at {w : World} {F : Nat → Prop} {A : Option Addr} {n i : Nat} {xs : List PK} (h : LP7.rd w F A n xs) (hi : i < n) : ∃ ad s B k c, A = some ad ∧ xs[i]? = some s ∧ (ad.add (i * 7)).block < w.heap.size ∧ SPP w F (ad.add (i * 7)) s B k c := by
 obtain ⟨ad, s, cs, e, hx, hb, _, ⟨B, k, c, rfl, h1, h2, hr⟩, hc⟩ := Lay.rd_at h hi
 exact ⟨ad, s, B, k, c, e, hx, by rw [block_of_add]; exact hb, ⟨hc 0 _ rfl, (by rw [← addr_more _ _ 1 (by omega)]; exact hc 1 _ rfl), (by rw [← addr_more _ _ 2 (by omega)]; exact hc 2 _ rfl), (by rw [← addr_more _ _ 3 (by omega)]; exact hc 3 _ rfl), (by rw [← addr_more _ _ 4 (by omega)]; exact hc 4 _ rfl), (by rw [← addr_more _ _ 5 (by omega)]; exact hc 5 _ rfl), (by rw [← addr_more _ _ 6 (by omega)]; exact hc 6 _ rfl), h1, h2, hr⟩⟩
theorem res_rdS {F : Nat → Prop} {w : World} {s : SC} {A : Option Addr} {m c : Nat} (h : LRes LSN (fun a => a = s) (.agg (s.cells A m c)) F w) : LB3.rd w AllB A m s.q := by
 obtain ⟨a, cs, e, ⟨B, n, d, hcs, _, _, hr⟩, rfl⟩ := h
 injection e with e
 subst e
 simp at hcs
 obtain ⟨rfl, rfl, rfl⟩ := hcs
 exact Lay.rd_weak (fun _ _ _ => trivial) hr
theorem res_capS {F : Nat → Prop} {w : World} {s : SC} {A : Option Addr} {m c : Nat} (h : LRes LSN (fun a => a = s) (.agg (s.cells A m c)) F w) : m ≤ 9223372036854775807 := by
 obtain ⟨a, cs, e, ⟨B, n, d, hcs, h1, h2, hr⟩, rfl⟩ := h
 injection e with e
 subst e
 simp at hcs
 obtain ⟨rfl, rfl, rfl⟩ := hcs
 exact Nat.le_trans h1 h2
theorem res_rdR {F : Nat → Prop} {w : World} {s : RC} {A : Option Addr} {m c : Nat} {B : Option Addr} {k d : Nat} (h : LRes LRV (fun a => a = s) (.agg (s.cells A m c B k d)) F w) : LH4.rd w AllB A m s.ahead ∧ LB3.rd w AllB B k s.buf := by
 obtain ⟨a, cs, e, ⟨A1, m1, c1, B1, k1, d1, hcs, _, _, _, _, hr, hr2⟩, rfl⟩ := h
 injection e with e
 subst e
 simp at hcs
 obtain ⟨⟨rfl, rfl, rfl⟩, rfl, rfl, rfl⟩ := hcs
 exact ⟨Lay.rd_weak (fun _ _ _ => trivial) hr, Lay.rd_weak (fun _ _ _ => trivial) hr2⟩
theorem res_capR {F : Nat → Prop} {w : World} {s : RC} {A : Option Addr} {m c : Nat} {B : Option Addr} {k d : Nat} (h : LRes LRV (fun a => a = s) (.agg (s.cells A m c B k d)) F w) : m ≤ 9223372036854775807 ∧ k ≤ 9223372036854775807 := by
 obtain ⟨a, cs, e, ⟨A1, m1, c1, B1, k1, d1, hcs, h1, h2, h3, h4, hr, hr2⟩, rfl⟩ := h
 injection e with e
 subst e
 simp at hcs
 obtain ⟨⟨rfl, rfl, rfl⟩, rfl, rfl, rfl⟩ := hcs
 exact ⟨Nat.le_trans h1 h2, Nat.le_trans h3 h4⟩
theorem SeqN.move {ks : List Nat} {B : Nat → (Nat → Value) → World → Prop} {L : Array Bool} {m : Nat → Value} {w w' : World} {i : Nat} (h : (ks.all fun k => k != i) = true) (hB : ∀ j m, B j m w → B j m w') (hS : SeqN ks B L m w) : SeqN ks B (L.setIfInBounds i true) m w' := by
 have := SeqN.pass h L m w hS
 exact hB _ _ this
theorem SeqN.after24 {B : Nat → (Nat → Value) → World → Prop} {L : Array Bool} {m : Nat → Value} {w : World} {k : Nat} (hd : Dn L k = true) (hS : SeqN [k] B L m w) : B 1 m w := by
 unfold SeqN cntD cntD at hS
 rw [hd] at hS
 exact hS
end Go.Proofs.Ytojghgbaiiajfaa
/- What is done to a receiver, as data in memory. Conditions: none. -/
namespace Go.Proofs.Ytojghgbaiiajfaa
open Go.RowKit
def LHD : Lay HD where
 size := 9
 rep := fun w F a cs => ∃ A n c, cs = [.bool a.take, .bool a.near, .int .i64 a.pk.kind, .int .u32 a.pk.ses, .int .u64 a.pk.seq, .int .u64 a.pk.lim, .slice A n c, .bool a.pk.b.fin, .int .u64 a.pk.b.cnt] ∧ n ≤ c ∧ c ≤ 9223372036854775807 ∧ LR.rd w F A n a.pk.b.rows
 len := fun h => by obtain ⟨A, n, c, rfl, _⟩ := h; rfl
 one := fun h u hu => by obtain ⟨A, n, c, rfl, _⟩ := h; simp at hu; rcases hu with rfl | rfl | rfl | rfl | rfl | rfl | rfl | rfl | rfl <;> rfl
 keep := fun hk h => by obtain ⟨A, n, c, e, h1, h2, hr⟩ := h; exact ⟨A, n, c, e, h1, h2, Lay.rd_keep hk hr⟩
 weak := fun hk h => by obtain ⟨A, n, c, e, h1, h2, hr⟩ := h; exact ⟨A, n, c, e, h1, h2, Lay.rd_weak hk hr⟩
structure SHP (w : World) (F : Nat → Prop) (p : Addr) (a : HD) (A : Option Addr) (n c : Nat) : Prop where
 c0 : w.cell? p = some (.bool a.take)
 c1 : w.cell? ⟨p.block, p.off + 1, none⟩ = some (.bool a.near)
 c2 : w.cell? ⟨p.block, p.off + 2, none⟩ = some (.int .i64 a.pk.kind)
 c3 : w.cell? ⟨p.block, p.off + 3, none⟩ = some (.int .u32 a.pk.ses)
 c4 : w.cell? ⟨p.block, p.off + 4, none⟩ = some (.int .u64 a.pk.seq)
 c5 : w.cell? ⟨p.block, p.off + 5, none⟩ = some (.int .u64 a.pk.lim)
 c6 : w.cell? ⟨p.block, p.off + 6, none⟩ = some (.slice A n c)
 c7 : w.cell? ⟨p.block, p.off + 7, none⟩ = some (.bool a.pk.b.fin)
 c8 : w.cell? ⟨p.block, p.off + 8, none⟩ = some (.int .u64 a.pk.b.cnt)
 nc : n ≤ c
 cm : c ≤ 9223372036854775807
 rd : LR.rd w F A n a.pk.b.rows
theorem LHD_at {w : World} {F : Nat → Prop} {A : Option Addr} {n i : Nat} {xs : List HD} (h : LHD.rd w F A n xs) (hi : i < n) : ∃ ad s B k c, A = some ad ∧ xs[i]? = some s ∧ (ad.add (i * 9)).block < w.heap.size ∧ SHP w F (ad.add (i * 9)) s B k c := by
 obtain ⟨ad, s, cs, e, hx, hb, _, ⟨B, k, c, rfl, h1, h2, hr⟩, hc⟩ := Lay.rd_at h hi
 exact ⟨ad, s, B, k, c, e, hx, by rw [block_of_add]; exact hb, ⟨hc 0 _ rfl, (by rw [← addr_more _ _ 1 (by omega)]; exact hc 1 _ rfl), (by rw [← addr_more _ _ 2 (by omega)]; exact hc 2 _ rfl), (by rw [← addr_more _ _ 3 (by omega)]; exact hc 3 _ rfl), (by rw [← addr_more _ _ 4 (by omega)]; exact hc 4 _ rfl), (by rw [← addr_more _ _ 5 (by omega)]; exact hc 5 _ rfl), (by rw [← addr_more _ _ 6 (by omega)]; exact hc 6 _ rfl), (by rw [← addr_more _ _ 7 (by omega)]; exact hc 7 _ rfl), (by rw [← addr_more _ _ 8 (by omega)]; exact hc 8 _ rfl), h1, h2, hr⟩⟩
end Go.Proofs.Ytojghgbaiiajfaa
/- The program is laid out. Conditions: none. -/
namespace Go.Proofs.Ytojghgbaiiajfaa
open Go.ChangeShapes Go.WideShapes Go.ChangeAt Go.RowKit Go.Deep
theorem Try.own : ownKnob Try.prog.godebug = none := by kernel_rfl
theorem Try.laidOut : laidOutB Try.prog = true := by kernel_rfl
end Go.Proofs.Ytojghgbaiiajfaa
/- Arguments: a sender, a receiver, packets. Conditions: none. -/
namespace Go.Proofs.Ytojghgbaiiajfaa
open Go.ChangeShapes Go.WideShapes Go.ChangeAt Go.RowKit Go.Deep
theorem wfU {x : Int} (h : (Lit.int .u64 x).wf = true) : 0 ≤ x ∧ x ≤ 18446744073709551615 := by
 simp [Lit.wf, IntKind.min, IntKind.max, IntKind.signed, IntKind.bits] at h
 omega
theorem opens_val : Opens Try.prog 142 LV (fun _ => True) :=
 opens_as (opens_struct Try.underlying142 (by kernel_rfl)
  (opensAt_cons 0 3 (by kernel_rfl) (opens_int Try.underlying3 (by kernel_rfl))
   (opensAt_cons 1 2 (by kernel_rfl) (opens_int Try.underlying2 (by kernel_rfl))
    (opensAt_cons 2 26 (by kernel_rfl) (opens_int Try.underlying26 (by kernel_rfl))
     (opensAt_last 3 9 (by kernel_rfl) (opens_str Try.underlying9 (by kernel_rfl))))))) rfl
  (fun w a cs h g => by
   obtain ⟨k, n, u, s⟩ := a
   obtain ⟨_, _, rfl, rfl, _, _, rfl, rfl, _, _, rfl, rfl, rfl⟩ := h
   exact ⟨⟨k, n, u, s⟩, rfl, trivial⟩)
theorem opens_rows : Opens Try.prog 43 LR.slice (fun rows => ∀ r ∈ rows, ∀ v ∈ r, True) :=
 opens_slice Try.underlying43 (by kernel_rfl) (by decide) (opens_slice Try.underlying89 (by kernel_rfl) (by decide) opens_val)
theorem opens_batch : Opens Try.prog 45 LB3 (fun _ => True) :=
 opens_as (opens_struct Try.underlying45 (by kernel_rfl)
  (opensAt_cons 0 43 (by kernel_rfl) opens_rows
   (opensAt_cons 1 4 (by kernel_rfl) (opens_bool Try.underlying4 (by kernel_rfl))
    (opensAt_last 2 26 (by kernel_rfl) (opens_int Try.underlying26 (by kernel_rfl)))))) rfl
  (fun w a cs h g => by
   obtain ⟨rows, fin, cnt⟩ := a
   obtain ⟨_, _, rfl, ⟨A, n, c, rfl, h1, h2, hr⟩, _, _, rfl, rfl, rfl⟩ := h
   exact ⟨⟨rows, fin, cnt⟩, ⟨A, n, c, rfl, h1, h2, hr⟩, trivial⟩)
theorem opens_bats : Opens Try.prog 27 LB3.slice (fun xs => ∀ x ∈ xs, True) :=
 opens_slice Try.underlying27 (by kernel_rfl) (by decide) opens_batch
set_option maxRecDepth 100000 in
theorem opens_sender : Opens Try.prog 29 LSN SC.rng :=
 opens_as (opens_struct Try.underlying29 (by kernel_rfl)
  (opensAt_cons 0 25 (by kernel_rfl) (opens_int Try.underlying25 (by kernel_rfl))
  (opensAt_cons 1 26 (by kernel_rfl) (opens_int Try.underlying26 (by kernel_rfl))
  (opensAt_cons 2 27 (by kernel_rfl) opens_bats
  (opensAt_cons 3 26 (by kernel_rfl) (opens_int Try.underlying26 (by kernel_rfl))
  (opensAt_cons 4 26 (by kernel_rfl) (opens_int Try.underlying26 (by kernel_rfl))
  (opensAt_cons 5 3 (by kernel_rfl) (opens_int Try.underlying3 (by kernel_rfl))
   (opensAt_last 6 4 (by kernel_rfl) (opens_bool Try.underlying4 (by kernel_rfl)))))))))) rfl
  (fun w a cs h g => by
   obtain ⟨ses, base, q, sent, lim, timer, ended⟩ := a
   obtain ⟨_, _, rfl, rfl, _, _, rfl, rfl, _, _, rfl, ⟨A, n, c, rfl, h1, h2, hr⟩, _, _, rfl, rfl, _, _, rfl, rfl, _, _, rfl, rfl, rfl⟩ := h
   obtain ⟨_, g1, _, g3, g4, _, _⟩ := g
   exact ⟨⟨ses, base, q, sent, lim, timer, ended⟩, ⟨A, n, c, rfl, h1, h2, hr⟩, (wfU g1).1, (wfU g3).1, (wfU g4).1, (wfU g4).2, (wfU g1).2⟩)
set_option maxRecDepth 100000 in
theorem opens_packet : Opens Try.prog 47 LP7 PK.rng :=
 opens_as (opens_struct Try.underlying47 (by kernel_rfl)
  (opensAt_cons 0 3 (by kernel_rfl) (opens_int Try.underlying3 (by kernel_rfl))
  (opensAt_cons 1 25 (by kernel_rfl) (opens_int Try.underlying25 (by kernel_rfl))
  (opensAt_cons 2 26 (by kernel_rfl) (opens_int Try.underlying26 (by kernel_rfl))
  (opensAt_cons 3 26 (by kernel_rfl) (opens_int Try.underlying26 (by kernel_rfl))
   (opensAt_last 4 45 (by kernel_rfl) opens_batch)))))) rfl
  (fun w a cs h g => by
   obtain ⟨kind, ses, seq, lim, b⟩ := a
   obtain ⟨_, _, rfl, rfl, _, _, rfl, rfl, _, _, rfl, rfl, _, _, rfl, rfl, A, n, c, rfl, h1, h2, hr⟩ := h
   obtain ⟨_, _, g2, g3, _⟩ := g
   exact ⟨⟨kind, ses, seq, lim, b⟩, ⟨A, n, c, rfl, h1, h2, hr⟩, (wfU g2).1, (wfU g2).2, (wfU g3).1, (wfU g3).2⟩)
theorem opens_held : Opens Try.prog 81 LH4 (fun _ => True) :=
 opens_as (opens_struct Try.underlying81 (by kernel_rfl)
  (opensAt_cons 0 26 (by kernel_rfl) (opens_int Try.underlying26 (by kernel_rfl))
   (opensAt_last 1 45 (by kernel_rfl) opens_batch))) rfl
  (fun w a cs h g => by
   obtain ⟨seq, b⟩ := a
   obtain ⟨_, _, rfl, rfl, A, n, c, rfl, h1, h2, hr⟩ := h
   exact ⟨⟨seq, b⟩, ⟨A, n, c, rfl, h1, h2, hr⟩, trivial⟩)
theorem opens_helds : Opens Try.prog 34 LH4.slice (fun xs => ∀ x ∈ xs, True) :=
 opens_slice Try.underlying34 (by kernel_rfl) (by decide) opens_held
set_option maxRecDepth 100000 in
theorem opens_recv : Opens Try.prog 36 LRV RC.rng :=
 opens_as (opens_struct Try.underlying36 (by kernel_rfl)
  (opensAt_cons 0 25 (by kernel_rfl) (opens_int Try.underlying25 (by kernel_rfl))
  (opensAt_cons 1 26 (by kernel_rfl) (opens_int Try.underlying26 (by kernel_rfl))
  (opensAt_cons 2 34 (by kernel_rfl) opens_helds
  (opensAt_cons 3 27 (by kernel_rfl) opens_bats
  (opensAt_cons 4 3 (by kernel_rfl) (opens_int Try.underlying3 (by kernel_rfl))
   (opensAt_last 5 4 (by kernel_rfl) (opens_bool Try.underlying4 (by kernel_rfl))))))))) rfl
  (fun w a cs h g => by
   obtain ⟨ses, next, ahead, buf, room, over⟩ := a
   obtain ⟨_, _, rfl, rfl, _, _, rfl, rfl, _, _, rfl, ⟨A, n, c, rfl, h1, h2, hr⟩, _, _, rfl, ⟨B, m, d, rfl, h3, h4, hr2⟩, _, _, rfl, rfl, rfl⟩ := h
   obtain ⟨_, g1, _⟩ := g
   exact ⟨⟨ses, next, ahead, buf, room, over⟩, ⟨A, n, c, B, m, d, rfl, h1, h2, h3, h4, hr, hr2⟩, (wfU g1).1, (wfU g1).2⟩)
/-- an argument that is a struct -/
theorem open_agg {P : Program} {t : TypeId} {fs : Array Field} (ht : P.underlying t = some (.struct fs)) {α : Type} {L : Lay α} {G : α → Prop} (ho : Opens P t L G) {H : Type} {enc : TypeId × Value → H} {W : World} {r : Reach} {base : Nat} {v : Value} {d : DataW H} {p : List MemPlace}
  (hv : Value.okWide P W r base t v) (h : DataW.Trod enc P W 0 (fun _ => true) true t v d p) : ∃ a cs, v = .agg cs ∧ L.rep W AllB a cs.toList ∧ G a := by
 obtain ⟨cs, rfl, _⟩ := okWide_struct ht hv
 obtain ⟨fuel, hf⟩ := h
 obtain ⟨a, ha, g⟩ := ho.2 enc W fuel _ _ hf
 exact ⟨a, cs, rfl, by simpa [Value.cells] using ha, g⟩
theorem opens_packets : Opens Try.prog 50 LP7.slice (fun xs => ∀ x ∈ xs, PK.rng x) := opens_slice Try.underlying50 (by kernel_rfl) (by decide) opens_packet
theorem open_packets {H : Type} {enc : TypeId × Value → H} {W : World} {A : Option Addr} {n c : Nat} {d : DataW H} {p : List MemPlace} (h : DataW.Trod enc Try.prog W 0 (fun _ => true) true 50 (.slice A n c) d p) :
  ∃ xs, LP7.rd W AllB A n xs ∧ (∀ x ∈ xs, PK.rng x) ∧ n ≤ c ∧ c ≤ 9223372036854775807 := open_arg opens_packets h
set_option maxRecDepth 100000 in
theorem open_sender {H : Type} {enc : TypeId × Value → H} {W : World} {r : Reach} {base : Nat} {v : Value} {d : DataW H} {p : List MemPlace} (hv : Value.okWide Try.prog W r base 29 v) (h : DataW.Trod enc Try.prog W 0 (fun _ => true) true 29 v d p) :
  ∃ (x : SC) (A : Option Addr) (n c : Nat), v = .agg (x.cells A n c) ∧ LB3.rd W AllB A n x.q ∧ n ≤ c ∧ c ≤ 9223372036854775807 ∧ SC.rng x := by
 obtain ⟨x, cs, rfl, ⟨A, n, c, e, h1, h2, hr⟩, g⟩ := open_agg Try.underlying29 opens_sender hv h
 exact ⟨x, A, n, c, by rw [show cs = x.cells A n c from by apply Array.ext'; exact e], hr, h1, h2, g⟩
set_option maxRecDepth 100000 in
theorem open_recv {H : Type} {enc : TypeId × Value → H} {W : World} {r : Reach} {base : Nat} {v : Value} {d : DataW H} {p : List MemPlace} (hv : Value.okWide Try.prog W r base 36 v) (h : DataW.Trod enc Try.prog W 0 (fun _ => true) true 36 v d p) :
  ∃ (x : RC) (A : Option Addr) (n c : Nat) (B : Option Addr) (m k : Nat), v = .agg (x.cells A n c B m k) ∧ LH4.rd W AllB A n x.ahead ∧ n ≤ c ∧ c ≤ 9223372036854775807 ∧ LB3.rd W AllB B m x.buf ∧ m ≤ k ∧ k ≤ 9223372036854775807 ∧ RC.rng x := by
 obtain ⟨x, cs, rfl, ⟨A, n, c, B, m, k, e, h1, h2, h3, h4, hr, hr2⟩, g⟩ := open_agg Try.underlying36 opens_recv hv h
 exact ⟨x, A, n, c, B, m, k, by rw [show cs = x.cells A n c B m k from by apply Array.ext'; exact e], hr, h1, h2, hr2, h3, h4, g⟩
end Go.Proofs.Ytojghgbaiiajfaa
/- link.data$1: the packets of the batches above a number, one by one. Conditions: the queue reads as these batches. -/
namespace Go.Proofs.Ytojghgbaiiajfaa
open Go.RowKit Go.Shelf
attribute [local go_sem] Oper.semAt_some
theorem grown_of_below {w w' : World} (h : Below w.heap.size w w') : w.grownBy w' none := ⟨h.os, h.tape, h.output, h.size, fun k hk _ => h.block k hk⟩
theorem u64_inD {x : Int} (h0 : 0 ≤ x) (h1 : x ≤ 9223372036854775807) : IntKind.u64.wrap x = x := by simp [IntKind.wrap, IntKind.signed, IntKind.bits]; omega
/-- a batch with its slice -/
structure BX where
 b : BC
 A : Option Addr
 n : Nat
 c : Nat
def LBX : Lay BX where
 size := 3
 rep := fun w F x cs => cs = [.slice x.A x.n x.c, .bool x.b.fin, .int .u64 x.b.cnt] ∧ x.n ≤ x.c ∧ x.c ≤ 9223372036854775807 ∧ LR.rd w F x.A x.n x.b.rows
 len := fun h => by obtain ⟨rfl, _⟩ := h; rfl
 one := fun h u hu => by obtain ⟨rfl, _⟩ := h; simp at hu; rcases hu with rfl | rfl | rfl <;> rfl
 keep := fun hk h => by obtain ⟨e, h1, h2, hr⟩ := h; exact ⟨e, h1, h2, Lay.rd_keep hk hr⟩
 weak := fun hk h => by obtain ⟨e, h1, h2, hr⟩ := h; exact ⟨e, h1, h2, Lay.rd_weak hk hr⟩
theorem LBX_reps {w : World} {F : Nat → Prop} : ∀ {xs : List BC} {cs : List Value}, LB3.reps w F xs cs → ∃ bx : List BX, bx.map BX.b = xs ∧ LBX.reps w F bx cs
 | [], cs, h => ⟨[], rfl, h⟩
 | x :: l, cs, h => by
  obtain ⟨ds, es, e, ⟨A, n, c, h1, h2, h3, h4⟩, hl⟩ := h
  obtain ⟨bx, hb, hr⟩ := LBX_reps hl
  exact ⟨⟨x, A, n, c⟩ :: bx, by rw [List.map_cons, hb], ds, es, e, ⟨h1, h2, h3, h4⟩, hr⟩
theorem LBX_of {w : World} {F : Nat → Prop} {A : Option Addr} {n : Nat} {xs : List BC} (h : LB3.rd w F A n xs) : ∃ bx : List BX, bx.map BX.b = xs ∧ LBX.rd w F A n bx := by
 obtain ⟨hl, cs, hr, hc⟩ := h
 obtain ⟨bx, hb, hr'⟩ := LBX_reps hr
 exact ⟨bx, hb, by rw [← hb, List.length_map] at hl; exact hl, cs, hr', hc⟩
theorem LBX_at {w : World} {F : Nat → Prop} {A : Option Addr} {n i : Nat} {xs : List BX} (h : LBX.rd w F A n xs) (hi : i < n) : ∃ ad x, A = some ad ∧ xs[i]? = some x ∧ SB w F (ad.add (i * 3)) x.b x.A x.n x.c := by
 obtain ⟨ad, b, cs, e, hx, _, _, ⟨rfl, h1, h2, hr⟩, hc⟩ := Lay.rd_at h hi
 refine ⟨ad, b, e, hx, ⟨hc 0 _ rfl, ?_, ?_, h1, h2, hr⟩⟩
 · rw [← addr_more _ _ 1 (by omega)]; exact hc 1 _ rfl
 · rw [← addr_more _ _ 2 (by omega)]; exact hc 2 _ rfl
/-- a packet with its slice -/
structure PX where
 p : PK
 A : Option Addr
 n : Nat
 c : Nat
abbrev PX.cells (x : PX) : Array Value := x.p.cells x.A x.n x.c
def dataX (ses lim above : Int) : Int → List BX → List PX
 | _, [] => []
 | n, x :: l => if lim < n then [] else (if above < n then [⟨⟨1, ses, n, 0, x.b⟩, x.A, x.n, x.c⟩] else []) ++ dataX ses lim above (n + 1) l
theorem dataX_end {ses lim above n : Int} (l : List BX) (h : lim < n) : dataX ses lim above n l = [] := by
 cases l
 · rfl
 · unfold dataX; rw [if_pos h]
theorem dataX_yes {ses lim above n : Int} {l : List BX} {k : Nat} {x : BX} (hx : l[k]? = some x) (h : n ≤ lim) (h2 : above < n) : dataX ses lim above n (l.drop k) = ⟨⟨1, ses, n, 0, x.b⟩, x.A, x.n, x.c⟩ :: dataX ses lim above (n + 1) (l.drop (k + 1)) := by
 obtain ⟨hl, rfl⟩ := List.getElem?_eq_some_iff.1 hx
 rw [List.drop_eq_getElem_cons hl]
 rw [dataX, if_neg (by omega), if_pos h2]; rfl
theorem dataX_no {ses lim above n : Int} {l : List BX} {k : Nat} {x : BX} (hx : l[k]? = some x) (h : n ≤ lim) (h2 : n ≤ above) : dataX ses lim above n (l.drop k) = dataX ses lim above (n + 1) (l.drop (k + 1)) := by
 obtain ⟨hl, rfl⟩ := List.getElem?_eq_some_iff.1 hx
 rw [List.drop_eq_getElem_cons hl]
 rw [dataX, if_neg (by omega), if_neg (by omega)]; rfl
set_option maxRecDepth 100000 in
set_option maxHeartbeats 8000000 in
theorem data1_in (n : Nat) (hn : 1 ≤ n) (l Bs Bu n₀ : Nat) (A : Option Addr) (m c : Nat) (bx : List BX) (ses base sent lim timer above : Int) (ended : Bool) (J Jx : List PX → World → Prop) (W : World) (hJ : AbidesFrom W.heap.size J) (hm : m ≤ 8) (hb0 : 1 ≤ base) (hb1 : base ≤ 1099511627776)
  (hY : ∀ pre x W1, J pre W1 → pre.length < m → YieldAt Fence.wide (n - 1) Try.prog l #[.agg (PX.cells x)] W1 fun e W' => (e = .returned (.bool true) ∧ J (pre ++ [x]) W' ∧ Below n₀ W1 W') ∨ (e = .returned (.bool false) ∧ Jx (pre ++ [x]) W'))
  (hn₀ : n₀ ≤ W.heap.size) (hBs : Blk W Bs 29 #[.int .u32 ses, .int .u64 base, .slice A m c, .int .u64 sent, .int .u64 lim, .int .i64 timer, .bool ended]) (hBs' : Bs < n₀) (hBu : Blk W Bu 26 #[.int .u64 above]) (hBu' : Bu < n₀) (h : LBX.rd W (fun b => b < n₀) A m bx) (h0 : J [] W) :
  CallsIn Fence.wide n Try.prog 113 #[.func (.yield l) #[] #[], .pointer (some ⟨Bs, 0, none⟩), .pointer (some ⟨Bu, 0, none⟩)] W fun e W' => (∃ v, e = .returned v) ∧ ((∃ ys, ys = dataX ses lim above base bx ∧ J ys W') ∨ (∃ pre, pre <+: dataX ses lim above base bx ∧ Jx pre W')) := by
 have HLEN := Lib.hid h.1
 have HY := Lib.hid hY
 have HJ := Lib.hid hJ
 have HBS := Lib.hid hBs
 have HBU := Lib.hid hBu
 have c2 : W.cell? ⟨Bs, 2, none⟩ = some (.slice A m c) := hBs.cell 2
 clear hY hJ hBs hBu
 refine callsIn_of_wp Try.func113 rfl trivial ?_ rfl
 simp only [Try.ntmps113, List.size_toArray, List.length_cons, List.length_nil, Nat.reduceAdd, Nat.reduceSub, Array.replicate_succ, Array.replicate_zero, List.push_toArray, List.append_toArray, List.nil_append, List.cons_append]
 gi_wp2
 clear c2
 gi_loopw [10] (fun i wr => ∃ (k : Nat) (pre : List PX), k ≤ m ∧ i = .int .i64 k ∧ pre.length ≤ k ∧ pre ++ dataX ses lim above (base + k) (bx.drop k) = dataX ses lim above base bx ∧ J pre wr ∧ Below n₀ W wr) (fun i _ => m - (intOf i).toNat)
 case atStart => exact ⟨0, [], Nat.zero_le _, rfl, Nat.le_refl _, by simp, h0, Below.refl _ _⟩
 case round =>
  obtain ⟨k, pre, hk, rfl, hpl, hpre, hJs, hb⟩ := hrel
  have hbw : n₀ ≤ wr.heap.size := Nat.le_trans hn₀ hb.size
  have s0 : wr.cell? ⟨Bs, 0, none⟩ = some (.int .u32 ses) := (HBS.out.below hb hBs').cell 0
  have s1 : wr.cell? ⟨Bs, 1, none⟩ = some (.int .u64 base) := (HBS.out.below hb hBs').cell 1
  have s4 : wr.cell? ⟨Bs, 4, none⟩ = some (.int .u64 lim) := (HBS.out.below hb hBs').cell 4
  have u0 : wr.cell? ⟨Bu, 0, none⟩ = some (.int .u64 above) := (HBU.out.below hb hBu').cell 0
  have hw1 : IntKind.u64.wrap (k : Int) = k := u64_inD (by omega) (by omega)
  have hw2 : IntKind.u64.wrap (base + k) = base + k := u64_inD (by omega) (by omega)
  have HJS := Lib.hid hJs
  have HB0 := Lib.hid hb
  have HPRE := Lib.hid hpre
  by_cases hlt : k < m
  · have hi1 : (k : Int) < (m : Int) := by omega
   obtain ⟨ad, x, rfl, hx, q1⟩ := LBX_at (Lay.rd_keep (w' := wr) (fun b hb' _ => hb.block b hb') h) hlt
   have e0 := q1.c0
   have e1 := q1.c1
   have e2 := q1.c2
   have HX := Lib.hid hx
   have b1 := bl_al (Below.refl wr.heap.size wr) (.cells #[.slice x.A x.n x.c, .bool x.b.fin, .int .u64 x.b.cnt] 45)
   have bX := Blk.new wr 45 #[.slice x.A x.n x.c, .bool x.b.fin, .int .u64 x.b.cnt]
   have t0 : (wr.alloc (.cells #[.slice x.A x.n x.c, .bool x.b.fin, .int .u64 x.b.cnt] 45)).cell? ⟨Bs, 0, none⟩ = some (.int .u32 ses) := ((HBS.out.below hb hBs').ca b1).cell 0
   have t1 : (wr.alloc (.cells #[.slice x.A x.n x.c, .bool x.b.fin, .int .u64 x.b.cnt] 45)).cell? ⟨Bs, 1, none⟩ = some (.int .u64 base) := ((HBS.out.below hb hBs').ca b1).cell 1
   have t4 : (wr.alloc (.cells #[.slice x.A x.n x.c, .bool x.b.fin, .int .u64 x.b.cnt] 45)).cell? ⟨Bs, 4, none⟩ = some (.int .u64 lim) := ((HBS.out.below hb hBs').ca b1).cell 4
   have v0 : (wr.alloc (.cells #[.slice x.A x.n x.c, .bool x.b.fin, .int .u64 x.b.cnt] 45)).cell? ⟨Bu, 0, none⟩ = some (.int .u64 above) := ((HBU.out.below hb hBu').ca b1).cell 0
   have y0 : (wr.alloc (.cells #[.slice x.A x.n x.c, .bool x.b.fin, .int .u64 x.b.cnt] 45)).cell? ⟨wr.heap.size, 0, none⟩ = some (.slice x.A x.n x.c) := bX.cell 0
   have y1 : (wr.alloc (.cells #[.slice x.A x.n x.c, .bool x.b.fin, .int .u64 x.b.cnt] 45)).cell? ⟨wr.heap.size, 1, none⟩ = some (.bool x.b.fin) := bX.cell 1
   have y2 : (wr.alloc (.cells #[.slice x.A x.n x.c, .bool x.b.fin, .int .u64 x.b.cnt] 45)).cell? ⟨wr.heap.size, 2, none⟩ = some (.int .u64 x.b.cnt) := bX.cell 2
   have HT := Lib.hid (show Below wr.heap.size wr (wr.alloc (.cells #[.slice x.A x.n x.c, .bool x.b.fin, .int .u64 x.b.cnt] 45)) from b1)
   have HJ2 := Lib.hid (HJ.out _ _ _ none HJS.out (grown_of_below b1) (fun r e => by cases e))
   clear hx q1 hJs hb hpre b1 bX h
   by_cases hl : lim < base + k
   · have d1 : decide (lim < base + (k : Int)) = true := by simpa using hl
    have HE := Lib.hid (show pre = dataX ses lim above base bx from by rw [← HPRE.out, dataX_end _ hl, List.append_nil])
    gi_wp2
    refine bodyPost_ret (results_none rfl _ _ _) rfl ?_
    exact ⟨⟨_, rfl⟩, .inl ⟨_, rfl, by rw [← HE.out]; exact HJ2.out⟩⟩
   · have d1 : decide (lim < base + (k : Int)) = false := by simp; omega
    by_cases ha : above < base + k
    · have d2 : decide (above < base + (k : Int)) = true := by simpa using ha
     have HN := Lib.hid (show (pre ++ [(⟨⟨1, ses, base + k, 0, x.b⟩, x.A, x.n, x.c⟩ : PX)]) ++ dataX ses lim above (base + (k + 1 : Nat)) (bx.drop (k + 1)) = dataX ses lim above base bx from by
      rw [← HPRE.out, dataX_yes HX.out (by omega) ha, List.append_assoc, List.singleton_append, show base + ((k + 1 : Nat) : Int) = base + k + 1 from by omega])
     obtain ⟨fn, tmps, assign, body, hy, hR⟩ := HY.out _ ⟨⟨1, ses, base + k, 0, x.b⟩, x.A, x.n, x.c⟩ _ HJ2.out (by omega)
     have HRR := Lib.hid hR
     clear hR
     gi_wp2
     refine HRR.out.mono ?_
     rintro e W3 (⟨rfl, hJ3, hk3⟩ | ⟨rfl, hJx3⟩)
     · have HJ3 := Lib.hid hJ3
      have HB3 := Lib.hid ((HB0.out.trans (HT.out.mono (by omega))).trans hk3)
      clear hJ3 hk3 hy
      gi_wp2
      go_roundw
      case rel => exact ⟨k + 1, _, by omega, by go_num, by simp; omega, HN.out, HJ3.out, HB3.out⟩
      case measure => simp [intOf]; omega
     · clear hy
      gi_wp2
      refine bodyPost_ret (results_none rfl _ _ _) rfl ?_
      exact ⟨⟨_, rfl⟩, .inr ⟨_, ⟨_, HN.out⟩, hJx3⟩⟩
    · have d2 : decide (above < base + (k : Int)) = false := by simp; omega
     have HN := Lib.hid (show pre ++ dataX ses lim above (base + (k + 1 : Nat)) (bx.drop (k + 1)) = dataX ses lim above base bx from by
      rw [← HPRE.out, dataX_no HX.out (by omega) (by omega), show base + ((k + 1 : Nat) : Int) = base + k + 1 from by omega])
     have HB3 := Lib.hid (HB0.out.trans (HT.out.mono (by omega)))
     gi_wp2
     refine ⟨fun _ h => (by cases h), ?_⟩
     gi_wp2
     go_roundw
     case rel => exact ⟨k + 1, _, by omega, by go_num, by omega, HN.out, HJ2.out, HB3.out⟩
     case measure => simp [intOf]; omega
  · obtain rfl : k = m := by omega
   have hi1 : (k : Int) ≤ (k : Int) := by omega
   have HF := Lib.hid (show pre = dataX ses lim above base bx from by rw [← HPRE.out, List.drop_of_length_le (by rw [HLEN.out]; exact Nat.le_refl _)]; simp [dataX])
   gi_wp2
   go_end0
   exact ⟨⟨_, rfl⟩, .inl ⟨_, rfl, by rw [← HF.out]; exact HJS.out⟩⟩
end Go.Proofs.Ytojghgbaiiajfaa
/- link.collected: all that a function over which one ranges tells. Conditions: the function keeps to its contract. -/
namespace Go.Proofs.Ytojghgbaiiajfaa
open Go.RowKit Go.Shelf
attribute [local go_sem] Oper.semAt_some
theorem Try.pkInfo : (Try.prog.info? 47).map (fun i => (i.zero, i.size, i.bytes)) = some (some (.agg #[.int .i64 0, .int .u32 0, .int .u64 0, .int .u64 0, .slice none 0 0, .bool false, .int .u64 0]), 7, 72) := by kernel_rfl
def rowX (xs : List PX) : List Value := xs.flatMap fun x => x.cells.toList
theorem rowX_one (pre : List PX) (x : PX) : rowX (pre ++ [x]) = rowX pre ++ x.cells.toList := by unfold rowX; simp
set_option maxRecDepth 100000 in
set_option maxHeartbeats 8000000 in
theorem collected_in (n : Nat) (hn : 2 ≤ n) (gf : FuncId) (lb : Array Value) (xs : List PX) (N : Nat) (w : World) (hN : N ≤ 1000000) (eg : ∀ (args : Array Value) (w : World), (callFunc gf args).run Try.prog w = .ok (.enter gf args) w)
  (hseq : SeqStopsK Fence.wide (n - 1) Try.prog gf lb (fun x : PX => #[Value.agg x.cells]) (Below w.heap.size) (fun ys => ys = xs) (fun pre => pre <+: xs) N w) :
  CallsIn Fence.wide n Try.prog 94 #[.func (.func gf) #[] lb] w fun e W' => ∃ v, e = .returned v ∧ W'.ownsRow w.heap.size 47 7 v xs.length (rowX xs) ∧ Below w.heap.size w W' := by
 have h1 : 1 ≤ n := by omega
 obtain ⟨i0, hi, hz0, hz1, hz2⟩ := info_parts Try.pkInfo
 refine callsIn_of_wp_marks Try.func94 rfl trivial ?_ rfl
 simp only [Try.ntmps94, List.size_toArray, List.length_cons, List.length_nil, Nat.reduceAdd, Nat.reduceSub, Array.replicate_succ, Array.replicate_zero, List.push_toArray, List.append_toArray, List.nil_append, List.cons_append]
 gi_wp2
 have bO := Boxed.new w 50 (.slice none 0 0)
 have hB0 : Below w.heap.size w (w.alloc (.cells #[.slice none 0 0] 50)) := (Below.refl _ w).alloc (Nat.le_refl _) _
 refine wpIn_rangeFunc_ownH rfl h1 (gf := gf) (lb := lb) rfl trivial eg hseq (fun h k => belowK_t h k) (belowK_b (by simp)) hB0 (fun _ => rfl)
  (fun (pre : List PX) W => (∃ v, Boxed W w.heap.size 50 v ∧ W.ownsRow w.heap.size 47 7 v pre.length (rowX pre) ∧ True) ∧ Below w.heap.size w W)
  (fun _ _ _ => False)
  (OwnFrom.and (Own.from (holdsRow_own w.heap.size w.heap.size 50 47 7 (fun pre : List PX => pre.length) rowX (fun _ _ => True)) _) (ownFrom_below (Nat.le_refl _) (by simp)))
  (fun _ _ _ _ _ hs _ _ => hs)
  ⟨⟨_, bO, World.ownsRow_nil _ _ _ _, trivial⟩, hB0⟩
  (fun x a' W => ∃ g, a' = { tmps := #[.func (.func gf) #[] lb, undef, .slice none 0 0, .pointer (some ⟨w.heap.size, 0, none⟩), .pointer (some ⟨g, 0, none⟩), .func (.func gf) #[] lb, .agg x.cells, undef, undef, undef, undef, undef], defers := [] } ∧ Blk W g 47 x.cells)
  (fun x a' _ X Y row hs hg hr => by
   obtain ⟨g, e, hb⟩ := hs
   exact ⟨g, e, hb.grown hg (fun e' => by obtain ⟨o, ho, hc⟩ := (hr g e'.symm).2; rw [show X.heap[g]? = _ from hb] at ho; cases ho; cases hc)⟩) ?assign ?body ?done ?stop
 case assign =>
  intro l pre x W K hI hK
  have b1 := bl_al (Below.refl W.heap.size W) (.cells #[.int .i64 x.p.kind, .int .u32 x.p.ses, .int .u64 x.p.seq, .int .u64 x.p.lim, .slice x.A x.n x.c, .bool x.p.b.fin, .int .u64 x.p.b.cnt] 47)
  have hb := hI.2
  obtain ⟨⟨v, hv, hrow, _⟩, hB⟩ := hI
  have hbs := hB.size
  gi_wp2
  exact hK _ _ ((KeepsOthers.alloc W _).from _) (b1.mono hbs) ⟨⟨v, hv.alloc _, hrow.alloc _, trivial⟩, hB.trans (b1.mono hbs)⟩ ⟨W.heap.size, rfl, Blk.new _ _ _⟩
 case body =>
  rintro l pre x a' W _ _ ⟨⟨v, hv, hrow, _⟩, hB⟩ ⟨g, rfl, hbx⟩ hlt
  have hc := hv.cell
  have x0 := hbx.cell 0
  have x1 := hbx.cell 1
  have x2 := hbx.cell 2
  have x3 := hbx.cell 3
  have x4 := hbx.cell 4
  have x5 := hbx.cell 5
  have x6 := hbx.cell 6
  simp at x0 x1 x2 x3 x4 x5 x6
  have bT := Blk.new W 47 #[.int .i64 x.p.kind, .int .u32 x.p.ses, .int .u64 x.p.seq, .int .u64 x.p.lim, .slice x.A x.n x.c, .bool x.p.b.fin, .int .u64 x.p.b.cnt]
  have hnew : ∀ (j : Nat) (u : Value), x.cells.toList[j]? = some u → (W.alloc (.cells #[.int .i64 x.p.kind, .int .u32 x.p.ses, .int .u64 x.p.seq, .int .u64 x.p.lim, .slice x.A x.n x.c, .bool x.p.b.fin, .int .u64 x.p.b.cnt] 47)).cell? ((⟨W.heap.size, 0, none⟩ : Addr).add j) = some u := fun j u hu => (by
   have h1 := bT.cell j
   rw [show (⟨W.heap.size, 0, none⟩ : Addr).add j = ⟨W.heap.size, j, none⟩ from by unfold Addr.add; split <;> simp_all]
   rw [h1]; simpa using hu)
  have h1c : ∀ u ∈ x.cells.toList, u.oneCell' = true := fun u hu => by simp at hu; rcases hu with rfl | rfl | rfl | rfl | rfl | rfl | rfl <;> rfl
  gi_wp2_with (gi_at_builtin; refine wpListIn_append_own _ rfl _ _ 50 rfl w.heap.size 47 i0 _ 7 72 Try.underlying50 hi hz0 hz1 hz2 rfl (by decide) _ _ _ rfl (hrow.alloc _) ⟨W.heap.size, 0, none⟩ 1 1 x.cells.toList rfl rfl hnew h1c (by unfold maxLen; omega) (by omega) (by have := hB.size; simp; omega) ?_; intro v' w1 hown' hgrow _; obtain ⟨g', cap', rfl⟩ := ownsRow_succ hown'; obtain ⟨hv1, hv2, hr2, hk2, hb2⟩ := hv.appended (by decide) hrow hB.size (Nat.le_refl _) hown' hgrow; have hc1 := hv1.cell; have hf1 := hv1.frozen)
  exact ⟨hk2.from _, hb2, ⟨_, hv2, by rw [rowX_one, show (pre ++ [x]).length = pre.length + 1 from by simp]; exact hr2⟩, hB.trans hb2⟩
 case done =>
  rintro D ys W hD rfl ⟨⟨v, hv, hrow, _⟩, hB⟩ hK
  have hc := hv.cell
  gi_wp2
  refine ⟨by simp, .inl ⟨_, _, rfl, run_takeDeferred hK, ?_⟩⟩
  exact ⟨_, results_tmp rfl _ _ _, v, rfl, ownsRow_putObj hrow _ hK rfl, hB.trans (belowK_b (w := w) (Nat.le_refl _) W D _ _ (by simp at hD; omega) hK rfl rfl)⟩
 case stop =>
  rintro D c pre W _ _ h _
  exact h.elim
end Go.Proofs.Ytojghgbaiiajfaa
/- What link.Tick tells, in plain Lean; link.data and link.collected together. Conditions: the queue reads as these batches. -/
namespace Go.Proofs.Ytojghgbaiiajfaa
open Go.RowKit Go.Shelf
/-- the packets told -/
def dataP (ses lim above : Int) : Int → List BC → List PK
 | _, [] => []
 | n, x :: l => if lim < n then [] else (if above < n then [⟨1, ses, n, 0, x⟩] else []) ++ dataP ses lim above (n + 1) l
theorem dataX_p (ses lim above : Int) : ∀ (bx : List BX) (n : Int), (dataX ses lim above n bx).map PX.p = dataP ses lim above n (bx.map BX.b)
 | [], _ => rfl
 | x :: l, n => by
  have ih := dataX_p ses lim above l (n + 1)
  unfold dataX
  rw [List.map_cons, dataP]
  split
  · rfl
  · rw [List.map_append, ih]
   split <;> rfl
theorem dataX_mem {ses lim above : Int} : ∀ {bx : List BX} {n : Int} {x : PX}, x ∈ dataX ses lim above n bx → ∃ y ∈ bx, x.p.b = y.b ∧ x.A = y.A ∧ x.n = y.n ∧ x.c = y.c
 | [], _, x, h => by cases h
 | y :: l, n, x, h => by
  unfold dataX at h
  split at h
  · cases h
  · rcases List.mem_append.1 h with h | h
   · split at h
    · simp at h; subst h; exact ⟨y, by simp, rfl, rfl, rfl, rfl⟩
    · cases h
   · obtain ⟨z, hz, r⟩ := dataX_mem h
    exact ⟨z, by simp [hz], r⟩
theorem dataX_le {ses lim above : Int} : ∀ {bx : List BX} {n : Int}, (dataX ses lim above n bx).length ≤ bx.length
 | [], _ => Nat.le_refl _
 | y :: l, n => by
  have ih := dataX_le (ses := ses) (lim := lim) (above := above) (bx := l) (n := n + 1)
  unfold dataX
  split
  · simp
  · rw [List.length_append, List.length_cons]
   split <;> simp <;> omega
/-- each of them reads so -/
def BX.ok (w : World) (F : Nat → Prop) (x : BX) : Prop := x.n ≤ x.c ∧ x.c ≤ 9223372036854775807 ∧ LR.rd w F x.A x.n x.b.rows
theorem LBX_ok {w : World} {F : Nat → Prop} : ∀ {bx : List BX} {cs : List Value}, LBX.reps w F bx cs → ∀ x ∈ bx, BX.ok w F x
 | [], _, _, x, h => by cases h
 | y :: l, _, ⟨ds, es, _, ⟨_, h1, h2, h3⟩, hl⟩, x, h => by
  rcases List.mem_cons.1 h with rfl | h
  · exact ⟨h1, h2, h3⟩
  · exact LBX_ok hl x h
theorem LP7_reps {w : World} {F : Nat → Prop} : ∀ {xs : List PX}, (∀ x ∈ xs, x.n ≤ x.c ∧ x.c ≤ 9223372036854775807 ∧ LR.rd w F x.A x.n x.p.b.rows) → LP7.reps w F (xs.map PX.p) (rowX xs)
 | [], _ => rfl
 | x :: l, h => ⟨x.cells.toList, rowX l, by unfold rowX; simp, ⟨x.A, x.n, x.c, rfl, h x (by simp)⟩, LP7_reps (fun y hy => h y (by simp [hy]))⟩
theorem LP7_at2 {w : World} {F : Nat → Prop} {A : Option Addr} {n i : Nat} {xs : List PK} (h : LP7.rd w F A n xs) (hi : i < n) : ∃ ad p, A = some ad ∧ xs[i]? = some p ∧ w.cell? ⟨(ad.add (i * 7)).block, (ad.add (i * 7)).off + 2, none⟩ = some (.int .u64 p.seq) := by
 obtain ⟨ad, b, cs, e, hx, _, _, ⟨B, k, c, rfl, h1, h2, hr⟩, hc⟩ := Lay.rd_at h hi
 refine ⟨ad, b, e, hx, ?_⟩
 rw [← addr_more _ _ 2 (by omega)]; exact hc 2 _ rfl
theorem LBX_own {e : TypeId} {w : World} {B : Nat} {G : Nat → Prop} {A : Option Addr} {n c : Nat} {xs : List BC} (h : LB3.own e w B G A n c xs) : ∃ bx : List BX, bx.map BX.b = xs ∧ LBX.own e w B G A n c bx ∧ ∀ x ∈ bx, BX.ok w G x := by
 obtain ⟨hl, cs, hr, hc⟩ := h
 obtain ⟨bx, hb, hr'⟩ := LBX_reps hr
 exact ⟨bx, hb, ⟨by rw [← hb, List.length_map] at hl; exact hl, cs, hr', hc⟩, LBX_ok (Lay.reps_weak (fun b h _ => h.1) hr')⟩
def underS (s : SC) : Bool := decide (s.base ≤ s.sent)
def againS (s : SC) : Bool := underS s && s.timer == 2
def aboveS (s : SC) : Int := if againS s then 0 else s.sent
def outP (s : SC) : List PK := dataP s.ses s.lim (aboveS s) s.base s.q
def sentS (s : SC) : Int := match (outP s).getLast? with | none => s.sent | some x => max s.sent x.seq
def tickR (s : SC) : SC := ⟨s.ses, s.base, s.q, sentS s, s.lim, if againS s || !underS s then 0 else s.timer + 1, s.ended⟩
/-- the variable that it fills -/
def TickY (p : Nat) (w0 : World) (Fr : Nat → Prop) (out : List PK) (w' : World) : Prop := ∃ A n c, Blk w' p 50 #[.slice A n c] ∧ LP7.own 47 w' (w0.heap.size + 2) Fr A n c out
set_option maxRecDepth 100000 in
theorem data_any (cs : Array Value) (above : Int) (w : World) :
  Calls Try.prog 95 #[.agg cs, .int .u64 above] w fun e w' => e = .returned (.func (.func 113) #[] #[.pointer (some ⟨w.heap.size, 0, none⟩), .pointer (some ⟨w.heap.size + 1, 0, none⟩)]) ∧ w' = (w.alloc (.cells cs 29)).alloc (.cells #[.int .u64 above] 26) := by
 go_enter Try.func95, Try.ntmps95
 go_wp2
 go_ret
 exact ⟨rfl, rfl⟩
theorem told_any (Bs Bu : Nat) (A : Option Addr) (m c : Nat) (bx : List BX) (ses base sent lim timer above : Int) (ended : Bool) (w : World) (hm : m ≤ 8) (hb0 : 1 ≤ base) (hb1 : base ≤ 1099511627776)
  (hBs : Blk w Bs 29 #[.int .u32 ses, .int .u64 base, .slice A m c, .int .u64 sent, .int .u64 lim, .int .i64 timer, .bool ended]) (hBs' : Bs < w.heap.size) (hBu : Blk w Bu 26 #[.int .u64 above]) (hBu' : Bu < w.heap.size) (h : LBX.rd w (fun b => b < w.heap.size) A m bx) :
  Calls Try.prog 94 #[.func (.func 113) #[] #[.pointer (some ⟨Bs, 0, none⟩), .pointer (some ⟨Bu, 0, none⟩)]] w fun e w' => ∃ v, e = .returned v ∧ w'.ownsRow w.heap.size 47 7 v (dataX ses lim above base bx).length (rowX (dataX ses lim above base bx)) ∧ Below w.heap.size w w' := by
 have hseq : SeqStopsK Fence.wide 2 Try.prog 113 #[.pointer (some ⟨Bs, 0, none⟩), .pointer (some ⟨Bu, 0, none⟩)] (fun x : PX => #[Value.agg x.cells]) (Below w.heap.size) (fun ys => ys = dataX ses lim above base bx) (fun pre => pre <+: dataX ses lim above base bx) m w := by
  intro l J Jx W hW hJ hJx hY h0
  exact data1_in 2 (by omega) l Bs Bu w.heap.size A m c bx ses base sent lim timer above ended J Jx W hJ hm hb0 hb1 hY hW.size (hBs.below hW hBs') hBs' (hBu.below hW hBu') hBu' (Lay.rd_keep (fun b hb hlt => hW.block b hb) h) h0
 exact callsIn_wide.1 (collected_in 3 (by omega) 113 #[.pointer (some ⟨Bs, 0, none⟩), .pointer (some ⟨Bu, 0, none⟩)] _ m w (by omega) (Go.Proofs.enters_of Try.func113 (by kernel_rfl) rfl) hseq)
end Go.Proofs.Ytojghgbaiiajfaa
