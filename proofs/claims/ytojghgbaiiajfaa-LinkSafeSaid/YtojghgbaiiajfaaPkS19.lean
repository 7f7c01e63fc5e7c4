/- The link comes to the end, in plain Lean: LinkEnds' mathematics. Conditions: none. -/
import Derived.Test.YtojghgbaiiajfaaPkS18
namespace Go.Proofs.Ytojghgbaiiajfaa
open Go.RowKit
/-! ### nothing is heard that was not sent -/
structure EX (s : SC) (r : RC) (way : List PK) : Prop where
 nx : r.next ≤ s.sent + 1
 ah : ∀ h ∈ r.ahead, h.seq ≤ s.sent
 wy : ∀ p ∈ way, p.kind = 1 → p.seq ≤ s.sent
theorem EX.begin_ {n rm : Int} (h : roomB n rm = true) : EX (openS n) (listenR n rm) [] := by
 have h0 := h
 unfold roomB at h
 simp only [Bool.and_eq_true, decide_eq_true_eq] at h
 unfold openS listenR
 rw [if_pos h.1, if_pos h0]
 exact ⟨by simp, fun x hx => by simp at hx, fun x hx => by simp at hx⟩
section
variable {s : SC} {r : RC} {way : List PK}
theorem EX.less (h : EX s r way) {way' : List PK} (hw : ∀ p ∈ way', p ∈ way) : EX s r way' := ⟨h.nx, h.ah, fun p hp => h.wy p (hw p hp)⟩
theorem EX.puts (h : EX s r way) (b : BC) : EX (putR s b) r way := ⟨h.nx, h.ah, h.wy⟩
theorem acked_sent (p : PK) : (ackedR s p).sent = s.sent := by unfold ackedR; split <;> rfl
theorem EX.acked (h : EX s r way) (p : PK) : EX (ackedR s p) r way := ⟨by rw [acked_sent]; exact h.nx, fun x hx => by rw [acked_sent]; exact h.ah x hx, fun x hx => by rw [acked_sent]; exact h.wy x hx⟩
theorem EX.says (h : EX s r way) (hr : recB r = true) : EX s r (way ++ [ackR r]) := by
 refine ⟨h.nx, h.ah, fun p hp hk => ?_⟩
 rcases List.mem_append.1 hp with hp | hp
 · exact h.wy p hp hk
 · obtain rfl := List.mem_singleton.1 hp
   unfold ackR at hk
   rw [if_pos hr] at hk; cases hk
theorem takR_nx (r : RC) (hE : takE r = 0) : (takR r).next = r.next ∧ (takR r).ahead = r.ahead := by
 unfold takE at hE; unfold takR
 cases h : r.buf with
 | nil => rw [h] at hE; cases hE
 | cons b l => exact ⟨rfl, rfl⟩
theorem EX.takes (h : EX s r way) (hE : takE r = 0) : EX s (takR r) way := by
 obtain ⟨h1, h2⟩ := takR_nx r hE
 exact ⟨by rw [h1]; exact h.nx, by rw [h2]; exact h.ah, h.wy⟩
theorem data_pw {ses lim above : Int} : ∀ (l : List BC) (n : Int), (dataP ses lim above n l).Pairwise (fun a b => a.seq ≤ b.seq)
 | [], _ => List.Pairwise.nil
 | x :: l, n => by
  have ih := data_pw (ses := ses) (lim := lim) (above := above) l (n + 1)
  unfold dataP
  split
  · exact List.Pairwise.nil
  · refine List.pairwise_append.2 ⟨?_, ih, fun a ha b hb => ?_⟩
    · split
      · exact List.pairwise_singleton _ _
      · exact List.Pairwise.nil
    · obtain ⟨_, _, _, i, h4, _⟩ := data_mem hb
      split at ha
      · obtain rfl := List.mem_singleton.1 ha
        show n ≤ b.seq; omega
      · cases ha
theorem out_le (s : SC) : ∀ p ∈ outP s, p.seq ≤ sentS s := by
 intro p hp
 unfold sentS
 cases hl : (outP s).getLast? with
 | none => rw [List.getLast?_eq_none_iff] at hl; rw [hl] at hp; cases hp
 | some x =>
  obtain ⟨ys, hy⟩ := List.getLast?_eq_some_iff.1 hl
  have hpw : (outP s).Pairwise (fun a b => a.seq ≤ b.seq) := data_pw _ _
  rw [hy] at hp hpw
  rcases List.mem_append.1 hp with hp | hp
  · have := (List.pairwise_append.1 hpw).2.2 p hp x (List.mem_singleton.2 rfl)
    show p.seq ≤ max s.sent x.seq; omega
  · obtain rfl := List.mem_singleton.1 hp
    show p.seq ≤ max s.sent p.seq; omega
theorem sent_ge (s : SC) : s.sent ≤ sentS s := by
 unfold sentS
 cases (outP s).getLast? with
 | none => exact Int.le_refl _
 | some x => show s.sent ≤ max s.sent x.seq; omega
theorem EX.tick (h : EX s r way) : EX (tickR s) r (way ++ outP s) := by
 have h0 := sent_ge s
 refine ⟨by show r.next ≤ sentS s + 1; have := h.nx; omega, fun x hx => by show x.seq ≤ sentS s; have := h.ah x hx; omega, fun p hp hk => ?_⟩
 show p.seq ≤ sentS s
 rcases List.mem_append.1 hp with hp | hp
 · have := h.wy p hp hk; omega
 · exact out_le s p hp
theorem ins_mem (y : HC) (l : List HC) : ∀ z ∈ insL y l, z = y ∨ z ∈ l := by
 intro z hz
 unfold insL at hz
 rcases List.mem_append.1 hz with hz | hz
 · exact .inr (List.mem_of_mem_take hz)
 · rcases List.mem_cons.1 hz with hz | hz
   · exact .inl hz
   · exact .inr (List.mem_of_mem_drop hz)
theorem drain_last : ∀ (l : List HC) (a : Int), drainN a l = 0 ∨ ∃ h ∈ l, h.seq = a + (drainN a l : Int) - 1
 | [], _ => .inl rfl
 | x :: l, a => by
  unfold drainN
  split
  · next he =>
    right
    rcases drain_last l (a + 1) with h | ⟨h, hm, e⟩
    · exact ⟨x, List.mem_cons_self, by rw [h]; omega⟩
    · exact ⟨h, List.mem_cons_of_mem _ hm, by omega⟩
  · exact .inl rfl
theorem EX.heard (h : EX s r way) {p : PK} (hp : p.kind = 1 → p.seq ≤ s.sent) : EX s (hearR r p) way := by
 unfold hearR
 split
 · next hb =>
   unfold hearB heardA at hb
   simp only [Bool.and_eq_true, decide_eq_true_eq] at hb
   have hs := hp hb.1.2.1
   have hm : ∀ z ∈ insL ⟨p.seq, p.b⟩ r.ahead, z.seq ≤ s.sent := fun z hz => (ins_mem _ _ z hz).elim (fun e => by rw [e]; exact hs) (h.ah z)
   refine ⟨?_, fun z hz => hm z (List.mem_of_mem_drop hz), h.wy⟩
   show r.next + (drainN r.next _ : Int) ≤ s.sent + 1
   rcases drain_last (insL ⟨p.seq, p.b⟩ r.ahead) r.next with e | ⟨z, hz, e⟩
   · rw [e]; have := h.nx; omega
   · have := hm z hz; omega
 · exact h
end
/-! ### a round -/
section
variable {σ room : Int} {s : SC} {r : RC} {way : List PK} {put taken : List BC}
theorem SInv.tn (h : SInv σ room s r way put taken) : r.next = ((taken.length + r.buf.length : Nat) : Int) + 1 ∧ taken.length + r.buf.length ≤ put.length := by
 obtain ⟨N, hN, hr, hNl⟩ := h.N
 have := congrArg List.length hr
 rw [List.length_append, List.length_take] at this
 omega
/-- what stands behind each round -/
structure RJ (room : Int) (s : SC) (r : RC) (taken : List BC) : Prop where
 bf : r.buf = []
 bs : s.base = r.next
 lm : s.lim = (taken.length : Int) + room
def dJ (s : SC) : Nat := if s.base ≤ s.sent then 3 - s.timer.toNat else 1
theorem SInv.d1 (h : SInv σ room s r way put taken) : 1 ≤ dJ s ∧ dJ s ≤ 3 := by
 have h1 := h.sb.t1
 have h2 := h.sb.t2
 unfold dJ
 split <;> omega
end
end Go.Proofs.Ytojghgbaiiajfaa
/- A region that draws, with a variable (operation a) made beside one call (c) and stored behind it (d). Conditions: c, a, d apart. -/
namespace Go.Proofs.Ytojghgbaiiajfaa
open Go.RowKit
def Wt1 (c a d : Nat) (B : Option Nat → Nat → (Nat → Value) → World → Prop) : Array Bool → (Nat → Value) → World → Prop := fun L m w =>
 ∃ al : Option Nat, (Dn L a = true → ∃ g, al = some g ∧ m a = .pointer (some ⟨g, 0, none⟩)) ∧ (Dn L a = false → al = none) ∧ SeqN [c, d] (B al) L m w
section
variable {c a d : Nat} {B : Option Nat → Nat → (Nat → Value) → World → Prop} {L : Array Bool} {m m' : Nat → Value} {w w' : World}
theorem Wt1.start {n : Nat} (hc : c < n) (ha : a < n) (hd : d < n) (h : B none 0 m w) : Wt1 c a d B (Array.replicate n false) m w := by
 refine ⟨none, fun e => ?_, fun _ => rfl, SeqN.start (by simp; omega) h⟩
 unfold Dn at e
 rw [Array.getD_eq_getD_getElem?, Array.getElem?_replicate, if_pos ha] at e
 cases e
theorem Wt1.pass {i : Nat} (h8 : (a != i) = true) (h : ([c, d].all fun k => k != i) = true) : Pass (Wt1 c a d B) i := fun L m w hS => by
 obtain ⟨al, h1, h2, hS⟩ := hS
 have e : Dn (L.setIfInBounds i true) a = Dn L a := dn_ne (by simpa using h8)
 exact ⟨al, by rw [e]; exact h1, by rw [e]; exact h2, SeqN.pass h L m w hS⟩
theorem Wt1.any {T : World → Prop} (t : ∀ al j m w, B al j m w → T w) (hS : Wt1 c a d B L m w) : T w := by
 obtain ⟨al, _, _, hS⟩ := hS
 exact t _ _ _ _ hS
/-- the call is not done, nor the store -/
theorem Wt1.zero (hc : Dn L c = false) (hd : Dn L d = false) (hS : Wt1 c a d B L m w) : ∃ al, B al 0 m w := by
 obtain ⟨al, _, _, hS⟩ := hS
 unfold SeqN cntD cntD cntD at hS
 rw [hc, hd] at hS
 exact ⟨al, hS⟩
/-- the variable is made -/
theorem Wt1.made {v : Value} {g : Nat} (hac : a ≠ c) (had : a ≠ d) (ha : Dn L a = false) (hd : Dn L d = false) (hv : v = .pointer (some ⟨g, 0, none⟩)) (t : ∀ j, j < 2 → B none j m w → B (some g) j (upd m a v) w') (hS : Wt1 c a d B L m w) : Wt1 c a d B (L.setIfInBounds a true) (upd m a v) w' := by
 obtain ⟨al, _, h2, hS⟩ := hS
 obtain rfl := h2 ha
 refine ⟨some g, fun _ => ⟨g, rfl, by rw [upd_same]; exact hv⟩, fun e => ?_, ?_⟩
 · rw [dn_eq] at e; cases e
 · have hS2 := SeqN.pass (i := a) (by simp; exact ⟨Ne.symm hac, Ne.symm had⟩) L m w hS
   unfold SeqN cntD cntD cntD at *
   rw [dn_ne (Ne.symm hac), dn_ne (Ne.symm had), hd] at *
   refine t _ ?_ hS2
   cases Dn L c <;> simp
/-- the call -/
theorem Wt1.call (hac : a ≠ c) (hcd : c ≠ d) (hc : Dn L c = false) (hd : Dn L d = false) (hS : Wt1 c a d B L m w) : ∃ al, B al 0 m w ∧ ∀ v w', B al 1 (upd m c v) w' → Wt1 c a d B (L.setIfInBounds c true) (upd m c v) w' := by
 obtain ⟨al, a1, a2, hS⟩ := hS
 unfold SeqN cntD cntD cntD at hS
 rw [hc, hd] at hS
 refine ⟨al, hS, fun v w' hB => ⟨al, ?_, ?_, ?_⟩⟩
 · rw [dn_ne hac, upd_ne hac]; exact a1
 · rw [dn_ne hac]; exact a2
 · unfold SeqN cntD cntD cntD
   rw [dn_eq, dn_ne (Ne.symm hcd), hd]
   exact hB
/-- the store -/
theorem Wt1.store (had : a ≠ d) (hcd : c ≠ d) (hc : Dn L c = true) (ha : Dn L a = true) (hd : Dn L d = false) (hS : Wt1 c a d B L m w) : ∃ g, m a = .pointer (some ⟨g, 0, none⟩) ∧ B (some g) 1 m w ∧ ∀ w', B (some g) 2 m w' → Wt1 c a d B (L.setIfInBounds d true) m w' := by
 obtain ⟨al, a1, a2, hS⟩ := hS
 obtain ⟨g, rfl, hm⟩ := a1 ha
 unfold SeqN cntD cntD cntD at hS
 rw [hc, hd] at hS
 refine ⟨g, hm, hS, fun w' hB => ⟨some g, ?_, ?_, ?_⟩⟩
 · exact fun _ => ⟨g, rfl, hm⟩
 · rw [dn_ne had]; exact a2
 · unfold SeqN cntD cntD cntD
   rw [dn_eq, dn_ne hcd, hc]
   exact hB
theorem Wt1.fin (ha : Dn L a = true) (h : ([c, d].all fun x => Dn L x) = true) (hS : Wt1 c a d B L m w) : ∃ g, m a = .pointer (some ⟨g, 0, none⟩) ∧ B (some g) 2 m w := by
 obtain ⟨al, a1, _, hS⟩ := hS
 obtain ⟨g, rfl, hm⟩ := a1 ha
 exact ⟨g, hm, SeqN.fin h hS⟩
end
end Go.Proofs.Ytojghgbaiiajfaa
/- A region whose order Go leaves open, with several operations of unknown yield side by side; what follows is said once. Conditions: none. -/
namespace Go.Proofs.Ytojghgbaiiajfaa
open Go.RowKit
section
variable {P : Program} {ops : Array Oper} {Q Q' : Exit → Act → World → Prop} {md : Region.Mode} {S : Array Bool → (Nat → Value) → World → Prop}
theorem Ps.weak (h : ∀ a w, Q' .normal a w → Q .normal a w) : ∀ (f : Nat) (m : Nat → Value) (L : Array Bool) (a : Act), Ps P md ops Q' S f m L a → Ps P md ops Q S f m L a
 | 0, _, _, _, k => ⟨k.1, fun w hS => h _ _ (k.2 w hS)⟩
 | f + 1, m, L, a, k => ⟨fun e w hS => h _ _ (k.1 e w hS), fun i hi => by
  obtain ⟨o, ho, ⟨u, hs, hg⟩ | ⟨V, hs, hg⟩⟩ := k.2 i hi
  · exact ⟨o, ho, .inl ⟨u, hs, Ps.weak h f _ _ _ hg⟩⟩
  · exact ⟨o, ho, .inr ⟨V, hs, fun v hV => Ps.weak h f _ _ _ (hg v hV)⟩⟩⟩
/-- one of several that come next -/
def Turns (P : Program) (md : Region.Mode) (ops : Array Oper) (Q : Exit → Act → World → Prop) (S : Array Bool → (Nat → Value) → World → Prop) (f : Nat) (m : Nat → Value) (L : Array Bool) (a : Act) (i : Nat) : Prop :=
 ∃ o, ops[i]? = some o ∧ ∃ V, TurnS P md ops S m i o V a ∧ ∀ v, V v → Ps P md ops Q S f (upd m i v) (L.setIfInBounds i true) (a.put o.dst v)
theorem Turns.mk {f : Nat} {m : Nat → Value} {L : Array Bool} {a : Act} {i : Nat} {o : Oper} {d : Option Tmp} (ho : ops[i]? = some o) (hd : o.dst = d) {V : Value → Prop} (ht : TurnS P md ops S m i o V a)
 (h : ∀ v, V v → Ps P md ops Q S f (upd m i v) (L.setIfInBounds i true) (a.put d v)) : Turns P md ops Q S f m L a i := by subst hd; exact ⟨o, ho, V, ht, h⟩
theorem Ps.some2 {f : Nat} {m : Nat → Value} {L : Array Bool} {a : Act} {i j : Nat} (hr : Region.ready md ops L = [i, j]) (h1 : Turns P md ops Q S f m L a i) (h2 : Turns P md ops Q S f m L a j) : Ps P md ops Q S (f + 1) m L a := by
 refine ⟨fun e => (by rw [hr] at e; cases e), fun x hx => ?_⟩
 rw [hr] at hx
 rcases List.mem_cons.1 hx with rfl | hx
 · obtain ⟨o, ho, V, ht, h⟩ := h1; exact ⟨o, ho, .inr ⟨V, ht, h⟩⟩
 rcases List.mem_cons.1 hx with rfl | hx
 · obtain ⟨o, ho, V, ht, h⟩ := h2; exact ⟨o, ho, .inr ⟨V, ht, h⟩⟩
 · cases hx
/-- what follows is said once: F tells how the region ends, of the act at its start -/
theorem wp_region_psF {id : Nat} {a : Act} {w : World} (F : Act → Act → World → Prop) (S : Array Bool → (Nat → Value) → World → Prop) (hm : P.follows .mixedOrders = true) (hS : S (Array.replicate ops.size false) (fun _ => undef) w.drew)
 (h : Ps P .any ops (fun _ a' w' => F a a' w') S ops.size (fun _ => undef) (Array.replicate ops.size false) a) (hk : ∀ a' w', F a a' w' → Q .normal a' w') : (Code.region id ops true).wp P Q a w :=
 wp_region_ps S hm hS (Ps.weak hk _ _ _ _ h)
end
end Go.Proofs.Ytojghgbaiiajfaa
