/- The link comes to the end, in plain Lean: LinkEnds' mathematics. Conditions: none. -/
import Derived.Test.YtojghgbaiiajfaaPkE18
namespace Go.Proofs.Ytojghgbaiiajfaa
open Go.RowKit
/-! ### nothing is heard that was not sent -/
structure EX (s : SC) (r : RC) (way : List PK) : Prop where
 nx : r.next ≤ s.sent + 1
 ah : ∀ h ∈ r.ahead, h.seq ≤ s.sent
 wy : ∀ p ∈ way, p.kind = 1 → p.seq ≤ s.sent
theorem EX.begin_ {n rm : Int} (h : roomB n rm = true) : EX (openS n) (listenR n rm) [] := by
 have h0 := h
 unfold roomB at h
 simp only [Bool.and_eq_true, decide_eq_true_eq] at h
 unfold openS listenR
 rw [if_pos h.1, if_pos h0]
 exact ⟨by simp, fun x hx => by simp at hx, fun x hx => by simp at hx⟩
section
variable {s : SC} {r : RC} {way : List PK}
theorem EX.less (h : EX s r way) {way' : List PK} (hw : ∀ p ∈ way', p ∈ way) : EX s r way' := ⟨h.nx, h.ah, fun p hp => h.wy p (hw p hp)⟩
theorem EX.puts (h : EX s r way) (b : BC) : EX (putR s b) r way := ⟨h.nx, h.ah, h.wy⟩
theorem acked_sent (p : PK) : (ackedR s p).sent = s.sent := by unfold ackedR; split <;> rfl
theorem acked_data {p : PK} (h : p.kind = 1) : ackedR s p = s := by
 unfold ackedR ackedB
 rw [if_neg]
 simp only [Bool.and_eq_true, decide_eq_true_eq]
 exact fun hc => by rw [h] at hc; exact absurd hc.2.1 (by decide)
theorem heard_ack {p : PK} (h : p.kind = 2) : hearR r p = r := by
 unfold hearR hearB heardA
 rw [if_neg]
 simp only [Bool.and_eq_true, decide_eq_true_eq]
 exact fun hc => by rw [h] at hc; exact absurd hc.1.2.1 (by decide)
theorem EX.acked (h : EX s r way) (p : PK) : EX (ackedR s p) r way := ⟨by rw [acked_sent]; exact h.nx, fun x hx => by rw [acked_sent]; exact h.ah x hx, fun x hx => by rw [acked_sent]; exact h.wy x hx⟩
theorem EX.says (h : EX s r way) (hr : recB r = true) : EX s r (way ++ [ackR r]) := by
 refine ⟨h.nx, h.ah, fun p hp hk => ?_⟩
 rcases List.mem_append.1 hp with hp | hp
 · exact h.wy p hp hk
 · obtain rfl := List.mem_singleton.1 hp
   unfold ackR at hk
   rw [if_pos hr] at hk; cases hk
theorem takR_nx (r : RC) (hE : takE r = 0) : (takR r).next = r.next ∧ (takR r).ahead = r.ahead := by
 unfold takE at hE; unfold takR
 cases h : r.buf with
 | nil => rw [h] at hE; cases hE
 | cons b l => exact ⟨rfl, rfl⟩
theorem EX.takes (h : EX s r way) (hE : takE r = 0) : EX s (takR r) way := by
 obtain ⟨h1, h2⟩ := takR_nx r hE
 exact ⟨by rw [h1]; exact h.nx, by rw [h2]; exact h.ah, h.wy⟩
theorem data_pw {ses lim above : Int} : ∀ (l : List BC) (n : Int), (dataP ses lim above n l).Pairwise (fun a b => a.seq ≤ b.seq)
 | [], _ => List.Pairwise.nil
 | x :: l, n => by
  have ih := data_pw (ses := ses) (lim := lim) (above := above) l (n + 1)
  unfold dataP
  split
  · exact List.Pairwise.nil
  · refine List.pairwise_append.2 ⟨?_, ih, fun a ha b hb => ?_⟩
    · split
      · exact List.pairwise_singleton _ _
      · exact List.Pairwise.nil
    · obtain ⟨_, _, _, i, h4, _⟩ := data_mem hb
      split at ha
      · obtain rfl := List.mem_singleton.1 ha
        show n ≤ b.seq; omega
      · cases ha
theorem out_le (s : SC) : ∀ p ∈ outP s, p.seq ≤ sentS s := by
 intro p hp
 unfold sentS
 cases hl : (outP s).getLast? with
 | none => rw [List.getLast?_eq_none_iff] at hl; rw [hl] at hp; cases hp
 | some x =>
  obtain ⟨ys, hy⟩ := List.getLast?_eq_some_iff.1 hl
  have hpw : (outP s).Pairwise (fun a b => a.seq ≤ b.seq) := data_pw _ _
  rw [hy] at hp hpw
  rcases List.mem_append.1 hp with hp | hp
  · have := (List.pairwise_append.1 hpw).2.2 p hp x (List.mem_singleton.2 rfl)
    show p.seq ≤ max s.sent x.seq; omega
  · obtain rfl := List.mem_singleton.1 hp
    show p.seq ≤ max s.sent p.seq; omega
theorem sent_ge (s : SC) : s.sent ≤ sentS s := by
 unfold sentS
 cases (outP s).getLast? with
 | none => exact Int.le_refl _
 | some x => show s.sent ≤ max s.sent x.seq; omega
theorem EX.tick (h : EX s r way) : EX (tickR s) r (way ++ outP s) := by
 have h0 := sent_ge s
 refine ⟨by show r.next ≤ sentS s + 1; have := h.nx; omega, fun x hx => by show x.seq ≤ sentS s; have := h.ah x hx; omega, fun p hp hk => ?_⟩
 show p.seq ≤ sentS s
 rcases List.mem_append.1 hp with hp | hp
 · have := h.wy p hp hk; omega
 · exact out_le s p hp
theorem ins_mem (y : HC) (l : List HC) : ∀ z ∈ insL y l, z = y ∨ z ∈ l := by
 intro z hz
 unfold insL at hz
 rcases List.mem_append.1 hz with hz | hz
 · exact .inr (List.mem_of_mem_take hz)
 · rcases List.mem_cons.1 hz with hz | hz
   · exact .inl hz
   · exact .inr (List.mem_of_mem_drop hz)
theorem drain_last : ∀ (l : List HC) (a : Int), drainN a l = 0 ∨ ∃ h ∈ l, h.seq = a + (drainN a l : Int) - 1
 | [], _ => .inl rfl
 | x :: l, a => by
  unfold drainN
  split
  · next he =>
    right
    rcases drain_last l (a + 1) with h | ⟨h, hm, e⟩
    · exact ⟨x, List.mem_cons_self, by rw [h]; omega⟩
    · exact ⟨h, List.mem_cons_of_mem _ hm, by omega⟩
  · exact .inl rfl
theorem EX.heard (h : EX s r way) {p : PK} (hp : p.kind = 1 → p.seq ≤ s.sent) : EX s (hearR r p) way := by
 unfold hearR
 split
 · next hb =>
   unfold hearB heardA at hb
   simp only [Bool.and_eq_true, decide_eq_true_eq] at hb
   have hs := hp hb.1.2.1
   have hm : ∀ z ∈ insL ⟨p.seq, p.b⟩ r.ahead, z.seq ≤ s.sent := fun z hz => (ins_mem _ _ z hz).elim (fun e => by rw [e]; exact hs) (h.ah z)
   refine ⟨?_, fun z hz => hm z (List.mem_of_mem_drop hz), h.wy⟩
   show r.next + (drainN r.next _ : Int) ≤ s.sent + 1
   rcases drain_last (insL ⟨p.seq, p.b⟩ r.ahead) r.next with e | ⟨z, hz, e⟩
   · rw [e]; have := h.nx; omega
   · have := hm z hz; omega
 · exact h
end
/-! ### a round -/
section
variable {σ room : Int} {s : SC} {r : RC} {way : List PK} {put taken : List BC}
theorem SInv.tn (h : SInv σ room s r way put taken) : r.next = ((taken.length + r.buf.length : Nat) : Int) + 1 ∧ taken.length + r.buf.length ≤ put.length := by
 obtain ⟨N, hN, hr, hNl⟩ := h.N
 have := congrArg List.length hr
 rw [List.length_append, List.length_take] at this
 omega
theorem SInv.qn (h : SInv σ room s r way put taken) : s.base - 1 + (s.q.length : Int) = (put.length : Int) := by
 obtain ⟨B, hB, hq, hBl⟩ := h.B
 rw [hq, List.length_drop]; omega
/-- what stands behind each round -/
structure RJ (room : Int) (s : SC) (r : RC) (taken : List BC) : Prop where
 bf : r.buf = []
 bs : s.base = r.next
 lm : s.lim = (taken.length : Int) + room
def dJ (s : SC) : Nat := if s.base ≤ s.sent then 3 - s.timer.toNat else 1
def kJ (s : SC) (put taken : List BC) : Nat := put.length + (if s.ended then 0 else 1) - taken.length
def mJ (s : SC) (put taken : List BC) : Nat := if kJ s put taken = 0 then 0 else 3 * kJ s put taken - 3 + dJ s
theorem SInv.d1 (h : SInv σ room s r way put taken) : 1 ≤ dJ s ∧ dJ s ≤ 3 := by
 have h1 := h.sb.t1
 have h2 := h.sb.t2
 unfold dJ
 split <;> omega
theorem mJ_le (h : SInv σ room s r way put taken) : mJ s put taken ≤ 3 * kJ s put taken := by
 have := h.d1
 unfold mJ; split <;> omega
/-- the ack of a receiver that has nothing ready is taken -/
theorem RJ.acks (h : SInv σ room s r way put taken) (hx : EX s r way) (hb : r.buf = []) (hp : put.length ≤ 1000) :
 ackedR s (ackR r) = ⟨s.ses, r.next, s.q.drop (r.next - s.base).toNat, s.sent, (taken.length : Int) + room, if 0 < r.next - s.base ∨ s.sent < r.next then 0 else s.timer, s.ended⟩ := by
 have hrb : recB r = true := (rp_iff r).2 h.rb
 obtain ⟨h1, h2⟩ := h.tn
 rw [hb, List.length_nil] at h1 h2
 have hm1 := h.rb.m1
 have hm2 := h.rb.m2
 have hrm := h.rm
 have hl : limR r = (taken.length : Int) + room := by
  unfold limR
  rw [hb, List.length_nil, if_pos (by omega)]; omega
 have hlm := h.lm
 have hc : ackedB s (ackR r) = true := by
  have hses : sesB r.ses = true := h.rb.ses
  unfold ackedB checkP ackR
  rw [if_pos hrb]
  have hz : eqBC ⟨[], false, 0⟩ ⟨[], false, 0⟩ = true := by decide
  have e1 := h.ss; have e2 := h.rs
  have e3 := h.bn
  have e4 := hx.nx
  simp only [hses, hz, Bool.and_eq_true, Bool.or_eq_true, decide_eq_true_eq, Bool.true_and, hl]
  refine ⟨.inr ⟨trivial, by omega, by omega, by omega, by omega⟩, trivial, by omega, e3, by omega, by omega⟩
 unfold ackedR
 rw [if_pos hc]
 unfold ackR
 rw [if_pos hrb, hl]
 by_cases hle : s.lim ≤ (taken.length : Int) + room
 · rw [if_pos hle]
 · exact absurd hlm hle
/-- the first that is sent is heard, where nothing is ready -/
theorem heard_first (h : SInv σ room s r way put taken) (hj : RJ room s r taken) (hlt : taken.length < put.length) {b : BC} (hb : put[taken.length]? = some b) (ho : put.length ≤ 1000) :
 hearB r ⟨1, s.ses, s.base, 0, b⟩ = true ∧ r.next + 1 ≤ (hearR r ⟨1, s.ses, s.base, 0, b⟩).next := by
 obtain ⟨h1, h2⟩ := h.tn
 rw [hj.bf, List.length_nil] at h1 h2
 have hbs := hj.bs
 have hat : AtP put s.base b := ⟨taken.length, by omega, hb⟩
 have hm1 := h.rb.m1
 have hm2 := h.rb.m2
 have hl : limR r = r.next - 1 + r.room := by
  unfold limR
  rw [hj.bf, List.length_nil, if_pos (by have := h.rm; omega)]; omega
 have hov : r.over = false := by
  cases e : r.over with
  | false => rfl
  | true =>
   rw [h.ov] at e
   obtain ⟨c, hc, hf⟩ := (ends_iff taken).1 e
   obtain ⟨N, hN, hr, hNl⟩ := h.N
   rw [hj.bf, List.append_nil] at hr
   have hlen := congrArg List.length hr
   rw [List.length_take] at hlen
   rw [hr, List.getElem?_take] at hc
   split at hc
   · have := (h.pt _ c hc).2 hf
     rw [List.length_take] at this
     omega
   · cases hc
 have hgt : ∀ x ∈ r.ahead, r.next < x.seq := fun x hx => (((ahead_iff _ _ _).1 h.rb.ah).1 x hx).1
 have hB : hearB r ⟨1, s.ses, s.base, 0, b⟩ = true := by
  unfold hearB heardA takesB checkP
  have hses : sesB s.ses = true := h.sb.ses
  have hbb : batchB b s.base = true := h.pt.ok hat
  have e1 := h.ss; have e2 := h.rs
  have hed : endsB r.buf = false := by rw [hj.bf]; rfl
  have hag : r.ahead.any (againstB b s.base) = false := by
   rw [List.any_eq_false]
   intro x hx
   have h5 := hgt x hx
   unfold againstB
   simp only [Bool.or_eq_true, Bool.and_eq_true, decide_eq_true_eq, not_or, not_and]
   refine ⟨⟨by omega, fun _ => by omega⟩, fun hf => ?_⟩
   have h6 := h.pt.fin hat hf
   have h7 := (h.ah x hx).le
   omega
  simp only [hses, hbb, hov, hed, hag, Bool.and_eq_true, Bool.or_eq_true, decide_eq_true_eq, Bool.not_eq_true', Bool.or_eq_false_iff, decide_eq_false_iff_not, Bool.false_or, Bool.not_false, Bool.and_true, Bool.true_and, and_true, true_and, true_or]
  omega
 refine ⟨hB, ?_⟩
 unfold hearR
 rw [if_pos hB]
 show r.next + 1 ≤ r.next + (drainN r.next (insL ⟨s.base, b⟩ r.ahead) : Int)
 have hi : insL ⟨s.base, b⟩ r.ahead = ⟨s.base, b⟩ :: r.ahead := by
  cases ha : r.ahead with
  | nil => rfl
  | cons x l =>
   rw [ins_cons, if_neg]
   have := hgt x (by rw [ha]; exact List.mem_cons_self)
   show ¬ x.seq < s.base
   omega
 rw [hi]
 unfold drainN
 rw [if_pos (by show s.base = r.next; exact hbs)]
 omega
/-- all that is told is heard -/
theorem hears_all : ∀ (l : List PK) {r : RC}, SInv σ room s r way put taken → EX s r way → (∀ p ∈ l, p ∈ way) → SInv σ room s (l.foldl hearR r) way put taken ∧ EX s (l.foldl hearR r) way ∧ r.next ≤ (l.foldl hearR r).next
 | [], _, hW, hX, _ => ⟨hW, hX, Int.le_refl _⟩
 | x :: l, r, hW, hX, h => by
  obtain ⟨h1, h2⟩ := hW.heard (hW.wy x (h x List.mem_cons_self))
  have h3 := hX.heard (p := x) (hX.wy x (h x List.mem_cons_self))
  obtain ⟨a, b, c⟩ := hears_all l h1 h3 (fun p hp => h p (List.mem_cons_of_mem _ hp))
  exact ⟨a, b, Int.le_trans h2 c⟩
/-- the round's measure falls: s, put behind Close; r2, taken2 behind what is heard and taken -/
theorem round_falls (h : SInv σ room s r way put taken) (hx : EX s r way) (hj : RJ room s r taken) (hcl : s.q = [] → s.ended = true) (hp : put.length ≤ 1000)
 {r2 : RC} {taken2 : List BC} (h2 : SInv σ room (tickR s) r2 (way ++ outP s) put taken2) (hx2 : EX (tickR s) r2 (way ++ outP s)) (hb2 : r2.buf = []) (hn : r2.next = ((outP s).foldl hearR r).next) :
 RJ room (ackedR (tickR s) (ackR r2)) r2 taken2 ∧ mJ (ackedR (tickR s) (ackR r2)) put taken2 ≤ mJ s put taken - 1 := by
 have hA := RJ.acks h2 hx2 hb2 hp
 have hJ : RJ room (ackedR (tickR s) (ackR r2)) r2 taken2 := by rw [hA]; exact ⟨hb2, rfl, rfl⟩
 refine ⟨hJ, ?_⟩
 obtain ⟨a1, a2⟩ := h.tn
 rw [hj.bf, List.length_nil] at a1 a2
 obtain ⟨c1, c2⟩ := h2.tn
 rw [hb2, List.length_nil] at c1 c2
 have hed : (ackedR (tickR s) (ackR r2)).ended = s.ended := by rw [hA]; rfl
 obtain ⟨hall1, _, hmono⟩ := hears_all (outP s) h.tick hx.tick (fun p hp => List.mem_append_right _ hp)
 rw [← hn] at hmono
 have hqn := h.qn
 have hbs := hj.bs
 -- the measure behind
 have hd3 := (h2.acked (p := ackR r2) (by
  have := h2.says.wy (ackR r2) (List.mem_append_right _ (List.mem_singleton.2 rfl))
  exact this)).d1
 by_cases hlt : taken.length < put.length
 · -- something is left
   have hk : kJ s put taken = put.length + (if s.ended then 0 else 1) - taken.length := rfl
   have hd := h.d1
   have hm0 : mJ s put taken = 3 * kJ s put taken - 3 + dJ s := by unfold mJ; rw [if_neg (by omega)]
   by_cases hprog : r.next < r2.next
   · have hk2 : kJ (ackedR (tickR s) (ackR r2)) put taken2 + 1 ≤ kJ s put taken := by
      unfold kJ; rw [hed]; omega
     unfold mJ at hm0 ⊢
     split <;> omega
   · -- nothing new: it was not sent again
     have heq : r2.next = r.next := by omega
     have htk : taken2.length = taken.length := by omega
     obtain ⟨b, hb⟩ : ∃ b, put[taken.length]? = some b := ⟨_, List.getElem?_eq_getElem hlt⟩
     obtain ⟨B, hB, hq, hBl⟩ := h.B
     have hBt : B = taken.length := by omega
     have hq1 : s.q = b :: put.drop (B + 1) := by
      rw [hq, hBt, List.drop_eq_getElem_cons hlt]
      rw [List.getElem?_eq_getElem hlt] at hb
      injection hb with hb
      rw [hb]
     have hlim : s.base ≤ s.lim := by have := hj.lm; have := h.rb.m1; have := h.rm; omega
     have hno : ¬ aboveS s < s.base := by
      intro hab
      have hout : ∃ m, outP s = ⟨1, s.ses, s.base, 0, b⟩ :: m := by
       unfold outP
       rw [hq1]
       unfold dataP
       rw [if_neg (by omega), if_pos hab]
       exact ⟨_, rfl⟩
      obtain ⟨m, hm⟩ := hout
      obtain ⟨f1, f2⟩ := heard_first h hj hlt hb hp
      have hT := h.tick
      have hXT := hx.tick
      have hin : (⟨1, s.ses, s.base, 0, b⟩ : PK) ∈ way ++ outP s := List.mem_append_right _ (by rw [hm]; exact List.mem_cons_self)
      obtain ⟨g1, _⟩ := hT.heard (hT.wy _ hin)
      have g2 := hXT.heard (p := ⟨1, s.ses, s.base, 0, b⟩) (hXT.wy _ hin)
      obtain ⟨_, _, g3⟩ := hears_all m g1 g2 (fun p hp => List.mem_append_right _ (by rw [hm]; exact List.mem_cons_of_mem _ hp))
      rw [hm, List.foldl_cons] at hn
      omega
     have hund : s.base ≤ s.sent ∧ ¬ (underS s = true ∧ s.timer = 2) := by
      unfold aboveS at hno
      split at hno
      · exact absurd (by have := h.sb.b1; omega) hno
      · next hag =>
        refine ⟨by omega, fun hc => hag ?_⟩
        unfold againS
        rw [hc.1, hc.2]; rfl
     have hu : underS s = true := by unfold underS; exact decide_eq_true hund.1
     have hag : againS s = false := by
      cases e : againS s with
      | false => rfl
      | true =>
       unfold againS at e
       simp only [Bool.and_eq_true, beq_iff_eq] at e
       exact absurd e hund.2
     have htm : (tickR s).timer = s.timer + 1 := by
      show (if againS s || !underS s then 0 else s.timer + 1) = _
      rw [hag, hu]; rfl
     have hsg := sent_ge s
     have hsent : (tickR s).sent = sentS s := rfl
     have hbase : (tickR s).base = s.base := rfl
     have ht2 := h.sb.t2
     have ht1 := h.sb.t1
     have ht3 : s.timer ≠ 2 := fun e => hund.2 ⟨hu, e⟩
     have hdn : dJ (ackedR (tickR s) (ackR r2)) + 1 = dJ s := by
      rw [hA]
      unfold dJ
      show (if r2.next ≤ (tickR s).sent then 3 - (if 0 < r2.next - (tickR s).base ∨ (tickR s).sent < r2.next then (0 : Int) else (tickR s).timer).toNat else 1) + 1 = _
      rw [if_pos (by omega : r2.next ≤ (tickR s).sent), if_neg (by omega : ¬ (0 < r2.next - (tickR s).base ∨ (tickR s).sent < r2.next)), if_pos hund.1, htm]
      omega
     have hk2 : kJ (ackedR (tickR s) (ackR r2)) put taken2 = kJ s put taken := by
      unfold kJ; rw [hed, htk]
     unfold mJ
     rw [hk2, if_neg (by omega), if_neg (by omega)]
     omega
 · -- all is taken
   have hq : s.q = [] := List.eq_nil_of_length_eq_zero (by omega)
   have he := hcl hq
   have hk0 : kJ (ackedR (tickR s) (ackR r2)) put taken2 = 0 := by
    unfold kJ; rw [hed, he]; simp only [if_true]; omega
   unfold mJ
   rw [if_pos hk0]; omega
/-- Close leaves the measure -/
theorem close_keeps (_h : SInv σ room s r way put taken) (hj : RJ room s r taken) (hE : putE s = 0) : RJ room (putR s (lastB s)) r taken ∧ mJ (putR s (lastB s)) (put ++ [⟨[], true, (put.length : Int)⟩]) taken = mJ s put taken := by
 have he : s.ended = false := by
  unfold putE at hE
  split at hE
  · cases hE
  · next he => simpa using he
 have hk : kJ (putR s (lastB s)) (put ++ [⟨[], true, (put.length : Int)⟩]) taken = kJ s put taken := by
  unfold kJ
  rw [he, List.length_append, List.length_singleton]
  rfl
 refine ⟨⟨hj.bf, hj.bs, hj.lm⟩, ?_⟩
 unfold mJ
 rw [hk]; rfl
theorem close_no (h : SInv σ room s r way put taken) (hp : put.length ≤ 1000) (hE : putE s ≠ 0) : s.q = [] → s.ended = true := by
 intro hq
 cases he : s.ended with
 | true => rfl
 | false =>
  refine absurd ?_ hE
  have := h.qn
  unfold putE
  rw [he, hq] at *
  simp only [List.length_nil] at *
  rw [if_neg (by decide), if_neg (by omega)]
theorem close_yes : (putR s (lastB s)).q = [] → (putR s (lastB s)).ended = true := fun h => absurd h (by show s.q ++ [lastB s] ≠ []; simp)
/-- the end -/
theorem mJ_zero (h : SInv σ room s r way put taken) (hj : RJ room s r taken) (hm : mJ s put taken = 0) : r.over = true ∧ taken = put ∧ s.q = [] := by
 have hd := h.d1
 have hk : kJ s put taken = 0 := by
  unfold mJ at hm
  split at hm
  · assumption
  · omega
 unfold kJ at hk
 obtain ⟨N, hN, hr, hNl⟩ := h.N
 obtain ⟨a1, a2⟩ := h.tn
 rw [hj.bf, List.length_nil] at a1 a2
 rw [hj.bf, List.append_nil] at hr
 have he : s.ended = true := by
  cases e : s.ended with
  | true => rfl
  | false => rw [e] at hk; simp only [Bool.false_eq_true, if_false] at hk; omega
 rw [he] at hk
 simp only [if_true] at hk
 have ht : taken = put := by rw [hr, List.take_of_length_le (by omega)]
 refine ⟨by rw [h.ov, ht, ← h.ed, he], ht, List.eq_nil_of_length_eq_zero ?_⟩
 have := h.qn
 have := hj.bs
 omega
end
end Go.Proofs.Ytojghgbaiiajfaa
/- A region that draws, with a variable (operation a) made beside one call (c) and stored behind it (d). Conditions: c, a, d apart. -/
namespace Go.Proofs.Ytojghgbaiiajfaa
open Go.RowKit
def Wt1 (c a d : Nat) (B : Option Nat → Nat → (Nat → Value) → World → Prop) : Array Bool → (Nat → Value) → World → Prop := fun L m w =>
 ∃ al : Option Nat, (Dn L a = true → ∃ g, al = some g ∧ m a = .pointer (some ⟨g, 0, none⟩)) ∧ (Dn L a = false → al = none) ∧ SeqN [c, d] (B al) L m w
section
variable {c a d : Nat} {B : Option Nat → Nat → (Nat → Value) → World → Prop} {L : Array Bool} {m m' : Nat → Value} {w w' : World}
theorem Wt1.start {n : Nat} (hc : c < n) (ha : a < n) (hd : d < n) (h : B none 0 m w) : Wt1 c a d B (Array.replicate n false) m w := by
 refine ⟨none, fun e => ?_, fun _ => rfl, SeqN.start (by simp; omega) h⟩
 unfold Dn at e
 rw [Array.getD_eq_getD_getElem?, Array.getElem?_replicate, if_pos ha] at e
 cases e
theorem Wt1.pass {i : Nat} (h8 : (a != i) = true) (h : ([c, d].all fun k => k != i) = true) : Pass (Wt1 c a d B) i := fun L m w hS => by
 obtain ⟨al, h1, h2, hS⟩ := hS
 have e : Dn (L.setIfInBounds i true) a = Dn L a := dn_ne (by simpa using h8)
 exact ⟨al, by rw [e]; exact h1, by rw [e]; exact h2, SeqN.pass h L m w hS⟩
theorem Wt1.any {T : World → Prop} (t : ∀ al j m w, B al j m w → T w) (hS : Wt1 c a d B L m w) : T w := by
 obtain ⟨al, _, _, hS⟩ := hS
 exact t _ _ _ _ hS
/-- the call is not done, nor the store -/
theorem Wt1.zero (hc : Dn L c = false) (hd : Dn L d = false) (hS : Wt1 c a d B L m w) : ∃ al, B al 0 m w := by
 obtain ⟨al, _, _, hS⟩ := hS
 unfold SeqN cntD cntD cntD at hS
 rw [hc, hd] at hS
 exact ⟨al, hS⟩
/-- the variable is made -/
theorem Wt1.made {v : Value} {g : Nat} (hac : a ≠ c) (had : a ≠ d) (ha : Dn L a = false) (hd : Dn L d = false) (hv : v = .pointer (some ⟨g, 0, none⟩)) (t : ∀ j, j < 2 → B none j m w → B (some g) j (upd m a v) w') (hS : Wt1 c a d B L m w) : Wt1 c a d B (L.setIfInBounds a true) (upd m a v) w' := by
 obtain ⟨al, _, h2, hS⟩ := hS
 obtain rfl := h2 ha
 refine ⟨some g, fun _ => ⟨g, rfl, by rw [upd_same]; exact hv⟩, fun e => ?_, ?_⟩
 · rw [dn_eq] at e; cases e
 · have hS2 := SeqN.pass (i := a) (by simp; exact ⟨Ne.symm hac, Ne.symm had⟩) L m w hS
   unfold SeqN cntD cntD cntD at *
   rw [dn_ne (Ne.symm hac), dn_ne (Ne.symm had), hd] at *
   refine t _ ?_ hS2
   cases Dn L c <;> simp
/-- the call -/
theorem Wt1.call (hac : a ≠ c) (hcd : c ≠ d) (hc : Dn L c = false) (hd : Dn L d = false) (hS : Wt1 c a d B L m w) : ∃ al, B al 0 m w ∧ ∀ v w', B al 1 (upd m c v) w' → Wt1 c a d B (L.setIfInBounds c true) (upd m c v) w' := by
 obtain ⟨al, a1, a2, hS⟩ := hS
 unfold SeqN cntD cntD cntD at hS
 rw [hc, hd] at hS
 refine ⟨al, hS, fun v w' hB => ⟨al, ?_, ?_, ?_⟩⟩
 · rw [dn_ne hac, upd_ne hac]; exact a1
 · rw [dn_ne hac]; exact a2
 · unfold SeqN cntD cntD cntD
   rw [dn_eq, dn_ne (Ne.symm hcd), hd]
   exact hB
/-- the store -/
theorem Wt1.store (had : a ≠ d) (hcd : c ≠ d) (hc : Dn L c = true) (ha : Dn L a = true) (hd : Dn L d = false) (hS : Wt1 c a d B L m w) : ∃ g, m a = .pointer (some ⟨g, 0, none⟩) ∧ B (some g) 1 m w ∧ ∀ w', B (some g) 2 m w' → Wt1 c a d B (L.setIfInBounds d true) m w' := by
 obtain ⟨al, a1, a2, hS⟩ := hS
 obtain ⟨g, rfl, hm⟩ := a1 ha
 unfold SeqN cntD cntD cntD at hS
 rw [hc, hd] at hS
 refine ⟨g, hm, hS, fun w' hB => ⟨some g, ?_, ?_, ?_⟩⟩
 · exact fun _ => ⟨g, rfl, hm⟩
 · rw [dn_ne had]; exact a2
 · unfold SeqN cntD cntD cntD
   rw [dn_eq, dn_ne hcd, hc]
   exact hB
theorem Wt1.fin (ha : Dn L a = true) (h : ([c, d].all fun x => Dn L x) = true) (hS : Wt1 c a d B L m w) : ∃ g, m a = .pointer (some ⟨g, 0, none⟩) ∧ B (some g) 2 m w := by
 obtain ⟨al, a1, _, hS⟩ := hS
 obtain ⟨g, rfl, hm⟩ := a1 ha
 exact ⟨g, hm, SeqN.fin h hS⟩
end
end Go.Proofs.Ytojghgbaiiajfaa
/- A region whose order Go leaves open, with several operations of unknown yield side by side; what follows is said once. Conditions: none. -/
namespace Go.Proofs.Ytojghgbaiiajfaa
open Go.RowKit
section
variable {P : Program} {ops : Array Oper} {Q Q' : Exit → Act → World → Prop} {md : Region.Mode} {S : Array Bool → (Nat → Value) → World → Prop}
theorem Ps.weak (h : ∀ a w, Q' .normal a w → Q .normal a w) : ∀ (f : Nat) (m : Nat → Value) (L : Array Bool) (a : Act), Ps P md ops Q' S f m L a → Ps P md ops Q S f m L a
 | 0, _, _, _, k => ⟨k.1, fun w hS => h _ _ (k.2 w hS)⟩
 | f + 1, m, L, a, k => ⟨fun e w hS => h _ _ (k.1 e w hS), fun i hi => by
  obtain ⟨o, ho, ⟨u, hs, hg⟩ | ⟨V, hs, hg⟩⟩ := k.2 i hi
  · exact ⟨o, ho, .inl ⟨u, hs, Ps.weak h f _ _ _ hg⟩⟩
  · exact ⟨o, ho, .inr ⟨V, hs, fun v hV => Ps.weak h f _ _ _ (hg v hV)⟩⟩⟩
/-- one of several that come next -/
def Turns (P : Program) (md : Region.Mode) (ops : Array Oper) (Q : Exit → Act → World → Prop) (S : Array Bool → (Nat → Value) → World → Prop) (f : Nat) (m : Nat → Value) (L : Array Bool) (a : Act) (i : Nat) : Prop :=
 ∃ o, ops[i]? = some o ∧ ∃ V, TurnS P md ops S m i o V a ∧ ∀ v, V v → Ps P md ops Q S f (upd m i v) (L.setIfInBounds i true) (a.put o.dst v)
theorem Turns.mk {f : Nat} {m : Nat → Value} {L : Array Bool} {a : Act} {i : Nat} {o : Oper} {d : Option Tmp} (ho : ops[i]? = some o) (hd : o.dst = d) {V : Value → Prop} (ht : TurnS P md ops S m i o V a)
 (h : ∀ v, V v → Ps P md ops Q S f (upd m i v) (L.setIfInBounds i true) (a.put d v)) : Turns P md ops Q S f m L a i := by subst hd; exact ⟨o, ho, V, ht, h⟩
theorem Ps.some2 {f : Nat} {m : Nat → Value} {L : Array Bool} {a : Act} {i j : Nat} (hr : Region.ready md ops L = [i, j]) (h1 : Turns P md ops Q S f m L a i) (h2 : Turns P md ops Q S f m L a j) : Ps P md ops Q S (f + 1) m L a := by
 refine ⟨fun e => (by rw [hr] at e; cases e), fun x hx => ?_⟩
 rw [hr] at hx
 rcases List.mem_cons.1 hx with rfl | hx
 · obtain ⟨o, ho, V, ht, h⟩ := h1; exact ⟨o, ho, .inr ⟨V, ht, h⟩⟩
 rcases List.mem_cons.1 hx with rfl | hx
 · obtain ⟨o, ho, V, ht, h⟩ := h2; exact ⟨o, ho, .inr ⟨V, ht, h⟩⟩
 · cases hx
/-- what follows is said once: F tells how the region ends, of the act at its start -/
theorem wp_region_psF {id : Nat} {a : Act} {w : World} (F : Act → Act → World → Prop) (S : Array Bool → (Nat → Value) → World → Prop) (hm : P.follows .mixedOrders = true) (hS : S (Array.replicate ops.size false) (fun _ => undef) w.drew)
 (h : Ps P .any ops (fun _ a' w' => F a a' w') S ops.size (fun _ => undef) (Array.replicate ops.size false) a) (hk : ∀ a' w', F a a' w' → Q .normal a' w') : (Code.region id ops true).wp P Q a w :=
 wp_region_ps S hm hS (Ps.weak hk _ _ _ _ h)
end
end Go.Proofs.Ytojghgbaiiajfaa
