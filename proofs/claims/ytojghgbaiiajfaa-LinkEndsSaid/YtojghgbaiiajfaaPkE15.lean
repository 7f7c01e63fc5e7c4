/- link.Hear's heart. Conditions: the rows read as these batches; the receiver may be. -/
import Derived.Test.YtojghgbaiiajfaaPkE14
import Derived.WalkMore
namespace Go.Proofs.Ytojghgbaiiajfaa
open Go.RowKit
theorem SeqN.z01 {k1 k2 k3 : Nat} {B : Nat → (Nat → Value) → World → Prop} {L : Array Bool} {m : Nat → Value} {w : World} {md : Region.Mode} {ops : Array Oper} {T : World → Prop} (hsh : Shut md ops L) (h2 : Dn L k2 = false) (hr : ([k3].all fun x => reach md ops ops.size x k2) = true)
 (t0 : ∀ m w, B 0 m w → T w) (t1 : ∀ m w, B 1 m w → T w) (hS : SeqN [k1, k2, k3] B L m w) : T w := by
 have hn := post_no hsh h2 hr
 unfold SeqN cntD cntD at hS
 rw [h2, cntD_none hn] at hS
 cases h7 : Dn L k1
 · rw [h7] at hS; exact t0 _ _ hS
 · rw [h7] at hS; exact t1 _ _ hS
theorem Chg.of_grown {w w1 : World} {row : Option Nat} (h : w.grownBy w1 row) : Chg (fun k => row = some k) w w1 := ⟨h.os, h.tape, h.output, h.size, fun b hb hx => h.block b hb (fun e => hx e.symm)⟩
theorem Chg.trans' {X Z : Nat → Prop} {w w1 w2 : World} (h : Chg X w w1) (k : Chg Z w1 w2) (hz : ∀ b, b < w.heap.size → Z b → X b) : Chg X w w2 :=
 ⟨k.os.trans h.os, k.tape.trans h.tape, k.output.trans h.output, Nat.le_trans h.size k.size, fun b hb hx => (k.block b (Nat.lt_of_lt_of_le hb h.size) (fun e => hx (hz b hb e))).trans (h.block b hb hx)⟩
theorem LH4_own_at {e : TypeId} {w : World} {B ga n c i : Nat} {G : Nat → Prop} {xs : List HC} {x : HC} (h : LH4.own e w B G (some ⟨ga, 0, none⟩) n c xs) (hx : xs[i]? = some x) :
 ∃ Bx kx kc, w.cell? ⟨ga, i * 4, none⟩ = some (.int .u64 x.seq) ∧ w.cell? ⟨ga, i * 4 + 1, none⟩ = some (.slice Bx kx kc) ∧ w.cell? ⟨ga, i * 4 + 2, none⟩ = some (.bool x.b.fin) ∧ w.cell? ⟨ga, i * 4 + 3, none⟩ = some (.int .u64 x.b.cnt) ∧ kx ≤ kc ∧ kc ≤ 9223372036854775807 ∧ LR.rd w G Bx kx x.b.rows := by
 obtain ⟨_, cs, hreps, hrow⟩ := h
 obtain ⟨ds, ⟨Bx, kx, kc, rfl, h1, h2, hr⟩, hd⟩ := Lay.reps_at hreps hx
 have hc : ∀ j u, ([.int .u64 x.seq, .slice Bx kx kc, .bool x.b.fin, .int .u64 x.b.cnt] : List Value)[j]? = some u → w.cell? ⟨ga, i * 4 + j, none⟩ = some u := fun j u hu => by
  have := hrow.cells (g := ga) rfl _ u (hd j u hu)
  rw [addr_zero] at this
  exact this
 exact ⟨Bx, kx, kc, hc 0 _ rfl, hc 1 _ rfl, hc 2 _ rfl, hc 3 _ rfl, h1, h2, Lay.rd_weak (fun b hb _ => hb.1) hr⟩
/-- where a batch of a number stands among what came ahead -/
def insP (seq : Int) : List HC → Nat
 | [] => 0
 | h :: l => if h.seq < seq then insP seq l + 1 else 0
def insL (h : HC) (l : List HC) : List HC := l.take (insP h.seq l) ++ h :: l.drop (insP h.seq l)
/-- how many stand in order from a number on -/
def drainN : Int → List HC → Nat
 | _, [] => 0
 | a, h :: l => if h.seq = a then drainN (a + 1) l + 1 else 0
def drainR (r : RC) (l : List HC) : RC := ⟨r.ses, r.next + (drainN r.next l : Int), l.drop (drainN r.next l), r.buf ++ (l.take (drainN r.next l)).map HC.b, r.room, r.over⟩
def hearB (r : RC) (pk : PK) : Bool := heardA r pk && takesB r pk.b pk.seq
def hearR (r : RC) (pk : PK) : RC := if hearB r pk then drainR r (insL ⟨pk.seq, pk.b⟩ r.ahead) else r
theorem insP_le (seq : Int) : ∀ l : List HC, insP seq l ≤ l.length
 | [] => Nat.le_refl _
 | h :: l => by
  unfold insP
  split
  · have := insP_le seq l; simp; omega
  · omega
theorem insP_lo {seq : Int} : ∀ {l : List HC} {k : Nat} {x : HC}, k < insP seq l → l[k]? = some x → x.seq < seq
 | [], k, x, h, _ => by simp [insP] at h
 | h :: l, k, x, hk, hx => by
  unfold insP at hk
  split at hk
  · rename_i hlt
    cases k with
    | zero => simp at hx; subst hx; exact hlt
    | succ k => exact insP_lo (l := l) (k := k) (by omega) (by simpa using hx)
  · omega
theorem aheadB_all {lim : Int} : ∀ {l : List HC} {a : Int} {k : Nat} {x : HC}, aheadB lim a l = true → l[k]? = some x → a < x.seq
 | [], _, k, x, _, hx => by simp at hx
 | h :: l, a, k, x, e, hx => by
  unfold aheadB at e
  simp only [Bool.and_eq_true, decide_eq_true_eq] at e
  obtain ⟨e1, _, _, _, e3⟩ := e
  cases k with
  | zero => simp at hx; subst hx; exact e1
  | succ k => have := aheadB_all (k := k) e3 (by simpa using hx); omega
theorem insP_hi {seq lim : Int} : ∀ {l : List HC} {a : Int} {k : Nat} {x : HC}, aheadB lim a l = true → insP seq l ≤ k → l[k]? = some x → seq ≤ x.seq
 | [], _, k, x, _, _, hx => by simp at hx
 | h :: l, a, k, x, e, hk, hx => by
  have e0 := e
  unfold aheadB at e
  simp only [Bool.and_eq_true, decide_eq_true_eq] at e
  obtain ⟨e1, _, _, _, e3⟩ := e
  unfold insP at hk
  split at hk
  · cases k with
    | zero => omega
    | succ k => exact insP_hi (l := l) (k := k) e3 (by omega) (by simpa using hx)
  · rename_i hge
    cases k with
    | zero => simp at hx; subst hx; omega
    | succ k => have := aheadB_all (k := k) e3 (by simpa using hx); omega
theorem drainN_eq : ∀ {l : List HC} {a : Int} {i : Nat}, (∀ (k : Nat) x, k < i → l[k]? = some x → x.seq = a + (k : Int)) → (l.length ≤ i ∨ ∃ x, l[i]? = some x ∧ x.seq ≠ a + (i : Int)) → i ≤ l.length → drainN a l = i
 | [], a, i, _, _, h => by simp at h; simp [drainN, h]
 | h :: l, a, i, h1, h2, h3 => by
  unfold drainN
  cases i with
  | zero =>
   rcases h2 with h2 | ⟨x, hx, hne⟩
   · simp at h2
   · simp at hx; subst hx
     rw [if_neg (by simpa using hne)]
  | succ i =>
   have h0 := h1 0 h (by omega) rfl
   rw [if_pos (by simpa using h0)]
   have := drainN_eq (l := l) (a := a + 1) (i := i) (fun k x hk hx => by have := h1 (k + 1) x (by omega) (by simpa using hx); rw [this]; push_cast; omega)
    (h2.elim (fun h => .inl (by simpa using h)) (fun ⟨x, hx, hne⟩ => .inr ⟨x, by simpa using hx, fun e => hne (by rw [e]; push_cast; omega)⟩)) (by simpa using h3)
   omega
theorem recB_ahead {r : RC} (h : recB r = true) : aheadB (limR r) r.next r.ahead = true := by
 unfold recB at h
 simp only [Bool.and_eq_true] at h
 exact h.2.2.2
set_option maxRecDepth 100000 in
set_option maxHeartbeats 64000000 in
theorem hear1_do (r : RC) (pk : PK) (p : Nat) (pA : Option Addr) (pn pc : Nat) (w0 : World) (Fr : Nat → Prop) (hFr : ∀ k, Fr k → k < w0.heap.size) (hp : Blk w0 p 47 (pk.cells pA pn pc)) (hr : LR.rd w0 Fr pA pn pk.b.rows) (hpn : pn ≤ pc) (hpc : pc ≤ 9223372036854775807) :
 DoR 75 #[.pointer (some ⟨p, 0, none⟩)] w0 Fr r 0 (hearR r pk) noX noY := by
 intro hok w g B A n c A2 m d hB hg hgB hBs hN ho ho2 hne
 show Calls Try.prog 75 #[.pointer (some ⟨g, 0, none⟩), .pointer (some ⟨p, 0, none⟩)] w _
 have hpl := hp.lt
 have hpw := hB.size
 have HP := Lib.hid (hp.ca hB)
 have HR := Lib.hid (Lay.rd_below hr hB)
 have HO := Lib.hid ho
 have HO2 := Lib.hid ho2
 have HNE := Lib.hid hne
 have HN := Lib.hid hN
 have HFR := Lib.hid hFr
 have HOK := Lib.hid hok
 have hlen := recB_len hok
 rw [Lay.own_len ho2, Lay.own_len ho] at hlen
 have hcapA := Lay.own_caps ho
 have hcapB := Lay.own_caps ho2
 have HAH := Lib.hid (recB_ahead hok)
 obtain ⟨RR, hRR⟩ : ∃ RR, RR = hearR r pk := ⟨_, rfl⟩
 rw [← hRR]
 have HRR := Lib.hid hRR
 clear hp hr hN ho ho2 hne hB hFr hok hRR
 obtain ⟨tk, htk⟩ : ∃ tk, tk = takesB r pk.b pk.seq := ⟨_, rfl⟩
 have HTK := Lib.hid htk
 obtain ⟨EP, hEP⟩ : ∃ EP : Int, EP = (if checkP pk then 0 else 321) := ⟨_, rfl⟩
 have HEP := Lib.hid hEP
 have HHB := Lib.hid (show hearB r pk = !(((!decide (EP = 0) || !decide (pk.kind = 1)) || !decide (pk.ses = r.ses)) || !tk) from by
  unfold hearB heardA
  rw [hEP, htk]
  cases checkP pk <;> simp)
 clear htk hEP
 obtain ⟨ses, next, ahead, buf, room, over⟩ := r
 obtain ⟨kind, pses, seq, plim, rows, pfin, pcnt⟩ := pk
 dsimp only at *
 have hm9 : m ≤ 9223372036854775807 := by omega
 have hn9 : n ≤ 9223372036854775807 := by omega
 have hpn9 : pn ≤ 9223372036854775807 := by omega
 go_enter Try.func75, Try.ntmps75
 go_wp2_with fail
 go_step3
 go_wp2_with fail
 refine wp_region_ps (S := fun _ _ w' => Below w.heap.size w w') (by kernel_rfl) ?spswg1 ?ppswg1
 case spswg1 =>
  exact (Below.refl w.heap.size w).drew
 refine Pz 0 (some 9) (.agg #[.int .i64 (kind), .int .u32 (pses), .int .u64 (seq), .int .u64 (plim), .slice pA pn pc, .bool (pfin), .int .u64 (pcnt)]) rfl rfl ?ywg1_2 ?rwg1_2
 case ywg1_2 =>
  refine StepS.read [] (by kernel_rfl) nP (by rfl) (fun L9 m9 w9 hSh hAt hDn hS => ?_)
  have hT : Below _ _ w9 := hS
  have x0 : w9.cell? ⟨p, 0, none⟩ = some (.int .i64 (kind)) := (HP.out.ca hT).cell 0
  have x1 : w9.cell? ⟨p, 1, none⟩ = some (.int .u32 (pses)) := (HP.out.ca hT).cell 1
  have x2 : w9.cell? ⟨p, 2, none⟩ = some (.int .u64 (seq)) := (HP.out.ca hT).cell 2
  have x3 : w9.cell? ⟨p, 3, none⟩ = some (.int .u64 (plim)) := (HP.out.ca hT).cell 3
  have x4 : w9.cell? ⟨p, 4, none⟩ = some (.slice pA pn pc) := (HP.out.ca hT).cell 4
  have x5 : w9.cell? ⟨p, 5, none⟩ = some (.bool (pfin)) := (HP.out.ca hT).cell 5
  have x6 : w9.cell? ⟨p, 6, none⟩ = some (.int .u64 (pcnt)) := (HP.out.ca hT).cell 6
  clear hT hS
  go_simp
  try rfl
 try simp only [Act.put, sA, sZ, sS]
 refine Pz 1 (some 10) (.int .i64 (EP)) rfl rfl ?ywg1_3 ?rwg1_3
 case ywg1_3 =>
  refine StepS.call ?fwg1_3 ?awg1_3 [] (by kernel_rfl) (by rfl) (fun w9 => ?hwg1_3) (fun L9 m9 w9 hSh hAt hDn hS => ?cwg1_3)
  case hwg1_3 => go_simp; refine ⟨?_, ?_⟩ <;> rfl
  case cwg1_3 =>
   have hT : Below _ _ w9 := hS
   refine (checkp_any _ ⟨kind, pses, seq, plim, ⟨rows, pfin, pcnt⟩⟩ pA pn pc w9 (Lay.rd_below HR.out hT) hpn9).mono ?_
   rintro e w8 ⟨rfl, q8⟩
   exact ⟨by rw [HEP.out], bl_ca hT q8⟩
 try simp only [Act.put, sA, sZ, sS]
 refine Pz 2 (some 11) (.bool (!decide (EP = 0))) rfl rfl (by exact StepS.pure nP rfl fun _ => rfl) ?_
 try simp only [Act.put, sA, sZ, sS]
 obtain ⟨bA, hb9⟩ : ∃ zb : Bool, zb = (!decide (EP = 0)) := ⟨_, rfl⟩
 have HEbA := Lib.hid hb9
 clear hb9
 refine Pz 3 (some 12) (.bool (bA)) rfl rfl ?ywg1_5 ?rwg1_5
 case ywg1_5 =>
  refine StepS.pure nP (by rfl) (fun w9 => ?_)
  have e9 : (!decide (EP = 0)) = bA := by rw [HEbA.out]
  rw [← e9]
  clear e9
  first | rfl | (go_simp; done) | (go_simp; rfl)
 try simp only [Act.put, sA, sZ, sS]
 refine Pz 4 (some 13) (cond bA (undef) (.pointer (some ⟨p, 0, none⟩))) rfl rfl (by cases bA; (exact StepS.pure nP rfl fun _ => rfl); exact StepS.skip nP rfl) ?_
 try simp only [Act.put, sA, sZ, sS]
 refine Pz 5 (some 14) (cond bA (undef) (.int .i64 (kind))) rfl rfl ?ywg1_7 ?rwg1_7
 case ywg1_7 =>
  cases bA
  · skip
    refine StepS.read [] (by kernel_rfl) nP (by rfl) (fun L9 m9 w9 hSh hAt hDn hS => ?_)
    have hT : Below _ _ w9 := hS
    have x0 : w9.cell? ⟨p, 0, none⟩ = some (.int .i64 (kind)) := (HP.out.ca hT).cell 0
    clear hT hS
    go_simp
    try rfl
  · exact StepS.skip nP (by rfl)
 try simp only [Act.put, sA, sZ, sS]
 refine Pz 6 (some 15) (cond bA (undef) (.bool (!decide (kind = 1)))) rfl rfl (by cases bA; (exact StepS.pure nP rfl fun _ => rfl); exact StepS.skip nP rfl) ?_
 try simp only [Act.put, sA, sZ, sS]
 refine Pz 7 (some 16) (.bool (bA || (!decide (kind = 1)))) rfl rfl ?ywg1_9 ?rwg1_9
 case ywg1_9 =>
  refine StepS.pure nP (by rfl) (fun w9 => ?_)
  cases bA <;> (first | rfl | (go_simp; done) | (go_simp; rfl))
 try simp only [Act.put, sA, sZ, sS]
 obtain ⟨bB, hb9⟩ : ∃ zb : Bool, zb = ((!decide (EP = 0)) || (!decide (kind = 1))) := ⟨_, rfl⟩
 have HEbB := Lib.hid hb9
 clear hb9
 refine Pz 8 (some 17) (.bool (bB)) rfl rfl ?ywg1_10 ?rwg1_10
 case ywg1_10 =>
  refine StepS.pure nP (by rfl) (fun w9 => ?_)
  have e9 : (bA || (!decide (kind = 1))) = bB := by rw [HEbB.out, HEbA.out]
  rw [← e9]
  clear e9
  first | rfl | (go_simp; done) | (go_simp; rfl)
 try simp only [Act.put, sA, sZ, sS]
 refine Pz 9 (some 18) (cond bB (undef) (.pointer (some ⟨p, 1, none⟩))) rfl rfl (by cases bB; (exact StepS.pure nP rfl fun _ => rfl); exact StepS.skip nP rfl) ?_
 try simp only [Act.put, sA, sZ, sS]
 refine Pz 10 (some 19) (cond bB (undef) (.int .u32 (pses))) rfl rfl ?ywg1_12 ?rwg1_12
 case ywg1_12 =>
  cases bB
  · skip
    refine StepS.read [] (by kernel_rfl) nP (by rfl) (fun L9 m9 w9 hSh hAt hDn hS => ?_)
    have hT : Below _ _ w9 := hS
    have x0 : w9.cell? ⟨p, 1, none⟩ = some (.int .u32 (pses)) := (HP.out.ca hT).cell 1
    clear hT hS
    go_simp
    try rfl
  · exact StepS.skip nP (by rfl)
 try simp only [Act.put, sA, sZ, sS]
 refine Pz 11 (some 20) (cond bB (undef) (.pointer (some ⟨g, 0, none⟩))) rfl rfl (by cases bB; (exact StepS.pure nP rfl fun _ => rfl); exact StepS.skip nP rfl) ?_
 try simp only [Act.put, sA, sZ, sS]
 refine Pz 12 (some 21) (cond bB (undef) (.pointer (some ⟨g, 0, none⟩))) rfl rfl (by cases bB; (exact StepS.pure nP rfl fun _ => by first | rfl | (go_simp; done) | (go_simp; rfl)); exact StepS.skip nP rfl) ?_
 try simp only [Act.put, sA, sZ, sS]
 refine Pz 13 (some 22) (cond bB (undef) (.pointer (some ⟨g, 0, none⟩))) rfl rfl (by cases bB; (exact StepS.pure nP rfl fun _ => rfl); exact StepS.skip nP rfl) ?_
 try simp only [Act.put, sA, sZ, sS]
 refine Pz 14 (some 23) (cond bB (undef) (.int .u32 (ses))) rfl rfl ?ywg1_16 ?rwg1_16
 case ywg1_16 =>
  cases bB
  · skip
    refine StepS.read [] (by kernel_rfl) nP (by rfl) (fun L9 m9 w9 hSh hAt hDn hS => ?_)
    have hT : Below _ _ w9 := hS
    have x0 : w9.cell? ⟨g, 0, none⟩ = some (.int .u32 (ses)) := (HN.out.ca hT).cell 0
    clear hT hS
    go_simp
    try rfl
  · exact StepS.skip nP (by rfl)
 try simp only [Act.put, sA, sZ, sS]
 refine Pz 15 (some 24) (cond bB (undef) (.bool (!decide (pses = ses)))) rfl rfl (by cases bB; (exact StepS.pure nP rfl fun _ => rfl); exact StepS.skip nP rfl) ?_
 try simp only [Act.put, sA, sZ, sS]
 refine Pz 16 (some 25) (.bool (bB || (!decide (pses = ses)))) rfl rfl ?ywg1_18 ?rwg1_18
 case ywg1_18 =>
  refine StepS.pure nP (by rfl) (fun w9 => ?_)
  cases bB <;> (first | rfl | (go_simp; done) | (go_simp; rfl))
 try simp only [Act.put, sA, sZ, sS]
 obtain ⟨bC, hb9⟩ : ∃ zb : Bool, zb = (((!decide (EP = 0)) || (!decide (kind = 1))) || (!decide (pses = ses))) := ⟨_, rfl⟩
 have HEbC := Lib.hid hb9
 clear hb9
 refine Pz 17 (some 26) (.bool (bC)) rfl rfl ?ywg1_19 ?rwg1_19
 case ywg1_19 =>
  refine StepS.pure nP (by rfl) (fun w9 => ?_)
  have e9 : (bB || (!decide (pses = ses))) = bC := by rw [HEbC.out, HEbB.out]
  rw [← e9]
  clear e9
  first | rfl | (go_simp; done) | (go_simp; rfl)
 try simp only [Act.put, sA, sZ, sS]
 refine Pz 18 (some 27) (cond bC (undef) (.pointer (some ⟨g, 0, none⟩))) rfl rfl (by cases bC; (exact StepS.pure nP rfl fun _ => rfl); exact StepS.skip nP rfl) ?_
 try simp only [Act.put, sA, sZ, sS]
 refine Pz 19 (some 28) (cond bC (undef) (.pointer (some ⟨g, 0, none⟩))) rfl rfl (by cases bC; (exact StepS.pure nP rfl fun _ => by first | rfl | (go_simp; done) | (go_simp; rfl)); exact StepS.skip nP rfl) ?_
 try simp only [Act.put, sA, sZ, sS]
 refine Pz 20 (some 29) (cond bC (undef) (.agg #[.int .u32 (ses), .int .u64 (next), .slice A n c, .slice A2 m d, .int .i64 (room), .bool (over)])) rfl rfl ?ywg1_22 ?rwg1_22
 case ywg1_22 =>
  cases bC
  · skip
    refine StepS.read [] (by kernel_rfl) nP (by rfl) (fun L9 m9 w9 hSh hAt hDn hS => ?_)
    have hT : Below _ _ w9 := hS
    have x0 : w9.cell? ⟨g, 0, none⟩ = some (.int .u32 (ses)) := (HN.out.ca hT).cell 0
    have x1 : w9.cell? ⟨g, 1, none⟩ = some (.int .u64 (next)) := (HN.out.ca hT).cell 1
    have x2 : w9.cell? ⟨g, 2, none⟩ = some (.slice A n c) := (HN.out.ca hT).cell 2
    have x3 : w9.cell? ⟨g, 3, none⟩ = some (.slice A2 m d) := (HN.out.ca hT).cell 3
    have x4 : w9.cell? ⟨g, 4, none⟩ = some (.int .i64 (room)) := (HN.out.ca hT).cell 4
    have x5 : w9.cell? ⟨g, 5, none⟩ = some (.bool (over)) := (HN.out.ca hT).cell 5
    clear hT hS
    go_simp
    try rfl
  · exact StepS.skip nP (by rfl)
 try simp only [Act.put, sA, sZ, sS]
 refine Pz 21 (some 30) (cond bC (undef) (.pointer (some ⟨p, 4, none⟩))) rfl rfl (by cases bC; (exact StepS.pure nP rfl fun _ => rfl); exact StepS.skip nP rfl) ?_
 try simp only [Act.put, sA, sZ, sS]
 refine Pz 22 (some 31) (cond bC (undef) (.agg #[.slice pA pn pc, .bool (pfin), .int .u64 (pcnt)])) rfl rfl ?ywg1_24 ?rwg1_24
 case ywg1_24 =>
  cases bC
  · skip
    refine StepS.read [] (by kernel_rfl) nP (by rfl) (fun L9 m9 w9 hSh hAt hDn hS => ?_)
    have hT : Below _ _ w9 := hS
    have x0 : w9.cell? ⟨p, 4, none⟩ = some (.slice pA pn pc) := (HP.out.ca hT).cell 4
    have x1 : w9.cell? ⟨p, 5, none⟩ = some (.bool (pfin)) := (HP.out.ca hT).cell 5
    have x2 : w9.cell? ⟨p, 6, none⟩ = some (.int .u64 (pcnt)) := (HP.out.ca hT).cell 6
    clear hT hS
    go_simp
    try rfl
  · exact StepS.skip nP (by rfl)
 try simp only [Act.put, sA, sZ, sS]
 refine Pz 23 (some 32) (cond bC (undef) (.pointer (some ⟨p, 2, none⟩))) rfl rfl (by cases bC; (exact StepS.pure nP rfl fun _ => rfl); exact StepS.skip nP rfl) ?_
 try simp only [Act.put, sA, sZ, sS]
 refine Pz 24 (some 33) (cond bC (undef) (.int .u64 (seq))) rfl rfl ?ywg1_26 ?rwg1_26
 case ywg1_26 =>
  cases bC
  · skip
    refine StepS.read [] (by kernel_rfl) nP (by rfl) (fun L9 m9 w9 hSh hAt hDn hS => ?_)
    have hT : Below _ _ w9 := hS
    have x0 : w9.cell? ⟨p, 2, none⟩ = some (.int .u64 (seq)) := (HP.out.ca hT).cell 2
    clear hT hS
    go_simp
    try rfl
  · exact StepS.skip nP (by rfl)
 try simp only [Act.put, sA, sZ, sS]
 refine Pz 25 (some 34) (cond bC (undef) (.bool (tk))) rfl rfl ?ywg1_27 ?rwg1_27
 case ywg1_27 =>
  cases bC
  · skip
    refine StepS.call ?fwg1_27 ?awg1_27 [] (by kernel_rfl) (by rfl) (fun w9 => ?hwg1_27) (fun L9 m9 w9 hSh hAt hDn hS => ?cwg1_27)
    case hwg1_27 => go_simp; refine ⟨?_, ?_⟩ <;> rfl
    case cwg1_27 =>
     have hT : Below _ _ w9 := hS
     refine (takes_any (fun _ => True) (fun _ => True) ⟨ses, next, ahead, buf, room, over⟩ A n c A2 m d ⟨rows, pfin, pcnt⟩ pA pn pc seq w9 (Lay.own_rd (Lay.own_below HO.out hT) (fun _ _ _ => trivial) (fun _ _ _ => trivial)) (Lay.own_rd (Lay.own_below HO2.out hT) (fun _ _ _ => trivial) (fun _ _ _ => trivial)) hn9 hm9 HOK.out).mono ?_
     rintro e w8 ⟨rfl, q8⟩
     exact ⟨congrArg (fun b => Ending.returned (Value.bool b)) HTK.out.symm, bl_ca hT q8⟩
  · exact StepS.skip nP (by rfl)
 try simp only [Act.put, sA, sZ, sS]
 refine Pz 26 (some 35) (cond bC (undef) (.bool (!tk))) rfl rfl (by cases bC; (exact StepS.pure nP rfl fun _ => rfl); exact StepS.skip nP rfl) ?_
 try simp only [Act.put, sA, sZ, sS]
 obtain ⟨bD, hb9⟩ : ∃ zb : Bool, zb = ((((!decide (EP = 0)) || (!decide (kind = 1))) || (!decide (pses = ses))) || !tk) := ⟨_, rfl⟩
 have HEbD := Lib.hid hb9
 clear hb9
 refine Pz 27 (some 36) (.bool (bD)) rfl rfl ?ywg1_29 ?rwg1_29
 case ywg1_29 =>
  refine StepS.pure nP (by rfl) (fun w9 => ?_)
  have e9 : (bC || !tk) = bD := by rw [HEbD.out, HEbC.out]
  rw [← e9]
  clear e9
  cases bC <;> (first | rfl | (go_simp; done) | (go_simp; rfl))
 try simp only [Act.put, sA, sZ, sS]
 refine Ps.done (by kernel_rfl) (fun wg1 hS => ?_) _
 try generalize (cond bC (undef) (.agg #[.int .u32 (ses), .int .u64 (next), .slice A n c, .slice A2 m d, .int .i64 (room), .bool (over)]) : Value) = zz30
 try generalize (cond bC (undef) (.agg #[.slice pA pn pc, .bool (pfin), .int .u64 (pcnt)]) : Value) = zz31
 try generalize (cond bC (undef) (.pointer (some ⟨p, 2, none⟩)) : Value) = zz32
 try generalize (cond bB (undef) (.bool (!decide (pses = ses))) : Value) = zz33
 try generalize (cond bC (undef) (.pointer (some ⟨g, 0, none⟩)) : Value) = zz34
 try generalize (cond bC (undef) (.pointer (some ⟨p, 4, none⟩)) : Value) = zz35
 try generalize (cond bA (undef) (.pointer (some ⟨p, 0, none⟩)) : Value) = zz36
 try generalize (cond bB (undef) (.pointer (some ⟨g, 0, none⟩)) : Value) = zz37
 try generalize (cond bB (undef) (.pointer (some ⟨p, 1, none⟩)) : Value) = zz38
 try generalize (cond bA (undef) (.bool (!decide (kind = 1))) : Value) = zz39
 try generalize (.bool (bB || (!decide (pses = ses))) : Value) = zz40
 try generalize (cond bB (undef) (.int .u32 (pses)) : Value) = zz41
 try generalize (.bool (bA || (!decide (kind = 1))) : Value) = zz42
 try generalize (cond bA (undef) (.int .i64 (kind)) : Value) = zz43
 try generalize (cond bB (undef) (.int .u32 (ses)) : Value) = zz44
 try generalize (cond bC (undef) (.int .u64 (seq)) : Value) = zz45
 try generalize (cond bC (undef) (.bool (!tk)) : Value) = zz46
 try generalize (cond bC (undef) (.bool (tk)) : Value) = zz47
 have HQ := Lib.hid (show Below w.heap.size w wg1 from hS)
 clear hS
 obtain ⟨w7, rfl⟩ : ∃ x, x = wg1 := ⟨_, rfl⟩
 cases bD
 · have HYES := Lib.hid (show RR = drainR ⟨ses, next, ahead, buf, room, over⟩ (insL ⟨seq, ⟨rows, pfin, pcnt⟩⟩ ahead) from by
    rw [HRR.out]
    unfold hearR
    rw [HHB.out, ← HEbD.out]
    rfl)
   clear HHB HEP HTK HRR HEbA HEbB HEbC HEbD
   have HP7 := Lib.hid (HP.out.ca HQ.out)
   have HN7 := Lib.hid (HN.out.ca HQ.out)
   have HR7 := Lib.hid (Lay.rd_below HR.out HQ.out)
   have HOA7 := Lib.hid (Lay.own_below HO.out HQ.out)
   have HOB7 := Lib.hid (Lay.own_below HO2.out HQ.out)
   have hs7 := HQ.out.size
   obtain ⟨ps, hps⟩ : ∃ ps, ps = insP seq ahead := ⟨_, rfl⟩
   have hpsn : ps ≤ n := by rw [hps, ← Lay.own_len HO.out]; exact insP_le _ _
   have HLO := Lib.hid (show ∀ (k : Nat) x, k < ps → ahead[k]? = some x → x.seq < seq from fun k x hk hx => insP_lo (by rw [← hps]; exact hk) hx)
   have HHI := Lib.hid (show ∀ (k : Nat) x, ps ≤ k → ahead[k]? = some x → seq ≤ x.seq from fun k x hk hx => insP_hi HAH.out (by rw [← hps]; exact hk) hx)
   have HINS := Lib.hid (show insL ⟨seq, ⟨rows, pfin, pcnt⟩⟩ ahead = ahead.take ps ++ ⟨seq, ⟨rows, pfin, pcnt⟩⟩ :: ahead.drop ps from by rw [hps]; rfl)
   clear hps HP HN HR HO HO2 HAH
   go_wp2_with fail
   refine wp_region_ps (S := fun _ _ w' => Below w7.heap.size w7 w') (by kernel_rfl) ?spswg48 ?ppswg48
   case spswg48 =>
    exact (Below.refl w7.heap.size w7).drew
   refine Pz 0 (some 38) (.pointer (some ⟨g, 0, none⟩)) rfl rfl (by exact StepS.pure nP rfl fun _ => rfl) ?_
   try simp only [Act.put, sA, sZ, sS]
   refine Pz 1 (some 39) (.pointer (some ⟨g, 0, none⟩)) rfl rfl (by exact StepS.pure nP rfl fun _ => by first | rfl | (go_simp; done) | (go_simp; rfl)) ?_
   try simp only [Act.put, sA, sZ, sS]
   refine Pz 2 (some 40) (.pointer (some ⟨g, 2, none⟩)) rfl rfl (by exact StepS.pure nP rfl fun _ => rfl) ?_
   try simp only [Act.put, sA, sZ, sS]
   refine Pz 3 (some 41) (.slice A n c) rfl rfl ?ywg48_52 ?rwg48_52
   case ywg48_52 =>
    refine StepS.read [] (by kernel_rfl) nP (by rfl) (fun L9 m9 w9 hSh hAt hDn hS => ?_)
    have hT : Below _ _ w9 := hS
    have x0 : w9.cell? ⟨g, 2, none⟩ = some (.slice A n c) := (HN7.out.ca hT).cell 2
    clear hT hS
    go_simp
    try rfl
   try simp only [Act.put, sA, sZ, sS]
   refine Pz 4 (some 42) (.pointer (some ⟨p, 2, none⟩)) rfl rfl (by exact StepS.pure nP rfl fun _ => rfl) ?_
   try simp only [Act.put, sA, sZ, sS]
   refine Pz 5 (some 43) (.int .u64 (seq)) rfl rfl ?ywg48_54 ?rwg48_54
   case ywg48_54 =>
    refine StepS.read [] (by kernel_rfl) nP (by rfl) (fun L9 m9 w9 hSh hAt hDn hS => ?_)
    have hT : Below _ _ w9 := hS
    have x0 : w9.cell? ⟨p, 2, none⟩ = some (.int .u64 (seq)) := (HP7.out.ca hT).cell 2
    clear hT hS
    go_simp
    try rfl
   try simp only [Act.put, sA, sZ, sS]
   refine Pz 6 (some 44) (.tuple #[.int .i64 ((ps : Int)), .bool (false)]) rfl rfl ?ywg48_55 ?rwg48_55
   case ywg48_55 =>
    refine StepS.call ?fwg48_55 ?awg48_55 [] (by kernel_rfl) (by rfl) (fun w9 => ?hwg48_55) (fun L9 m9 w9 hSh hAt hDn hS => ?cwg48_55)
    case hwg48_55 => go_simp; refine ⟨?_, ?_⟩ <;> rfl
    case cwg48_55 =>
     have hT : Below _ _ w9 := hS
     refine (bsearch_any (fun _ => True) A n c ahead seq ps w9 (Lay.own_rd (Lay.own_below HOA7.out hT) (fun _ _ _ => trivial) (fun _ _ _ => trivial)) (by omega) hpsn HLO.out HHI.out).mono ?_
     rintro e w8 ⟨rfl, q8⟩
     exact ⟨rfl, bl_ca hT q8⟩
   try simp only [Act.put, sA, sZ, sS]
   refine Pz 7 (some 37) (.tuple #[.int .i64 ((ps : Int)), .bool (false)]) rfl rfl (by exact StepS.pure nP rfl fun _ => rfl) ?_
   try simp only [Act.put, sA, sZ, sS]
   refine Pz 8 (some 45) (.int .i64 ((ps : Int))) rfl rfl (by exact StepS.pure nP rfl fun _ => rfl) ?_
   try simp only [Act.put, sA, sZ, sS]
   refine Pz 9 (some 46) (.bool (false)) rfl rfl (by exact StepS.pure nP rfl fun _ => rfl) ?_
   try simp only [Act.put, sA, sZ, sS]
   refine Pz 10 (some 4) (.int .i64 ((ps : Int))) rfl rfl (by exact StepS.pure nP rfl fun _ => rfl) ?_
   try simp only [Act.put, sA, sZ, sS]
   refine Pz 11 (some 5) (.bool (false)) rfl rfl (by exact StepS.pure nP rfl fun _ => rfl) ?_
   try simp only [Act.put, sA, sZ, sS]
   refine Ps.done (by kernel_rfl) (fun wg48 hS => ?_) _
   have HQ8 := Lib.hid (show Below w7.heap.size w7 wg48 from hS)
   clear hS
   obtain ⟨w8, rfl⟩ : ∃ x, x = wg48 := ⟨_, rfl⟩
   have HP8 := Lib.hid (HP7.out.ca HQ8.out)
   have HN8 := Lib.hid (HN7.out.ca HQ8.out)
   have HR8 := Lib.hid (Lay.rd_below HR7.out HQ8.out)
   have HOA8 := Lib.hid (Lay.own_below HOA7.out HQ8.out)
   have HOB8 := Lib.hid (Lay.own_below HOB7.out HQ8.out)
   have hs8 := HQ8.out.size
   have HQ78 := Lib.hid (bl_ca HQ.out HQ8.out)
   have HAB := Lib.hid (Lay.own_base HOA8.out)
   have HBBs := Lib.hid (Lay.own_base HOB8.out)
   clear HP7 HN7 HR7 HOA7 HOB7 HQ HQ8 HLO HHI
   go_wp2_with fail
   refine wp_region_ps (S := SeqN [11, 12, 15] (fun z mm w' => match z with | 0 => Below w8.heap.size w8 w' | 1 => Below w8.heap.size w8 w' ∧ ∃ gb, mm 11 = .slice (some ⟨gb, 0, none⟩) 1 1 ∧ w8.heap.size ≤ gb ∧ Blk w' gb 81 #[.int .u64 seq, .slice pA pn pc, .bool pfin, .int .u64 pcnt] | 2 => Chg (fun k => k = g ∨ (Value.slice A n c).ownBlock = some k) w8 w' ∧ Blk w' g 36 #[.int .u32 ses, .int .u64 next, .slice A n c, .slice A2 m d, .int .i64 room, .bool over] ∧ ∃ A4 c4, mm 12 = .slice A4 (n + 1) c4 ∧ LH4.own 81 w' B Fr A4 (n + 1) c4 (ahead.take ps ++ ⟨seq, ⟨rows, pfin, pcnt⟩⟩ :: ahead.drop ps) ∧ (∀ k, (Value.slice A4 (n + 1) c4).ownBlock = some k → (Value.slice A n c).ownBlock = some k ∨ w8.heap.size ≤ k) | _ => Chg (fun k => k = g ∨ (Value.slice A n c).ownBlock = some k) w8 w' ∧ ∃ A4 c4, mm 12 = .slice A4 (n + 1) c4 ∧ LH4.own 81 w' B Fr A4 (n + 1) c4 (ahead.take ps ++ ⟨seq, ⟨rows, pfin, pcnt⟩⟩ :: ahead.drop ps) ∧ (∀ k, (Value.slice A4 (n + 1) c4).ownBlock = some k → (Value.slice A n c).ownBlock = some k ∨ w8.heap.size ≤ k) ∧ Blk w' g 36 #[.int .u32 ses, .int .u64 next, .slice A4 (n + 1) c4, .slice A2 m d, .int .i64 room, .bool over])) (by kernel_rfl) ?spswg61 ?ppswg61
   case spswg61 =>
    exact SeqN.start (by decide) (Below.refl _ _).drew
   refine Pz 0 (some 47) (.pointer (some ⟨g, 0, none⟩)) rfl rfl (by exact StepS.pure (SeqN.pass (by decide)) rfl fun _ => rfl) ?_
   try simp only [Act.put, sA, sZ, sS]
   refine Pz 1 (some 48) (.pointer (some ⟨g, 0, none⟩)) rfl rfl (by exact StepS.pure (SeqN.pass (by decide)) rfl fun _ => rfl) ?_
   try simp only [Act.put, sA, sZ, sS]
   refine Pz 2 (some 49) (.pointer (some ⟨g, 0, none⟩)) rfl rfl (by exact StepS.pure (SeqN.pass (by decide)) rfl fun _ => by first | rfl | (go_simp; done) | (go_simp; rfl)) ?_
   try simp only [Act.put, sA, sZ, sS]
   refine Pz 3 (some 50) (.pointer (some ⟨g, 2, none⟩)) rfl rfl (by exact StepS.pure (SeqN.pass (by decide)) rfl fun _ => rfl) ?_
   try simp only [Act.put, sA, sZ, sS]
   refine Pz 4 (some 51) (.slice A n c) rfl rfl ?ywg61_66 ?rwg61_66
   case ywg61_66 =>
    refine StepS.read [] (by kernel_rfl) (SeqN.pass (by decide)) (by rfl) (fun L9 m9 w9 hSh hAt hDn hS => ?_)
    have hT : Below w8.heap.size w8 w9 := SeqN.z01 hSh (reach_no hSh (f := 17) (j := 12) (by kernel_rfl) hDn) (by kernel_rfl) (fun _ _ h => h) (fun _ _ h => h.1) hS
    have x0 : w9.cell? ⟨g, 2, none⟩ = some (.slice A n c) := (HN8.out.ca hT).cell 2
    clear hT hS
    go_simp
    try rfl
   try simp only [Act.put, sA, sZ, sS]
   refine Pz 5 (some 52) (.int .i64 ((ps : Int))) rfl rfl (by exact StepS.pure (SeqN.pass (by decide)) rfl fun _ => rfl) ?_
   try simp only [Act.put, sA, sZ, sS]
   refine Pz 6 (some 53) (.pointer (some ⟨p, 2, none⟩)) rfl rfl (by exact StepS.pure (SeqN.pass (by decide)) rfl fun _ => rfl) ?_
   try simp only [Act.put, sA, sZ, sS]
   refine Pz 7 (some 54) (.int .u64 (seq)) rfl rfl ?ywg61_69 ?rwg61_69
   case ywg61_69 =>
    refine StepS.read [] (by kernel_rfl) (SeqN.pass (by decide)) (by rfl) (fun L9 m9 w9 hSh hAt hDn hS => ?_)
    have hT : Below w8.heap.size w8 w9 := SeqN.z01 hSh (reach_no hSh (f := 17) (j := 12) (by kernel_rfl) hDn) (by kernel_rfl) (fun _ _ h => h) (fun _ _ h => h.1) hS
    have x0 : w9.cell? ⟨p, 2, none⟩ = some (.int .u64 (seq)) := (HP8.out.ca hT).cell 2
    clear hT hS
    go_simp
    try rfl
   try simp only [Act.put, sA, sZ, sS]
   refine Pz 8 (some 55) (.pointer (some ⟨p, 4, none⟩)) rfl rfl (by exact StepS.pure (SeqN.pass (by decide)) rfl fun _ => rfl) ?_
   try simp only [Act.put, sA, sZ, sS]
   refine Pz 9 (some 56) (.agg #[.slice pA pn pc, .bool (pfin), .int .u64 (pcnt)]) rfl rfl ?ywg61_71 ?rwg61_71
   case ywg61_71 =>
    refine StepS.read [] (by kernel_rfl) (SeqN.pass (by decide)) (by rfl) (fun L9 m9 w9 hSh hAt hDn hS => ?_)
    have hT : Below w8.heap.size w8 w9 := SeqN.z01 hSh (reach_no hSh (f := 17) (j := 12) (by kernel_rfl) hDn) (by kernel_rfl) (fun _ _ h => h) (fun _ _ h => h.1) hS
    have x0 : w9.cell? ⟨p, 4, none⟩ = some (.slice pA pn pc) := (HP8.out.ca hT).cell 4
    have x1 : w9.cell? ⟨p, 5, none⟩ = some (.bool (pfin)) := (HP8.out.ca hT).cell 5
    have x2 : w9.cell? ⟨p, 6, none⟩ = some (.int .u64 (pcnt)) := (HP8.out.ca hT).cell 6
    clear hT hS
    go_simp
    try rfl
   try simp only [Act.put, sA, sZ, sS]
   refine Pz 10 (some 57) (.agg #[.int .u64 (seq), .slice pA pn pc, .bool (pfin), .int .u64 (pcnt)]) rfl rfl (by exact StepS.pure (SeqN.pass (by decide)) rfl fun _ => by first | rfl | (go_simp; done) | (go_simp; rfl)) ?_
   try simp only [Act.put, sA, sZ, sS]
   refine Ps.one (k := 11) (d := some 58) rfl rfl (by kernel_rfl) (TurnS.value (V := fun v => ∃ gb, v = .slice (some ⟨gb, 0, none⟩) 1 1) [] (by kernel_rfl) (by rfl) (fun L9 m9 w9 hSh hAt hDn hS => ?cwg61_73)) (fun v11 hVv11 => ?rwg61_73)
   case cwg61_73 =>
    have hT := SeqN.at_ (m0 := m9) (m1 := m9) [] [12, 15] hSh (fun d hd => by cases hd) hDn (by kernel_rfl) hS
    refine ⟨.slice (some ⟨w9.heap.size, 0, none⟩) 1 1, w9.alloc (.cells #[.int .u64 seq, .slice pA pn pc, .bool pfin, .int .u64 pcnt] 81), ?_, ⟨_, rfl⟩, SeqN.set_ (m0 := m9) (m1 := m9) [] [12, 15] hSh (fun d hd => by cases hd) hDn (by kernel_rfl) (by decide) (by decide) ⟨bl_al hT _, _, upd_same _ _ _, hT.size, Blk.new _ _ _⟩⟩
    clear hT hS
    go_simp
   try simp only [Act.put, sA, sZ, sS]
   obtain ⟨gb, rfl⟩ := hVv11
   refine Ps.one (k := 12) (d := some 59) rfl rfl (by kernel_rfl) (TurnS.call (V := fun v => ∃ A4 c4, v = .slice A4 (n + 1) c4) ?fwg61_74 ?awg61_74 [11] (by kernel_rfl) (by rfl) (fun w9 => ?hwg61_74) (fun L9 m9 w9 hSh hAt hDn hS => ?cwg61_74)) (fun v12 hVv12 => ?rwg61_74)
   case hwg61_74 => go_simp; refine ⟨?_, ?_⟩ <;> rfl
   case cwg61_74 =>
    obtain ⟨hT, gb2, hv, hg1, hg2⟩ := SeqN.at_ [11] [15] hSh hAt hDn (by kernel_rfl) hS
    obtain rfl : gb = gb2 := by have h9 : Value.slice (some ⟨gb, 0, none⟩) 1 1 = .slice (some ⟨gb2, 0, none⟩) 1 1 := (hAt 11 (by simp)).2.symm.trans hv; simpa using h9
    have hsz := hT.size
    refine (insert_any B Fr A n c ps ahead ⟨seq, ⟨rows, pfin, pcnt⟩⟩ gb 1 #[.int .u64 seq, .slice pA pn pc, .bool pfin, .int .u64 pcnt] w9 (Lay.own_below HOA8.out hT) hpsn (by omega) hg2 (fun e => by have := (HAB.out gb e).2; omega) ⟨pA, pn, pc, rfl, hpn, hpc, Lay.rd_weak (fun b hb _ => ⟨hb, fun e => by have := (HAB.out b e).1; have := HFR.out b hb; omega⟩) (Lay.rd_below HR8.out hT)⟩ (fun b hb => by have := HFR.out b hb; omega) (by omega)).mono ?_
    rintro e w6 ⟨A4, c4, rfl, ho, hgr, hat⟩
    exact ⟨_, rfl, ⟨A4, c4, rfl⟩, SeqN.set_ [11] [15] hSh hAt hDn (by kernel_rfl) (by decide) (by decide) ⟨(Chg.of_below hT).grown hgr (fun k e => .inl (.inr e)), (HN8.out.ca hT).grown hgr (fun e => by have := (HAB.out g e.symm).1; omega), A4, c4, upd_same _ _ _, ho, fun k e => hat.elim (fun h => .inl (h ▸ e)) (fun h => .inr (by rw [h] at e; injection e with e; omega))⟩⟩
   try simp only [Act.put, sA, sZ, sS]
   obtain ⟨A3, c3, rfl⟩ := hVv12
   refine Pz 13 (some 60) (.pointer (some ⟨g, 0, none⟩)) rfl rfl (by exact StepS.pure (SeqN.pass (by decide)) rfl fun _ => by first | rfl | (go_simp; done) | (go_simp; rfl)) ?_
   try simp only [Act.put, sA, sZ, sS]
   refine Pz 14 (some 61) (.pointer (some ⟨g, 2, none⟩)) rfl rfl (by exact StepS.pure (SeqN.pass (by decide)) rfl fun _ => rfl) ?_
   try simp only [Act.put, sA, sZ, sS]
   refine Pz 15 none undef rfl rfl ?ywg61_77 ?rwg61_77
   case ywg61_77 =>
    refine StepS.store [11, 12] (by kernel_rfl) (by rfl) (fun L9 m9 w9 hSh hAt hDn hS => ?_)
    obtain ⟨hch, hN, A4, c4, hv, ho, hat⟩ := SeqN.at_ [11, 12] [] hSh hAt hDn (by kernel_rfl) hS
    obtain ⟨rfl, rfl⟩ : A3 = A4 ∧ c3 = c4 := by have h9 : Value.slice A3 (n + 1) c3 = .slice A4 (n + 1) c4 := (hAt 12 (by simp)).2.symm.trans hv; simpa using h9
    have hN2 : Blk (w9.setCell ⟨g, 2, none⟩ (.slice A3 (n + 1) c3)) g 36 #[.int .u32 ses, .int .u64 next, .slice A3 (n + 1) c3, .slice A2 m d, .int .i64 room, .bool over] := by simpa using hN.set_ 2 (.slice A3 (n + 1) c3)
    have hg2 : w9.grownBy (w9.setCell ⟨g, 2, none⟩ (.slice A3 (n + 1) c3)) (some g) := only_setCell (World.grownBy.refl _ _) (.inl rfl) _
    have x2 : w9.cell? ⟨g, 2, none⟩ = some (.slice A n c) := hN.cell 2
    have fx : w9.frozen? ⟨g, 2, none⟩ = false := hN.frozen 2
    refine ⟨w9.setCell ⟨g, 2, none⟩ (.slice A3 (n + 1) c3), ?_, SeqN.set_ [11, 12] [] hSh hAt hDn (by kernel_rfl) (by decide) (by decide) ⟨hch.grown hg2 (fun k e => .inl (.inl (by injection e with e; exact e.symm))), A3, c3, hv, own_grownF ho hg2 hgB (fun b hb => by have := HFR.out b hb; omega), hat, hN2⟩⟩
    clear hv ho hN hN2 hg2 hch hat hS
    go_simp
   try simp only [Act.put]
   refine Ps.done (by kernel_rfl) (fun wg61 hS => ?_) _
   obtain ⟨hch, A4, c4, hv, ho, hat, hN⟩ := SeqN.fin (by rfl) hS
   clear hS
   obtain ⟨rfl, rfl⟩ : A3 = A4 ∧ c3 = c4 := by have h9 : Value.slice A3 (n + 1) c3 = .slice A4 (n + 1) c4 := hv; simpa using h9
   clear hv
   have HCH := Lib.hid hch
   have HOA10 := Lib.hid ho
   have HAT := Lib.hid hat
   have HN10 := Lib.hid hN
   clear hch ho hat hN
   obtain ⟨w10, rfl⟩ : ∃ x, x = wg61 := ⟨_, rfl⟩
   obtain ⟨ins, hins⟩ : ∃ ins, ins = (ahead.take ps ++ ⟨seq, ⟨rows, pfin, pcnt⟩⟩ :: ahead.drop ps) := ⟨_, rfl⟩
   rw [← hins] at HOA10 HINS
   have HOB10 := Lib.hid (Lay.own_same HOB8.out (fun k e => HCH.out.block k (HBBs.out k e).2 (fun h => h.elim (fun h => by have := (HBBs.out k e).1; omega) (fun h => HNE.out k h e))) (fun b hb _ hl => HCH.out.block b hl (fun h => h.elim (fun h => by have := HFR.out b hb; omega) (fun h => by have := (HAB.out b h).1; have := HFR.out b hb; omega))))
   have HNE10 := Lib.hid (show ∀ k, (Value.slice A3 (n + 1) c3).ownBlock = some k → (Value.slice A2 m d).ownBlock ≠ some k from fun k e e2 => (HAT.out k e).elim (fun h => HNE.out k h e2) (fun h => by have := (HBBs.out k e2).2; omega))
   have HAO := Lib.hid (show ∀ k, (Value.slice A3 (n + 1) c3).ownBlock = some k → k < w.heap.size → k = g ∨ (Value.slice A n c).ownBlock = some k ∨ (Value.slice A2 m d).ownBlock = some k ∨ noX k from fun k e hk => (HAT.out k e).elim (fun h => .inr (.inl h)) (fun h => by omega))
   have HCH10 := Lib.hid (show Chg (fun k => k = g ∨ (Value.slice A n c).ownBlock = some k ∨ (Value.slice A2 m d).ownBlock = some k ∨ noX k) w w10 from (Chg.of_below HQ78.out).trans (HCH.out.weak (fun b _ h => h.elim .inl (fun h => .inr (.inl h)))))
   have hli : ins.length = n + 1 := Lay.own_len HOA10.out
   rw [HINS.out] at HYES
   have hs10 := HCH.out.size
   clear hins HINS HOA8 HOB8 HN8 HP8 HR8 HQ78 HCH HAT HNE
   have y2 := HN10.out.cell 2
   go_wp2_with fail
   go_step3
   go_wp2_with fail
   clear y2
   go_loopg [67, 6] (n + 1) (fun gk a b wr => ∃ (i : Nat) (B3 : Option Addr) (d3 : Nat), i + gk = n + 1 ∧ a = .int .i64 i ∧ b = .int .i64 i ∧ Blk wr g 36 #[.int .u32 ses, .int .u64 (next + (i : Int)), .slice A3 (n + 1) c3, .slice B3 (m + i) d3, .int .i64 room, .bool over] ∧ LH4.own 81 wr B Fr A3 (n + 1) c3 ins ∧ LB3.own 45 wr B Fr B3 (m + i) d3 (buf ++ (ins.take i).map HC.b) ∧ (∀ (k : Nat) x, k < i → ins[k]? = some x → x.seq = next + (k : Int)) ∧ (∀ k, (Value.slice A3 (n + 1) c3).ownBlock = some k → (Value.slice B3 (m + i) d3).ownBlock ≠ some k) ∧ Chg (fun k => k = g ∨ (Value.slice A n c).ownBlock = some k ∨ (Value.slice A2 m d).ownBlock = some k ∨ noX k) w wr ∧ (∀ k, (Value.slice B3 (m + i) d3).ownBlock = some k → (Value.slice A2 m d).ownBlock = some k ∨ w.heap.size ≤ k))
   case atStart => exact ⟨0, A2, d, by omega, rfl, rfl, by simpa using HN10.out, HOA10.out, by simpa using HOB10.out, fun k x hk => by omega, HNE10.out, HCH10.out, fun k e => .inl e⟩
   case round =>
    obtain ⟨i, B3, d3, hig, rfl, rfl, hbn, hoa, hob, hsq, hnn, hcg, hbo⟩ := hrel
    have HBN := Lib.hid hbn
    have HOA := Lib.hid hoa
    have HOB := Lib.hid hob
    have HSQ := Lib.hid hsq
    have HNN := Lib.hid hnn
    have HCG := Lib.hid hcg
    have HBO := Lib.hid hbo
    have hca3 := Lay.own_caps hoa
    have hsr := hcg.size
    by_cases hlt : i < n + 1
    · have hi1 : (i : Int) < ((n + 1 : Nat) : Int) := by omega
      have hi2 : (i : Int) < (n : Int) + 1 := by omega
      obtain ⟨x, hx⟩ : ∃ x, ins[i]? = some x := ⟨_, List.getElem?_eq_getElem (by omega)⟩
      have HX := Lib.hid hx
      obtain ⟨ga, rfl, hgb, _⟩ := own_some HOA.out (by omega)
      obtain ⟨Bx, kx, kc, e0, e1, e2, e3, hk1, hk2, hxr⟩ := LH4_own_at HOA.out hx
      have HXR := Lib.hid hxr
      have HN6 := Lib.hid (Blk.new wr 81 #[.int .u64 0, .slice none 0 0, .bool false, .int .u64 0])
      clear hbn hoa hob hsq hnn hcg hbo hxr hx
      go_upto_region 9 with (first | (refine wpList_store_blk rfl 81 (.tmp 8) (.tmp 70) rfl wr.heap.size 81 #[.int .u64 0, .slice none 0 0, .bool false, .int .u64 0] #[.int .u64 x.seq, .slice Bx kx kc, .bool x.b.fin, .int .u64 x.b.cnt] rfl rfl HN6.out rfl heldI (by simp [Value.oneCell']) ?_; intro w11 h11 g11; have HT11 := Lib.hid h11; have HG11 := Lib.hid g11; clear h11 g11))
      have HBR := Lib.hid (bl_gr (bl_al (Below.refl wr.heap.size wr) (.cells #[.int .u64 0, .slice none 0 0, .bool false, .int .u64 0] 81)) HG11.out (Nat.le_refl _))
      have HBN11 := Lib.hid (HBN.out.ca HBR.out)
      clear e0 e1 e2 e3 HN6 HG11
      refine wp_region_ps (S := fun _ _ w' => Below w11.heap.size w11 w') (by kernel_rfl) ?spswg78 ?ppswg78
      case spswg78 =>
       exact (Below.refl w11.heap.size w11).drew
      refine Pz 0 (some 71) (.pointer (some ⟨wr.heap.size, 0, none⟩)) rfl rfl (by exact StepS.pure nP rfl fun _ => rfl) ?_
      try simp only [Act.put, sA, sZ, sS]
      refine Pz 1 (some 72) (.int .u64 (x.seq)) rfl rfl ?ywg78_80 ?rwg78_80
      case ywg78_80 =>
       refine StepS.read [] (by kernel_rfl) nP (by rfl) (fun L9 m9 w9 hSh hAt hDn hS => ?_)
       have hT : Below _ _ w9 := hS
       have x0 : w9.cell? ⟨wr.heap.size, 0, none⟩ = some (.int .u64 (x.seq)) := (HT11.out.ca hT).cell 0
       clear hT hS
       go_simp
       try rfl
      try simp only [Act.put, sA, sZ, sS]
      refine Pz 2 (some 73) (.pointer (some ⟨g, 0, none⟩)) rfl rfl (by exact StepS.pure nP rfl fun _ => rfl) ?_
      try simp only [Act.put, sA, sZ, sS]
      refine Pz 3 (some 74) (.pointer (some ⟨g, 0, none⟩)) rfl rfl (by exact StepS.pure nP rfl fun _ => by first | rfl | (go_simp; done) | (go_simp; rfl)) ?_
      try simp only [Act.put, sA, sZ, sS]
      refine Pz 4 (some 75) (.pointer (some ⟨g, 1, none⟩)) rfl rfl (by exact StepS.pure nP rfl fun _ => rfl) ?_
      try simp only [Act.put, sA, sZ, sS]
      refine Pz 5 (some 76) (.int .u64 (next + (i : Int))) rfl rfl ?ywg78_84 ?rwg78_84
      case ywg78_84 =>
       refine StepS.read [] (by kernel_rfl) nP (by rfl) (fun L9 m9 w9 hSh hAt hDn hS => ?_)
       have hT : Below _ _ w9 := hS
       have x0 : w9.cell? ⟨g, 1, none⟩ = some (.int .u64 (next + (i : Int))) := (HBN11.out.ca hT).cell 1
       clear hT hS
       go_simp
       try rfl
      try simp only [Act.put, sA, sZ, sS]
      obtain ⟨bX, hb9⟩ : ∃ zb : Bool, zb = (!decide (x.seq = (next + (i : Int)))) := ⟨_, rfl⟩
      have HEbX := Lib.hid hb9
      clear hb9
      refine Pz 6 (some 77) (.bool (bX)) rfl rfl ?ywg78_85 ?rwg78_85
      case ywg78_85 =>
       refine StepS.pure nP (by rfl) (fun w9 => ?_)
       have e9 : (!decide (x.seq = (next + (i : Int)))) = bX := by rw [HEbX.out]
       rw [← e9]
       clear e9
       first | rfl | (go_simp; done) | (go_simp; rfl)
      try simp only [Act.put, sA, sZ, sS]
      refine Ps.done (by kernel_rfl) (fun wg78 hS => ?_) _
      have HT12 := Lib.hid (show Below w11.heap.size w11 wg78 from hS)
      clear hS
      obtain ⟨w12, rfl⟩ : ∃ x, x = wg78 := ⟨_, rfl⟩
      have HB12 := Lib.hid (bl_ca HBR.out HT12.out)
      have HBN12 := Lib.hid (HBN.out.ca HB12.out)
      have HOA12 := Lib.hid (Lay.own_below HOA.out HB12.out)
      have HOB12 := Lib.hid (Lay.own_below HOB.out HB12.out)
      have HT8 := Lib.hid (HT11.out.ca HT12.out)
      have HXR12 := Lib.hid (Lay.rd_below HXR.out HB12.out)
      have hs12 := HB12.out.size
      have HC12 := Lib.hid (HCG.out.trans (Chg.of_below HB12.out))
      clear HBN11 HT11 HT12 HBR HBN HOA HOB HXR HCG
      cases bX
      · have hq : x.seq = next + (i : Int) := by simpa using HEbX.out.symm
        have HOBB := Lib.hid (Lay.own_base HOB12.out)
        have HOAB := Lib.hid (Lay.own_base HOA12.out)
        go_wp2_with fail
        refine wp_region_ps (S := SeqN [7, 8, 11] (fun z mm w' => match z with | 0 => Below w12.heap.size w12 w' | 1 => Below w12.heap.size w12 w' ∧ ∃ gb, mm 7 = .slice (some ⟨gb, 0, none⟩) 1 1 ∧ w12.heap.size ≤ gb ∧ Blk w' gb 45 #[.slice Bx kx kc, .bool x.b.fin, .int .u64 x.b.cnt] | 2 => Chg (fun k => k = g ∨ (Value.slice B3 (m + i) d3).ownBlock = some k) w12 w' ∧ Blk w' g 36 #[.int .u32 ses, .int .u64 (next + (i : Int)), .slice (some ⟨ga, 0, none⟩) (n + 1) c3, .slice B3 (m + i) d3, .int .i64 room, .bool over] ∧ ∃ A6 c6, mm 8 = .slice A6 (m + i + 1) c6 ∧ LB3.own 45 w' B Fr A6 (m + i + 1) c6 (buf ++ (ins.take i).map HC.b ++ [x.b]) ∧ (∀ k, (Value.slice A6 (m + i + 1) c6).ownBlock = some k → (Value.slice B3 (m + i) d3).ownBlock = some k ∨ w12.heap.size ≤ k) | _ => Chg (fun k => k = g ∨ (Value.slice B3 (m + i) d3).ownBlock = some k) w12 w' ∧ ∃ A6 c6, mm 8 = .slice A6 (m + i + 1) c6 ∧ LB3.own 45 w' B Fr A6 (m + i + 1) c6 (buf ++ (ins.take i).map HC.b ++ [x.b]) ∧ (∀ k, (Value.slice A6 (m + i + 1) c6).ownBlock = some k → (Value.slice B3 (m + i) d3).ownBlock = some k ∨ w12.heap.size ≤ k) ∧ Blk w' g 36 #[.int .u32 ses, .int .u64 (next + (i : Int)), .slice (some ⟨ga, 0, none⟩) (n + 1) c3, .slice A6 (m + i + 1) c6, .int .i64 room, .bool over])) (by kernel_rfl) ?spswg86 ?ppswg86
        case spswg86 =>
         exact SeqN.start (by decide) (Below.refl _ _).drew
        refine Pz 0 (some 78) (.pointer (some ⟨g, 0, none⟩)) rfl rfl (by exact StepS.pure (SeqN.pass (by decide)) rfl fun _ => rfl) ?_
        try simp only [Act.put, sA, sZ, sS]
        refine Pz 1 (some 79) (.pointer (some ⟨g, 0, none⟩)) rfl rfl (by exact StepS.pure (SeqN.pass (by decide)) rfl fun _ => rfl) ?_
        try simp only [Act.put, sA, sZ, sS]
        refine Pz 2 (some 80) (.pointer (some ⟨g, 0, none⟩)) rfl rfl (by exact StepS.pure (SeqN.pass (by decide)) rfl fun _ => by first | rfl | (go_simp; done) | (go_simp; rfl)) ?_
        try simp only [Act.put, sA, sZ, sS]
        refine Pz 3 (some 81) (.pointer (some ⟨g, 3, none⟩)) rfl rfl (by exact StepS.pure (SeqN.pass (by decide)) rfl fun _ => rfl) ?_
        try simp only [Act.put, sA, sZ, sS]
        refine Pz 4 (some 82) (.slice B3 (m + i) d3) rfl rfl ?ywg86_91 ?rwg86_91
        case ywg86_91 =>
         refine StepS.read [] (by kernel_rfl) (SeqN.pass (by decide)) (by rfl) (fun L9 m9 w9 hSh hAt hDn hS => ?_)
         have hT : Below w12.heap.size w12 w9 := SeqN.z01 hSh (reach_no hSh (f := 17) (j := 8) (by kernel_rfl) hDn) (by kernel_rfl) (fun _ _ h => h) (fun _ _ h => h.1) hS
         have x0 : w9.cell? ⟨g, 3, none⟩ = some (.slice B3 (m + i) d3) := (HBN12.out.ca hT).cell 3
         clear hT hS
         go_simp
         try rfl
        try simp only [Act.put, sA, sZ, sS]
        refine Pz 5 (some 83) (.pointer (some ⟨wr.heap.size, 1, none⟩)) rfl rfl (by exact StepS.pure (SeqN.pass (by decide)) rfl fun _ => rfl) ?_
        try simp only [Act.put, sA, sZ, sS]
        refine Pz 6 (some 84) (.agg #[.slice Bx kx kc, .bool (x.b.fin), .int .u64 (x.b.cnt)]) rfl rfl ?ywg86_93 ?rwg86_93
        case ywg86_93 =>
         refine StepS.read [] (by kernel_rfl) (SeqN.pass (by decide)) (by rfl) (fun L9 m9 w9 hSh hAt hDn hS => ?_)
         have hT : Below w12.heap.size w12 w9 := SeqN.z01 hSh (reach_no hSh (f := 17) (j := 8) (by kernel_rfl) hDn) (by kernel_rfl) (fun _ _ h => h) (fun _ _ h => h.1) hS
         have x0 : w9.cell? ⟨wr.heap.size, 1, none⟩ = some (.slice Bx kx kc) := (HT8.out.ca hT).cell 1
         have x1 : w9.cell? ⟨wr.heap.size, 2, none⟩ = some (.bool (x.b.fin)) := (HT8.out.ca hT).cell 2
         have x2 : w9.cell? ⟨wr.heap.size, 3, none⟩ = some (.int .u64 (x.b.cnt)) := (HT8.out.ca hT).cell 3
         clear hT hS
         go_simp
         try rfl
        try simp only [Act.put, sA, sZ, sS]
        refine Ps.one (k := 7) (d := some 85) rfl rfl (by kernel_rfl) (TurnS.value (V := fun v => ∃ gb, v = .slice (some ⟨gb, 0, none⟩) 1 1) [] (by kernel_rfl) (by rfl) (fun L9 m9 w9 hSh hAt hDn hS => ?cwg86_94)) (fun v7 hVv7 => ?rwg86_94)
        case cwg86_94 =>
         have hT := SeqN.at_ (m0 := m9) (m1 := m9) [] [8, 11] hSh (fun d hd => by cases hd) hDn (by kernel_rfl) hS
         refine ⟨.slice (some ⟨w9.heap.size, 0, none⟩) 1 1, w9.alloc (.cells #[.slice Bx kx kc, .bool x.b.fin, .int .u64 x.b.cnt] 45), ?_, ⟨_, rfl⟩, SeqN.set_ (m0 := m9) (m1 := m9) [] [8, 11] hSh (fun d hd => by cases hd) hDn (by kernel_rfl) (by decide) (by decide) ⟨bl_al hT _, _, upd_same _ _ _, hT.size, Blk.new _ _ _⟩⟩
         clear hT hS
         go_simp
        try simp only [Act.put, sA, sZ, sS]
        obtain ⟨gb, rfl⟩ := hVv7
        refine Ps.one (k := 8) (d := some 86) rfl rfl (by kernel_rfl) (TurnS.value (V := fun v => ∃ A6 c6, v = .slice A6 (m + i + 1) c6) [7] (by kernel_rfl) (by rfl) (fun L9 m9 w9 hSh hAt hDn hS => ?cwg86_95)) (fun v8 hVv8 => ?rwg86_95)
        case cwg86_95 =>
         obtain ⟨hT, gb2, hv, hg1, hg2⟩ := SeqN.at_ [7] [11] hSh hAt hDn (by kernel_rfl) hS
         obtain rfl : gb = gb2 := by have h9 : Value.slice (some ⟨gb, 0, none⟩) 1 1 = .slice (some ⟨gb2, 0, none⟩) 1 1 := (hAt 7 (by simp)).2.symm.trans hv; simpa using h9
         have hsz := hT.size
         obtain ⟨A6, c6, w6, hrun, hown, hgr, hat⟩ := run_appL (L := LB3) (e := 45) (P := Try.prog) (w := w9) 27 27 _ 3 40 Try.underlying27 infoB rfl rfl (by decide) B Fr B3 (m + i) d3 (buf ++ (ins.take i).map HC.b) gb 1 45 #[.slice Bx kx kc, .bool x.b.fin, .int .u64 x.b.cnt] x.b (Lay.own_below HOB12.out hT) hg2 ⟨Bx, kx, kc, rfl, hk1, hk2, Lay.rd_weak (fun b hb _ => ⟨hb, fun e => by have := (HOBB.out b e).1; have := HFR.out b hb; omega⟩) (Lay.rd_below HXR12.out hT)⟩ (fun b hb => by have := HFR.out b hb; omega) (by omega) (by unfold maxLen; omega) (by omega)
         exact ⟨_, w6, exec_append (.tmp 82) (.tmp 85) 27 rfl rfl rfl hrun, ⟨A6, c6, rfl⟩, SeqN.set_ [7] [11] hSh hAt hDn (by kernel_rfl) (by decide) (by decide) ⟨(Chg.of_below hT).grown hgr (fun k e => .inl (.inr e)), (HBN12.out.ca hT).grown hgr (fun e => by have := (HOBB.out g e.symm).1; omega), A6, c6, upd_same _ _ _, hown, fun k e => hat.elim (fun h => .inl (h ▸ e)) (fun h => .inr (by rw [h] at e; injection e with e; omega))⟩⟩
        try simp only [Act.put, sA, sZ, sS]
        obtain ⟨A5, c5, rfl⟩ := hVv8
        refine Pz 9 (some 87) (.pointer (some ⟨g, 0, none⟩)) rfl rfl (by exact StepS.pure (SeqN.pass (by decide)) rfl fun _ => by first | rfl | (go_simp; done) | (go_simp; rfl)) ?_
        try simp only [Act.put, sA, sZ, sS]
        refine Pz 10 (some 88) (.pointer (some ⟨g, 3, none⟩)) rfl rfl (by exact StepS.pure (SeqN.pass (by decide)) rfl fun _ => rfl) ?_
        try simp only [Act.put, sA, sZ, sS]
        refine Pz 11 none undef rfl rfl ?ywg86_98 ?rwg86_98
        case ywg86_98 =>
         refine StepS.store [7, 8] (by kernel_rfl) (by rfl) (fun L9 m9 w9 hSh hAt hDn hS => ?_)
         obtain ⟨hch, hN, A6, c6, hv, ho, hat⟩ := SeqN.at_ [7, 8] [] hSh hAt hDn (by kernel_rfl) hS
         obtain ⟨rfl, rfl⟩ : A5 = A6 ∧ c5 = c6 := by have h9 : Value.slice A5 (m + i + 1) c5 = .slice A6 (m + i + 1) c6 := (hAt 8 (by simp)).2.symm.trans hv; simpa using h9
         have hN2 : Blk (w9.setCell ⟨g, 3, none⟩ (.slice A5 (m + i + 1) c5)) g 36 #[.int .u32 ses, .int .u64 (next + (i : Int)), .slice (some ⟨ga, 0, none⟩) (n + 1) c3, .slice A5 (m + i + 1) c5, .int .i64 room, .bool over] := by simpa using hN.set_ 3 (.slice A5 (m + i + 1) c5)
         have hg2 : w9.grownBy (w9.setCell ⟨g, 3, none⟩ (.slice A5 (m + i + 1) c5)) (some g) := only_setCell (World.grownBy.refl _ _) (.inl rfl) _
         have x2 : w9.cell? ⟨g, 3, none⟩ = some (.slice B3 (m + i) d3) := hN.cell 3
         have fx : w9.frozen? ⟨g, 3, none⟩ = false := hN.frozen 3
         refine ⟨w9.setCell ⟨g, 3, none⟩ (.slice A5 (m + i + 1) c5), ?_, SeqN.set_ [7, 8] [] hSh hAt hDn (by kernel_rfl) (by decide) (by decide) ⟨hch.grown hg2 (fun k e => .inl (.inl (by injection e with e; exact e.symm))), A5, c5, hv, own_grownF ho hg2 hgB (fun b hb => by have := HFR.out b hb; omega), hat, hN2⟩⟩
         clear hv ho hN hN2 hg2 hch hat hS
         go_simp
        try simp only [Act.put]
        refine Ps.done (by kernel_rfl) (fun wg86 hS => ?_) _
        obtain ⟨hch, A6, c6, hv, ho, hat, hN⟩ := SeqN.fin (by rfl) hS
        clear hS
        obtain ⟨rfl, rfl⟩ : A5 = A6 ∧ c5 = c6 := by have h9 : Value.slice A5 (m + i + 1) c5 = .slice A6 (m + i + 1) c6 := hv; simpa using h9
        clear hv
        have HCHB := Lib.hid hch
        have HOB13 := Lib.hid ho
        have HATB := Lib.hid hat
        have HBN13 := Lib.hid hN
        clear hch ho hat hN
        obtain ⟨w13, rfl⟩ : ∃ x, x = wg86 := ⟨_, rfl⟩
        have HOA13 := Lib.hid (Lay.own_same HOA12.out (fun k e => HCHB.out.block k (HOAB.out k e).2 (fun h => h.elim (fun h => by have := (HOAB.out k e).1; omega) (fun h => HNN.out k e h))) (fun b hb _ hl => HCHB.out.block b hl (fun h => h.elim (fun h => by have := HFR.out b hb; omega) (fun h => by have := (HOBB.out b h).1; have := HFR.out b hb; omega))))
        have HC13 := Lib.hid (HC12.out.trans' HCHB.out (fun k hk h => h.elim .inl (fun h => (HBO.out k h).elim (fun h => .inr (.inr (.inl h))) (fun h => by omega))))
        have hs13 := HCHB.out.size
        clear HBN12 HOA12 HOB12 HT8 HXR12 HB12 HC12 HCHB
        have hw : IntKind.u64.wrap (next + (i : Int) + 1) = next + (i : Int) + 1 := u64_in (by omega) (by omega)
        have y1 := HBN13.out.cell 1
        have f1 := HBN13.out.frozen 1
        have hg13 : w13.grownBy (w13.setCell ⟨g, 1, none⟩ (.int .u64 (next + (i : Int) + 1))) (some g) := only_setCell (World.grownBy.refl _ _) (.inl rfl) _
        have HG13 := Lib.hid hg13
        have HBN14 := Lib.hid (show Blk (w13.setCell ⟨g, 1, none⟩ (.int .u64 (next + (i : Int) + 1))) g 36 #[.int .u32 ses, .int .u64 (next + (i : Int) + 1), .slice (some ⟨ga, 0, none⟩) (n + 1) c3, .slice A5 (m + i + 1) c5, .int .i64 room, .bool over] from by simpa using HBN13.out.set_ 1 (.int .u64 (next + (i : Int) + 1)))
        clear hg13
        go_wp2
        go_roundg (gk - 1)
        · refine ⟨i + 1, A5, c5, by omega, by go_num, by go_num, ?_, own_grownF HOA13.out HG13.out hgB (fun b hb => by have := HFR.out b hb; omega), ?_, ?_, ?_, HC13.out.grown HG13.out (fun k e => .inl (.inl (by injection e with e; exact e.symm))), ?_⟩
          · rw [show next + ((i + 1 : Nat) : Int) = next + (i : Int) + 1 from by push_cast; omega]
            exact HBN14.out
          · have := own_grownF HOB13.out HG13.out hgB (fun b hb => by have := HFR.out b hb; omega)
            rw [List.take_add_one, HX.out]
            show LB3.own 45 _ B Fr A5 (m + i + 1) c5 _
            simpa [List.append_assoc] using this
          · intro k y hk hy
            rcases Nat.lt_or_ge k i with h | h
            · exact HSQ.out k y h hy
            · obtain rfl : k = i := by omega
              rw [HX.out] at hy
              injection hy with hy
              rw [← hy]
              exact hq
          · intro k e1 e2
            rcases HATB.out k e2 with h | h
            · exact HNN.out k e1 h
            · have := (HOAB.out k e1).2; omega
          · intro k e
            rcases HATB.out k e with h | h
            · exact HBO.out k h
            · exact .inr (by omega)
        · omega
      · have hq : x.seq ≠ next + (i : Int) := by simpa using HEbX.out.symm
        have HDR := Lib.hid (show drainN next ins = i from drainN_eq HSQ.out (.inr ⟨x, HX.out, hq⟩) (by omega))
        clear HT8 HXR12
        have y2 := HBN12.out.cell 2
        have HOAB2 := Lib.hid (Lay.own_base HOA12.out)
        have HOBB2 := Lib.hid (Lay.own_base HOB12.out)
        have hcb2 := Lay.own_caps HOB12.out
        go_wp2_with fail
        clear y2
        refine (del_any B Fr (some ⟨ga, 0, none⟩) (n + 1) c3 (i) ins w12 HOA12.out (by omega)).mono ?_
        rintro e w15 ⟨rfl, ho15, hg15⟩
        have hbn15 := HBN12.out.grown hg15 (fun e => by have := (HOAB2.out g e.symm).1; omega)
        have hob15 := Lay.own_same HOB12.out (fun k e => hg15.block k (HOBB2.out k e).2 (fun e2 => HNN.out k e2.symm e)) (fun b hb _ hl => hg15.block b hl (fun e2 => by have := (HOAB2.out b e2.symm).1; have := HFR.out b hb; omega))
        have hc15 := HC12.out.trans' (Chg.of_grown hg15) (fun k hk h => HAO.out k h hk)
        have y2 := hbn15.cell 2
        have f2 := hbn15.frozen 2
        have hgs : w15.grownBy (w15.setCell ⟨g, 2, none⟩ (.slice (some ⟨ga, 0, none⟩) (n + 1 - (i)) c3)) (some g) := only_setCell (World.grownBy.refl _ _) (.inl rfl) _
        have HBNF := Lib.hid (show Blk (w15.setCell ⟨g, 2, none⟩ (.slice (some ⟨ga, 0, none⟩) (n + 1 - (i)) c3)) g 36 #[.int .u32 ses, .int .u64 (next + ((i : Nat) : Int)), .slice (some ⟨ga, 0, none⟩) (n + 1 - (i)) c3, .slice B3 (m + (i)) d3, .int .i64 room, .bool over] from by simpa using hbn15.set_ 2 (.slice (some ⟨ga, 0, none⟩) (n + 1 - (i)) c3))
        have HOAF := Lib.hid (own_grownF ho15 hgs hgB (fun b hb => by have := HFR.out b hb; omega))
        have HOBF := Lib.hid (own_grownF hob15 hgs hgB (fun b hb => by have := HFR.out b hb; omega))
        have HCF := Lib.hid (hc15.grown hgs (fun k e => .inl (.inl (by injection e with e; exact e.symm))))
        clear ho15 hob15 hc15 hgs hbn15 hg15
        go_wp2
        rw [Exit.noGoto_ret]
        go_ret
        refine ⟨rfl, HCF.out, trivial, fun _ => ⟨(some ⟨ga, 0, none⟩), (n + 1 - (i)), c3, B3, m + (i), d3, ?_, ?_⟩⟩
        · rw [HYES.out]
          unfold drainR
          dsimp only
          rw [HDR.out]
          exact HBNF.out
        · rw [HYES.out]
          unfold drainR
          dsimp only
          rw [HDR.out]
          exact ⟨Lay.own_rd HOAF.out (fun b hb hl => ⟨hl, .inr hb⟩) (fun b hb hl => ⟨hl, .inl hb⟩), Lay.own_caps HOAF.out, mine_own HOAF.out, Lay.own_rd HOBF.out (fun b hb hl => ⟨hl, .inr hb⟩) (fun b hb hl => ⟨hl, .inl hb⟩), hcb2, mine_own HOBF.out⟩
    · obtain rfl : i = n + 1 := by omega
      have hi1 : ((n + 1 : Nat) : Int) ≤ ((n + 1 : Nat) : Int) := by omega
      have hi2 : (n : Int) + 1 ≤ (n : Int) + 1 := by omega
      have HDR := Lib.hid (show drainN next ins = n + 1 from drainN_eq HSQ.out (.inl (by omega)) (by omega))
      clear hbn hoa hob hsq hnn hcg hbo
      have y2 := HBN.out.cell 2
      have HOAB2 := Lib.hid (Lay.own_base HOA.out)
      have HOBB2 := Lib.hid (Lay.own_base HOB.out)
      have hcb2 := Lay.own_caps HOB.out
      go_wp2_with fail
      clear y2
      refine (del_any B Fr A3 (n + 1) c3 (n + 1) ins wr HOA.out (by omega)).mono ?_
      rintro e w15 ⟨rfl, ho15, hg15⟩
      rw [Nat.sub_self] at ho15
      rw [Nat.sub_self]
      have hbn15 := HBN.out.grown hg15 (fun e => by have := (HOAB2.out g e.symm).1; omega)
      have hob15 := Lay.own_same HOB.out (fun k e => hg15.block k (HOBB2.out k e).2 (fun e2 => HNN.out k e2.symm e)) (fun b hb _ hl => hg15.block b hl (fun e2 => by have := (HOAB2.out b e2.symm).1; have := HFR.out b hb; omega))
      have hc15 := HCG.out.trans' (Chg.of_grown hg15) (fun k hk h => HAO.out k h hk)
      have y2 := hbn15.cell 2
      have f2 := hbn15.frozen 2
      have hgs : w15.grownBy (w15.setCell ⟨g, 2, none⟩ (.slice A3 0 c3)) (some g) := only_setCell (World.grownBy.refl _ _) (.inl rfl) _
      have HBNF := Lib.hid (show Blk (w15.setCell ⟨g, 2, none⟩ (.slice A3 0 c3)) g 36 #[.int .u32 ses, .int .u64 (next + ((n + 1 : Nat) : Int)), .slice A3 0 c3, .slice B3 (m + (n + 1)) d3, .int .i64 room, .bool over] from by simpa using hbn15.set_ 2 (.slice A3 0 c3))
      have HOAF := Lib.hid (own_grownF ho15 hgs hgB (fun b hb => by have := HFR.out b hb; omega))
      have HOBF := Lib.hid (own_grownF hob15 hgs hgB (fun b hb => by have := HFR.out b hb; omega))
      have HCF := Lib.hid (hc15.grown hgs (fun k e => .inl (.inl (by injection e with e; exact e.symm))))
      clear ho15 hob15 hc15 hgs hbn15 hg15
      go_wp2
      rw [Exit.noGoto_ret]
      go_ret
      refine ⟨rfl, HCF.out, trivial, fun _ => ⟨A3, 0, c3, B3, m + (n + 1), d3, ?_, ?_⟩⟩
      · rw [HYES.out]
        unfold drainR
        dsimp only
        rw [HDR.out]
        exact HBNF.out
      · rw [HYES.out]
        unfold drainR
        dsimp only
        rw [HDR.out]
        exact ⟨Lay.own_rd HOAF.out (fun b hb hl => ⟨hl, .inr hb⟩) (fun b hb hl => ⟨hl, .inl hb⟩), Lay.own_caps HOAF.out, mine_own HOAF.out, Lay.own_rd HOBF.out (fun b hb hl => ⟨hl, .inr hb⟩) (fun b hb hl => ⟨hl, .inl hb⟩), hcb2, mine_own HOBF.out⟩
 · have HNO := Lib.hid (show RR = ⟨ses, next, ahead, buf, room, over⟩ from by
    rw [HRR.out]
    unfold hearR
    rw [HHB.out, ← HEbD.out]
    rfl)
   go_wp2
   rw [Exit.noGoto_ret]
   go_ret
   have hoA := Lay.own_below HO.out HQ.out
   have hoB := Lay.own_below HO2.out HQ.out
   exact ⟨rfl, Chg.of_below HQ.out, trivial, fun _ => ⟨A, n, c, A2, m, d, by rw [HNO.out]; exact HN.out.ca HQ.out, by rw [HNO.out]; exact ⟨Lay.own_rd hoA (fun b hb hl => ⟨hl, .inr hb⟩) (fun b hb hl => ⟨hl, .inl hb⟩), hcapA, mine_own hoA, Lay.own_rd hoB (fun b hb hl => ⟨hl, .inr hb⟩) (fun b hb hl => ⟨hl, .inl hb⟩), hcapB, mine_own hoB⟩⟩⟩
end Go.Proofs.Ytojghgbaiiajfaa
