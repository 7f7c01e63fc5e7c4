/- link.Ack. Conditions: the slices read as these batches. -/
import Derived.Test.YtojghgbaiiajfaaPkE8
namespace Go.Proofs.Ytojghgbaiiajfaa
open Go.RowKit
theorem packetI : (Try.prog.info? 47).map (·.size) = some 7 := by kernel_rfl
def zeroP : PK := ⟨0, 0, 0, 0, ⟨[], false, 0⟩⟩
def ackR (r : RC) : PK := if recB r then ⟨2, r.ses, r.next, limR r, ⟨[], false, 0⟩⟩ else zeroP
def AckC (r : RC) (w : World) (e : Ending) (w' : World) : Prop := e = .returned (.tuple #[.agg ((ackR r).cells none 0 0), .int .i64 (if recB r then 0 else 320)]) ∧ Below w.heap.size w w'
theorem ack_yes {r : RC} {w w' : World} {e : Ending} (h : recB r = true) (h1 : e = .returned (.tuple #[.agg (PK.cells ⟨2, r.ses, r.next, limR r, ⟨[], false, 0⟩⟩ none 0 0), .int .i64 0])) (h2 : Below w.heap.size w w') : AckC r w e w' := by
 unfold AckC ackR
 rw [h]
 exact ⟨h1, h2⟩
theorem ack_no {r : RC} {w w' : World} {e : Ending} (h : recB r = false) (h1 : e = .returned (.tuple #[.agg (zeroP.cells none 0 0), .int .i64 320])) (h2 : Below w.heap.size w w') : AckC r w e w' := by
 unfold AckC ackR
 rw [h]
 exact ⟨h1, h2⟩
theorem recB_rng {r : RC} (h : recB r = true) : 1 ≤ r.next ∧ r.next ≤ 1099511627777 ∧ (r.buf.length : Int) ≤ r.room ∧ r.room ≤ 8 := by
 unfold recB recA at h
 simp only [Bool.and_eq_true, decide_eq_true_eq] at h
 omega
theorem Seq1.keep0 {k1 : Nat} {B0 B1 : (Nat → Value) → World → Prop} {L : Array Bool} {m : Nat → Value} {w : World} (h1 : Dn L k1 = false) (h : B0 m w) : Seq1 k1 B0 B1 L m w := by
 unfold Seq1 Sk1
 exact ⟨fun _ => h, fun e => by rw [h1] at e; cases e⟩
set_option maxRecDepth 100000 in
set_option maxHeartbeats 16000000 in
theorem ack_any (Fr F2 : Nat → Prop) (r : RC) (A : Option Addr) (n c : Nat) (B : Option Addr) (m d : Nat) (w : World) (h : LH4.rd w Fr A n r.ahead) (h2 : LB3.rd w F2 B m r.buf) (hn : n ≤ 9223372036854775807) (hm : m ≤ 9223372036854775807) :
 Calls Try.prog 31 #[.agg (r.cells A n c B m d)] w (AckC r w) := by
 have q1 := bl_al (Below.refl w.heap.size w) (.cells (r.cells A n c B m d) 36)
 have q2 := bl_al (Below.refl (w.alloc (.cells (r.cells A n c B m d) 36)).heap.size (w.alloc (.cells (r.cells A n c B m d) 36))) (.cells (zeroP.cells none 0 0) 47)
 have HB := Lib.hid (bl_ca q1 q2)
 have HS := Lib.hid ((Blk.new w 36 (r.cells A n c B m d)).ca q2)
 have HZ := Lib.hid (show Blk ((w.alloc (.cells (r.cells A n c B m d) 36)).alloc (.cells (zeroP.cells none 0 0) 47)) (w.heap.size + 1) 47 (zeroP.cells none 0 0) from Blk.mk' (by simp only [World.size_alloc]))
 have HCK := Lib.hid (crecv_any Fr F2 r A n c B m d _ (Lay.rd_below (Lay.rd_below h q1) q2) (Lay.rd_below (Lay.rd_below h2 q1) q2) hn hm)
 have HLB := Lib.hid (Lay.rd_len h2)
 have hsz : ((w.alloc (.cells (r.cells A n c B m d) 36)).alloc (.cells (zeroP.cells none 0 0) 47)).heap.size = w.heap.size + 2 := by simp only [World.size_alloc]
 clear q1 q2 h h2
 cases hok : recB r
 · have HOK := Lib.hid hok
   rw [hok] at HCK
   clear hok
   go_enter Try.func31, Try.ntmps31
   go_wp2_with (refine wpList_load_blk rfl 36 (.tmp 1) rfl w.heap.size rfl 36 _ (r.cells A n c B m d) HS.out rfl rfl receiverI ?_)
   refine HCK.out.mono ?_
   rintro e w2 ⟨rfl, q2⟩
   have HB2 := Lib.hid (bl_ca HB.out q2)
   have HZ2 := Lib.hid (HZ.out.ca q2)
   clear q2 HCK HS HB HZ
   go_wp2_with (refine wpList_store_blk rfl 47 (.tmp 2) (.tmp 9) rfl (w.heap.size + 1) 47 _ (zeroP.cells none 0 0) rfl rfl HZ2.out rfl packetI (by simp [Value.oneCell']) ?_; intro wz hZ gz)
   exact bodyPost_ret (res2 Try.results31 rfl rfl hZ Try.underlying47 rfl packetI) rfl (ack_no HOK.out rfl (bl_gr HB2.out gz (by omega)))
 · have HOK := Lib.hid hok
   rw [hok] at HCK
   have hrg := recB_rng hok
   clear hok
   go_enter Try.func31, Try.ntmps31
   go_wp2_with (refine wpList_load_blk rfl 36 (.tmp 1) rfl w.heap.size rfl 36 _ (r.cells A n c B m d) HS.out rfl rfl receiverI ?_)
   refine HCK.out.mono ?_
   rintro e w2 ⟨rfl, q2⟩
   have HB2 := Lib.hid (bl_ca HB.out q2)
   have HZ2 := Lib.hid (HZ.out.ca q2)
   have HS2 := Lib.hid (HS.out.ca q2)
   have hs2 := q2.size
   clear q2 HCK HS HB HZ
   go_wp2_with fail
   refine wp_region_ps (S := Seq1 7 (fun _ w' => Below w2.heap.size w2 w') (fun _ w' => ∃ w6, Below w2.heap.size w2 w6 ∧ Blk w' (w.heap.size + 1) 47 (PK.cells ⟨2, r.ses, r.next, limR r, ⟨[], false, 0⟩⟩ none 0 0) ∧ w6.grownBy w' (some (w.heap.size + 1)))) (by kernel_rfl) ?spswq ?ppswq
   case spswq =>
    exact Seq1.start (by decide) (Below.refl _ _).drew
   refine Pz 0 (some 11) _ rfl rfl (StepS.pure (Seq1.pass (by decide)) rfl fun w9 => by go_simp; try rfl) ?_
   try simp only [Act.put, sA, sZ, sS]
   refine Pz 1 (some 12) ?uwq_2 rfl rfl ?ywq_2 ?rwq_2
   case ywq_2 =>
    refine StepS.read [] (by kernel_rfl) (Seq1.pass (by decide)) (by rfl) (fun L9 m9 w9 hSh hAt hDn hS => ?_)
    have hT : Blk w9 w.heap.size 36 (r.cells A n c B m d) := Seq1.any (T := fun w9 => Blk w9 w.heap.size 36 (r.cells A n c B m d)) (fun _ _ h => HS2.out.ca h) (fun _ _ ⟨_, h1, _, h3⟩ => (HS2.out.ca h1).apart h3 (by omega)) hS
    have x0 : w9.cell? ⟨w.heap.size, 0, none⟩ = some (.int .u32 r.ses) := hT.cell 0
    clear hT hS
    go_simp
    try rfl
   try simp only [Act.put, sA, sZ, sS]
   refine Pz 2 (some 13) _ rfl rfl (StepS.pure (Seq1.pass (by decide)) rfl fun w9 => by go_simp; try rfl) ?_
   try simp only [Act.put, sA, sZ, sS]
   refine Pz 3 (some 14) ?uwq_4 rfl rfl ?ywq_4 ?rwq_4
   case ywq_4 =>
    refine StepS.read [] (by kernel_rfl) (Seq1.pass (by decide)) (by rfl) (fun L9 m9 w9 hSh hAt hDn hS => ?_)
    have hT : Blk w9 w.heap.size 36 (r.cells A n c B m d) := Seq1.any (T := fun w9 => Blk w9 w.heap.size 36 (r.cells A n c B m d)) (fun _ _ h => HS2.out.ca h) (fun _ _ ⟨_, h1, _, h3⟩ => (HS2.out.ca h1).apart h3 (by omega)) hS
    have x1 : w9.cell? ⟨w.heap.size, 1, none⟩ = some (.int .u64 r.next) := hT.cell 1
    clear hT hS
    go_simp
    try rfl
   try simp only [Act.put, sA, sZ, sS]
   refine Pz 4 (some 15) ?uwq_5 rfl rfl ?ywq_5 ?rwq_5
   case ywq_5 =>
    refine StepS.read [] (by kernel_rfl) (Seq1.pass (by decide)) (by rfl) (fun L9 m9 w9 hSh hAt hDn hS => ?_)
    have hT : Blk w9 w.heap.size 36 (r.cells A n c B m d) := Seq1.any (T := fun w9 => Blk w9 w.heap.size 36 (r.cells A n c B m d)) (fun _ _ h => HS2.out.ca h) (fun _ _ ⟨_, h1, _, h3⟩ => (HS2.out.ca h1).apart h3 (by omega)) hS
    have x0 : w9.cell? ⟨w.heap.size, 0, none⟩ = some (.int .u32 r.ses) := hT.cell 0
    have x1 : w9.cell? ⟨w.heap.size, 1, none⟩ = some (.int .u64 r.next) := hT.cell 1
    have x2 : w9.cell? ⟨w.heap.size, 2, none⟩ = some (.slice A n c) := hT.cell 2
    have x3 : w9.cell? ⟨w.heap.size, 3, none⟩ = some (.slice B m d) := hT.cell 3
    have x4 : w9.cell? ⟨w.heap.size, 4, none⟩ = some (.int .i64 r.room) := hT.cell 4
    have x5 : w9.cell? ⟨w.heap.size, 5, none⟩ = some (.bool r.over) := hT.cell 5
    clear hT hS
    go_simp
    try rfl
   try simp only [Act.put, sA, sZ, sS]
   refine Pz 5 (some 16) (.int .u64 (limR r)) rfl rfl ?ywq_6 ?rwq_6
   case ywq_6 =>
    refine StepS.call ?fwq_6 ?awq_6 [] (by kernel_rfl) (by rfl) (fun w9 => ?hwq_6) (fun L9 m9 w9 hSh hAt hDn hS => ?cwq_6)
    case hwq_6 => go_simp; refine ⟨?_, ?_⟩ <;> rfl
    case cwq_6 =>
     have hd7 := reach_no hSh (f := 9) (j := 7) (by kernel_rfl) hDn
     have hT := Seq1.at1 hd7 hS
     refine (limit_any r A n c B m d w9 HLB.out hrg.1 (by omega) (by rw [← HLB.out]; exact hrg.2.2.1) hrg.2.2.2).mono ?_
     rintro e w8 ⟨rfl, q8⟩
     exact ⟨rfl, Seq1.keep0 ((dn_ne (by decide)).trans hd7) (bl_ca hT q8)⟩
   try simp only [Act.put, sA, sZ, sS]
   refine Pz 6 (some 17) _ rfl rfl (StepS.pure (Seq1.pass (by decide)) rfl fun w9 => by go_simp; try rfl) ?_
   try simp only [Act.put, sA, sZ, sS]
   refine Pz 7 none undef rfl rfl ?ywq_8 ?rwq_8
   case ywq_8 =>
    refine StepS.store [] (by kernel_rfl) (by rfl) (fun L9 m9 w9 hSh hAt hDn hS => ?_)
    have hT := Seq1.at1 hDn hS
    refine (exec_store_blk (w := w9) 47 (.tmp 2) (.tmp 17) (by rfl) (w.heap.size + 1) 47 (zeroP.cells none 0 0) (PK.cells ⟨2, r.ses, r.next, limR r, ⟨[], false, 0⟩⟩ none 0 0) (by rfl) (by rfl) (HZ2.out.ca hT) rfl packetI (by simp [Value.oneCell'])).imp fun w7 hx => ⟨hx.1, Seq1.set1 ⟨w9, hT, hx.2.1, hx.2.2⟩⟩
   try simp only [Act.put]
   refine Pz 8 (some 3) _ rfl rfl (StepS.pure (Seq1.pass (by decide)) rfl fun w9 => by go_simp; try rfl) ?_
   try simp only [Act.put, sA, sZ, sS]
   refine Ps.done (by kernel_rfl) (fun wq hS => ?_) _
   obtain ⟨w6, hT, hZ, gz⟩ := Seq1.fin (by rfl) hS
   clear hS
   go_wp2
   exact bodyPost_ret (res2 Try.results31 rfl rfl hZ Try.underlying47 rfl packetI) rfl (ack_yes HOK.out rfl (bl_gr (bl_ca HB2.out hT) gz (by omega)))
end Go.Proofs.Ytojghgbaiiajfaa
/- link.sends. Conditions: the queue reads as these batches; what is handed over keeps to its contract. -/
namespace Go.Proofs.Ytojghgbaiiajfaa
open Go.RowKit
/-- what is handed over: it finds the copy of the sender in block g, whose queue's row lies from B on -/
def DoS (D : FuncId) (cap : Array Value) (w0 : World) (Fr : Nat → Prop) (s : SC) (E : Int) (s2 : SC) (X : Nat → Prop) (Y : World → Prop) : Prop :=
 sendB s = true → ∀ (w : World) (g B : Nat) (A : Option Addr) (n c : Nat), Below w0.heap.size w0 w → w0.heap.size + 2 ≤ g → g < B → B ≤ w.heap.size → Blk w g 29 (s.cells A n c) →
  LB3.own 45 w B Fr A n c s.q →
  Calls Try.prog D (#[.pointer (some ⟨g, 0, none⟩)] ++ cap) w fun e w' => e = .returned (.int .i64 E) ∧ Chg (fun k => k = g ∨ (Value.slice A n c).ownBlock = some k ∨ X k) w w' ∧ Y w' ∧
   (E = 0 → ∃ A2 n2 c2, Blk w' g 29 (s2.cells A2 n2 c2) ∧ LB3.own 45 w' B (fun k => k < w'.heap.size ∧ (Fr k ∨ B ≤ k)) A2 n2 c2 s2.q)
/-- what link.sends answers -/
def SendsC (Fr : Nat → Prop) (s : SC) (E : Int) (s2 : SC) (X : Nat → Prop) (Y : World → Prop) (w : World) (e : Ending) (w' : World) : Prop :=
 if sendB s then Chg X w w' ∧ Y w' ∧ (E ≠ 0 → e = .returned (.tuple #[.agg (zeroS.cells none 0 0), .int .i64 E])) ∧
  (E = 0 → ∃ A2 n2 c2, e = .returned (.tuple #[.agg (s2.cells A2 n2 c2), .int .i64 0]) ∧ LB3.own 45 w' w.heap.size (fun k => k < w'.heap.size ∧ (Fr k ∨ w.heap.size + 2 ≤ k)) A2 n2 c2 s2.q)
 else e = .returned (.tuple #[.agg (zeroS.cells none 0 0), .int .i64 320]) ∧ Below w.heap.size w w'
theorem sends_no {Fr : Nat → Prop} {s : SC} {E : Int} {s2 : SC} {X : Nat → Prop} {Y : World → Prop} {w w' : World} {e : Ending} (h : sendB s = false) (h1 : e = .returned (.tuple #[.agg (zeroS.cells none 0 0), .int .i64 320])) (h2 : Below w.heap.size w w') : SendsC Fr s E s2 X Y w e w' := by
 unfold SendsC
 rw [h]
 exact ⟨h1, h2⟩
theorem sends_yes {Fr : Nat → Prop} {s : SC} {E : Int} {s2 : SC} {X : Nat → Prop} {Y : World → Prop} {w w' : World} {e : Ending} (h : sendB s = true) (hc : Chg X w w') (hy : Y w') (h1 : E ≠ 0 → e = .returned (.tuple #[.agg (zeroS.cells none 0 0), .int .i64 E]))
 (h2 : E = 0 → ∃ A2 n2 c2, e = .returned (.tuple #[.agg (s2.cells A2 n2 c2), .int .i64 0]) ∧ LB3.own 45 w' w.heap.size (fun k => k < w'.heap.size ∧ (Fr k ∨ w.heap.size + 2 ≤ k)) A2 n2 c2 s2.q) : SendsC Fr s E s2 X Y w e w' := by
 unfold SendsC
 rw [h]
 exact ⟨hc, hy, h1, h2⟩
theorem Lay.own_lessB {α : Type} {L : Lay α} {e : TypeId} {w : World} {B B' n c : Nat} {G : Nat → Prop} {A : Option Addr} {xs : List α} (h : L.own e w B G A n c xs) (hB : B' ≤ B) : L.own e w B' G A n c xs := by
 obtain ⟨hl, cs, hr, ho⟩ := h
 refine ⟨hl, cs, hr, ho.1, ?_⟩
 rcases ho.2 with h2 | ⟨g, cap, cur, e, hg, r⟩
 · exact .inl h2
 · exact .inr ⟨g, cap, cur, e, Nat.le_trans hB hg, r⟩
theorem sendB_len {s : SC} (h : sendB s = true) : s.q.length ≤ 8 ∧ 1 ≤ s.base ∧ s.base ≤ 1099511627776 := by
 unfold sendB sendA at h
 simp only [Bool.and_eq_true, decide_eq_true_eq] at h
 omega
set_option maxRecDepth 100000 in
set_option maxHeartbeats 16000000 in
theorem sends_any (Fr : Nat → Prop) (s : SC) (A : Option Addr) (n c : Nat) (D : FuncId) (cap : Array Value) (E : Int) (s2 : SC) (X : Nat → Prop) (Y : World → Prop) (w : World) (h : LB3.rd w Fr A n s.q) (hFr : ∀ k, Fr k → k < w.heap.size) (hn : n ≤ 9223372036854775807) (h0 : 0 ≤ s.base)
 (hent : ∀ (args : Array Value) (w : World), (callFunc D args).run Try.prog w = .ok (.enter D args) w) (hD : DoS D cap w Fr s E s2 X Y) (hX : ∀ k, X k → k < w.heap.size) (hY : ∀ w1 w2, Y w1 → w1.grownBy w2 (some (w.heap.size + 1)) → Y w2) :
 Calls Try.prog 81 #[.agg (s.cells A n c), .func (.func D) #[] cap] w (SendsC Fr s E s2 X Y w) := by
 have HD := Lib.hid hD
 have HX := Lib.hid hX
 have HFR := Lib.hid hFr
 have HY := Lib.hid hY
 have HEN := hent
 have HL := Lib.hid (Lay.rd_len h)
 have q1 := bl_al (Below.refl w.heap.size w) (.cells (s.cells A n c) 29)
 have q2 := bl_al (Below.refl (w.alloc (.cells (s.cells A n c) 29)).heap.size (w.alloc (.cells (s.cells A n c) 29))) (.cells (zeroS.cells none 0 0) 29)
 have HS := Lib.hid ((Blk.new w 29 (s.cells A n c)).ca q2)
 have HZ := Lib.hid (show Blk ((w.alloc (.cells (s.cells A n c) 29)).alloc (.cells (zeroS.cells none 0 0) 29)) (w.heap.size + 1) 29 (zeroS.cells none 0 0) from Blk.mk' (by simp only [World.size_alloc]))
 have HB := Lib.hid (bl_ca q1 q2)
 have HR := Lib.hid (Lay.rd_below (Lay.rd_below h q1) q2)
 have hsz : w.heap.size + 2 ≤ ((w.alloc (.cells (s.cells A n c) 29)).alloc (.cells (zeroS.cells none 0 0) 29)).heap.size := by simp only [World.size_alloc]; omega
 have HCK := Lib.hid (csend_any Fr s A n c _ HR.out hn h0)
 clear h q1 q2 hent hD hX hY hFr
 obtain ⟨ses, base, q, sent, lim, timer, ended⟩ := s
 dsimp only at HL h0
 have x0 : ((w.alloc (.cells (SC.cells ⟨ses, base, q, sent, lim, timer, ended⟩ A n c) 29)).alloc (.cells (zeroS.cells none 0 0) 29)).cell? ⟨w.heap.size, 0, none⟩ = some (.int .u32 ses) := HS.out.cell 0
 have x1 : ((w.alloc (.cells (SC.cells ⟨ses, base, q, sent, lim, timer, ended⟩ A n c) 29)).alloc (.cells (zeroS.cells none 0 0) 29)).cell? ⟨w.heap.size, 1, none⟩ = some (.int .u64 base) := HS.out.cell 1
 have x2 : ((w.alloc (.cells (SC.cells ⟨ses, base, q, sent, lim, timer, ended⟩ A n c) 29)).alloc (.cells (zeroS.cells none 0 0) 29)).cell? ⟨w.heap.size, 2, none⟩ = some (.slice A n c) := HS.out.cell 2
 have x3 : ((w.alloc (.cells (SC.cells ⟨ses, base, q, sent, lim, timer, ended⟩ A n c) 29)).alloc (.cells (zeroS.cells none 0 0) 29)).cell? ⟨w.heap.size, 3, none⟩ = some (.int .u64 sent) := HS.out.cell 3
 have x4 : ((w.alloc (.cells (SC.cells ⟨ses, base, q, sent, lim, timer, ended⟩ A n c) 29)).alloc (.cells (zeroS.cells none 0 0) 29)).cell? ⟨w.heap.size, 4, none⟩ = some (.int .u64 lim) := HS.out.cell 4
 have x5 : ((w.alloc (.cells (SC.cells ⟨ses, base, q, sent, lim, timer, ended⟩ A n c) 29)).alloc (.cells (zeroS.cells none 0 0) 29)).cell? ⟨w.heap.size, 5, none⟩ = some (.int .i64 timer) := HS.out.cell 5
 have x6 : ((w.alloc (.cells (SC.cells ⟨ses, base, q, sent, lim, timer, ended⟩ A n c) 29)).alloc (.cells (zeroS.cells none 0 0) 29)).cell? ⟨w.heap.size, 6, none⟩ = some (.bool ended) := HS.out.cell 6
 by_cases hok : sendB ⟨ses, base, q, sent, lim, timer, ended⟩ = true
 · have HOK := Lib.hid hok
   rw [hok, if_pos rfl] at HCK
   have hlen := (sendB_len hok).1
   dsimp only at hlen
   rw [HL.out] at hlen
   clear hok
   go_enter Try.func81, Try.ntmps81
   go_wp2_with fail
   refine HCK.out.mono ?_
   clear HCK
   rintro e w2 ⟨rfl, q2⟩
   have hs2 := Nat.le_trans hsz q2.size
   have HB2 := Lib.hid (bl_ca HB.out q2)
   have HS2 := Lib.hid (HS.out.ca q2)
   have HZ2 := Lib.hid (HZ.out.ca q2)
   have HR2 := Lib.hid (Lay.rd_below HR.out q2)
   clear x0 x1 x2 x3 x4 x5 x6 HS HZ HR HB q2 hsz
   have x0 : w2.cell? ⟨w.heap.size, 0, none⟩ = some (.int .u32 ses) := HS2.out.cell 0
   have x1 : w2.cell? ⟨w.heap.size, 1, none⟩ = some (.int .u64 base) := HS2.out.cell 1
   have x2 : w2.cell? ⟨w.heap.size, 2, none⟩ = some (.slice A n c) := HS2.out.cell 2
   have x3 : w2.cell? ⟨w.heap.size, 3, none⟩ = some (.int .u64 sent) := HS2.out.cell 3
   have x4 : w2.cell? ⟨w.heap.size, 4, none⟩ = some (.int .u64 lim) := HS2.out.cell 4
   have x5 : w2.cell? ⟨w.heap.size, 5, none⟩ = some (.int .i64 timer) := HS2.out.cell 5
   have x6 : w2.cell? ⟨w.heap.size, 6, none⟩ = some (.bool ended) := HS2.out.cell 6
   have q3 := bl_al (Below.refl w2.heap.size w2) (.cells (SC.cells ⟨ses, base, q, sent, lim, timer, ended⟩ A n c) 29)
   have x7 : (w2.alloc (.cells (SC.cells ⟨ses, base, q, sent, lim, timer, ended⟩ A n c) 29)).cell? ⟨w.heap.size, 2, none⟩ = some (.slice A n c) := (HS2.out.ca q3).cell 2
   have HN3 := Lib.hid (Blk.new w2 29 (SC.cells ⟨ses, base, q, sent, lim, timer, ended⟩ A n c))
   have HZ3 := Lib.hid (HZ2.out.ca q3)
   have HB3 := Lib.hid (bl_ca HB2.out q3)
   have HCL := Lib.hid (cloneB Fr A n c q _ (Lay.rd_below HR2.out q3) (by omega))
   have hs3 : w2.heap.size < (w2.alloc (.cells (SC.cells ⟨ses, base, q, sent, lim, timer, ended⟩ A n c) 29)).heap.size := by simp only [World.size_alloc]; omega
   clear HS2 HZ2 HB2 HR2 q3
   go_wp2_with fail
   clear x0 x1 x2 x3 x4 x5 x6 x7
   generalize w2.alloc (.cells (SC.cells ⟨ses, base, q, sent, lim, timer, ended⟩ A n c) 29) = w3 at *
   obtain ⟨g7, hg7⟩ : ∃ g, g = w2.heap.size := ⟨_, rfl⟩
   rw [← hg7] at HN3 hs3 hs2 ⊢
   clear hg7
   refine HCL.out.mono ?_
   clear HCL
   rintro e w4 ⟨A4, c4, rfl, ho4, q4⟩
   have hN4 := HN3.out.ca q4
   have y2 : w4.cell? ⟨g7, 2, none⟩ = some (.slice A n c) := hN4.cell 2
   have f2 : w4.frozen? ⟨g7, 2, none⟩ = false := hN4.frozen 2
   have hg5 : w4.grownBy (w4.setCell ⟨g7, 2, none⟩ (.slice A4 n c4)) (some g7) := only_setCell (World.grownBy.refl _ _) (.inl rfl) _
   have HN5 := Lib.hid (show Blk (w4.setCell ⟨g7, 2, none⟩ (.slice A4 n c4)) g7 29 (SC.cells ⟨ses, base, q, sent, lim, timer, ended⟩ A4 n c4) from by simpa using hN4.set_ 2 (.slice A4 n c4))
   have HZ5 := Lib.hid ((HZ3.out.ca q4).apart hg5 (by omega))
   have HO5 := Lib.hid (Lay.own_same ho4 (fun k e => hg5.block k (Lay.own_base ho4 k e).2 (fun e2 => by injection e2 with e2; have := (Lay.own_base ho4 k e).1; omega)) (fun b hb _ hl => hg5.block b hl (fun e2 => by injection e2 with e2; have := HFR.out b hb.1; omega)))
   have HB5 := Lib.hid (bl_gr (bl_ca HB3.out q4) hg5 (by omega))
   have hs5 := Nat.le_trans q4.size hg5.size
   clear hN4 hg5 ho4 q4 HN3 HZ3 HB3
   go_wp2_with fail
   clear y2 f2
   generalize w4.setCell ⟨g7, 2, none⟩ (.slice A4 n c4) = w5 at *
   refine (HD.out HOK.out w5 g7 w3.heap.size A4 n c4 HB5.out (by omega) hs3 hs5 HN5.out (Lay.own_weak (fun k hk _ => hk.1) HO5.out)).mono ?_
   rintro e w6 ⟨rfl, hch, hy, hz⟩
   have hbase := Lay.own_base HO5.out
   have hb5 := HB5.out
   have hsz5 := hb5.size
   have hxx := HX.out
   have HCH := Lib.hid (show Chg X w w6 from ⟨hch.os.trans hb5.os, hch.tape.trans hb5.tape, hch.output.trans hb5.output, Nat.le_trans hsz5 hch.size, fun b hb hx => (hch.block b (by omega) (fun h => by
    rcases h with h | h | h
    · omega
    · have := hbase b h; omega
    · exact hx h)).trans (hb5.block b hb)⟩)
   have HZ6 := Lib.hid (HZ5.out.chg hch (fun h => by
    rcases h with h | h | h
    · omega
    · have := hbase _ h; omega
    · have := hxx _ h; omega))
   have HY6 := Lib.hid hy
   have HH6 := Lib.hid hz
   clear hbase hb5 hsz5 hxx hch hy hz HX HB5 HZ5 HO5 HD
   by_cases hE : E = 0
   · subst hE
     obtain ⟨A2, n2, c2, hb2, ho2⟩ := HH6.out rfl
     have HG2 := Lib.hid hb2
     have HO2 := Lib.hid ho2
     have hg2 : w.heap.size + 1 ≠ g7 := by omega
     have hob := Lay.own_base ho2
     have HOB := Lib.hid hob
     clear HH6 hb2 ho2 hob
     go_wp2_with (first
      | (refine wpList_load_blk rfl 29 (.tmp 7) rfl g7 rfl 29 _ _ HG2.out rfl rfl senderI ?_)
      | (refine wpList_store_blk rfl 29 (.tmp 4) (.tmp 26) rfl (w.heap.size + 1) 29 _ (s2.cells A2 n2 c2) rfl rfl HZ6.out rfl senderI (by obtain ⟨s1, s2, s3, s4, s5, s6, s7⟩ := s2; simp [Value.oneCell', SC.cells]) ?_; intro wz hZ gz))
     exact bodyPost_ret (res2 Try.results81 rfl rfl hZ Try.underlying29 rfl senderI) rfl (sends_yes HOK.out (HCH.out.grown gz (fun k e => .inr (by injection e with e; omega))) (HY.out _ _ HY6.out gz) (fun h => absurd rfl h)
      (fun _ => ⟨A2, n2, c2, rfl, Lay.own_lessB (Lay.own_weak (fun k hk _ => ⟨Nat.lt_of_lt_of_le hk.1 gz.size, by rcases hk.2 with h | h; exact .inl h; exact .inr (by omega)⟩) (Lay.own_same HO2.out (fun k e => gz.block k (HOB.out k e).2 (fun e2 => by injection e2 with e2; have := (HOB.out k e).1; omega)) (fun b hb _ hl => gz.block b hl (fun e2 => by injection e2 with e2; exact hb.2.elim (fun h => by have := HFR.out b h; omega) (fun h => by omega))))) (by omega)⟩))
   · have HE := Lib.hid hE
     clear HH6
     go_wp2_with (refine wpList_store_blk rfl 29 (.tmp 4) (.tmp 24) rfl (w.heap.size + 1) 29 _ (zeroS.cells none 0 0) rfl rfl HZ6.out rfl senderI (by simp [Value.oneCell']) ?_; intro wz hZ gz)
     exact bodyPost_ret (res2 Try.results81 rfl rfl hZ Try.underlying29 rfl senderI) rfl (sends_yes HOK.out (HCH.out.grown gz (fun k e => .inr (by injection e with e; omega))) (HY.out _ _ HY6.out gz) (fun _ => rfl) (fun h => absurd h HE.out))
 · have hf : sendB ⟨ses, base, q, sent, lim, timer, ended⟩ = false := by simpa using hok
   rw [hf] at HCK
   have HF := Lib.hid hf
   clear hok hf
   go_enter Try.func81, Try.ntmps81
   go_wp2_with fail
   refine HCK.out.mono ?_
   rintro e w2 ⟨rfl, q2⟩
   have HB2 := Lib.hid (bl_ca HB.out q2)
   have HZ2 := Lib.hid (HZ.out.ca q2)
   clear x0 x1 x2 x3 x4 x5 x6 q2 HCK
   go_wp2_with (refine wpList_store_blk rfl 29 (.tmp 4) (.tmp 13) rfl (w.heap.size + 1) 29 _ (zeroS.cells none 0 0) rfl rfl HZ2.out rfl senderI (by simp [Value.oneCell']) ?_; intro wz hZ gz)
   exact bodyPost_ret (res2 Try.results81 rfl rfl hZ Try.underlying29 rfl senderI) rfl (sends_no HF.out rfl (bl_gr HB2.out gz (by omega)))
end Go.Proofs.Ytojghgbaiiajfaa
/- link.Put$1, link.Put. Conditions: the queue reads as these batches, the rows as these. -/
namespace Go.Proofs.Ytojghgbaiiajfaa
open Go.RowKit
def put1E (s : SC) (rows : List (List VV)) : Int := if rowsOk rows then putE s else 321
def noX : Nat → Prop := fun _ => False
def noY : World → Prop := fun _ => True
set_option maxRecDepth 100000 in
set_option maxHeartbeats 16000000 in
theorem put1_do (s : SC) (rows : List (List VV)) (p : Nat) (rA : Option Addr) (rn rc : Nat) (w0 : World) (Fr : Nat → Prop) (hFr : ∀ k, Fr k → k < w0.heap.size) (hp : Blk w0 p 43 #[.slice rA rn rc]) (hr : LR.rd w0 Fr rA rn rows) (hn : rn ≤ 9223372036854775807) :
 DoS 97 #[.pointer (some ⟨p, 0, none⟩)] w0 Fr s (put1E s rows) (putR s ⟨rows, false, 0⟩) noX noY := by
 intro hok w g B A n c hB hg hgB hBs hN ho
 have hlen := sendB_len hok
 have HL := Lay.own_len ho
 have HFR := Lib.hid hFr
 clear hFr
 have HP := Lib.hid (hp.ca hB)
 have HR := Lib.hid (Lay.rd_below hr hB)
 have HO := Lib.hid ho
 have HN := Lib.hid hN
 have HRL := Lib.hid (Lay.rd_len hr)
 have x0 : w.cell? ⟨p, 0, none⟩ = some (.slice rA rn rc) := HP.out.cell 0
 have HRW := Lib.hid (rows_any _ rA rn rc rows w HR.out hn)
 obtain ⟨E, hE⟩ : ∃ E, E = put1E s rows := ⟨_, rfl⟩
 rw [← hE]
 have HE := Lib.hid (show E = if rowsOk rows then putE s else 321 from hE)
 have HLN := Lib.hid HL
 clear hp hr ho hN hE hok HL
 show Calls Try.prog 97 #[.pointer (some ⟨g, 0, none⟩), .pointer (some ⟨p, 0, none⟩)] w _
 by_cases hrw : rowsOk rows = true
 · rw [hrw] at HRW
   rw [hrw, if_pos rfl] at HE
   have hr4 : rn ≤ 4 := by
    have := HRL.out
    unfold rowsOk at hrw
    simp only [Bool.and_eq_true, decide_eq_true_eq] at hrw
    omega
   clear hrw
   go_enter Try.func97, Try.ntmps97
   go_wp2_with fail
   refine HRW.out.mono ?_
   rintro e w2 ⟨rfl, q2⟩
   have hs2 := q2.size
   have HP2 := Lib.hid (HP.out.ca q2)
   have HN2 := Lib.hid (HN.out.ca q2)
   have HO2 := Lib.hid (Lay.own_below HO.out q2)
   have HR2 := Lib.hid (Lay.rd_below HR.out q2)
   have HQ2 := Lib.hid q2
   have HOB := Lib.hid (Lay.own_base HO.out)
   clear x0 HRW HP HN HO HR q2
   have x0 : w2.cell? ⟨p, 0, none⟩ = some (.slice rA rn rc) := HP2.out.cell 0
   have HCL := Lib.hid (cloneR _ rA rn rc rows w2 HR2.out (by omega))
   go_wp2_with fail
   refine HCL.out.mono ?_
   rintro e w3 ⟨rA', rc', rfl, ho3, q3⟩
   have hs3 := q3.size
   have hob := HOB.out
   have hcap := Lay.own_caps ho3
   have HPU := Lib.hid (puts_any s g A n c B ⟨rows, false, 0⟩ rA' rn rc' (fun k => k < w3.heap.size ∧ (Fr k ∨ B ≤ k)) w3 (HN2.out.ca q3)
    (Lay.own_weak (fun k hk hl => ⟨hl, .inl hk⟩) (Lay.own_below HO2.out q3)) hgB (by omega) (fun k h => h.1) (fun k h => by rintro rfl; exact h.2.elim (fun h => by have := HFR.out _ h; omega) (fun h => by omega))
    (Lay.own_rd ho3 (fun b hb hl => ⟨⟨hl, .inr (by omega)⟩, fun e => by have := (hob b e).2; omega⟩) (fun b hb hl => ⟨⟨hl, .inl hb.1⟩, fun e => by have := (hob b e).1; have := HFR.out b hb.1; omega⟩)) hcap.1 hcap.2 hlen.2.1 (by omega) (by have := HLN.out; omega))
   rw [← HE.out] at HPU
   have HB3 := Lib.hid (bl_ca HQ2.out q3)
   clear x0 HCL HP2 HN2 HO2 HR2 HQ2 ho3 q3 hob hcap
   go_wp2_with fail
   refine HPU.out.mono ?_
   rintro e w4 hpc
   rcases hpc with ⟨hE, rfl, q4⟩ | ⟨hE, rfl, A2, c2, hb4, ho4, hc4⟩
   · have HB4 := Lib.hid (bl_ca HB3.out q4)
     have HEN := Lib.hid hE
     clear HPU hE q4
     go_wp2
     go_ret
     exact ⟨rfl, Chg.of_below HB4.out, trivial, fun h => absurd h HEN.out⟩
   · have HC4 := Lib.hid hc4
     have HB4 := Lib.hid hb4
     have HO4 := Lib.hid ho4
     have HEN := Lib.hid hE
     clear HPU hE hc4 hb4 ho4
     go_wp2
     go_ret
     refine ⟨by rw [HEN.out]; rfl, (Chg.of_below HB3.out).trans (HC4.out.weak (fun b _ h => ?_)), trivial, fun _ => ⟨A2, n + 1, c2, HB4.out, Lay.own_weak (fun k hk _ => ⟨Nat.lt_of_lt_of_le hk.1 HC4.out.size, hk.2⟩) HO4.out⟩⟩
     rcases h with h | h
     · exact .inl h
     · exact .inr (.inl h)
 · have hf : rowsOk rows = false := by simpa using hrw
   rw [hf] at HRW
   rw [hf] at HE
   have HE2 := Lib.hid (show E = 321 from HE.out)
   clear hrw hf HE
   go_enter Try.func97, Try.ntmps97
   go_wp2_with fail
   refine HRW.out.mono ?_
   rintro e w2 ⟨rfl, q2⟩
   have HB2 := Lib.hid q2
   clear x0 q2 HRW
   go_wp2
   go_ret
   exact ⟨by rw [HE2.out]; rfl, Chg.of_below HB2.out, trivial, fun h => absurd (HE2.out.symm.trans h) (by decide)⟩
/-- what link.sends answers, with the answer's parts -/
def SendsO (Fr : Nat → Prop) (s : SC) (E : Int) (s2 : SC) (X : Nat → Prop) (Y : World → Prop) (w : World) (C : Array Value) (N : Int) (w' : World) : Prop :=
 if sendB s then Chg X w w' ∧ Y w' ∧ ((E ≠ 0 ∧ C = zeroS.cells none 0 0 ∧ N = E) ∨ (E = 0 ∧ N = 0 ∧ ∃ A2 n2 c2, C = s2.cells A2 n2 c2 ∧ LB3.own 45 w' w.heap.size (fun k => k < w'.heap.size ∧ (Fr k ∨ w.heap.size + 2 ≤ k)) A2 n2 c2 s2.q))
 else C = zeroS.cells none 0 0 ∧ N = 320 ∧ Below w.heap.size w w'
theorem sends_o {Fr : Nat → Prop} {s : SC} {E : Int} {s2 : SC} {X : Nat → Prop} {Y : World → Prop} {w w' : World} {e : Ending} (h : SendsC Fr s E s2 X Y w e w') : ∃ (t : SC) (A : Option Addr) (n c : Nat) (N : Int), e = .returned (.tuple #[.agg (t.cells A n c), .int .i64 N]) ∧ SendsO Fr s E s2 X Y w (t.cells A n c) N w' := by
 unfold SendsC at h
 cases hs : sendB s
 · rw [hs] at h
   refine ⟨zeroS, none, 0, 0, 320, h.1, ?_⟩
   unfold SendsO
   rw [hs]
   exact ⟨rfl, rfl, h.2⟩
 · rw [hs] at h
   obtain ⟨h1, h2, h3, h4⟩ := h
   by_cases hE : E = 0
   · obtain ⟨A2, n2, c2, he, ho⟩ := h4 hE
     refine ⟨s2, A2, n2, c2, 0, he, ?_⟩
     unfold SendsO
     rw [hs]
     exact ⟨h1, h2, .inr ⟨hE, rfl, A2, n2, c2, rfl, ho⟩⟩
   · refine ⟨zeroS, none, 0, 0, E, h3 hE, ?_⟩
     unfold SendsO
     rw [hs]
     exact ⟨h1, h2, .inl ⟨hE, rfl, rfl⟩⟩
/-- the caller has laid blocks of its own and stores the answer into one of them -/
theorem SendsO.out {Fr : Nat → Prop} {s : SC} {E : Int} {s2 : SC} {X X' : Nat → Prop} {Y : World → Prop} {w w1 w2 w3 : World} {C : Array Value} {N : Int} {k : Nat} (h : SendsO Fr s E s2 X Y w1 C N w2) (b1 : Below w.heap.size w w1) (gz : w2.grownBy w3 (some k))
 (hFr : ∀ b, Fr b → b < k) (hk : w.heap.size ≤ k) (hk1 : k < w1.heap.size) (h2 : w.heap.size + 2 ≤ w1.heap.size) (hX : ∀ b, X b → b < w.heap.size → X' b) (hY : ∀ w1 w2, Y w1 → w1.grownBy w2 (some k) → Y w2) : SendsO Fr s E s2 X' Y w C N w3 := by
 unfold SendsO at h ⊢
 cases hs : sendB s
 · rw [hs] at h
   exact ⟨h.1, h.2.1, bl_gr (bl_ca b1 (h.2.2)) gz hk⟩
 · rw [hs] at h
   obtain ⟨hc, hy, h3⟩ := h
   have hs1 := b1.size
   have hC : Chg X' w w2 := ⟨hc.os.trans b1.os, hc.tape.trans b1.tape, hc.output.trans b1.output, Nat.le_trans hs1 hc.size, fun b hb hx => (hc.block b (by omega) (fun h => hx (hX b h hb))).trans (b1.block b hb)⟩
   refine ⟨hC.grown gz (fun j e => .inr (by injection e with e; omega)), hY _ _ hy gz, ?_⟩
   rcases h3 with h3 | ⟨hE, hN, A2, n2, c2, hC2, ho⟩
   · exact .inl h3
   · refine .inr ⟨hE, hN, A2, n2, c2, hC2, ?_⟩
     have hob := Lay.own_base ho
     exact Lay.own_lessB (Lay.own_weak (fun j hj _ => ⟨Nat.lt_of_lt_of_le hj.1 gz.size, by rcases hj.2 with h | h; exact .inl h; exact .inr (by omega)⟩) (Lay.own_same ho (fun j e => gz.block j (hob j e).2 (fun e2 => by injection e2 with e2; have := (hob j e).1; omega)) (fun b hb _ hl => gz.block b hl (fun e2 => by injection e2 with e2; exact hb.2.elim (fun h => by have := hFr b h; omega) (fun h => by omega))))) hs1
theorem SendsO.blk {Fr : Nat → Prop} {s : SC} {E : Int} {s2 : SC} {X : Nat → Prop} {Y : World → Prop} {w w' : World} {C : Array Value} {N : Int} {g : Nat} {t : TypeId} {cs : Array Value} (h : SendsO Fr s E s2 X Y w C N w') (hb : Blk w g t cs) (hx : ¬ X g) : Blk w' g t cs := by
 unfold SendsO at h
 cases hs : sendB s
 · rw [hs] at h
   exact hb.ca h.2.2
 · rw [hs] at h
   exact hb.chg h.1 hx
set_option maxRecDepth 100000 in
set_option maxHeartbeats 16000000 in
theorem put_any (Fr : Nat → Prop) (s : SC) (A : Option Addr) (n c : Nat) (rows : List (List VV)) (rA : Option Addr) (rn rc : Nat) (w : World) (hFr : ∀ k, Fr k → k < w.heap.size) (h : LB3.rd w Fr A n s.q) (hr : LR.rd w Fr rA rn rows) (hn : n ≤ 9223372036854775807) (hrn : rn ≤ 9223372036854775807) (h0 : 0 ≤ s.base) :
 Calls Try.prog 47 #[.agg (s.cells A n c), .slice rA rn rc] w fun e w' => ∃ (t : SC) (A' : Option Addr) (n' c' : Nat) (N : Int), e = .returned (.tuple #[.agg (t.cells A' n' c'), .int .i64 N]) ∧ SendsO Fr s (put1E s rows) (putR s ⟨rows, false, 0⟩) noX noY w (t.cells A' n' c') N w' := by
 have q1 := bl_al (Below.refl w.heap.size w) (.cells (s.cells A n c) 29)
 have q2 := bl_al (Below.refl (w.alloc (.cells (s.cells A n c) 29)).heap.size (w.alloc (.cells (s.cells A n c) 29))) (.cells #[.slice rA rn rc] 43)
 have q12 := bl_ca q1 q2
 have hsz2 : ((w.alloc (.cells (s.cells A n c) 29)).alloc (.cells #[.slice rA rn rc] 43)).heap.size = w.heap.size + 2 := by simp only [World.size_alloc]
 have HS2 := (Blk.new w 29 (s.cells A n c)).ca q2
 have HP2 : Blk ((w.alloc (.cells (s.cells A n c) 29)).alloc (.cells #[.slice rA rn rc] 43)) (w.heap.size + 1) 43 #[.slice rA rn rc] := Blk.mk' (by simp only [World.size_alloc])
 generalize hw2 : (w.alloc (.cells (s.cells A n c) 29)).alloc (.cells #[.slice rA rn rc] 43) = w2 at *
 have q3 := bl_al (Below.refl w2.heap.size w2) (.cells (zeroS.cells none 0 0) 29)
 have HZ := Lib.hid (show Blk (w2.alloc (.cells (zeroS.cells none 0 0) 29)) (w.heap.size + 2) 29 (zeroS.cells none 0 0) from by rw [← hsz2]; exact Blk.new _ _ _)
 have HB := Lib.hid (bl_ca q12 q3)
 have hsz : (w2.alloc (.cells (zeroS.cells none 0 0) 29)).heap.size = w.heap.size + 3 := by simp only [World.size_alloc]; omega
 have HSE := Lib.hid (sends_any Fr s A n c 97 #[.pointer (some ⟨w.heap.size + 1, 0, none⟩)] (put1E s rows) (putR s ⟨rows, false, 0⟩) noX noY _ (Lay.rd_below (Lay.rd_below h q12) q3) (fun k h => by have := hFr k h; omega) hn h0 (Go.Proofs.enters_of Try.func97 (by kernel_rfl) rfl)
  (put1_do s rows (w.heap.size + 1) rA rn rc _ Fr (fun k h => by have := hFr k h; omega) (HP2.ca q3) (Lay.rd_below (Lay.rd_below hr q12) q3) hrn) (fun k h => h.elim) (fun _ _ h _ => h))
 have HS := Lib.hid (HS2.ca q3)
 subst hw2
 clear h hr q1 q2 q12 q3 HS2 HP2 hsz2
 go_enter Try.func47, Try.ntmps47
 go_wp2_with (refine wpList_load_blk rfl 29 (.tmp 2) rfl w.heap.size rfl 29 _ (s.cells A n c) HS.out rfl rfl senderI ?_)
 refine HSE.out.mono ?_
 clear HSE
 rintro e w4 h4
 obtain ⟨t, A', n', c', N, rfl, ho⟩ := sends_o h4
 have HZ4 := Lib.hid (ho.blk HZ.out (fun h => h))
 have HO := Lib.hid ho
 clear h4 ho HS HZ
 go_wp2_with (refine wpList_store_blk rfl 29 (.tmp 4) (.tmp 9) rfl (w.heap.size + 2) 29 _ (t.cells A' n' c') rfl rfl HZ4.out rfl senderI (by obtain ⟨s1, s2, s3, s4, s5, s6, s7⟩ := t; simp [Value.oneCell', SC.cells]) ?_; intro wz hZ gz)
 exact bodyPost_ret (res2 Try.results47 rfl rfl hZ Try.underlying29 rfl senderI) rfl ⟨t, A', n', c', N, rfl, HO.out.out HB.out gz (fun k h => by have := hFr k h; omega) (by omega) (by omega) (by omega) (fun b h _ => h.elim) (fun _ _ h _ => h)⟩
end Go.Proofs.Ytojghgbaiiajfaa
