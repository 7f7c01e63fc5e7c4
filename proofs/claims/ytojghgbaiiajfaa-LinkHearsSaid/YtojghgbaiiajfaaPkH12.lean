/- link.Tick. Conditions: the queue reads as these batches. -/
import Derived.Test.YtojghgbaiiajfaaPkH11
namespace Go.Proofs.Ytojghgbaiiajfaa
open Go.RowKit
theorem res3 {P : Program} {fn : Func} {p q r : Tmp} {ty : TypeId} (h : fn.results = #[.cell p ty, .tmp q, .tmp r]) {tmps : Array Value} {w : World} {g : Nat} {t : TypeId} {cs : Array Value} {d : TypeDesc} {v u : Value}
 (hp : tmps.getD p undef = .pointer (some ⟨g, 0, none⟩)) (hq : tmps.getD q undef = v) (hr : tmps.getD r undef = u) (hg : Blk w g t cs) (hu : P.underlying ty = some d) (hd : (match d with | .struct _ | .array _ _ => true | _ => false) = true) (hi : (P.info? ty).map (·.size) = some cs.size) :
 (results fn tmps).run P w = .ok (.tuple #[.agg cs, v, u]) w := by
 have hp' : tmps[p]?.getD undef = .pointer (some ⟨g, 0, none⟩) := by simpa using hp
 have hq' : tmps[q]?.getD undef = v := by simpa using hq
 have hr' : tmps[r]?.getD undef = u := by simpa using hr
 simp [results, h, hp', hq', hr', asAddr, run_loadVar_row w g t ty cs (0, 0) d hg hu hd hi]
theorem grow_after {w w1 w2 : World} {k : Nat} (q : Below w.heap.size w w1) (g : w1.grownBy w2 (some k)) : w.grownBy w2 (some k) :=
 ⟨g.os.trans q.os, g.tape.trans q.tape, g.output.trans q.output, Nat.le_trans q.size g.size, fun b hb hk => (g.block b (Nat.lt_of_lt_of_le hb q.size) hk).trans (q.block b hb)⟩
theorem SendsO.noY {Fr : Nat → Prop} {s : SC} {E : Int} {s2 : SC} {X : Nat → Prop} {Y : World → Prop} {w w' : World} {C : Array Value} {N : Int} (h : SendsO Fr s E s2 X Y w C N w') : SendsO Fr s E s2 X noY w C N w' := by
 unfold SendsO at *
 cases hs : sendB s
 · rw [hs] at h; exact h
 · rw [hs] at h; exact ⟨h.1, trivial, h.2.2⟩
/-- the packets that it tells -/
def TickO (Fr : Nat → Prop) (s : SC) (B : Nat) (PA : Option Addr) (pn pc : Nat) (w' : World) : Prop := if sendB s then LP7.own 47 w' B Fr PA pn pc (outP s) else PA = none ∧ pn = 0 ∧ pc = 0
theorem tick_told {Fr : Nat → Prop} {s : SC} {p : Nat} {w1 w4 : World} {C : Array Value} {N : Int} (h : SendsO Fr s 0 (tickR s) (fun k => k = p) (TickY p w1 Fr (outP s)) w1 C N w4) (hp : Blk w1 p 50 #[.slice none 0 0]) : ∃ PA pn pc, Blk w4 p 50 #[.slice PA pn pc] ∧ TickO Fr s (w1.heap.size + 2) PA pn pc w4 := by
 unfold SendsO at h
 unfold TickO
 cases hs : sendB s
 · rw [hs] at h
   exact ⟨none, 0, 0, hp.ca h.2.2, rfl, rfl, rfl⟩
 · rw [hs] at h
   obtain ⟨_, ⟨A, n, c, h1, h2⟩, _⟩ := h
   exact ⟨A, n, c, h1, h2⟩
theorem tickO_gr {Fr : Nat → Prop} {s : SC} {B B' b0 k : Nat} {PA : Option Addr} {pn pc : Nat} {w w' : World} (h : TickO Fr s B PA pn pc w) (g : w.grownBy w' (some k)) (hF : ∀ k, Fr k → k < b0) (h1 : b0 ≤ k) (h2 : k < B) (h3 : B' ≤ B) : TickO Fr s B' PA pn pc w' := by
 unfold TickO at *
 cases hs : sendB s
 · rw [hs] at h; exact h
 · rw [hs, if_pos rfl] at h
   rw [if_pos rfl]
   exact Lay.own_lessB (Lay.own_same h (fun j e => g.block j (Lay.own_base h j e).2 (fun e2 => by injection e2 with e2; have := (Lay.own_base h j e).1; omega)) (fun b hb _ hl => g.block b hl (fun e2 => by injection e2 with e2; have := hF b hb; omega))) h3
set_option maxRecDepth 100000 in
set_option maxHeartbeats 16000000 in
theorem tick_any (Fr : Nat → Prop) (s : SC) (A : Option Addr) (n c : Nat) (w : World) (hFr : ∀ k, Fr k → k < w.heap.size) (h : LB3.rd w Fr A n s.q) (hn : n ≤ 9223372036854775807) (h0 : 0 ≤ s.base) :
 Calls Try.prog 43 #[.agg (s.cells A n c)] w fun e w' => ∃ (t : SC) (A' : Option Addr) (n' c' : Nat) (N : Int) (PA : Option Addr) (pn pc : Nat), e = .returned (.tuple #[.agg (t.cells A' n' c'), .slice PA pn pc, .int .i64 N]) ∧ SendsO Fr s 0 (tickR s) noX noY w (t.cells A' n' c') N w' ∧ TickO Fr s w.heap.size PA pn pc w' := by
 have q1 := bl_al (Below.refl w.heap.size w) (.cells (s.cells A n c) 29)
 have q2 := bl_al (Below.refl (w.alloc (.cells (s.cells A n c) 29)).heap.size (w.alloc (.cells (s.cells A n c) 29))) (.cells (zeroS.cells none 0 0) 29)
 have q12 := bl_ca q1 q2
 have hsz2 : ((w.alloc (.cells (s.cells A n c) 29)).alloc (.cells (zeroS.cells none 0 0) 29)).heap.size = w.heap.size + 2 := by simp only [World.size_alloc]
 have HS2 := (Blk.new w 29 (s.cells A n c)).ca q2
 have HZ2 : Blk ((w.alloc (.cells (s.cells A n c) 29)).alloc (.cells (zeroS.cells none 0 0) 29)) (w.heap.size + 1) 29 (zeroS.cells none 0 0) := Blk.mk' (by simp only [World.size_alloc])
 generalize hw2 : (w.alloc (.cells (s.cells A n c) 29)).alloc (.cells (zeroS.cells none 0 0) 29) = w2 at *
 have q3 := bl_al (Below.refl w2.heap.size w2) (.cells #[.slice none 0 0] 50)
 have hp3 : Blk (w2.alloc (.cells #[.slice none 0 0] 50)) (w.heap.size + 2) 50 #[.slice none 0 0] := by rw [← hsz2]; exact Blk.new _ _ _
 have HB := Lib.hid (bl_ca q12 q3)
 have hsz : (w2.alloc (.cells #[.slice none 0 0] 50)).heap.size = w.heap.size + 3 := by simp only [World.size_alloc]; omega
 have HSE := Lib.hid (sends_any Fr s A n c 93 #[.pointer (some ⟨w.heap.size + 2, 0, none⟩)] 0 (tickR s) (fun k => k = w.heap.size + 2) (TickY (w.heap.size + 2) (w2.alloc (.cells #[.slice none 0 0] 50)) Fr (outP s)) _ (Lay.rd_below (Lay.rd_below h q12) q3) (fun k h => by have := hFr k h; omega) hn h0 (Go.Proofs.enters_of Try.func93 (by kernel_rfl) rfl)
  (tick1_do s (w.heap.size + 2) _ Fr (fun k h => by have := hFr k h; omega) (fun h => by have := hFr _ h; omega) hp3) (fun k h => by omega)
  (fun _ _ ⟨A, n, c, h1, h2⟩ g => ⟨A, n, c, h1.apart g (by omega), Lay.own_same h2 (fun j e => g.block j (Lay.own_base h2 j e).2 (fun e2 => by injection e2 with e2; have := (Lay.own_base h2 j e).1; omega)) (fun b hb _ hl => g.block b hl (fun e2 => by injection e2 with e2; have := hFr b hb; omega))⟩))
 have HS := Lib.hid (HS2.ca q3)
 have HZ := Lib.hid (HZ2.ca q3)
 have HP := Lib.hid hp3
 have HFR := Lib.hid hFr
 subst hw2
 clear h q1 q2 q12 q3 HS2 HZ2 hsz2 hp3 hFr
 go_enter Try.func43, Try.ntmps43
 go_wp2_with (refine wpList_load_blk rfl 29 (.tmp 1) rfl w.heap.size rfl 29 _ (s.cells A n c) HS.out rfl rfl senderI ?_)
 refine HSE.out.mono ?_
 clear HSE
 rintro e w4 h4
 obtain ⟨t, A1, n1, c1, N, rfl, ho⟩ := sends_o h4
 obtain ⟨PA, pn, pc, hp4, hpo⟩ := tick_told ho HP.out
 have HZ4 := Lib.hid (ho.blk HZ.out (fun h => by omega))
 have HO := Lib.hid ho
 have HPO := Lib.hid hpo
 have HP4 := Lib.hid hp4
 have hs4 : w.heap.size + 3 ≤ w4.heap.size := by
  have := hp4.lt
  have h := ho
  unfold SendsO at h
  split at h
  · have := h.1.size; omega
  · have := h.2.2.size; omega
 rw [hsz] at HPO
 clear h4 ho HS HZ HP hp4 hpo
 obtain ⟨t1, t2, tq, t4, t5, t6, t7⟩ := t
 go_wp2_with fail
 have q5 := bl_al (Below.refl w4.heap.size w4) (.cells #[.int .u32 t1, .int .u64 t2, .slice A1 n1 c1, .int .u64 t4, .int .u64 t5, .int .i64 t6, .bool t7] 29)
 have ht5 := Blk.new w4 29 #[.int .u32 t1, .int .u64 t2, .slice A1 n1 c1, .int .u64 t4, .int .u64 t5, .int .i64 t6, .bool t7]
 have HZ5 := Lib.hid (HZ4.out.ca q5)
 have HP5 := Lib.hid (HP4.out.ca q5)
 have hz5 := HZ5.out.lt
 have hp5 := HP5.out.lt
 obtain ⟨g6, hg6⟩ : ∃ g, g = w4.heap.size := ⟨_, rfl⟩
 rw [← hg6] at ht5 hs4 ⊢
 have HT5 := Lib.hid ht5
 generalize w4.alloc (.cells #[.int .u32 t1, .int .u64 t2, .slice A1 n1 c1, .int .u64 t4, .int .u64 t5, .int .i64 t6, .bool t7] 29) = w5 at *
 clear hg6 ht5 HZ4 HP4
 refine wp_region_ps (S := Seq1 3 (fun _ w' => Below w5.heap.size w5 w') (fun _ w' => ∃ w6, Below w5.heap.size w5 w6 ∧ Blk w' (w.heap.size + 1) 29 #[.int .u32 t1, .int .u64 t2, .slice A1 n1 c1, .int .u64 t4, .int .u64 t5, .int .i64 t6, .bool t7] ∧ w6.grownBy w' (some (w.heap.size + 1)))) (by kernel_rfl) ?spswq ?ppswq
 case spswq =>
  exact Seq1.start (by decide) (Below.refl _ _).drew
 refine Pz 0 (some 14) (.agg #[.int .u32 t1, .int .u64 t2, .slice A1 n1 c1, .int .u64 t4, .int .u64 t5, .int .i64 t6, .bool t7]) rfl rfl ?ywq_1 ?rwq_1
 case ywq_1 =>
  refine StepS.read [] (by kernel_rfl) (Seq1.pass (by decide)) (by rfl) (fun L9 m9 w9 hSh hAt hDn hS => ?_)
  have hT : Blk w9 g6 29 #[.int .u32 t1, .int .u64 t2, .slice A1 n1 c1, .int .u64 t4, .int .u64 t5, .int .i64 t6, .bool t7] := Seq1.any (T := fun w9 => Blk w9 g6 29 #[.int .u32 t1, .int .u64 t2, .slice A1 n1 c1, .int .u64 t4, .int .u64 t5, .int .i64 t6, .bool t7]) (fun _ _ h => HT5.out.ca h) (fun _ _ ⟨_, h1, _, h3⟩ => (HT5.out.ca h1).apart h3 (by omega)) hS
  have x0 : w9.cell? ⟨g6, 0, none⟩ = some (.int .u32 t1) := hT.cell 0
  have x1 : w9.cell? ⟨g6, 1, none⟩ = some (.int .u64 t2) := hT.cell 1
  have x2 : w9.cell? ⟨g6, 2, none⟩ = some (.slice A1 n1 c1) := hT.cell 2
  have x3 : w9.cell? ⟨g6, 3, none⟩ = some (.int .u64 t4) := hT.cell 3
  have x4 : w9.cell? ⟨g6, 4, none⟩ = some (.int .u64 t5) := hT.cell 4
  have x5 : w9.cell? ⟨g6, 5, none⟩ = some (.int .i64 t6) := hT.cell 5
  have x6 : w9.cell? ⟨g6, 6, none⟩ = some (.bool t7) := hT.cell 6
  clear hT hS
  go_simp
  try rfl
 try simp only [Act.put, sA, sZ, sS]
 refine Pz 1 (some 15) ?uwq_2 rfl rfl ?ywq_2 ?rwq_2
 case ywq_2 =>
  refine StepS.read [] (by kernel_rfl) (Seq1.pass (by decide)) (by rfl) (fun L9 m9 w9 hSh hAt hDn hS => ?_)
  have hT : Blk w9 (w.heap.size + 1 + 1) 50 #[.slice PA pn pc] := Seq1.any (T := fun w9 => Blk w9 (w.heap.size + 1 + 1) 50 #[.slice PA pn pc]) (fun _ _ h => HP5.out.ca h) (fun _ _ ⟨_, h1, _, h3⟩ => (HP5.out.ca h1).apart h3 (by omega)) hS
  have x0 : w9.cell? ⟨w.heap.size + 1 + 1, 0, none⟩ = some (.slice PA pn pc) := hT.cell 0
  clear hT hS
  go_simp
  try rfl
 try simp only [Act.put, sA, sZ, sS]
 refine Pz 2 (some 16) _ rfl rfl (StepS.pure (Seq1.pass (by decide)) rfl fun w9 => by go_simp; try rfl) ?_
 try simp only [Act.put, sA, sZ, sS]
 refine Pz 3 none undef rfl rfl ?ywq_4 ?rwq_4
 case ywq_4 =>
  refine StepS.store [] (by kernel_rfl) (by rfl) (fun L9 m9 w9 hSh hAt hDn hS => ?_)
  have hT := Seq1.at1 hDn hS
  refine (exec_store_blk (w := w9) 29 (.tmp 2) (.tmp 14) (by rfl) (w.heap.size + 1) 29 (zeroS.cells none 0 0) #[.int .u32 t1, .int .u64 t2, .slice A1 n1 c1, .int .u64 t4, .int .u64 t5, .int .i64 t6, .bool t7] (by rfl) (by rfl) (HZ5.out.ca hT) rfl senderI (by simp [Value.oneCell'])).imp fun w7 hx => ⟨hx.1, Seq1.set1 ⟨w9, hT, hx.2.1, hx.2.2⟩⟩
 try simp only [Act.put]
 refine Pz 4 (some 3) _ rfl rfl (StepS.pure (Seq1.pass (by decide)) rfl fun w9 => by go_simp; try rfl) ?_
 try simp only [Act.put, sA, sZ, sS]
 refine Pz 5 (some 4) _ rfl rfl (StepS.pure (Seq1.pass (by decide)) rfl fun w9 => by go_simp; try rfl) ?_
 try simp only [Act.put, sA, sZ, sS]
 refine Ps.done (by kernel_rfl) (fun wq hS => ?_) _
 obtain ⟨w6, hT, hZ, gz⟩ := Seq1.fin (by rfl) hS
 clear hS
 go_wp2
 refine bodyPost_ret (res3 Try.results43 rfl rfl rfl hZ Try.underlying29 rfl senderI) rfl ?_
 have gg := grow_after (bl_ca q5 hT) gz
 have hso := (HO.out.noY).out (X' := noX) HB.out gg (fun k h => by have := HFR.out k h; omega) (by omega) (by omega) (by omega) (fun b h hb => by exact absurd h (by omega)) (fun _ _ h _ => h)
 exact ⟨⟨t1, t2, tq, t4, t5, t6, t7⟩, A1, n1, c1, N, PA, pn, pc, rfl, hso, tickO_gr HPO.out gg HFR.out (by omega) (by omega) (by omega)⟩
end Go.Proofs.Ytojghgbaiiajfaa
/- link.Ack. Conditions: the slices read as these batches. -/
namespace Go.Proofs.Ytojghgbaiiajfaa
open Go.RowKit
def zeroP : PK := ⟨0, 0, 0, 0, ⟨[], false, 0⟩⟩
def ackR (r : RC) : PK := if recB r then ⟨2, r.ses, r.next, limR r, ⟨[], false, 0⟩⟩ else zeroP
def AckC (r : RC) (w : World) (e : Ending) (w' : World) : Prop := e = .returned (.tuple #[.agg ((ackR r).cells none 0 0), .int .i64 (if recB r then 0 else 320)]) ∧ Below w.heap.size w w'
theorem ack_yes {r : RC} {w w' : World} {e : Ending} (h : recB r = true) (h1 : e = .returned (.tuple #[.agg (PK.cells ⟨2, r.ses, r.next, limR r, ⟨[], false, 0⟩⟩ none 0 0), .int .i64 0])) (h2 : Below w.heap.size w w') : AckC r w e w' := by
 unfold AckC ackR
 rw [h]
 exact ⟨h1, h2⟩
theorem ack_no {r : RC} {w w' : World} {e : Ending} (h : recB r = false) (h1 : e = .returned (.tuple #[.agg (zeroP.cells none 0 0), .int .i64 320])) (h2 : Below w.heap.size w w') : AckC r w e w' := by
 unfold AckC ackR
 rw [h]
 exact ⟨h1, h2⟩
theorem recB_rng {r : RC} (h : recB r = true) : 1 ≤ r.next ∧ r.next ≤ 1099511627777 ∧ (r.buf.length : Int) ≤ r.room ∧ r.room ≤ 8 := by
 unfold recB recA at h
 simp only [Bool.and_eq_true, decide_eq_true_eq] at h
 omega
theorem Seq1.keep0 {k1 : Nat} {B0 B1 : (Nat → Value) → World → Prop} {L : Array Bool} {m : Nat → Value} {w : World} (h1 : Dn L k1 = false) (h : B0 m w) : Seq1 k1 B0 B1 L m w := by
 unfold Seq1 Sk1
 exact ⟨fun _ => h, fun e => by rw [h1] at e; cases e⟩
set_option maxRecDepth 100000 in
set_option maxHeartbeats 16000000 in
theorem ack_any (Fr F2 : Nat → Prop) (r : RC) (A : Option Addr) (n c : Nat) (B : Option Addr) (m d : Nat) (w : World) (h : LH4.rd w Fr A n r.ahead) (h2 : LB3.rd w F2 B m r.buf) (hn : n ≤ 9223372036854775807) (hm : m ≤ 9223372036854775807) :
 Calls Try.prog 31 #[.agg (r.cells A n c B m d)] w (AckC r w) := by
 have q1 := bl_al (Below.refl w.heap.size w) (.cells (r.cells A n c B m d) 36)
 have q2 := bl_al (Below.refl (w.alloc (.cells (r.cells A n c B m d) 36)).heap.size (w.alloc (.cells (r.cells A n c B m d) 36))) (.cells (zeroP.cells none 0 0) 47)
 have HB := Lib.hid (bl_ca q1 q2)
 have HS := Lib.hid ((Blk.new w 36 (r.cells A n c B m d)).ca q2)
 have HZ := Lib.hid (show Blk ((w.alloc (.cells (r.cells A n c B m d) 36)).alloc (.cells (zeroP.cells none 0 0) 47)) (w.heap.size + 1) 47 (zeroP.cells none 0 0) from Blk.mk' (by simp only [World.size_alloc]))
 have HCK := Lib.hid (crecv_any Fr F2 r A n c B m d _ (Lay.rd_below (Lay.rd_below h q1) q2) (Lay.rd_below (Lay.rd_below h2 q1) q2) hn hm)
 have HLB := Lib.hid (Lay.rd_len h2)
 have hsz : ((w.alloc (.cells (r.cells A n c B m d) 36)).alloc (.cells (zeroP.cells none 0 0) 47)).heap.size = w.heap.size + 2 := by simp only [World.size_alloc]
 clear q1 q2 h h2
 cases hok : recB r
 · have HOK := Lib.hid hok
   rw [hok] at HCK
   clear hok
   go_enter Try.func31, Try.ntmps31
   go_wp2_with (refine wpList_load_blk rfl 36 (.tmp 1) rfl w.heap.size rfl 36 _ (r.cells A n c B m d) HS.out rfl rfl receiverI ?_)
   refine HCK.out.mono ?_
   rintro e w2 ⟨rfl, q2⟩
   have HB2 := Lib.hid (bl_ca HB.out q2)
   have HZ2 := Lib.hid (HZ.out.ca q2)
   clear q2 HCK HS HB HZ
   go_wp2_with (refine wpList_store_blk rfl 47 (.tmp 2) (.tmp 9) rfl (w.heap.size + 1) 47 _ (zeroP.cells none 0 0) rfl rfl HZ2.out rfl packetI (by simp [Value.oneCell']) ?_; intro wz hZ gz)
   exact bodyPost_ret (res2 Try.results31 rfl rfl hZ Try.underlying47 rfl packetI) rfl (ack_no HOK.out rfl (bl_gr HB2.out gz (by omega)))
 · have HOK := Lib.hid hok
   rw [hok] at HCK
   have hrg := recB_rng hok
   clear hok
   go_enter Try.func31, Try.ntmps31
   go_wp2_with (refine wpList_load_blk rfl 36 (.tmp 1) rfl w.heap.size rfl 36 _ (r.cells A n c B m d) HS.out rfl rfl receiverI ?_)
   refine HCK.out.mono ?_
   rintro e w2 ⟨rfl, q2⟩
   have HB2 := Lib.hid (bl_ca HB.out q2)
   have HZ2 := Lib.hid (HZ.out.ca q2)
   have HS2 := Lib.hid (HS.out.ca q2)
   have hs2 := q2.size
   clear q2 HCK HS HB HZ
   go_wp2_with fail
   refine wp_region_ps (S := Seq1 7 (fun _ w' => Below w2.heap.size w2 w') (fun _ w' => ∃ w6, Below w2.heap.size w2 w6 ∧ Blk w' (w.heap.size + 1) 47 (PK.cells ⟨2, r.ses, r.next, limR r, ⟨[], false, 0⟩⟩ none 0 0) ∧ w6.grownBy w' (some (w.heap.size + 1)))) (by kernel_rfl) ?spswq ?ppswq
   case spswq =>
    exact Seq1.start (by decide) (Below.refl _ _).drew
   refine Pz 0 (some 11) _ rfl rfl (StepS.pure (Seq1.pass (by decide)) rfl fun w9 => by go_simp; try rfl) ?_
   try simp only [Act.put, sA, sZ, sS]
   refine Pz 1 (some 12) ?uwq_2 rfl rfl ?ywq_2 ?rwq_2
   case ywq_2 =>
    refine StepS.read [] (by kernel_rfl) (Seq1.pass (by decide)) (by rfl) (fun L9 m9 w9 hSh hAt hDn hS => ?_)
    have hT : Blk w9 w.heap.size 36 (r.cells A n c B m d) := Seq1.any (T := fun w9 => Blk w9 w.heap.size 36 (r.cells A n c B m d)) (fun _ _ h => HS2.out.ca h) (fun _ _ ⟨_, h1, _, h3⟩ => (HS2.out.ca h1).apart h3 (by omega)) hS
    have x0 : w9.cell? ⟨w.heap.size, 0, none⟩ = some (.int .u32 r.ses) := hT.cell 0
    clear hT hS
    go_simp
    try rfl
   try simp only [Act.put, sA, sZ, sS]
   refine Pz 2 (some 13) _ rfl rfl (StepS.pure (Seq1.pass (by decide)) rfl fun w9 => by go_simp; try rfl) ?_
   try simp only [Act.put, sA, sZ, sS]
   refine Pz 3 (some 14) ?uwq_4 rfl rfl ?ywq_4 ?rwq_4
   case ywq_4 =>
    refine StepS.read [] (by kernel_rfl) (Seq1.pass (by decide)) (by rfl) (fun L9 m9 w9 hSh hAt hDn hS => ?_)
    have hT : Blk w9 w.heap.size 36 (r.cells A n c B m d) := Seq1.any (T := fun w9 => Blk w9 w.heap.size 36 (r.cells A n c B m d)) (fun _ _ h => HS2.out.ca h) (fun _ _ ⟨_, h1, _, h3⟩ => (HS2.out.ca h1).apart h3 (by omega)) hS
    have x1 : w9.cell? ⟨w.heap.size, 1, none⟩ = some (.int .u64 r.next) := hT.cell 1
    clear hT hS
    go_simp
    try rfl
   try simp only [Act.put, sA, sZ, sS]
   refine Pz 4 (some 15) ?uwq_5 rfl rfl ?ywq_5 ?rwq_5
   case ywq_5 =>
    refine StepS.read [] (by kernel_rfl) (Seq1.pass (by decide)) (by rfl) (fun L9 m9 w9 hSh hAt hDn hS => ?_)
    have hT : Blk w9 w.heap.size 36 (r.cells A n c B m d) := Seq1.any (T := fun w9 => Blk w9 w.heap.size 36 (r.cells A n c B m d)) (fun _ _ h => HS2.out.ca h) (fun _ _ ⟨_, h1, _, h3⟩ => (HS2.out.ca h1).apart h3 (by omega)) hS
    have x0 : w9.cell? ⟨w.heap.size, 0, none⟩ = some (.int .u32 r.ses) := hT.cell 0
    have x1 : w9.cell? ⟨w.heap.size, 1, none⟩ = some (.int .u64 r.next) := hT.cell 1
    have x2 : w9.cell? ⟨w.heap.size, 2, none⟩ = some (.slice A n c) := hT.cell 2
    have x3 : w9.cell? ⟨w.heap.size, 3, none⟩ = some (.slice B m d) := hT.cell 3
    have x4 : w9.cell? ⟨w.heap.size, 4, none⟩ = some (.int .i64 r.room) := hT.cell 4
    have x5 : w9.cell? ⟨w.heap.size, 5, none⟩ = some (.bool r.over) := hT.cell 5
    clear hT hS
    go_simp
    try rfl
   try simp only [Act.put, sA, sZ, sS]
   refine Pz 5 (some 16) (.int .u64 (limR r)) rfl rfl ?ywq_6 ?rwq_6
   case ywq_6 =>
    refine StepS.call ?fwq_6 ?awq_6 [] (by kernel_rfl) (by rfl) (fun w9 => ?hwq_6) (fun L9 m9 w9 hSh hAt hDn hS => ?cwq_6)
    case hwq_6 => go_simp; refine ⟨?_, ?_⟩ <;> rfl
    case cwq_6 =>
     have hd7 := reach_no hSh (f := 9) (j := 7) (by kernel_rfl) hDn
     have hT := Seq1.at1 hd7 hS
     refine (limit_any r A n c B m d w9 HLB.out hrg.1 (by omega) (by rw [← HLB.out]; exact hrg.2.2.1) hrg.2.2.2).mono ?_
     rintro e w8 ⟨rfl, q8⟩
     exact ⟨rfl, Seq1.keep0 ((dn_ne (by decide)).trans hd7) (bl_ca hT q8)⟩
   try simp only [Act.put, sA, sZ, sS]
   refine Pz 6 (some 17) _ rfl rfl (StepS.pure (Seq1.pass (by decide)) rfl fun w9 => by go_simp; try rfl) ?_
   try simp only [Act.put, sA, sZ, sS]
   refine Pz 7 none undef rfl rfl ?ywq_8 ?rwq_8
   case ywq_8 =>
    refine StepS.store [] (by kernel_rfl) (by rfl) (fun L9 m9 w9 hSh hAt hDn hS => ?_)
    have hT := Seq1.at1 hDn hS
    refine (exec_store_blk (w := w9) 47 (.tmp 2) (.tmp 17) (by rfl) (w.heap.size + 1) 47 (zeroP.cells none 0 0) (PK.cells ⟨2, r.ses, r.next, limR r, ⟨[], false, 0⟩⟩ none 0 0) (by rfl) (by rfl) (HZ2.out.ca hT) rfl packetI (by simp [Value.oneCell'])).imp fun w7 hx => ⟨hx.1, Seq1.set1 ⟨w9, hT, hx.2.1, hx.2.2⟩⟩
   try simp only [Act.put]
   refine Pz 8 (some 3) _ rfl rfl (StepS.pure (Seq1.pass (by decide)) rfl fun w9 => by go_simp; try rfl) ?_
   try simp only [Act.put, sA, sZ, sS]
   refine Ps.done (by kernel_rfl) (fun wq hS => ?_) _
   obtain ⟨w6, hT, hZ, gz⟩ := Seq1.fin (by rfl) hS
   clear hS
   go_wp2
   exact bodyPost_ret (res2 Try.results31 rfl rfl hZ Try.underlying47 rfl packetI) rfl (ack_yes HOK.out rfl (bl_gr (bl_ca HB2.out hT) gz (by omega)))
end Go.Proofs.Ytojghgbaiiajfaa
