/- The reference's Ack and Take. Conditions: the rows read as these batches; the receiver may be. -/
import Derived.Test.YtojghgbaiiajfaaPkH24
namespace Go.Proofs.Ytojghgbaiiajfaa
open Go.RowKit
theorem SeqN.one0 {k1 : Nat} {B : Nat → (Nat → Value) → World → Prop} {L : Array Bool} {m : Nat → Value} {w : World} (h1 : Dn L k1 = false) (hS : SeqN [k1] B L m w) : B 0 m w := by
 unfold SeqN cntD cntD at hS
 rw [h1] at hS
 exact hS
theorem SeqN.zero3 {k1 k2 k3 : Nat} {B : Nat → (Nat → Value) → World → Prop} {L : Array Bool} {m : Nat → Value} {w : World} {md : Region.Mode} {ops : Array Oper} (hsh : Shut md ops L) (h1 : Dn L k1 = false) (hr : ([k2, k3].all fun x => reach md ops ops.size x k1) = true) (hS : SeqN [k1, k2, k3] B L m w) : B 0 m w := by
 have hn := post_no hsh h1 hr
 unfold SeqN cntD at hS
 rw [h1, cntD_none hn] at hS
 exact hS
theorem SeqN.move0 {k1 i : Nat} {B : Nat → (Nat → Value) → World → Prop} {L : Array Bool} {m : Nat → Value} {w' : World} (hn : (k1 != i) = true) (h1 : Dn L k1 = false) (h : B 0 m w') : SeqN [k1] B (L.setIfInBounds i true) m w' := by
 unfold SeqN cntD cntD
 rw [dn_ne (by simpa using hn), h1]
 exact h
theorem packetI3 : (Try.prog.info? 47).map (·.size) = some 7 := by kernel_rfl
def ackP (r : RC) : PK := ⟨2, r.ses, r.next, limR r, ⟨[], false, 0⟩⟩
set_option maxRecDepth 100000 in
set_option maxHeartbeats 16000000 in
theorem rack_any (r : RC) (A : Option Addr) (n c : Nat) (A2 : Option Addr) (m d : Nat) (w : World) (hm : r.buf.length = m) (hok : recB r = true) :
 Calls Try.prog 33 #[.agg (r.cells A n c A2 m d)] w fun e w' => e = .returned (.agg ((ackP r).cells none 0 0)) ∧ Below w.heap.size w w' := by
 have q1 := bl_al (Below.refl w.heap.size w) (.cells (r.cells A n c A2 m d) 36)
 have q2 := bl_al (Below.refl (w.alloc (.cells (r.cells A n c A2 m d) 36)).heap.size (w.alloc (.cells (r.cells A n c A2 m d) 36))) (.cells #[.int .i64 0, .int .u32 0, .int .u64 0, .int .u64 0, .slice none 0 0, .bool false, .int .u64 0] 47)
 have HX := Lib.hid ((Blk.new w 36 (r.cells A n c A2 m d)).ca q2)
 have HZ := Lib.hid (show Blk ((w.alloc (.cells (r.cells A n c A2 m d) 36)).alloc (.cells #[.int .i64 0, .int .u32 0, .int .u64 0, .int .u64 0, .slice none 0 0, .bool false, .int .u64 0] 47)) (w.heap.size + 1) 47 #[.int .i64 0, .int .u32 0, .int .u64 0, .int .u64 0, .slice none 0 0, .bool false, .int .u64 0] from Blk.mk' (by simp only [World.size_alloc]))
 have HQ := Lib.hid (bl_ca q1 q2)
 have hrs := recB_len hok
 have hrm : (r.buf.length : Int) ≤ r.room ∧ r.room ≤ 8 := by
  unfold recB recA at hok
  simp only [Bool.and_eq_true, decide_eq_true_eq] at hok
  omega
 obtain ⟨lm, hlm⟩ : ∃ lm, lm = limR r := ⟨_, rfl⟩
 have HLM := Lib.hid hlm
 clear q1 q2 hok hlm
 go_enter Try.func33, Try.ntmps33
 go_wp2_with fail
 generalize ((w.alloc (.cells (r.cells A n c A2 m d) 36)).alloc (.cells #[.int .i64 0, .int .u32 0, .int .u64 0, .int .u64 0, .slice none 0 0, .bool false, .int .u64 0] 47)) = w1 at *
 refine wp_region_ps (S := SeqN [7] (fun z _ w' => match z with | 0 => Below w1.heap.size w1 w' | _ => Below w.heap.size w w' ∧ Blk w' (w.heap.size + 1) 47 #[.int .i64 2, .int .u32 r.ses, .int .u64 r.next, .int .u64 lm, .slice none 0 0, .bool false, .int .u64 0])) (by kernel_rfl) ?spswg1 ?ppswg1
 case spswg1 =>
  exact SeqN.start (by decide) (Below.refl _ _).drew
 refine Pz 0 (some 3) (.pointer (some ⟨w.heap.size, 0, none⟩)) rfl rfl (by exact StepS.pure (SeqN.pass (by decide)) rfl fun _ => rfl) ?_
 try simp only [Act.put, sA, sZ, sS]
 refine Pz 1 (some 4) (.int .u32 (r.ses)) rfl rfl ?ywg1_3 ?rwg1_3
 case ywg1_3 =>
  refine StepS.read [] (by kernel_rfl) (SeqN.pass (by decide)) (by rfl) (fun L9 m9 w9 hSh hAt hDn hS => ?_)
  have hT : Below w1.heap.size w1 w9 := SeqN.one0 (reach_no hSh (f := 12) (j := 7) (by kernel_rfl) hDn) hS
  have x0 : w9.cell? ⟨w.heap.size, 0, none⟩ = some (.int .u32 (r.ses)) := (HX.out.ca hT).cell 0
  clear hT hS
  go_simp
  try rfl
 try simp only [Act.put, sA, sZ, sS]
 refine Pz 2 (some 5) (.pointer (some ⟨w.heap.size, 1, none⟩)) rfl rfl (by exact StepS.pure (SeqN.pass (by decide)) rfl fun _ => rfl) ?_
 try simp only [Act.put, sA, sZ, sS]
 refine Pz 3 (some 6) (.int .u64 (r.next)) rfl rfl ?ywg1_5 ?rwg1_5
 case ywg1_5 =>
  refine StepS.read [] (by kernel_rfl) (SeqN.pass (by decide)) (by rfl) (fun L9 m9 w9 hSh hAt hDn hS => ?_)
  have hT : Below w1.heap.size w1 w9 := SeqN.one0 (reach_no hSh (f := 12) (j := 7) (by kernel_rfl) hDn) hS
  have x0 : w9.cell? ⟨w.heap.size, 1, none⟩ = some (.int .u64 (r.next)) := (HX.out.ca hT).cell 1
  clear hT hS
  go_simp
  try rfl
 try simp only [Act.put, sA, sZ, sS]
 refine Pz 4 (some 7) (.agg #[.int .u32 (r.ses), .int .u64 (r.next), .slice A n c, .slice A2 m d, .int .i64 (r.room), .bool (r.over)]) rfl rfl ?ywg1_6 ?rwg1_6
 case ywg1_6 =>
  refine StepS.read [] (by kernel_rfl) (SeqN.pass (by decide)) (by rfl) (fun L9 m9 w9 hSh hAt hDn hS => ?_)
  have hT : Below w1.heap.size w1 w9 := SeqN.one0 (reach_no hSh (f := 12) (j := 7) (by kernel_rfl) hDn) hS
  have x0 : w9.cell? ⟨w.heap.size, 0, none⟩ = some (.int .u32 (r.ses)) := (HX.out.ca hT).cell 0
  have x1 : w9.cell? ⟨w.heap.size, 1, none⟩ = some (.int .u64 (r.next)) := (HX.out.ca hT).cell 1
  have x2 : w9.cell? ⟨w.heap.size, 2, none⟩ = some (.slice A n c) := (HX.out.ca hT).cell 2
  have x3 : w9.cell? ⟨w.heap.size, 3, none⟩ = some (.slice A2 m d) := (HX.out.ca hT).cell 3
  have x4 : w9.cell? ⟨w.heap.size, 4, none⟩ = some (.int .i64 (r.room)) := (HX.out.ca hT).cell 4
  have x5 : w9.cell? ⟨w.heap.size, 5, none⟩ = some (.bool (r.over)) := (HX.out.ca hT).cell 5
  clear hT hS
  go_simp
  try rfl
 try simp only [Act.put, sA, sZ, sS]
 refine Pz 5 (some 8) (.int .u64 (lm)) rfl rfl ?ywg1_7 ?rwg1_7
 case ywg1_7 =>
  refine StepS.call ?fwg1_7 ?awg1_7 [] (by kernel_rfl) (by rfl) (fun w9 => ?hwg1_7) (fun L9 m9 w9 hSh hAt hDn hS => ?cwg1_7)
  case hwg1_7 => go_simp; refine ⟨?_, ?_⟩ <;> rfl
  case cwg1_7 =>
   have hT : Below w1.heap.size w1 w9 := SeqN.one0 (reach_no hSh (f := 12) (j := 7) (by kernel_rfl) hDn) hS
   refine (rlimit_any r A n c A2 m d w9 hm hrs.2.2.1 (by omega) (by omega) hrm.2).mono ?_
   rintro e w8 ⟨rfl, q8⟩
   exact ⟨by rw [HLM.out], SeqN.move0 (by decide) (reach_no hSh (f := 12) (j := 7) (by kernel_rfl) hDn) (bl_ca hT q8)⟩
 try simp only [Act.put, sA, sZ, sS]
 refine Pz 6 (some 9) (.agg #[.int .i64 (2), .int .u32 (r.ses), .int .u64 (r.next), .int .u64 (lm), .slice none 0 0, .bool (false), .int .u64 (0)]) rfl rfl (by exact StepS.pure (SeqN.pass (by decide)) rfl fun _ => by first | rfl | (go_simp; done) | (go_simp; rfl)) ?_
 try simp only [Act.put, sA, sZ, sS]
 refine Pz 7 none undef rfl rfl ?ywg1_9 ?rwg1_9
 case ywg1_9 =>
  refine StepS.store [] (by kernel_rfl) (by rfl) (fun L9 m9 w9 hSh hAt hDn hS => ?_)
  have hT : Below w1.heap.size w1 w9 := SeqN.one0 hDn hS
  refine (exec_store_blk (w := w9) 47 (.tmp 2) (.tmp 9) (by rfl) (w.heap.size + 1) 47 #[.int .i64 0, .int .u32 0, .int .u64 0, .int .u64 0, .slice none 0 0, .bool false, .int .u64 0] #[.int .i64 2, .int .u32 r.ses, .int .u64 r.next, .int .u64 lm, .slice none 0 0, .bool false, .int .u64 0] (by rfl) (by rfl) (HZ.out.ca hT) rfl packetI3 (by simp [Value.oneCell'])).imp fun w7 hx => ⟨hx.1, SeqN.set_ (m0 := m9) (m1 := m9) [] [] hSh (fun d hd => by cases hd) hDn (by kernel_rfl) (by decide) (by decide) ⟨bl_gr (bl_ca HQ.out hT) hx.2.2 (by omega), hx.2.1⟩⟩
 try simp only [Act.put]
 refine Ps.done (by kernel_rfl) (fun wg1 hS => ?_) _
 obtain ⟨hq, hb⟩ := SeqN.fin (by rfl) hS
 clear hS
 have HQ2 := Lib.hid hq
 have HB2 := Lib.hid hb
 clear hq hb
 obtain ⟨w2, rfl⟩ : ∃ x, x = wg1 := ⟨_, rfl⟩
 go_wp2
 exact bodyPost_ret (res1 Try.results33 rfl HB2.out Try.underlying47 rfl packetI3) rfl ⟨by rw [HLM.out]; rfl, HQ2.out⟩
def RTakeO (Fr : Nat → Prop) (r : RC) (w : World) (e : Ending) (w' : World) : Prop :=
 ∃ A3 n3 c3 A4 m4 d4 Bx kx kc, e = .returned (.tuple #[.agg ((takR r).cells A3 n3 c3 A4 m4 d4), .agg #[.slice Bx kx kc, .bool (takB r).fin, .int .u64 (takB r).cnt], .int .i64 (takE r)]) ∧ Below w.heap.size w w' ∧
  LH4.rd w' (fun b => Fr b ∨ w.heap.size ≤ b) A3 n3 (takR r).ahead ∧ n3 ≤ c3 ∧ c3 ≤ 9223372036854775807 ∧ LB3.rd w' (fun b => Fr b ∨ w.heap.size ≤ b) A4 m4 (takR r).buf ∧ m4 ≤ d4 ∧ d4 ≤ 9223372036854775807 ∧ LR.rd w' Fr Bx kx (takB r).rows ∧ kx ≤ kc ∧ kc ≤ 9223372036854775807
set_option maxRecDepth 100000 in
set_option maxHeartbeats 64000000 in
theorem rtake_any (Fr : Nat → Prop) (r : RC) (A : Option Addr) (n c : Nat) (A2 : Option Addr) (m d : Nat) (w : World) (hFr : ∀ k, Fr k → k < w.heap.size) (h : LH4.rd w Fr A n r.ahead) (h2 : LB3.rd w Fr A2 m r.buf) (hnc : n ≤ c) (hcm : c ≤ 9223372036854775807) (hmd : m ≤ d) (hdm : d ≤ 9223372036854775807) (hok : recB r = true) :
 Calls Try.prog 35 #[.agg (r.cells A n c A2 m d)] w (RTakeO Fr r w) := by
 have q1 := bl_al (Below.refl w.heap.size w) (.cells (r.cells A n c A2 m d) 36)
 have q2 := bl_al (Below.refl (w.alloc (.cells (r.cells A n c A2 m d) 36)).heap.size (w.alloc (.cells (r.cells A n c A2 m d) 36))) (.cells #[.int .u32 0, .int .u64 0, .slice none 0 0, .slice none 0 0, .int .i64 0, .bool false] 36)
 have q3 := bl_al (Below.refl ((w.alloc (.cells (r.cells A n c A2 m d) 36)).alloc (.cells #[.int .u32 0, .int .u64 0, .slice none 0 0, .slice none 0 0, .int .i64 0, .bool false] 36)).heap.size ((w.alloc (.cells (r.cells A n c A2 m d) 36)).alloc (.cells #[.int .u32 0, .int .u64 0, .slice none 0 0, .slice none 0 0, .int .i64 0, .bool false] 36))) (.cells #[.slice none 0 0, .bool false, .int .u64 0] 45)
 have q23 := bl_ca q2 q3
 have HX := Lib.hid ((Blk.new w 36 (r.cells A n c A2 m d)).ca q23)
 have H1 := Lib.hid (show Blk (((w.alloc (.cells (r.cells A n c A2 m d) 36)).alloc (.cells #[.int .u32 0, .int .u64 0, .slice none 0 0, .slice none 0 0, .int .i64 0, .bool false] 36)).alloc (.cells #[.slice none 0 0, .bool false, .int .u64 0] 45)) (w.heap.size + 1) 36 #[.int .u32 0, .int .u64 0, .slice none 0 0, .slice none 0 0, .int .i64 0, .bool false] from Blk.ca (show Blk ((w.alloc (.cells (r.cells A n c A2 m d) 36)).alloc (.cells #[.int .u32 0, .int .u64 0, .slice none 0 0, .slice none 0 0, .int .i64 0, .bool false] 36)) (w.heap.size + 1) 36 #[.int .u32 0, .int .u64 0, .slice none 0 0, .slice none 0 0, .int .i64 0, .bool false] from Blk.mk' (by simp only [World.size_alloc])) q3)
 have H2 := Lib.hid (show Blk (((w.alloc (.cells (r.cells A n c A2 m d) 36)).alloc (.cells #[.int .u32 0, .int .u64 0, .slice none 0 0, .slice none 0 0, .int .i64 0, .bool false] 36)).alloc (.cells #[.slice none 0 0, .bool false, .int .u64 0] 45)) (w.heap.size + 2) 45 #[.slice none 0 0, .bool false, .int .u64 0] from Blk.mk' (by simp only [World.size_alloc]))
 have HQ := Lib.hid (bl_ca q1 q23)
 have HRA := Lib.hid (Lay.rd_below (Lay.rd_below h q1) q23)
 have HRB := Lib.hid (Lay.rd_below (Lay.rd_below h2 q1) q23)
 have hsz : (((w.alloc (.cells (r.cells A n c A2 m d) 36)).alloc (.cells #[.int .u32 0, .int .u64 0, .slice none 0 0, .slice none 0 0, .int .i64 0, .bool false] 36)).alloc (.cells #[.slice none 0 0, .bool false, .int .u64 0] 45)).heap.size = w.heap.size + 3 := by simp only [World.size_alloc]
 have hml := Lay.rd_len h2
 have hln := recB_len hok
 have HFR := Lib.hid hFr
 clear h h2 q1 q2 q3 q23 hok hFr
 have x3 := HX.out.cell 3
 go_enter Try.func35, Try.ntmps35
 go_upto_region 1 with fail
 generalize (((w.alloc (.cells (r.cells A n c A2 m d) 36)).alloc (.cells #[.int .u32 0, .int .u64 0, .slice none 0 0, .slice none 0 0, .int .i64 0, .bool false] 36)).alloc (.cells #[.slice none 0 0, .bool false, .int .u64 0] 45)) = w1 at *
 cases hbuf : r.buf with
 | nil =>
  obtain rfl : m = 0 := by rw [← hml, hbuf]; rfl
  have HT := Lib.hid (show takR r = zeroR ∧ takB r = zeroB ∧ takE r = 4 from by unfold takR takB takE; rw [hbuf]; exact ⟨rfl, rfl, rfl⟩)
  clear hbuf
  go_wp2_with (first
   | (refine wpList_store_blk rfl 36 (.tmp 2) (.tmp 10) rfl (w.heap.size + 1) 36 #[.int .u32 0, .int .u64 0, .slice none 0 0, .slice none 0 0, .int .i64 0, .bool false] #[.int .u32 0, .int .u64 0, .slice none 0 0, .slice none 0 0, .int .i64 0, .bool false] rfl rfl H1.out rfl receiverI (by simp [Value.oneCell']) ?_; intro w2 h1 g1; have H12 := Lib.hid h1; have G12 := Lib.hid g1; have H22 := Lib.hid (H2.out.apart g1 (by omega)); clear h1 g1)
   | (refine wpList_store_blk rfl 45 (.tmp 3) (.tmp 11) rfl (w.heap.size + 2) 45 #[.slice none 0 0, .bool false, .int .u64 0] #[.slice none 0 0, .bool false, .int .u64 0] rfl rfl H22.out rfl batchI2 (by simp [Value.oneCell']) ?_; intro w3 h1 g1; have H23 := Lib.hid h1; have G23 := Lib.hid g1; have H13 := Lib.hid (H12.out.apart g1 (by omega)); clear h1 g1))
  refine bodyPost_ret (res4 Try.results35 rfl rfl rfl H13.out Try.underlying36 rfl receiverI H23.out Try.underlying45 rfl batchI2) rfl ?_
  exact ⟨none, 0, 0, none, 0, 0, none, 0, 0, by rw [HT.out.1, HT.out.2.1, HT.out.2.2]; rfl, bl_gr (bl_gr HQ.out G12.out (by omega)) G23.out (by omega), by rw [HT.out.1]; exact Lay.rd_nil _, by omega, by omega, by rw [HT.out.1]; exact Lay.rd_nil _, by omega, by omega, by rw [HT.out.2.1]; exact Lay.rd_nil _, by omega, by omega⟩
 | cons b l =>
  have hm1 : 1 ≤ m := by rw [← hml, hbuf]; simp
  have HT := Lib.hid (show takR r = ⟨r.ses, r.next, r.ahead, l, r.room, b.fin⟩ ∧ takB r = b ∧ takE r = 0 from by unfold takR takB takE; rw [hbuf]; exact ⟨rfl, rfl, rfl⟩)
  rw [hbuf] at HRB
  have hmz2 : ¬ ((m : Int) = 0) := by omega
  have hi0 : (0 : Int) < (m : Int) := by omega
  have hi1 : 0 < m := by omega
  obtain ⟨ad, b', Bx, kx, kc, rfl, hxb, sb⟩ := LB3_at (i := 0) HRB.out hi1
  obtain rfl : b = b' := by simpa using hxb
  have e0 := sb.c0
  have e1 := sb.c1
  have e2 := sb.c2
  have HXR := Lib.hid sb.rd
  have hk1 := sb.nc
  have hk2 := sb.cm
  rw [show ad.add (0 * 3) = ad from by rw [Nat.zero_mul]; rfl] at e0 e1 e2
  have HN6 := Lib.hid (show Blk (w1.alloc (.cells #[.slice none 0 0, .bool false, .int .u64 0] 45)) (w.heap.size + 3) 45 #[.slice none 0 0, .bool false, .int .u64 0] from by rw [← hsz]; exact Blk.new w1 45 #[.slice none 0 0, .bool false, .int .u64 0])
  clear hbuf sb hxb
  go_upto_region 4 with (first | (refine wpList_store_blk rfl 45 (.tmp 5) (.tmp 15) rfl (w.heap.size + 3) 45 #[.slice none 0 0, .bool false, .int .u64 0] #[.slice Bx kx kc, .bool b.fin, .int .u64 b.cnt] rfl rfl HN6.out rfl batchI2 (by simp [Value.oneCell']) ?_; intro w4 h1 g1; have HT4 := Lib.hid h1; have HG4 := Lib.hid g1; clear h1 g1))
  have HQ4 := Lib.hid (bl_gr (bl_al (Below.refl w1.heap.size w1) (.cells #[.slice none 0 0, .bool false, .int .u64 0] 45)) HG4.out (by omega))
  have HX4 := Lib.hid (HX.out.ca HQ4.out)
  have H14 := Lib.hid (H1.out.ca HQ4.out)
  have H24 := Lib.hid (H2.out.ca HQ4.out)
  have HRA4 := Lib.hid (Lay.rd_below HRA.out HQ4.out)
  have HRB4 := Lib.hid (Lay.rd_below HRB.out HQ4.out)
  have HXR4 := Lib.hid (Lay.rd_below HXR.out HQ4.out)
  have HQ14 := Lib.hid (bl_ca HQ.out HQ4.out)
  have hs4 := HQ4.out.size
  have hlt4 := HT4.out.lt
  clear e0 e1 e2 x3 HN6 HG4 HX H1 H2 HRA HRB HXR HQ
  by_cases hd1 : d = 1
  · subst hd1
    obtain rfl : m = 1 := by omega
    refine wp_region_ps (S := SeqN [3, 7, 9] (fun z mm w' => match z with | 0 => Below w4.heap.size w4 w' | 1 => Below w4.heap.size w4 w' ∧ ∃ B7 k7, mm 3 = .slice B7 (0) k7 ∧ LB3.own 45 w' w4.heap.size Fr B7 (0) k7 l | 2 => Chg (fun k => k = w.heap.size) w4 w' ∧ ∃ B7 k7, mm 3 = .slice B7 (0) k7 ∧ LB3.own 45 w' w4.heap.size Fr B7 (0) k7 l ∧ Blk w' w.heap.size 36 #[.int .u32 r.ses, .int .u64 r.next, .slice A n c, .slice B7 (0) k7, .int .i64 r.room, .bool r.over] | _ => Chg (fun k => k = w.heap.size) w4 w' ∧ ∃ B7 k7, mm 3 = .slice B7 (0) k7 ∧ LB3.own 45 w' w4.heap.size Fr B7 (0) k7 l ∧ Blk w' w.heap.size 36 #[.int .u32 r.ses, .int .u64 r.next, .slice A n c, .slice B7 (0) k7, .int .i64 r.room, .bool b.fin])) (by kernel_rfl) ?spswg10 ?ppswg10
    case spswg10 =>
     exact SeqN.start (by decide) (Below.refl _ _).drew
    refine Pz 0 (some 16) (.pointer (some ⟨w.heap.size, 3, none⟩)) rfl rfl (by exact StepS.pure (SeqN.pass (by decide)) rfl fun _ => rfl) ?_
    try simp only [Act.put, sA, sZ, sS]
    refine Pz 1 (some 17) (.slice (some ad) 1 1) rfl rfl ?ywg10_12 ?rwg10_12
    case ywg10_12 =>
     refine StepS.read [] (by kernel_rfl) (SeqN.pass (by decide)) (by rfl) (fun L9 m9 w9 hSh hAt hDn hS => ?_)
     have hT : Below w4.heap.size w4 w9 := SeqN.zero3 hSh (reach_no hSh (f := 14) (j := 3) (by kernel_rfl) hDn) (by kernel_rfl) hS
     have x0 : w9.cell? ⟨w.heap.size, 3, none⟩ = some (.slice (some ad) 1 1) := (HX4.out.ca hT).cell 3
     clear hT hS
     go_simp
     try rfl
    try simp only [Act.put, sA, sZ, sS]
    refine Pz 2 (some 18) (.slice (some ad) 0 0) rfl rfl (by exact StepS.pure (SeqN.pass (by decide)) rfl fun _ => by first | rfl | (go_simp; done) | (go_simp; rfl)) ?_
    try simp only [Act.put, sA, sZ, sS]
    refine Pz 4 (some 20) (.pointer (some ⟨w.heap.size + 3, 1, none⟩)) rfl rfl (by exact StepS.pure (SeqN.pass (by decide)) rfl fun _ => rfl) ?_
    try simp only [Act.put, sA, sZ, sS]
    refine Pz 5 (some 21) (.bool (b.fin)) rfl rfl ?ywg10_15 ?rwg10_15
    case ywg10_15 =>
     refine StepS.read [] (by kernel_rfl) (SeqN.pass (by decide)) (by rfl) (fun L9 m9 w9 hSh hAt hDn hS => ?_)
     have hT : Blk w9 (w.heap.size + 3) 45 #[.slice Bx kx kc, .bool b.fin, .int .u64 b.cnt] := SeqN.any (T := fun w9 => Blk w9 (w.heap.size + 3) 45 #[.slice Bx kx kc, .bool b.fin, .int .u64 b.cnt]) (fun z _ _ h => by match z, h with | 0, h => exact HT4.out.ca h | 1, h => exact HT4.out.ca h.1 | 2, h => exact HT4.out.chg h.1 (by omega) | _ + 3, h => exact HT4.out.chg h.1 (by omega)) hS
     have x1 := hT.cell 1
     clear hT hS
     go_simp
     try rfl
    try simp only [Act.put, sA, sZ, sS]
    refine Ps.one (k := 3) (d := some 19) rfl rfl (by kernel_rfl) (TurnS.call (V := fun v => ∃ B7 k7, v = .slice B7 (0) k7) ?fwg10_16 ?awg10_16 [] (by kernel_rfl) (by rfl) (fun w9 => ?hwg10_16) (fun L9 m9 w9 hSh hAt hDn hS => ?cwg10_16)) (fun v3 hVv3 => ?rwg10_16)
    case hwg10_16 => go_simp; refine ⟨?_, ?_⟩ <;> rfl
    case cwg10_16 =>
     have hT := SeqN.at_ (m0 := m9) (m1 := m9) [] [7, 9] hSh (fun d hd => by cases hd) hDn (by kernel_rfl) hS
     have hrB : LB3.rd w9 Fr (some ad) (0) l := by
      have h9 := Lay.rd_cut (k := 1) (cap := 1) (Lay.rd_below HRB4.out hT) (by omega) (by omega)
      rw [if_pos rfl] at h9
      exact h9
     refine (rbatches_any Fr (some ad) (0) (0) l w9 hrB (by omega)).mono ?_
     rintro e w8 ⟨B8, k8, rfl, ho, q8⟩
     exact ⟨_, rfl, ⟨B8, k8, rfl⟩, SeqN.set_ (m0 := m9) (m1 := m9) [] [7, 9] hSh (fun d hd => by cases hd) hDn (by kernel_rfl) (by decide) (by decide) ⟨bl_ca hT q8, B8, k8, upd_same _ _ _, Lay.own_lessB (Lay.own_weak (fun b hb _ => hb.1) ho) hT.size⟩⟩
    try simp only [Act.put, sA, sZ, sS]
    obtain ⟨B7, k7, rfl⟩ := hVv3
    refine Pz 6 (some 22) (.pointer (some ⟨w.heap.size, 3, none⟩)) rfl rfl (by exact StepS.pure (SeqN.pass (by decide)) rfl fun _ => rfl) ?_
    try simp only [Act.put, sA, sZ, sS]
    refine Pz 7 none undef rfl rfl ?ywg10_18 ?rwg10_18
    case ywg10_18 =>
     refine StepS.store [3] (by kernel_rfl) (by rfl) (fun L9 m9 w9 hSh hAt hDn hS => ?_)
     obtain ⟨hT, B8, k8, hv, ho⟩ := SeqN.at_ [3] [9] hSh hAt hDn (by kernel_rfl) hS
     obtain ⟨rfl, rfl⟩ : B7 = B8 ∧ k7 = k8 := by have h9 : Value.slice B7 (0) k7 = .slice B8 (0) k8 := (hAt 3 (by simp)).2.symm.trans hv; simpa using h9
     have hN := HX4.out.ca hT
     have hch : Chg (fun k => k = w.heap.size) w4 w9 := Chg.of_below hT
     have hN2 : Blk (w9.setCell ⟨w.heap.size, 3, none⟩ (.slice B7 (0) k7)) w.heap.size 36 #[.int .u32 r.ses, .int .u64 r.next, .slice A n c, .slice B7 (0) k7, .int .i64 r.room, .bool r.over] := by simpa [RC.cells] using hN.set_ 3 (.slice B7 (0) k7)
     have hg2 : w9.grownBy (w9.setCell ⟨w.heap.size, 3, none⟩ (.slice B7 (0) k7)) (some w.heap.size) := only_setCell (World.grownBy.refl _ _) (.inl rfl) _
     have x2 := hN.cell 3
     have fx := hN.frozen 3
     refine ⟨w9.setCell ⟨w.heap.size, 3, none⟩ (.slice B7 (0) k7), ?_, SeqN.set_ [3] [9] hSh hAt hDn (by kernel_rfl) (by decide) (by decide) ⟨hch.grown hg2 (fun k e => .inl (by injection e with e; exact e.symm)), B7, k7, hv, own_grownF ho hg2 (by omega) (fun b hb => by have := HFR.out b hb; omega), hN2⟩⟩
     clear hv ho hN hN2 hg2 hch hT hS
     go_simp
    try simp only [Act.put]
    refine Pz 8 (some 23) (.pointer (some ⟨w.heap.size, 5, none⟩)) rfl rfl (by exact StepS.pure (SeqN.pass (by decide)) rfl fun _ => rfl) ?_
    try simp only [Act.put, sA, sZ, sS]
    refine Pz 9 none undef rfl rfl ?ywg10_20 ?rwg10_20
    case ywg10_20 =>
     refine StepS.store [3, 7] (by kernel_rfl) (by rfl) (fun L9 m9 w9 hSh hAt hDn hS => ?_)
     obtain ⟨hch, B8, k8, hv, ho, hN⟩ := SeqN.at_ [3, 7] [] hSh hAt hDn (by kernel_rfl) hS
     obtain ⟨rfl, rfl⟩ : B7 = B8 ∧ k7 = k8 := by have h9 : Value.slice B7 (0) k7 = .slice B8 (0) k8 := (hAt 3 (by simp)).2.symm.trans hv; simpa using h9
     have hN2 : Blk (w9.setCell ⟨w.heap.size, 5, none⟩ (.bool b.fin)) w.heap.size 36 #[.int .u32 r.ses, .int .u64 r.next, .slice A n c, .slice B7 (0) k7, .int .i64 r.room, .bool b.fin] := by simpa [RC.cells] using hN.set_ 5 (.bool b.fin)
     have hg2 : w9.grownBy (w9.setCell ⟨w.heap.size, 5, none⟩ (.bool b.fin)) (some w.heap.size) := only_setCell (World.grownBy.refl _ _) (.inl rfl) _
     have x2 := hN.cell 5
     have fx := hN.frozen 5
     refine ⟨w9.setCell ⟨w.heap.size, 5, none⟩ (.bool b.fin), ?_, SeqN.set_ [3, 7] [] hSh hAt hDn (by kernel_rfl) (by decide) (by decide) ⟨hch.grown hg2 (fun k e => .inl (by injection e with e; exact e.symm)), B7, k7, hv, own_grownF ho hg2 (by omega) (fun b hb => by have := HFR.out b hb; omega), hN2⟩⟩
     clear hv ho hN hN2 hg2 hch hS
     go_simp
    try simp only [Act.put]
    refine Ps.done (by kernel_rfl) (fun wg10 hS => ?_) _
    obtain ⟨hch, B8, k8, hv, ho, hN⟩ := SeqN.fin (by rfl) hS
    clear hS
    obtain ⟨rfl, rfl⟩ : B7 = B8 ∧ k7 = k8 := by have h9 : Value.slice B7 (0) k7 = .slice B8 (0) k8 := hv; simpa using h9
    clear hv
    have HCH := Lib.hid hch
    have HO7 := Lib.hid ho
    have HN7 := Lib.hid hN
    clear hch ho hN
    obtain ⟨w5, rfl⟩ : ∃ x, x = wg10 := ⟨_, rfl⟩
    have HT5 := Lib.hid (HT4.out.chg HCH.out (by omega))
    have H15 := Lib.hid (H14.out.chg HCH.out (by omega))
    have H25 := Lib.hid (H24.out.chg HCH.out (by omega))
    have HRA5 := Lib.hid (rd_chg HRA4.out HCH.out (fun b hb _ h => by have := HFR.out b hb; omega))
    have HXR5 := Lib.hid (rd_chg HXR4.out HCH.out (fun b hb _ h => by have := HFR.out b hb; omega))
    have hs5 := HCH.out.size
    clear HT4 H14 H24 HRA4 HRB4 HXR4 HX4
    go_wp2_with fail
    refine wp_region_ps (S := SeqN [2, 3] (fun z _ w' => match z with | 0 => w5.grownBy w' none | 1 => Chg (fun k => k = w.heap.size + 1 ∨ k = w.heap.size + 2) w5 w' ∧ Blk w' (w.heap.size + 1) 36 #[.int .u32 r.ses, .int .u64 r.next, .slice A n c, .slice B7 (0) k7, .int .i64 r.room, .bool b.fin] ∧ Blk w' (w.heap.size + 2) 45 #[.slice none 0 0, .bool false, .int .u64 0] | _ => Chg (fun k => k = w.heap.size + 1 ∨ k = w.heap.size + 2) w5 w' ∧ Blk w' (w.heap.size + 1) 36 #[.int .u32 r.ses, .int .u64 r.next, .slice A n c, .slice B7 (0) k7, .int .i64 r.room, .bool b.fin] ∧ Blk w' (w.heap.size + 2) 45 #[.slice Bx kx kc, .bool b.fin, .int .u64 b.cnt])) (by kernel_rfl) ?spswg21 ?ppswg21
    case spswg21 =>
     exact SeqN.start (by decide) (only_drew (World.grownBy.refl _ _))
    refine Pz 0 (some 24) (.agg #[.int .u32 (r.ses), .int .u64 (r.next), .slice A n c, .slice B7 (0) k7, .int .i64 (r.room), .bool (b.fin)]) rfl rfl ?ywg21_22 ?rwg21_22
    case ywg21_22 =>
     refine StepS.read [] (by kernel_rfl) (SeqN.pass (by decide)) (by rfl) (fun L9 m9 w9 hSh hAt hDn hS => ?_)
     have hT : w5.grownBy w9 none := SeqN.two0 hSh (reach_no hSh (f := 8) (j := 2) (by kernel_rfl) hDn) (by kernel_rfl) hS
     have hT2 := HN7.out.grown hT (by simp)
     have x0 : w9.cell? ⟨w.heap.size, 0, none⟩ = some (.int .u32 (r.ses)) := hT2.cell 0
     have x1 : w9.cell? ⟨w.heap.size, 1, none⟩ = some (.int .u64 (r.next)) := hT2.cell 1
     have x2 : w9.cell? ⟨w.heap.size, 2, none⟩ = some (.slice A n c) := hT2.cell 2
     have x3 : w9.cell? ⟨w.heap.size, 3, none⟩ = some (.slice B7 (0) k7) := hT2.cell 3
     have x4 : w9.cell? ⟨w.heap.size, 4, none⟩ = some (.int .i64 (r.room)) := hT2.cell 4
     have x5 : w9.cell? ⟨w.heap.size, 5, none⟩ = some (.bool (b.fin)) := hT2.cell 5
     clear hT hT2 hS
     go_simp
     try rfl
    try simp only [Act.put, sA, sZ, sS]
    refine Pz 1 (some 25) (.agg #[.slice Bx kx kc, .bool (b.fin), .int .u64 (b.cnt)]) rfl rfl ?ywg21_23 ?rwg21_23
    case ywg21_23 =>
     refine StepS.read [] (by kernel_rfl) (SeqN.pass (by decide)) (by rfl) (fun L9 m9 w9 hSh hAt hDn hS => ?_)
     have hT : Blk w9 (w.heap.size + 3) 45 #[.slice Bx kx kc, .bool b.fin, .int .u64 b.cnt] := SeqN.any (T := fun w9 => Blk w9 (w.heap.size + 3) 45 #[.slice Bx kx kc, .bool b.fin, .int .u64 b.cnt]) (fun z _ _ h => by match z, h with | 0, h => exact HT5.out.grown h (by simp) | 1, h => exact HT5.out.chg h.1 (by omega) | _ + 2, h => exact HT5.out.chg h.1 (by omega)) hS
     have x0 := hT.cell 0
     have x1 := hT.cell 1
     have x2 := hT.cell 2
     clear hT hS
     go_simp
     try rfl
    try simp only [Act.put, sA, sZ, sS]
    refine Pz 2 none undef rfl rfl ?ywg21_24 ?rwg21_24
    case ywg21_24 =>
     refine StepS.store [] (by kernel_rfl) (by rfl) (fun L9 m9 w9 hSh hAt hDn hS => ?_)
     have hT := SeqN.at_ (m0 := m9) (m1 := m9) [] [3] hSh (fun d hd => by cases hd) hDn (by kernel_rfl) hS
     refine (exec_store_blk (w := w9) 36 (.tmp 2) (.tmp 24) (by rfl) (w.heap.size + 1) 36 #[.int .u32 0, .int .u64 0, .slice none 0 0, .slice none 0 0, .int .i64 0, .bool false] #[.int .u32 r.ses, .int .u64 r.next, .slice A n c, .slice B7 (0) k7, .int .i64 r.room, .bool b.fin] (by rfl) (by rfl) (H15.out.grown hT (by simp)) rfl receiverI (by simp [Value.oneCell'])).imp fun w7 hx => ⟨hx.1, SeqN.set_ (m0 := m9) (m1 := m9) [] [3] hSh (fun d hd => by cases hd) hDn (by kernel_rfl) (by decide) (by decide) ⟨Chg.grown (Chg.of_gr hT) hx.2.2 (fun k e => .inl (.inl (by injection e with e; exact e.symm))), hx.2.1, (H25.out.grown hT (by simp)).apart hx.2.2 (by omega)⟩⟩
    try simp only [Act.put]
    refine Pz 3 none undef rfl rfl ?ywg21_25 ?rwg21_25
    case ywg21_25 =>
     refine StepS.store [2] (by kernel_rfl) (by rfl) (fun L9 m9 w9 hSh hAt hDn hS => ?_)
     obtain ⟨hc, hb, hb2⟩ := SeqN.at_ [2] [] hSh hAt hDn (by kernel_rfl) hS
     refine (exec_store_blk (w := w9) 45 (.tmp 3) (.tmp 25) (by rfl) (w.heap.size + 2) 45 #[.slice none 0 0, .bool false, .int .u64 0] #[.slice Bx kx kc, .bool b.fin, .int .u64 b.cnt] (by rfl) (by rfl) hb2 rfl batchI2 (by simp [Value.oneCell'])).imp fun w7 hx => ⟨hx.1, SeqN.set_ [2] [] hSh hAt hDn (by kernel_rfl) (by decide) (by decide) ⟨hc.grown hx.2.2 (fun k e => .inl (.inr (by injection e with e; exact e.symm))), hb.apart hx.2.2 (by omega), hx.2.1⟩⟩
    try simp only [Act.put]
    refine Pz 4 (some 4) (.int .i64 (0)) rfl rfl (by exact StepS.pure (SeqN.pass (by decide)) rfl fun _ => rfl) ?_
    try simp only [Act.put, sA, sZ, sS]
    refine Ps.done (by kernel_rfl) (fun wg21 hS => ?_) _
    obtain ⟨hc, hb, hb2⟩ := SeqN.fin (by rfl) hS
    clear hS
    have HCG := Lib.hid hc
    have HB7 := Lib.hid hb
    have HB8 := Lib.hid hb2
    clear hc hb hb2
    obtain ⟨w7, rfl⟩ : ∃ x, x = wg21 := ⟨_, rfl⟩
    have hbel : Below w.heap.size w w7 := by
     have h2 : Chg (fun k => w.heap.size ≤ k) w4 w5 := HCH.out.weak (fun b _ h => by omega)
     have h4 : Chg (fun k => w.heap.size ≤ k) w5 w7 := HCG.out.weak (fun b _ h => by omega)
     exact (((Chg.of_below HQ14.out).trans h2).trans h4).bel (Below.refl _ _) (fun b hb h => by omega) (Nat.le_refl _)
    have hoF := rd_chg (Lay.own_rd (F := fun b => Fr b ∨ w4.heap.size ≤ b) HO7.out (fun b hb _ => .inr hb) (fun b hb _ => .inl hb)) HCG.out (fun b hb _ h => hb.elim (fun h2 => by have := HFR.out b h2; omega) (fun h2 => by omega))
    have hcp := Lay.own_caps HO7.out
    go_wp2
    refine bodyPost_ret (res4 Try.results35 rfl rfl rfl HB7.out Try.underlying36 rfl receiverI HB8.out Try.underlying45 rfl batchI2) rfl ?_
    exact ⟨A, n, c, B7, 0, k7, Bx, kx, kc, by rw [HT.out.1, HT.out.2.1, HT.out.2.2]; rfl, hbel, by rw [HT.out.1]; exact Lay.rd_weak (fun b hb _ => .inl hb) (rd_chg HRA5.out HCG.out (fun b hb _ h => by have := HFR.out b hb; omega)), hnc, hcm, by rw [HT.out.1]; exact Lay.rd_weak (fun b hb _ => hb.elim .inl (fun h => .inr (by omega))) hoF, hcp.1, hcp.2, by rw [HT.out.2.1]; exact rd_chg HXR5.out HCG.out (fun b hb _ h => by have := HFR.out b hb; omega), hk1, hk2⟩
  · have hi3 : (1 : Int) ≤ (m : Int) := by omega
    have hi5 : (m : Int) ≤ (d : Int) := by omega
    refine wp_region_ps (S := SeqN [3, 7, 9] (fun z mm w' => match z with | 0 => Below w4.heap.size w4 w' | 1 => Below w4.heap.size w4 w' ∧ ∃ B7 k7, mm 3 = .slice B7 (m - 1) k7 ∧ LB3.own 45 w' w4.heap.size Fr B7 (m - 1) k7 l | 2 => Chg (fun k => k = w.heap.size) w4 w' ∧ ∃ B7 k7, mm 3 = .slice B7 (m - 1) k7 ∧ LB3.own 45 w' w4.heap.size Fr B7 (m - 1) k7 l ∧ Blk w' w.heap.size 36 #[.int .u32 r.ses, .int .u64 r.next, .slice A n c, .slice B7 (m - 1) k7, .int .i64 r.room, .bool r.over] | _ => Chg (fun k => k = w.heap.size) w4 w' ∧ ∃ B7 k7, mm 3 = .slice B7 (m - 1) k7 ∧ LB3.own 45 w' w4.heap.size Fr B7 (m - 1) k7 l ∧ Blk w' w.heap.size 36 #[.int .u32 r.ses, .int .u64 r.next, .slice A n c, .slice B7 (m - 1) k7, .int .i64 r.room, .bool b.fin])) (by kernel_rfl) ?spswg27 ?ppswg27
    case spswg27 =>
     exact SeqN.start (by decide) (Below.refl _ _).drew
    refine Pz 0 (some 16) (.pointer (some ⟨w.heap.size, 3, none⟩)) rfl rfl (by exact StepS.pure (SeqN.pass (by decide)) rfl fun _ => rfl) ?_
    try simp only [Act.put, sA, sZ, sS]
    refine Pz 1 (some 17) (.slice (some ad) m d) rfl rfl ?ywg27_29 ?rwg27_29
    case ywg27_29 =>
     refine StepS.read [] (by kernel_rfl) (SeqN.pass (by decide)) (by rfl) (fun L9 m9 w9 hSh hAt hDn hS => ?_)
     have hT : Below w4.heap.size w4 w9 := SeqN.zero3 hSh (reach_no hSh (f := 14) (j := 3) (by kernel_rfl) hDn) (by kernel_rfl) hS
     have x0 : w9.cell? ⟨w.heap.size, 3, none⟩ = some (.slice (some ad) m d) := (HX4.out.ca hT).cell 3
     clear hT hS
     go_simp
     try rfl
    try simp only [Act.put, sA, sZ, sS]
    refine Pz 2 (some 18) (.slice (some (ad.add 3)) (m - 1) (d - 1)) rfl rfl (by exact StepS.pure (SeqN.pass (by decide)) rfl fun _ => by first | rfl | (go_simp; done) | (go_simp; rfl)) ?_
    try simp only [Act.put, sA, sZ, sS]
    refine Pz 4 (some 20) (.pointer (some ⟨w.heap.size + 3, 1, none⟩)) rfl rfl (by exact StepS.pure (SeqN.pass (by decide)) rfl fun _ => rfl) ?_
    try simp only [Act.put, sA, sZ, sS]
    refine Pz 5 (some 21) (.bool (b.fin)) rfl rfl ?ywg27_32 ?rwg27_32
    case ywg27_32 =>
     refine StepS.read [] (by kernel_rfl) (SeqN.pass (by decide)) (by rfl) (fun L9 m9 w9 hSh hAt hDn hS => ?_)
     have hT : Blk w9 (w.heap.size + 3) 45 #[.slice Bx kx kc, .bool b.fin, .int .u64 b.cnt] := SeqN.any (T := fun w9 => Blk w9 (w.heap.size + 3) 45 #[.slice Bx kx kc, .bool b.fin, .int .u64 b.cnt]) (fun z _ _ h => by match z, h with | 0, h => exact HT4.out.ca h | 1, h => exact HT4.out.ca h.1 | 2, h => exact HT4.out.chg h.1 (by omega) | _ + 3, h => exact HT4.out.chg h.1 (by omega)) hS
     have x1 := hT.cell 1
     clear hT hS
     go_simp
     try rfl
    try simp only [Act.put, sA, sZ, sS]
    refine Ps.one (k := 3) (d := some 19) rfl rfl (by kernel_rfl) (TurnS.call (V := fun v => ∃ B7 k7, v = .slice B7 (m - 1) k7) ?fwg27_33 ?awg27_33 [] (by kernel_rfl) (by rfl) (fun w9 => ?hwg27_33) (fun L9 m9 w9 hSh hAt hDn hS => ?cwg27_33)) (fun v3 hVv3 => ?rwg27_33)
    case hwg27_33 => go_simp; refine ⟨?_, ?_⟩ <;> rfl
    case cwg27_33 =>
     have hT := SeqN.at_ (m0 := m9) (m1 := m9) [] [7, 9] hSh (fun d hd => by cases hd) hDn (by kernel_rfl) hS
     have hrB : LB3.rd w9 Fr (some (ad.add 3)) (m - 1) l := by
      have h9 := Lay.rd_cut (k := 1) (cap := d) (Lay.rd_below HRB4.out hT) (by omega) (by omega)
      rw [if_neg hd1] at h9
      exact h9
     refine (rbatches_any Fr (some (ad.add 3)) (m - 1) (d - 1) l w9 hrB (by omega)).mono ?_
     rintro e w8 ⟨B8, k8, rfl, ho, q8⟩
     exact ⟨_, rfl, ⟨B8, k8, rfl⟩, SeqN.set_ (m0 := m9) (m1 := m9) [] [7, 9] hSh (fun d hd => by cases hd) hDn (by kernel_rfl) (by decide) (by decide) ⟨bl_ca hT q8, B8, k8, upd_same _ _ _, Lay.own_lessB (Lay.own_weak (fun b hb _ => hb.1) ho) hT.size⟩⟩
    try simp only [Act.put, sA, sZ, sS]
    obtain ⟨B7, k7, rfl⟩ := hVv3
    refine Pz 6 (some 22) (.pointer (some ⟨w.heap.size, 3, none⟩)) rfl rfl (by exact StepS.pure (SeqN.pass (by decide)) rfl fun _ => rfl) ?_
    try simp only [Act.put, sA, sZ, sS]
    refine Pz 7 none undef rfl rfl ?ywg27_35 ?rwg27_35
    case ywg27_35 =>
     refine StepS.store [3] (by kernel_rfl) (by rfl) (fun L9 m9 w9 hSh hAt hDn hS => ?_)
     obtain ⟨hT, B8, k8, hv, ho⟩ := SeqN.at_ [3] [9] hSh hAt hDn (by kernel_rfl) hS
     obtain ⟨rfl, rfl⟩ : B7 = B8 ∧ k7 = k8 := by have h9 : Value.slice B7 (m - 1) k7 = .slice B8 (m - 1) k8 := (hAt 3 (by simp)).2.symm.trans hv; simpa using h9
     have hN := HX4.out.ca hT
     have hch : Chg (fun k => k = w.heap.size) w4 w9 := Chg.of_below hT
     have hN2 : Blk (w9.setCell ⟨w.heap.size, 3, none⟩ (.slice B7 (m - 1) k7)) w.heap.size 36 #[.int .u32 r.ses, .int .u64 r.next, .slice A n c, .slice B7 (m - 1) k7, .int .i64 r.room, .bool r.over] := by simpa [RC.cells] using hN.set_ 3 (.slice B7 (m - 1) k7)
     have hg2 : w9.grownBy (w9.setCell ⟨w.heap.size, 3, none⟩ (.slice B7 (m - 1) k7)) (some w.heap.size) := only_setCell (World.grownBy.refl _ _) (.inl rfl) _
     have x2 := hN.cell 3
     have fx := hN.frozen 3
     refine ⟨w9.setCell ⟨w.heap.size, 3, none⟩ (.slice B7 (m - 1) k7), ?_, SeqN.set_ [3] [9] hSh hAt hDn (by kernel_rfl) (by decide) (by decide) ⟨hch.grown hg2 (fun k e => .inl (by injection e with e; exact e.symm)), B7, k7, hv, own_grownF ho hg2 (by omega) (fun b hb => by have := HFR.out b hb; omega), hN2⟩⟩
     clear hv ho hN hN2 hg2 hch hT hS
     go_simp
    try simp only [Act.put]
    refine Pz 8 (some 23) (.pointer (some ⟨w.heap.size, 5, none⟩)) rfl rfl (by exact StepS.pure (SeqN.pass (by decide)) rfl fun _ => rfl) ?_
    try simp only [Act.put, sA, sZ, sS]
    refine Pz 9 none undef rfl rfl ?ywg27_37 ?rwg27_37
    case ywg27_37 =>
     refine StepS.store [3, 7] (by kernel_rfl) (by rfl) (fun L9 m9 w9 hSh hAt hDn hS => ?_)
     obtain ⟨hch, B8, k8, hv, ho, hN⟩ := SeqN.at_ [3, 7] [] hSh hAt hDn (by kernel_rfl) hS
     obtain ⟨rfl, rfl⟩ : B7 = B8 ∧ k7 = k8 := by have h9 : Value.slice B7 (m - 1) k7 = .slice B8 (m - 1) k8 := (hAt 3 (by simp)).2.symm.trans hv; simpa using h9
     have hN2 : Blk (w9.setCell ⟨w.heap.size, 5, none⟩ (.bool b.fin)) w.heap.size 36 #[.int .u32 r.ses, .int .u64 r.next, .slice A n c, .slice B7 (m - 1) k7, .int .i64 r.room, .bool b.fin] := by simpa [RC.cells] using hN.set_ 5 (.bool b.fin)
     have hg2 : w9.grownBy (w9.setCell ⟨w.heap.size, 5, none⟩ (.bool b.fin)) (some w.heap.size) := only_setCell (World.grownBy.refl _ _) (.inl rfl) _
     have x2 := hN.cell 5
     have fx := hN.frozen 5
     refine ⟨w9.setCell ⟨w.heap.size, 5, none⟩ (.bool b.fin), ?_, SeqN.set_ [3, 7] [] hSh hAt hDn (by kernel_rfl) (by decide) (by decide) ⟨hch.grown hg2 (fun k e => .inl (by injection e with e; exact e.symm)), B7, k7, hv, own_grownF ho hg2 (by omega) (fun b hb => by have := HFR.out b hb; omega), hN2⟩⟩
     clear hv ho hN hN2 hg2 hch hS
     go_simp
    try simp only [Act.put]
    refine Ps.done (by kernel_rfl) (fun wg27 hS => ?_) _
    obtain ⟨hch, B8, k8, hv, ho, hN⟩ := SeqN.fin (by rfl) hS
    clear hS
    obtain ⟨rfl, rfl⟩ : B7 = B8 ∧ k7 = k8 := by have h9 : Value.slice B7 (m - 1) k7 = .slice B8 (m - 1) k8 := hv; simpa using h9
    clear hv
    have HCH := Lib.hid hch
    have HO7 := Lib.hid ho
    have HN7 := Lib.hid hN
    clear hch ho hN
    obtain ⟨w5, rfl⟩ : ∃ x, x = wg27 := ⟨_, rfl⟩
    have HT5 := Lib.hid (HT4.out.chg HCH.out (by omega))
    have H15 := Lib.hid (H14.out.chg HCH.out (by omega))
    have H25 := Lib.hid (H24.out.chg HCH.out (by omega))
    have HRA5 := Lib.hid (rd_chg HRA4.out HCH.out (fun b hb _ h => by have := HFR.out b hb; omega))
    have HXR5 := Lib.hid (rd_chg HXR4.out HCH.out (fun b hb _ h => by have := HFR.out b hb; omega))
    have hs5 := HCH.out.size
    clear HT4 H14 H24 HRA4 HRB4 HXR4 HX4
    go_wp2_with fail
    refine wp_region_ps (S := SeqN [2, 3] (fun z _ w' => match z with | 0 => w5.grownBy w' none | 1 => Chg (fun k => k = w.heap.size + 1 ∨ k = w.heap.size + 2) w5 w' ∧ Blk w' (w.heap.size + 1) 36 #[.int .u32 r.ses, .int .u64 r.next, .slice A n c, .slice B7 (m - 1) k7, .int .i64 r.room, .bool b.fin] ∧ Blk w' (w.heap.size + 2) 45 #[.slice none 0 0, .bool false, .int .u64 0] | _ => Chg (fun k => k = w.heap.size + 1 ∨ k = w.heap.size + 2) w5 w' ∧ Blk w' (w.heap.size + 1) 36 #[.int .u32 r.ses, .int .u64 r.next, .slice A n c, .slice B7 (m - 1) k7, .int .i64 r.room, .bool b.fin] ∧ Blk w' (w.heap.size + 2) 45 #[.slice Bx kx kc, .bool b.fin, .int .u64 b.cnt])) (by kernel_rfl) ?spswg38 ?ppswg38
    case spswg38 =>
     exact SeqN.start (by decide) (only_drew (World.grownBy.refl _ _))
    refine Pz 0 (some 24) (.agg #[.int .u32 (r.ses), .int .u64 (r.next), .slice A n c, .slice B7 (m - 1) k7, .int .i64 (r.room), .bool (b.fin)]) rfl rfl ?ywg38_39 ?rwg38_39
    case ywg38_39 =>
     refine StepS.read [] (by kernel_rfl) (SeqN.pass (by decide)) (by rfl) (fun L9 m9 w9 hSh hAt hDn hS => ?_)
     have hT : w5.grownBy w9 none := SeqN.two0 hSh (reach_no hSh (f := 8) (j := 2) (by kernel_rfl) hDn) (by kernel_rfl) hS
     have hT2 := HN7.out.grown hT (by simp)
     have x0 : w9.cell? ⟨w.heap.size, 0, none⟩ = some (.int .u32 (r.ses)) := hT2.cell 0
     have x1 : w9.cell? ⟨w.heap.size, 1, none⟩ = some (.int .u64 (r.next)) := hT2.cell 1
     have x2 : w9.cell? ⟨w.heap.size, 2, none⟩ = some (.slice A n c) := hT2.cell 2
     have x3 : w9.cell? ⟨w.heap.size, 3, none⟩ = some (.slice B7 (m - 1) k7) := hT2.cell 3
     have x4 : w9.cell? ⟨w.heap.size, 4, none⟩ = some (.int .i64 (r.room)) := hT2.cell 4
     have x5 : w9.cell? ⟨w.heap.size, 5, none⟩ = some (.bool (b.fin)) := hT2.cell 5
     clear hT hT2 hS
     go_simp
     try rfl
    try simp only [Act.put, sA, sZ, sS]
    refine Pz 1 (some 25) (.agg #[.slice Bx kx kc, .bool (b.fin), .int .u64 (b.cnt)]) rfl rfl ?ywg38_40 ?rwg38_40
    case ywg38_40 =>
     refine StepS.read [] (by kernel_rfl) (SeqN.pass (by decide)) (by rfl) (fun L9 m9 w9 hSh hAt hDn hS => ?_)
     have hT : Blk w9 (w.heap.size + 3) 45 #[.slice Bx kx kc, .bool b.fin, .int .u64 b.cnt] := SeqN.any (T := fun w9 => Blk w9 (w.heap.size + 3) 45 #[.slice Bx kx kc, .bool b.fin, .int .u64 b.cnt]) (fun z _ _ h => by match z, h with | 0, h => exact HT5.out.grown h (by simp) | 1, h => exact HT5.out.chg h.1 (by omega) | _ + 2, h => exact HT5.out.chg h.1 (by omega)) hS
     have x0 := hT.cell 0
     have x1 := hT.cell 1
     have x2 := hT.cell 2
     clear hT hS
     go_simp
     try rfl
    try simp only [Act.put, sA, sZ, sS]
    refine Pz 2 none undef rfl rfl ?ywg38_41 ?rwg38_41
    case ywg38_41 =>
     refine StepS.store [] (by kernel_rfl) (by rfl) (fun L9 m9 w9 hSh hAt hDn hS => ?_)
     have hT := SeqN.at_ (m0 := m9) (m1 := m9) [] [3] hSh (fun d hd => by cases hd) hDn (by kernel_rfl) hS
     refine (exec_store_blk (w := w9) 36 (.tmp 2) (.tmp 24) (by rfl) (w.heap.size + 1) 36 #[.int .u32 0, .int .u64 0, .slice none 0 0, .slice none 0 0, .int .i64 0, .bool false] #[.int .u32 r.ses, .int .u64 r.next, .slice A n c, .slice B7 (m - 1) k7, .int .i64 r.room, .bool b.fin] (by rfl) (by rfl) (H15.out.grown hT (by simp)) rfl receiverI (by simp [Value.oneCell'])).imp fun w7 hx => ⟨hx.1, SeqN.set_ (m0 := m9) (m1 := m9) [] [3] hSh (fun d hd => by cases hd) hDn (by kernel_rfl) (by decide) (by decide) ⟨Chg.grown (Chg.of_gr hT) hx.2.2 (fun k e => .inl (.inl (by injection e with e; exact e.symm))), hx.2.1, (H25.out.grown hT (by simp)).apart hx.2.2 (by omega)⟩⟩
    try simp only [Act.put]
    refine Pz 3 none undef rfl rfl ?ywg38_42 ?rwg38_42
    case ywg38_42 =>
     refine StepS.store [2] (by kernel_rfl) (by rfl) (fun L9 m9 w9 hSh hAt hDn hS => ?_)
     obtain ⟨hc, hb, hb2⟩ := SeqN.at_ [2] [] hSh hAt hDn (by kernel_rfl) hS
     refine (exec_store_blk (w := w9) 45 (.tmp 3) (.tmp 25) (by rfl) (w.heap.size + 2) 45 #[.slice none 0 0, .bool false, .int .u64 0] #[.slice Bx kx kc, .bool b.fin, .int .u64 b.cnt] (by rfl) (by rfl) hb2 rfl batchI2 (by simp [Value.oneCell'])).imp fun w7 hx => ⟨hx.1, SeqN.set_ [2] [] hSh hAt hDn (by kernel_rfl) (by decide) (by decide) ⟨hc.grown hx.2.2 (fun k e => .inl (.inr (by injection e with e; exact e.symm))), hb.apart hx.2.2 (by omega), hx.2.1⟩⟩
    try simp only [Act.put]
    refine Pz 4 (some 4) (.int .i64 (0)) rfl rfl (by exact StepS.pure (SeqN.pass (by decide)) rfl fun _ => rfl) ?_
    try simp only [Act.put, sA, sZ, sS]
    refine Ps.done (by kernel_rfl) (fun wg38 hS => ?_) _
    obtain ⟨hc, hb, hb2⟩ := SeqN.fin (by rfl) hS
    clear hS
    have HCG := Lib.hid hc
    have HB7 := Lib.hid hb
    have HB8 := Lib.hid hb2
    clear hc hb hb2
    obtain ⟨w7, rfl⟩ : ∃ x, x = wg38 := ⟨_, rfl⟩
    have hbel : Below w.heap.size w w7 := by
     have h2 : Chg (fun k => w.heap.size ≤ k) w4 w5 := HCH.out.weak (fun b _ h => by omega)
     have h4 : Chg (fun k => w.heap.size ≤ k) w5 w7 := HCG.out.weak (fun b _ h => by omega)
     exact (((Chg.of_below HQ14.out).trans h2).trans h4).bel (Below.refl _ _) (fun b hb h => by omega) (Nat.le_refl _)
    have hoF := rd_chg (Lay.own_rd (F := fun b => Fr b ∨ w4.heap.size ≤ b) HO7.out (fun b hb _ => .inr hb) (fun b hb _ => .inl hb)) HCG.out (fun b hb _ h => hb.elim (fun h2 => by have := HFR.out b h2; omega) (fun h2 => by omega))
    have hcp := Lay.own_caps HO7.out
    go_wp2
    refine bodyPost_ret (res4 Try.results35 rfl rfl rfl HB7.out Try.underlying36 rfl receiverI HB8.out Try.underlying45 rfl batchI2) rfl ?_
    exact ⟨A, n, c, B7, m - 1, k7, Bx, kx, kc, by rw [HT.out.1, HT.out.2.1, HT.out.2.2]; rfl, hbel, by rw [HT.out.1]; exact Lay.rd_weak (fun b hb _ => .inl hb) (rd_chg HRA5.out HCG.out (fun b hb _ h => by have := HFR.out b hb; omega)), hnc, hcm, by rw [HT.out.1]; exact Lay.rd_weak (fun b hb _ => hb.elim .inl (fun h => .inr (by omega))) hoF, hcp.1, hcp.2, by rw [HT.out.2.1]; exact rd_chg HXR5.out HCG.out (fun b hb _ h => by have := HFR.out b hb; omega), hk1, hk2⟩
end Go.Proofs.Ytojghgbaiiajfaa
/- link.Hear, whole, as its callers need it. Conditions: the rows read as these batches. -/
namespace Go.Proofs.Ytojghgbaiiajfaa
open Go.RowKit
def heaT (r : RC) (pk : PK) : RC := if recB r then hearR r pk else zeroR
set_option maxRecDepth 100000 in
theorem hear_law_any (Fr : Nat → Prop) (r : RC) (A : Option Addr) (n c : Nat) (A2 : Option Addr) (m d : Nat) (pk : PK) (pA : Option Addr) (pn pc : Nat) (w : World) (hFr : ∀ k, Fr k → k < w.heap.size) (h : LH4.rd w Fr A n r.ahead) (h2 : LB3.rd w Fr A2 m r.buf) (hr : LR.rd w Fr pA pn pk.b.rows) (hn : n ≤ 9223372036854775807) (hm : m ≤ 9223372036854775807) (hpn : pn ≤ pc) (hpc : pc ≤ 9223372036854775807) :
 Calls Try.prog 29 #[.agg (r.cells A n c A2 m d), .agg (pk.cells pA pn pc)] w fun e w' => ∃ A3 n3 c3 B3 m3 d3, e = .returned (.tuple #[.agg ((heaT r pk).cells A3 n3 c3 B3 m3 d3), .int .i64 (if recB r then 0 else 320)]) ∧ Below w.heap.size w w' ∧ RecO w' w.heap.size (fun k => k < w'.heap.size ∧ (Fr k ∨ w.heap.size ≤ k)) A3 n3 c3 B3 m3 d3 (heaT r pk) := by
 refine (hear_do Fr r (hearR r pk) A n c A2 m d pk pA pn pc w hFr h h2 hr hn hm (fun w0 hp hr0 hF0 => hear1_do r pk (w.heap.size + 1) pA pn pc w0 Fr hF0 hp hr0 hpn hpc)).mono ?_
 rintro e w' ⟨t, A', n', c', B', m', d', N, rfl, ho⟩
 unfold HearsO at ho
 unfold heaT
 cases hs : recB r
 · rw [hs] at ho
   obtain ⟨hC, hN, hb⟩ := ho
   exact ⟨none, 0, 0, none, 0, 0, by rw [hC, hN]; rfl, hb, RecO.none _ _ _⟩
 · rw [hs] at ho
   obtain ⟨hc, _, h3⟩ := ho
   rcases h3 with ⟨h3, _⟩ | ⟨_, hN, A3, n3, c3, A4, m4, d4, hC, hR⟩
   · exact absurd rfl h3
   · exact ⟨A3, n3, c3, A4, m4, d4, by rw [hC, hN]; rfl, ⟨hc.os, hc.tape, hc.output, hc.size, fun b hb => hc.block b hb (fun e => e)⟩, hR.chg (X := fun _ => False) (Chg.refl _ _) (by omega) (fun _ h => h.elim) (fun k hk => ⟨fun h => h, hk.1, hk.2.elim .inl (fun h => .inr (by omega))⟩)⟩
end Go.Proofs.Ytojghgbaiiajfaa
