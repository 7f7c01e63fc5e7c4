/- link.Ack. Conditions: the slices read as these batches. -/
import Derived.Test.YtojghgbaiiajfaaPkO10
namespace Go.Proofs.Ytojghgbaiiajfaa
open Go.RowKit
theorem packetI : (Try.prog.info? 47).map (·.size) = some 7 := by kernel_rfl
def zeroP : PK := ⟨0, 0, 0, 0, ⟨[], false, 0⟩⟩
def ackR (r : RC) : PK := if recB r then ⟨2, r.ses, r.next, limR r, ⟨[], false, 0⟩⟩ else zeroP
def AckC (r : RC) (w : World) (e : Ending) (w' : World) : Prop := e = .returned (.tuple #[.agg ((ackR r).cells none 0 0), .int .i64 (if recB r then 0 else 320)]) ∧ Below w.heap.size w w'
theorem ack_yes {r : RC} {w w' : World} {e : Ending} (h : recB r = true) (h1 : e = .returned (.tuple #[.agg (PK.cells ⟨2, r.ses, r.next, limR r, ⟨[], false, 0⟩⟩ none 0 0), .int .i64 0])) (h2 : Below w.heap.size w w') : AckC r w e w' := by
  unfold AckC ackR
  rw [h]
  exact ⟨h1, h2⟩
theorem ack_no {r : RC} {w w' : World} {e : Ending} (h : recB r = false) (h1 : e = .returned (.tuple #[.agg (zeroP.cells none 0 0), .int .i64 320])) (h2 : Below w.heap.size w w') : AckC r w e w' := by
  unfold AckC ackR
  rw [h]
  exact ⟨h1, h2⟩
theorem recB_rng {r : RC} (h : recB r = true) : 1 ≤ r.next ∧ r.next ≤ 1099511627777 ∧ (r.buf.length : Int) ≤ r.room ∧ r.room ≤ 8 := by
  unfold recB recA at h
  simp only [Bool.and_eq_true, decide_eq_true_eq] at h
  omega
theorem Seq1.keep0 {k1 : Nat} {B0 B1 : (Nat → Value) → World → Prop} {L : Array Bool} {m : Nat → Value} {w : World} (h1 : Dn L k1 = false) (h : B0 m w) : Seq1 k1 B0 B1 L m w := by
  unfold Seq1 Sk1
  exact ⟨fun _ => h, fun e => by rw [h1] at e; cases e⟩
set_option maxRecDepth 100000 in
set_option maxHeartbeats 16000000 in
theorem ack_any (Fr F2 : Nat → Prop) (r : RC) (A : Option Addr) (n c : Nat) (B : Option Addr) (m d : Nat) (w : World) (h : LH4.rd w Fr A n r.ahead) (h2 : LB3.rd w F2 B m r.buf) (hn : n ≤ 9223372036854775807) (hm : m ≤ 9223372036854775807) :
    Calls Try.prog 31 #[.agg (r.cells A n c B m d)] w (AckC r w) := by
  have q1 := bl_al (Below.refl w.heap.size w) (.cells (r.cells A n c B m d) 36)
  have q2 := bl_al (Below.refl (w.alloc (.cells (r.cells A n c B m d) 36)).heap.size (w.alloc (.cells (r.cells A n c B m d) 36))) (.cells (zeroP.cells none 0 0) 47)
  have HB := Lib.hid (bl_ca q1 q2)
  have HS := Lib.hid ((Blk.new w 36 (r.cells A n c B m d)).ca q2)
  have HZ := Lib.hid (show Blk ((w.alloc (.cells (r.cells A n c B m d) 36)).alloc (.cells (zeroP.cells none 0 0) 47)) (w.heap.size + 1) 47 (zeroP.cells none 0 0) from Blk.mk' (by simp only [World.size_alloc]))
  have HCK := Lib.hid (crecv_any Fr F2 r A n c B m d _ (Lay.rd_below (Lay.rd_below h q1) q2) (Lay.rd_below (Lay.rd_below h2 q1) q2) hn hm)
  have HLB := Lib.hid (Lay.rd_len h2)
  have hsz : ((w.alloc (.cells (r.cells A n c B m d) 36)).alloc (.cells (zeroP.cells none 0 0) 47)).heap.size = w.heap.size + 2 := by simp only [World.size_alloc]
  clear q1 q2 h h2
  cases hok : recB r
  · have HOK := Lib.hid hok
    rw [hok] at HCK
    clear hok
    go_enter Try.func31, Try.ntmps31
    go_wp2_with (refine wpList_load_blk rfl 36 (.tmp 1) rfl w.heap.size rfl 36 _ (r.cells A n c B m d) HS.out rfl rfl receiverI ?_)
    refine HCK.out.mono ?_
    rintro e w2 ⟨rfl, q2⟩
    have HB2 := Lib.hid (bl_ca HB.out q2)
    have HZ2 := Lib.hid (HZ.out.ca q2)
    clear q2 HCK HS HB HZ
    go_wp2_with (refine wpList_store_blk rfl 47 (.tmp 2) (.tmp 9) rfl (w.heap.size + 1) 47 _ (zeroP.cells none 0 0) rfl rfl HZ2.out rfl packetI (by simp [Value.oneCell']) ?_; intro wz hZ gz)
    exact bodyPost_ret (res2 Try.results31 rfl rfl hZ Try.underlying47 rfl packetI) rfl (ack_no HOK.out rfl (bl_gr HB2.out gz (by omega)))
  · have HOK := Lib.hid hok
    rw [hok] at HCK
    have hrg := recB_rng hok
    clear hok
    go_enter Try.func31, Try.ntmps31
    go_wp2_with (refine wpList_load_blk rfl 36 (.tmp 1) rfl w.heap.size rfl 36 _ (r.cells A n c B m d) HS.out rfl rfl receiverI ?_)
    refine HCK.out.mono ?_
    rintro e w2 ⟨rfl, q2⟩
    have HB2 := Lib.hid (bl_ca HB.out q2)
    have HZ2 := Lib.hid (HZ.out.ca q2)
    have HS2 := Lib.hid (HS.out.ca q2)
    have hs2 := q2.size
    clear q2 HCK HS HB HZ
    go_wp2_with fail
    refine wp_region_ps (S := Seq1 7 (fun _ w' => Below w2.heap.size w2 w') (fun _ w' => ∃ w6, Below w2.heap.size w2 w6 ∧ Blk w' (w.heap.size + 1) 47 (PK.cells ⟨2, r.ses, r.next, limR r, ⟨[], false, 0⟩⟩ none 0 0) ∧ w6.grownBy w' (some (w.heap.size + 1)))) (by kernel_rfl) ?spswq ?ppswq
    case spswq =>
      exact Seq1.start (by decide) (Below.refl _ _).drew
    refine Ps.step (i := 0) (d := some 11) (u := ?uwq_1) rfl rfl (by kernel_rfl) (by kernel_rfl) (by kernel_rfl) (by kernel_rfl) ?ywq_1 ?rwq_1
    case ywq_1 =>
      refine StepS.pure (Seq1.pass (by decide)) (by rfl) (fun w9 => ?_)
      go_simp
      try rfl
    try simp only [Act.put, List.setIfInBounds_toArray, List.set_cons_zero, List.set_cons_succ]
    refine Ps.step (i := 1) (d := some 12) (u := ?uwq_2) rfl rfl (by kernel_rfl) (by kernel_rfl) (by kernel_rfl) (by kernel_rfl) ?ywq_2 ?rwq_2
    case ywq_2 =>
      refine StepS.read [] (by kernel_rfl) (Seq1.pass (by decide)) (by rfl) (fun L9 m9 w9 hSh hAt hDn hS => ?_)
      have hT : Blk w9 w.heap.size 36 (r.cells A n c B m d) := Seq1.any (T := fun w9 => Blk w9 w.heap.size 36 (r.cells A n c B m d)) (fun _ _ h => HS2.out.ca h) (fun _ _ ⟨_, h1, _, h3⟩ => (HS2.out.ca h1).apart h3 (by omega)) hS
      have x0 : w9.cell? ⟨w.heap.size, 0, none⟩ = some (.int .u32 r.ses) := hT.cell 0
      clear hT hS
      go_simp
      try rfl
    try simp only [Act.put, List.setIfInBounds_toArray, List.set_cons_zero, List.set_cons_succ]
    refine Ps.step (i := 2) (d := some 13) (u := ?uwq_3) rfl rfl (by kernel_rfl) (by kernel_rfl) (by kernel_rfl) (by kernel_rfl) ?ywq_3 ?rwq_3
    case ywq_3 =>
      refine StepS.pure (Seq1.pass (by decide)) (by rfl) (fun w9 => ?_)
      go_simp
      try rfl
    try simp only [Act.put, List.setIfInBounds_toArray, List.set_cons_zero, List.set_cons_succ]
    refine Ps.step (i := 3) (d := some 14) (u := ?uwq_4) rfl rfl (by kernel_rfl) (by kernel_rfl) (by kernel_rfl) (by kernel_rfl) ?ywq_4 ?rwq_4
    case ywq_4 =>
      refine StepS.read [] (by kernel_rfl) (Seq1.pass (by decide)) (by rfl) (fun L9 m9 w9 hSh hAt hDn hS => ?_)
      have hT : Blk w9 w.heap.size 36 (r.cells A n c B m d) := Seq1.any (T := fun w9 => Blk w9 w.heap.size 36 (r.cells A n c B m d)) (fun _ _ h => HS2.out.ca h) (fun _ _ ⟨_, h1, _, h3⟩ => (HS2.out.ca h1).apart h3 (by omega)) hS
      have x1 : w9.cell? ⟨w.heap.size, 1, none⟩ = some (.int .u64 r.next) := hT.cell 1
      clear hT hS
      go_simp
      try rfl
    try simp only [Act.put, List.setIfInBounds_toArray, List.set_cons_zero, List.set_cons_succ]
    refine Ps.step (i := 4) (d := some 15) (u := ?uwq_5) rfl rfl (by kernel_rfl) (by kernel_rfl) (by kernel_rfl) (by kernel_rfl) ?ywq_5 ?rwq_5
    case ywq_5 =>
      refine StepS.read [] (by kernel_rfl) (Seq1.pass (by decide)) (by rfl) (fun L9 m9 w9 hSh hAt hDn hS => ?_)
      have hT : Blk w9 w.heap.size 36 (r.cells A n c B m d) := Seq1.any (T := fun w9 => Blk w9 w.heap.size 36 (r.cells A n c B m d)) (fun _ _ h => HS2.out.ca h) (fun _ _ ⟨_, h1, _, h3⟩ => (HS2.out.ca h1).apart h3 (by omega)) hS
      have x0 : w9.cell? ⟨w.heap.size, 0, none⟩ = some (.int .u32 r.ses) := hT.cell 0
      have x1 : w9.cell? ⟨w.heap.size, 1, none⟩ = some (.int .u64 r.next) := hT.cell 1
      have x2 : w9.cell? ⟨w.heap.size, 2, none⟩ = some (.slice A n c) := hT.cell 2
      have x3 : w9.cell? ⟨w.heap.size, 3, none⟩ = some (.slice B m d) := hT.cell 3
      have x4 : w9.cell? ⟨w.heap.size, 4, none⟩ = some (.int .i64 r.room) := hT.cell 4
      have x5 : w9.cell? ⟨w.heap.size, 5, none⟩ = some (.bool r.over) := hT.cell 5
      clear hT hS
      go_simp
      try rfl
    try simp only [Act.put, List.setIfInBounds_toArray, List.set_cons_zero, List.set_cons_succ]
    refine Ps.step (i := 5) (d := some 16) (u := (.int .u64 (limR r))) rfl rfl (by kernel_rfl) (by kernel_rfl) (by kernel_rfl) (by kernel_rfl) ?ywq_6 ?rwq_6
    case ywq_6 =>
      refine StepS.call ?fwq_6 ?awq_6 [] (by kernel_rfl) (by rfl) (fun w9 => ?hwq_6) (fun L9 m9 w9 hSh hAt hDn hS => ?cwq_6)
      case hwq_6 => go_simp; refine ⟨?_, ?_⟩ <;> rfl
      case cwq_6 =>
        have hd7 := reach_no hSh (f := 9) (j := 7) (by kernel_rfl) hDn
        have hT := Seq1.at1 hd7 hS
        refine (limit_any r A n c B m d w9 HLB.out hrg.1 (by omega) (by rw [← HLB.out]; exact hrg.2.2.1) hrg.2.2.2).mono ?_
        rintro e w8 ⟨rfl, q8⟩
        exact ⟨rfl, Seq1.keep0 ((dn_ne (by decide)).trans hd7) (bl_ca hT q8)⟩
    try simp only [Act.put, List.setIfInBounds_toArray, List.set_cons_zero, List.set_cons_succ]
    refine Ps.step (i := 6) (d := some 17) (u := ?uwq_7) rfl rfl (by kernel_rfl) (by kernel_rfl) (by kernel_rfl) (by kernel_rfl) ?ywq_7 ?rwq_7
    case ywq_7 =>
      refine StepS.pure (Seq1.pass (by decide)) (by rfl) (fun w9 => ?_)
      go_simp
      try rfl
    try simp only [Act.put, List.setIfInBounds_toArray, List.set_cons_zero, List.set_cons_succ]
    refine Ps.step (i := 7) (d := none) (u := undef) rfl rfl (by kernel_rfl) (by kernel_rfl) (by kernel_rfl) (by kernel_rfl) ?ywq_8 ?rwq_8
    case ywq_8 =>
      refine StepS.store [] (by kernel_rfl) (by rfl) (fun L9 m9 w9 hSh hAt hDn hS => ?_)
      have hT := Seq1.at1 hDn hS
      refine (exec_store_blk (w := w9) 47 (.tmp 2) (.tmp 17) (by rfl) (w.heap.size + 1) 47 (zeroP.cells none 0 0) (PK.cells ⟨2, r.ses, r.next, limR r, ⟨[], false, 0⟩⟩ none 0 0) (by rfl) (by rfl) (HZ2.out.ca hT) rfl packetI (by simp [Value.oneCell'])).imp fun w7 hx => ⟨hx.1, Seq1.set1 ⟨w9, hT, hx.2.1, hx.2.2⟩⟩
    try simp only [Act.put]
    refine Ps.step (i := 8) (d := some 3) (u := ?uwq_9) rfl rfl (by kernel_rfl) (by kernel_rfl) (by kernel_rfl) (by kernel_rfl) ?ywq_9 ?rwq_9
    case ywq_9 =>
      refine StepS.pure (Seq1.pass (by decide)) (by rfl) (fun w9 => ?_)
      go_simp
      try rfl
    try simp only [Act.put, List.setIfInBounds_toArray, List.set_cons_zero, List.set_cons_succ]
    refine Ps.done (by kernel_rfl) (fun wq hS => ?_) _
    obtain ⟨w6, hT, hZ, gz⟩ := Seq1.fin (by rfl) hS
    clear hS
    go_wp2
    exact bodyPost_ret (res2 Try.results31 rfl rfl hZ Try.underlying47 rfl packetI) rfl (ack_yes HOK.out rfl (bl_gr (bl_ca HB2.out hT) gz (by omega)))
end Go.Proofs.Ytojghgbaiiajfaa
