/- bowspritref22.SamePacket, SamePackets. Conditions: the rows read so. -/
import Derived.Test.YtojghgbaiiajfaaPkS25
namespace Go.Proofs.Ytojghgbaiiajfaa
open Go.RowKit
def eqPK (a b : PK) : Bool := decide (a.kind = b.kind) && decide (a.ses = b.ses) && decide (a.seq = b.seq) && decide (a.lim = b.lim) && eqBC a.b b.b
theorem eqPK_iff (a b : PK) : eqPK a b = true ↔ a = b := by
  rcases a with ⟨a0, a1, a2, a3, a4⟩
  rcases b with ⟨b0, b1, b2, b3, b4⟩
  simp [eqPK, eqBC_iff]
  exact ⟨fun ⟨⟨⟨⟨x, y⟩, z⟩, u⟩, v⟩ => ⟨x, y, z, u, v⟩, fun ⟨x, y, z, u, v⟩ => ⟨⟨⟨⟨x, y⟩, z⟩, u⟩, v⟩⟩
instance : DecidableEq PK := fun a b => decidable_of_iff (eqPK a b = true) (eqPK_iff a b)
set_option maxRecDepth 100000 in
set_option maxHeartbeats 8000000 in
theorem rsameP_any (F G : Nat → Prop) (a b : PK) (A B : Option Addr) (m c n d : Nat) (w : World) (hx : LR.rd w F A m a.b.rows) (hy : LR.rd w G B n b.b.rows) (hm : m ≤ 9223372036854775807) :
    Calls Try.prog 32 #[.agg (a.cells A m c), .agg (b.cells B n d)] w fun e w' => e = .returned (.bool (eqPK a b)) ∧ Below w.heap.size w w' := by
  obtain ⟨r, hr⟩ : ∃ r, r = eqPK a b := ⟨_, rfl⟩
  rw [← hr]
  have HRR := Lib.hid hr
  clear hr
  have q1 := bl_al (Below.refl w.heap.size w) (.cells #[.int .i64 a.kind, .int .u32 a.ses, .int .u64 a.seq, .int .u64 a.lim, .slice A m c, .bool a.b.fin, .int .u64 a.b.cnt] 47)
  have q2 := bl_al q1 (.cells #[.int .i64 b.kind, .int .u32 b.ses, .int .u64 b.seq, .int .u64 b.lim, .slice B n d, .bool b.b.fin, .int .u64 b.b.cnt] 47)
  have HX := Lib.hid (Lay.rd_below hx q2)
  have HY := Lib.hid (Lay.rd_below hy q2)
  have HB1 := Lib.hid ((Blk.new w 47 #[.int .i64 a.kind, .int .u32 a.ses, .int .u64 a.seq, .int .u64 a.lim, .slice A m c, .bool a.b.fin, .int .u64 a.b.cnt]).alloc (.cells #[.int .i64 b.kind, .int .u32 b.ses, .int .u64 b.seq, .int .u64 b.lim, .slice B n d, .bool b.b.fin, .int .u64 b.b.cnt] 47))
  have HB2 := Lib.hid (show Blk ((w.alloc (.cells #[.int .i64 a.kind, .int .u32 a.ses, .int .u64 a.seq, .int .u64 a.lim, .slice A m c, .bool a.b.fin, .int .u64 a.b.cnt] 47)).alloc (.cells #[.int .i64 b.kind, .int .u32 b.ses, .int .u64 b.seq, .int .u64 b.lim, .slice B n d, .bool b.b.fin, .int .u64 b.b.cnt] 47)) (w.heap.size + 1) 47 #[.int .i64 b.kind, .int .u32 b.ses, .int .u64 b.seq, .int .u64 b.lim, .slice B n d, .bool b.b.fin, .int .u64 b.b.cnt] from by have := Blk.new (w.alloc (.cells #[.int .i64 a.kind, .int .u32 a.ses, .int .u64 a.seq, .int .u64 a.lim, .slice A m c, .bool a.b.fin, .int .u64 a.b.cnt] 47)) 47 #[.int .i64 b.kind, .int .u32 b.ses, .int .u64 b.seq, .int .u64 b.lim, .slice B n d, .bool b.b.fin, .int .u64 b.b.cnt]; simp only [World.size_alloc] at this; exact this)
  have HQ := Lib.hid q2
  clear hx hy q1 q2
  go_enter Try.func32, Try.ntmps32
  go_upto_region 1 with fail
  generalize ((w.alloc (.cells #[.int .i64 a.kind, .int .u32 a.ses, .int .u64 a.seq, .int .u64 a.lim, .slice A m c, .bool a.b.fin, .int .u64 a.b.cnt] 47)).alloc (.cells #[.int .i64 b.kind, .int .u32 b.ses, .int .u64 b.seq, .int .u64 b.lim, .slice B n d, .bool b.b.fin, .int .u64 b.b.cnt] 47)) = w1 at *
  refine wp_region_ps0 .text (S := fun _ _ w' => Below w1.heap.size w1 w') (by kernel_rfl) ?spswg1 ?ppswg1
  case spswg1 =>
    exact (Below.refl w1.heap.size w1)
  refine Ps.st (i := 0) (d := some 5) (u := (.pointer (some ⟨w.heap.size, 0, none⟩))) rfl rfl (by exact StepS.pure nP rfl fun _ => rfl) ?_
  try simp only [Act.put, sA, sZ, sS]
  refine Ps.st (i := 1) (d := some 6) (u := (.int .i64 (a.kind))) rfl rfl ?ywg1_3 ?rwg1_3
  case ywg1_3 =>
    refine StepS.read [] (by kernel_rfl) nP (by rfl) (fun L9 m9 w9 hSh hAt hDn hS => ?_)
    have hT : Below _ _ w9 := hS
    have x0 : w9.cell? ⟨w.heap.size, 0, none⟩ = some (.int .i64 (a.kind)) := (HB1.out.ca hT).cell 0
    clear hT hS
    go_simp
    try rfl
  try simp only [Act.put, sA, sZ, sS]
  refine Ps.st (i := 2) (d := some 7) (u := (.pointer (some ⟨w.heap.size + 1, 0, none⟩))) rfl rfl (by exact StepS.pure nP rfl fun _ => rfl) ?_
  try simp only [Act.put, sA, sZ, sS]
  refine Ps.st (i := 3) (d := some 8) (u := (.int .i64 (b.kind))) rfl rfl ?ywg1_5 ?rwg1_5
  case ywg1_5 =>
    refine StepS.read [] (by kernel_rfl) nP (by rfl) (fun L9 m9 w9 hSh hAt hDn hS => ?_)
    have hT : Below _ _ w9 := hS
    have x0 : w9.cell? ⟨w.heap.size + 1, 0, none⟩ = some (.int .i64 (b.kind)) := (HB2.out.ca hT).cell 0
    clear hT hS
    go_simp
    try rfl
  try simp only [Act.put, sA, sZ, sS]
  refine Ps.st (i := 4) (d := some 9) (u := (.bool (decide (a.kind = b.kind)))) rfl rfl (by exact StepS.pure nP rfl fun _ => rfl) ?_
  try simp only [Act.put, sA, sZ, sS]
  obtain ⟨b1_5, hb9⟩ : ∃ zb : Bool, zb = (decide (a.kind = b.kind)) := ⟨_, rfl⟩
  have HEb1_5 := Lib.hid hb9
  clear hb9
  refine Ps.st (i := 5) (d := some 10) (u := (.bool (b1_5))) rfl rfl ?ywg1_7 ?rwg1_7
  case ywg1_7 =>
    refine StepS.pure nP (by rfl) (fun w9 => ?_)
    have e9 : (decide (a.kind = b.kind)) = b1_5 := by rw [HEb1_5.out]
    rw [← e9]
    clear e9
    first | rfl | (go_simp; done) | (go_simp; rfl)
  try simp only [Act.put, sA, sZ, sS]
  refine Ps.st (i := 6) (d := some 11) (u := (cond b1_5 (.pointer (some ⟨w.heap.size, 1, none⟩)) (undef))) rfl rfl (by cases b1_5; exact StepS.skip nP rfl; exact StepS.pure nP rfl fun _ => rfl) ?_
  try simp only [Act.put, sA, sZ, sS]
  refine Ps.st (i := 7) (d := some 12) (u := (cond b1_5 (.int .u32 (a.ses)) (undef))) rfl rfl ?ywg1_9 ?rwg1_9
  case ywg1_9 =>
    cases b1_5
    · exact StepS.skip nP (by rfl)
    · skip
      refine StepS.read [] (by kernel_rfl) nP (by rfl) (fun L9 m9 w9 hSh hAt hDn hS => ?_)
      have hT : Below _ _ w9 := hS
      have x0 : w9.cell? ⟨w.heap.size, 1, none⟩ = some (.int .u32 (a.ses)) := (HB1.out.ca hT).cell 1
      clear hT hS
      go_simp
      try rfl
  try simp only [Act.put, sA, sZ, sS]
  refine Ps.st (i := 8) (d := some 13) (u := (cond b1_5 (.pointer (some ⟨w.heap.size + 1, 1, none⟩)) (undef))) rfl rfl (by cases b1_5; exact StepS.skip nP rfl; exact StepS.pure nP rfl fun _ => rfl) ?_
  try simp only [Act.put, sA, sZ, sS]
  refine Ps.st (i := 9) (d := some 14) (u := (cond b1_5 (.int .u32 (b.ses)) (undef))) rfl rfl ?ywg1_11 ?rwg1_11
  case ywg1_11 =>
    cases b1_5
    · exact StepS.skip nP (by rfl)
    · skip
      refine StepS.read [] (by kernel_rfl) nP (by rfl) (fun L9 m9 w9 hSh hAt hDn hS => ?_)
      have hT : Below _ _ w9 := hS
      have x0 : w9.cell? ⟨w.heap.size + 1, 1, none⟩ = some (.int .u32 (b.ses)) := (HB2.out.ca hT).cell 1
      clear hT hS
      go_simp
      try rfl
  try simp only [Act.put, sA, sZ, sS]
  refine Ps.st (i := 10) (d := some 15) (u := (cond b1_5 (.bool (decide (a.ses = b.ses))) (undef))) rfl rfl (by cases b1_5; exact StepS.skip nP rfl; exact StepS.pure nP rfl fun _ => rfl) ?_
  try simp only [Act.put, sA, sZ, sS]
  refine Ps.st (i := 11) (d := some 16) (u := (.bool (b1_5 && (decide (a.ses = b.ses))))) rfl rfl ?ywg1_13 ?rwg1_13
  case ywg1_13 =>
    refine StepS.pure nP (by rfl) (fun w9 => ?_)
    cases b1_5 <;> (first | rfl | (go_simp; done) | (go_simp; rfl))
  try simp only [Act.put, sA, sZ, sS]
  obtain ⟨b1_12, hb9⟩ : ∃ zb : Bool, zb = ((decide (a.kind = b.kind)) && (decide (a.ses = b.ses))) := ⟨_, rfl⟩
  have HEb1_12 := Lib.hid hb9
  clear hb9
  refine Ps.st (i := 12) (d := some 17) (u := (.bool (b1_12))) rfl rfl ?ywg1_14 ?rwg1_14
  case ywg1_14 =>
    refine StepS.pure nP (by rfl) (fun w9 => ?_)
    have e9 : (b1_5 && (decide (a.ses = b.ses))) = b1_12 := by rw [HEb1_12.out, HEb1_5.out]
    rw [← e9]
    clear e9
    first | rfl | (go_simp; done) | (go_simp; rfl)
  try simp only [Act.put, sA, sZ, sS]
  refine Ps.st (i := 13) (d := some 18) (u := (cond b1_12 (.pointer (some ⟨w.heap.size, 2, none⟩)) (undef))) rfl rfl (by cases b1_12; exact StepS.skip nP rfl; exact StepS.pure nP rfl fun _ => rfl) ?_
  try simp only [Act.put, sA, sZ, sS]
  refine Ps.st (i := 14) (d := some 19) (u := (cond b1_12 (.int .u64 (a.seq)) (undef))) rfl rfl ?ywg1_16 ?rwg1_16
  case ywg1_16 =>
    cases b1_12
    · exact StepS.skip nP (by rfl)
    · skip
      refine StepS.read [] (by kernel_rfl) nP (by rfl) (fun L9 m9 w9 hSh hAt hDn hS => ?_)
      have hT : Below _ _ w9 := hS
      have x0 : w9.cell? ⟨w.heap.size, 2, none⟩ = some (.int .u64 (a.seq)) := (HB1.out.ca hT).cell 2
      clear hT hS
      go_simp
      try rfl
  try simp only [Act.put, sA, sZ, sS]
  refine Ps.st (i := 15) (d := some 20) (u := (cond b1_12 (.pointer (some ⟨w.heap.size + 1, 2, none⟩)) (undef))) rfl rfl (by cases b1_12; exact StepS.skip nP rfl; exact StepS.pure nP rfl fun _ => rfl) ?_
  try simp only [Act.put, sA, sZ, sS]
  refine Ps.st (i := 16) (d := some 21) (u := (cond b1_12 (.int .u64 (b.seq)) (undef))) rfl rfl ?ywg1_18 ?rwg1_18
  case ywg1_18 =>
    cases b1_12
    · exact StepS.skip nP (by rfl)
    · skip
      refine StepS.read [] (by kernel_rfl) nP (by rfl) (fun L9 m9 w9 hSh hAt hDn hS => ?_)
      have hT : Below _ _ w9 := hS
      have x0 : w9.cell? ⟨w.heap.size + 1, 2, none⟩ = some (.int .u64 (b.seq)) := (HB2.out.ca hT).cell 2
      clear hT hS
      go_simp
      try rfl
  try simp only [Act.put, sA, sZ, sS]
  refine Ps.st (i := 17) (d := some 22) (u := (cond b1_12 (.bool (decide (a.seq = b.seq))) (undef))) rfl rfl (by cases b1_12; exact StepS.skip nP rfl; exact StepS.pure nP rfl fun _ => rfl) ?_
  try simp only [Act.put, sA, sZ, sS]
  refine Ps.st (i := 18) (d := some 23) (u := (.bool (b1_12 && (decide (a.seq = b.seq))))) rfl rfl ?ywg1_20 ?rwg1_20
  case ywg1_20 =>
    refine StepS.pure nP (by rfl) (fun w9 => ?_)
    cases b1_12 <;> (first | rfl | (go_simp; done) | (go_simp; rfl))
  try simp only [Act.put, sA, sZ, sS]
  obtain ⟨b1_19, hb9⟩ : ∃ zb : Bool, zb = (((decide (a.kind = b.kind)) && (decide (a.ses = b.ses))) && (decide (a.seq = b.seq))) := ⟨_, rfl⟩
  have HEb1_19 := Lib.hid hb9
  clear hb9
  refine Ps.st (i := 19) (d := some 24) (u := (.bool (b1_19))) rfl rfl ?ywg1_21 ?rwg1_21
  case ywg1_21 =>
    refine StepS.pure nP (by rfl) (fun w9 => ?_)
    have e9 : (b1_12 && (decide (a.seq = b.seq))) = b1_19 := by rw [HEb1_19.out, HEb1_12.out]
    rw [← e9]
    clear e9
    first | rfl | (go_simp; done) | (go_simp; rfl)
  try simp only [Act.put, sA, sZ, sS]
  refine Ps.st (i := 20) (d := some 25) (u := (cond b1_19 (.pointer (some ⟨w.heap.size, 3, none⟩)) (undef))) rfl rfl (by cases b1_19; exact StepS.skip nP rfl; exact StepS.pure nP rfl fun _ => rfl) ?_
  try simp only [Act.put, sA, sZ, sS]
  refine Ps.st (i := 21) (d := some 26) (u := (cond b1_19 (.int .u64 (a.lim)) (undef))) rfl rfl ?ywg1_23 ?rwg1_23
  case ywg1_23 =>
    cases b1_19
    · exact StepS.skip nP (by rfl)
    · skip
      refine StepS.read [] (by kernel_rfl) nP (by rfl) (fun L9 m9 w9 hSh hAt hDn hS => ?_)
      have hT : Below _ _ w9 := hS
      have x0 : w9.cell? ⟨w.heap.size, 3, none⟩ = some (.int .u64 (a.lim)) := (HB1.out.ca hT).cell 3
      clear hT hS
      go_simp
      try rfl
  try simp only [Act.put, sA, sZ, sS]
  refine Ps.st (i := 22) (d := some 27) (u := (cond b1_19 (.pointer (some ⟨w.heap.size + 1, 3, none⟩)) (undef))) rfl rfl (by cases b1_19; exact StepS.skip nP rfl; exact StepS.pure nP rfl fun _ => rfl) ?_
  try simp only [Act.put, sA, sZ, sS]
  refine Ps.st (i := 23) (d := some 28) (u := (cond b1_19 (.int .u64 (b.lim)) (undef))) rfl rfl ?ywg1_25 ?rwg1_25
  case ywg1_25 =>
    cases b1_19
    · exact StepS.skip nP (by rfl)
    · skip
      refine StepS.read [] (by kernel_rfl) nP (by rfl) (fun L9 m9 w9 hSh hAt hDn hS => ?_)
      have hT : Below _ _ w9 := hS
      have x0 : w9.cell? ⟨w.heap.size + 1, 3, none⟩ = some (.int .u64 (b.lim)) := (HB2.out.ca hT).cell 3
      clear hT hS
      go_simp
      try rfl
  try simp only [Act.put, sA, sZ, sS]
  refine Ps.st (i := 24) (d := some 29) (u := (cond b1_19 (.bool (decide (a.lim = b.lim))) (undef))) rfl rfl (by cases b1_19; exact StepS.skip nP rfl; exact StepS.pure nP rfl fun _ => rfl) ?_
  try simp only [Act.put, sA, sZ, sS]
  refine Ps.st (i := 25) (d := some 30) (u := (.bool (b1_19 && (decide (a.lim = b.lim))))) rfl rfl ?ywg1_27 ?rwg1_27
  case ywg1_27 =>
    refine StepS.pure nP (by rfl) (fun w9 => ?_)
    cases b1_19 <;> (first | rfl | (go_simp; done) | (go_simp; rfl))
  try simp only [Act.put, sA, sZ, sS]
  obtain ⟨b1_26, hb9⟩ : ∃ zb : Bool, zb = ((((decide (a.kind = b.kind)) && (decide (a.ses = b.ses))) && (decide (a.seq = b.seq))) && (decide (a.lim = b.lim))) := ⟨_, rfl⟩
  have HEb1_26 := Lib.hid hb9
  clear hb9
  refine Ps.st (i := 26) (d := some 31) (u := (.bool (b1_26))) rfl rfl ?ywg1_28 ?rwg1_28
  case ywg1_28 =>
    refine StepS.pure nP (by rfl) (fun w9 => ?_)
    have e9 : (b1_19 && (decide (a.lim = b.lim))) = b1_26 := by rw [HEb1_26.out, HEb1_19.out]
    rw [← e9]
    clear e9
    first | rfl | (go_simp; done) | (go_simp; rfl)
  try simp only [Act.put, sA, sZ, sS]
  refine Ps.st (i := 27) (d := some 32) (u := (cond b1_26 (.pointer (some ⟨w.heap.size, 4, none⟩)) (undef))) rfl rfl (by cases b1_26; exact StepS.skip nP rfl; exact StepS.pure nP rfl fun _ => rfl) ?_
  try simp only [Act.put, sA, sZ, sS]
  refine Ps.st (i := 28) (d := some 33) (u := (cond b1_26 (.agg #[.slice A m c, .bool (a.b.fin), .int .u64 (a.b.cnt)]) (undef))) rfl rfl ?ywg1_30 ?rwg1_30
  case ywg1_30 =>
    cases b1_26
    · exact StepS.skip nP (by rfl)
    · skip
      refine StepS.read [] (by kernel_rfl) nP (by rfl) (fun L9 m9 w9 hSh hAt hDn hS => ?_)
      have hT : Below _ _ w9 := hS
      have x0 : w9.cell? ⟨w.heap.size, 4, none⟩ = some (.slice A m c) := (HB1.out.ca hT).cell 4
      have x1 : w9.cell? ⟨w.heap.size, 5, none⟩ = some (.bool (a.b.fin)) := (HB1.out.ca hT).cell 5
      have x2 : w9.cell? ⟨w.heap.size, 6, none⟩ = some (.int .u64 (a.b.cnt)) := (HB1.out.ca hT).cell 6
      clear hT hS
      go_simp
      try rfl
  try simp only [Act.put, sA, sZ, sS]
  refine Ps.st (i := 29) (d := some 34) (u := (cond b1_26 (.pointer (some ⟨w.heap.size + 1, 4, none⟩)) (undef))) rfl rfl (by cases b1_26; exact StepS.skip nP rfl; exact StepS.pure nP rfl fun _ => rfl) ?_
  try simp only [Act.put, sA, sZ, sS]
  refine Ps.st (i := 30) (d := some 35) (u := (cond b1_26 (.agg #[.slice B n d, .bool (b.b.fin), .int .u64 (b.b.cnt)]) (undef))) rfl rfl ?ywg1_32 ?rwg1_32
  case ywg1_32 =>
    cases b1_26
    · exact StepS.skip nP (by rfl)
    · skip
      refine StepS.read [] (by kernel_rfl) nP (by rfl) (fun L9 m9 w9 hSh hAt hDn hS => ?_)
      have hT : Below _ _ w9 := hS
      have x0 : w9.cell? ⟨w.heap.size + 1, 4, none⟩ = some (.slice B n d) := (HB2.out.ca hT).cell 4
      have x1 : w9.cell? ⟨w.heap.size + 1, 5, none⟩ = some (.bool (b.b.fin)) := (HB2.out.ca hT).cell 5
      have x2 : w9.cell? ⟨w.heap.size + 1, 6, none⟩ = some (.int .u64 (b.b.cnt)) := (HB2.out.ca hT).cell 6
      clear hT hS
      go_simp
      try rfl
  try simp only [Act.put, sA, sZ, sS]
  refine Ps.st (i := 31) (d := some 36) (u := (cond b1_26 (.bool (eqBC a.b b.b)) (undef))) rfl rfl ?ywg1_33 ?rwg1_33
  case ywg1_33 =>
    cases b1_26
    · exact StepS.skip nP (by rfl)
    · skip
      refine StepS.call ?fwg1_33 ?awg1_33 [] (by kernel_rfl) (by rfl) (fun w9 => ?hwg1_33) (fun L9 m9 w9 hSh hAt hDn hS => ?cwg1_33)
      case hwg1_33 => go_simp; refine ⟨?_, ?_⟩ <;> rfl
      case cwg1_33 =>
        have hT : Below _ _ w9 := hS
        refine (rsameB_any F G a.b b.b A B m c n d w9 (Lay.rd_below HX.out hT) (Lay.rd_below HY.out hT) hm).mono ?_
        rintro e w8 ⟨rfl, q8⟩
        exact ⟨rfl, bl_ca hT q8⟩
  try simp only [Act.put, sA, sZ, sS]
  obtain ⟨f1x, hb9⟩ : ∃ zb : Bool, zb = (((((decide (a.kind = b.kind)) && (decide (a.ses = b.ses))) && (decide (a.seq = b.seq))) && (decide (a.lim = b.lim))) && (eqBC a.b b.b)) := ⟨_, rfl⟩
  have HEf1x := Lib.hid hb9
  clear hb9
  refine Ps.st (i := 32) (d := some 37) (u := (.bool (f1x))) rfl rfl ?ywg1_34 ?rwg1_34
  case ywg1_34 =>
    refine StepS.pure nP (by rfl) (fun w9 => ?_)
    have e9 : (b1_26 && (eqBC a.b b.b)) = f1x := by rw [HEf1x.out, HEb1_26.out]
    rw [← e9]
    clear e9
    cases b1_26 <;> (first | rfl | (go_simp; done) | (go_simp; rfl))
  try simp only [Act.put, sA, sZ, sS]
  refine Ps.st (i := 33) (d := some 4) (u := (.bool (f1x))) rfl rfl (by exact StepS.pure nP rfl fun _ => rfl) ?_
  try simp only [Act.put, sA, sZ, sS]
  refine Ps.done (by kernel_rfl) (fun wg1 hS => ?_) _
  try generalize (cond b1_26 (.agg #[.slice A m c, .bool (a.b.fin), .int .u64 (a.b.cnt)]) (undef) : Value) = zz36
  try generalize (cond b1_26 (.agg #[.slice B n d, .bool (b.b.fin), .int .u64 (b.b.cnt)]) (undef) : Value) = zz37
  try generalize (cond b1_19 (.pointer (some ⟨w.heap.size + 1, 3, none⟩)) (undef) : Value) = zz38
  try generalize (cond b1_12 (.pointer (some ⟨w.heap.size + 1, 2, none⟩)) (undef) : Value) = zz39
  try generalize (cond b1_26 (.pointer (some ⟨w.heap.size + 1, 4, none⟩)) (undef) : Value) = zz40
  try generalize (cond b1_5 (.pointer (some ⟨w.heap.size + 1, 1, none⟩)) (undef) : Value) = zz41
  try generalize (cond b1_26 (.pointer (some ⟨w.heap.size, 4, none⟩)) (undef) : Value) = zz42
  try generalize (cond b1_12 (.pointer (some ⟨w.heap.size, 2, none⟩)) (undef) : Value) = zz43
  try generalize (cond b1_19 (.pointer (some ⟨w.heap.size, 3, none⟩)) (undef) : Value) = zz44
  try generalize (cond b1_5 (.pointer (some ⟨w.heap.size, 1, none⟩)) (undef) : Value) = zz45
  try generalize (cond b1_19 (.bool (decide (a.lim = b.lim))) (undef) : Value) = zz46
  try generalize (cond b1_12 (.bool (decide (a.seq = b.seq))) (undef) : Value) = zz47
  try generalize (cond b1_5 (.bool (decide (a.ses = b.ses))) (undef) : Value) = zz48
  try generalize (.bool (b1_12 && (decide (a.seq = b.seq))) : Value) = zz49
  try generalize (cond b1_26 (.bool (eqBC a.b b.b)) (undef) : Value) = zz50
  try generalize (.bool (b1_19 && (decide (a.lim = b.lim))) : Value) = zz51
  try generalize (.bool (b1_5 && (decide (a.ses = b.ses))) : Value) = zz52
  try generalize (cond b1_19 (.int .u64 (b.lim)) (undef) : Value) = zz53
  try generalize (cond b1_12 (.int .u64 (a.seq)) (undef) : Value) = zz54
  try generalize (cond b1_12 (.int .u64 (b.seq)) (undef) : Value) = zz55
  try generalize (cond b1_19 (.int .u64 (a.lim)) (undef) : Value) = zz56
  try generalize (cond b1_5 (.int .u32 (b.ses)) (undef) : Value) = zz57
  try generalize (cond b1_5 (.int .u32 (a.ses)) (undef) : Value) = zz58
  have HW59 := Lib.hid (show Below w1.heap.size w1 wg1 from hS)
  clear hS
  obtain ⟨w160, rfl⟩ : ∃ x, x = wg1 := ⟨_, rfl⟩
  go_wp2
  go_ret
  exact ⟨ret_bool (by rw [HRR.out, HEf1x.out]; rfl), bl_ca HQ.out HW59.out⟩
set_option maxRecDepth 100000 in
set_option maxHeartbeats 8000000 in
theorem rsamePs_any (F G : Nat → Prop) (A B : Option Addr) (m c n d : Nat) (xs ys : List PK) (w : World) (hx : LP7.rd w F A m xs) (hy : LP7.rd w G B n ys) (hm : m ≤ 9223372036854775807) :
    Calls Try.prog 18 #[.slice A m c, .slice B n d] w fun e w' => e = .returned (.bool (decide (xs = ys))) ∧ Below w.heap.size w w' := by
  have hxl := Lay.rd_len hx
  have hyl := Lay.rd_len hy
  by_cases hmn : m = n
  · subst hmn
    obtain ⟨r, hr⟩ : ∃ r, r = decide (xs = ys) := ⟨_, rfl⟩
    rw [← hr]
    have HR := Lib.hid hr
    have HXL := Lib.hid hxl
    have HYL := Lib.hid hyl
    clear hr hxl hyl
    go_enter Try.func18, Try.ntmps18
    go_wp2_with fail
    go_loopg [13] m (fun g s wr => ∃ i : Nat, i + g ≤ m ∧ m ≤ i + g ∧ s = .int .i64 i ∧ xs.take i = ys.take i ∧ Below w.heap.size w wr)
    case atStart => exact ⟨0, by omega, by omega, rfl, rfl, Below.refl _ _⟩
    case round =>
      obtain ⟨i, hi1, hi2, rfl, hp, bb⟩ := hrel
      have HBB := Lib.hid bb
      have HP := Lib.hid hp
      clear hp
      by_cases hi : i < m
      · have hil : (i : Int) < (m : Int) := by omega
        obtain ⟨p1, v, B1, k1, c1, rfl, hv, _, s1⟩ := LP7_at (Lay.rd_below hx bb) hi
        obtain ⟨p2, u, B2, k2, c2, rfl, hu, _, s2⟩ := LP7_at (Lay.rd_below hy bb) hi
        have HVI := Lib.hid hv
        have HUI := Lib.hid hu
        have HV0 := Lib.hid (fun W (q : Below wr.heap.size wr W) => (q.cell (cells_block s1.c0)).trans s1.c0)
        have HU0 := Lib.hid (fun W (q : Below wr.heap.size wr W) => (q.cell (cells_block s2.c0)).trans s2.c0)
        have HV1 := Lib.hid (fun W (q : Below wr.heap.size wr W) => (q.cell (cells_block s1.c1)).trans s1.c1)
        have HU1 := Lib.hid (fun W (q : Below wr.heap.size wr W) => (q.cell (cells_block s2.c1)).trans s2.c1)
        have HV2 := Lib.hid (fun W (q : Below wr.heap.size wr W) => (q.cell (cells_block s1.c2)).trans s1.c2)
        have HU2 := Lib.hid (fun W (q : Below wr.heap.size wr W) => (q.cell (cells_block s2.c2)).trans s2.c2)
        have HV3 := Lib.hid (fun W (q : Below wr.heap.size wr W) => (q.cell (cells_block s1.c3)).trans s1.c3)
        have HU3 := Lib.hid (fun W (q : Below wr.heap.size wr W) => (q.cell (cells_block s2.c3)).trans s2.c3)
        have HV4 := Lib.hid (fun W (q : Below wr.heap.size wr W) => (q.cell (cells_block s1.c4)).trans s1.c4)
        have HU4 := Lib.hid (fun W (q : Below wr.heap.size wr W) => (q.cell (cells_block s2.c4)).trans s2.c4)
        have HV5 := Lib.hid (fun W (q : Below wr.heap.size wr W) => (q.cell (cells_block s1.c5)).trans s1.c5)
        have HU5 := Lib.hid (fun W (q : Below wr.heap.size wr W) => (q.cell (cells_block s2.c5)).trans s2.c5)
        have HV6 := Lib.hid (fun W (q : Below wr.heap.size wr W) => (q.cell (cells_block s1.c6)).trans s1.c6)
        have HU6 := Lib.hid (fun W (q : Below wr.heap.size wr W) => (q.cell (cells_block s2.c6)).trans s2.c6)
        have HC := Lib.hid (fun W (q : Below wr.heap.size wr W) => rsameP_any F G v u B1 B2 k1 c1 k2 c2 W (Lay.rd_below s1.rd q) (Lay.rd_below s2.rd q) (Nat.le_trans s1.nc s1.cm))
        clear hv hu hx hy bb s1 s2
        go_upto_region 6 with fail
        refine wp_region_ps (S := fun _ _ w' => Below wr.heap.size wr w') (by kernel_rfl) ?spswg61 ?ppswg61
        case spswg61 =>
          exact (Below.refl wr.heap.size wr).drew
        refine Ps.st (i := 0) (d := some 16) (u := (.slice (some p1) m c)) rfl rfl (by exact StepS.pure nP rfl fun _ => rfl) ?_
        try simp only [Act.put, sA, sZ, sS]
        refine Ps.st (i := 1) (d := some 17) (u := (.int .i64 ((i : Int)))) rfl rfl (by exact StepS.pure nP rfl fun _ => rfl) ?_
        try simp only [Act.put, sA, sZ, sS]
        refine Ps.st (i := 2) (d := some 18) (u := (.pointer (some (p1.add (i * 7))))) rfl rfl ?ywg61_64 ?rwg61_64
        case ywg61_64 =>
          refine StepS.pure nP (by rfl) (fun w9 => ?_)
          have h8 := hil
          first | rfl | (go_simp; done) | (go_simp; rfl)
        try simp only [Act.put, sA, sZ, sS]
        refine Ps.st (i := 3) (d := some 19) (u := (.agg #[.int .i64 (v.kind), .int .u32 (v.ses), .int .u64 (v.seq), .int .u64 (v.lim), .slice B1 k1 c1, .bool (v.b.fin), .int .u64 (v.b.cnt)])) rfl rfl ?ywg61_65 ?rwg61_65
        case ywg61_65 =>
          refine StepS.read [] (by kernel_rfl) nP (by rfl) (fun L9 m9 w9 hSh hAt hDn hS => ?_)
          have hT : Below _ _ w9 := hS
          have x0 : w9.cell? (p1.add (i * 7)) = some (.int .i64 (v.kind)) := HV0.out w9 hT
          have x1 : w9.cell? ⟨(p1.add (i * 7)).block, (p1.add (i * 7)).off + 1, none⟩ = some (.int .u32 (v.ses)) := HV1.out w9 hT
          have x2 : w9.cell? ⟨(p1.add (i * 7)).block, (p1.add (i * 7)).off + 2, none⟩ = some (.int .u64 (v.seq)) := HV2.out w9 hT
          have x3 : w9.cell? ⟨(p1.add (i * 7)).block, (p1.add (i * 7)).off + 3, none⟩ = some (.int .u64 (v.lim)) := HV3.out w9 hT
          have x4 : w9.cell? ⟨(p1.add (i * 7)).block, (p1.add (i * 7)).off + 4, none⟩ = some (.slice B1 k1 c1) := HV4.out w9 hT
          have x5 : w9.cell? ⟨(p1.add (i * 7)).block, (p1.add (i * 7)).off + 5, none⟩ = some (.bool (v.b.fin)) := HV5.out w9 hT
          have x6 : w9.cell? ⟨(p1.add (i * 7)).block, (p1.add (i * 7)).off + 6, none⟩ = some (.int .u64 (v.b.cnt)) := HV6.out w9 hT
          clear hT hS
          go_simp
          try rfl
        try simp only [Act.put, sA, sZ, sS]
        refine Ps.st (i := 4) (d := some 20) (u := (.slice (some p2) m d)) rfl rfl (by exact StepS.pure nP rfl fun _ => rfl) ?_
        try simp only [Act.put, sA, sZ, sS]
        refine Ps.st (i := 5) (d := some 21) (u := (.int .i64 ((i : Int)))) rfl rfl (by exact StepS.pure nP rfl fun _ => rfl) ?_
        try simp only [Act.put, sA, sZ, sS]
        refine Ps.st (i := 6) (d := some 22) (u := (.pointer (some (p2.add (i * 7))))) rfl rfl ?ywg61_68 ?rwg61_68
        case ywg61_68 =>
          refine StepS.pure nP (by rfl) (fun w9 => ?_)
          have h8 := hil
          first | rfl | (go_simp; done) | (go_simp; rfl)
        try simp only [Act.put, sA, sZ, sS]
        refine Ps.st (i := 7) (d := some 23) (u := (.agg #[.int .i64 (u.kind), .int .u32 (u.ses), .int .u64 (u.seq), .int .u64 (u.lim), .slice B2 k2 c2, .bool (u.b.fin), .int .u64 (u.b.cnt)])) rfl rfl ?ywg61_69 ?rwg61_69
        case ywg61_69 =>
          refine StepS.read [] (by kernel_rfl) nP (by rfl) (fun L9 m9 w9 hSh hAt hDn hS => ?_)
          have hT : Below _ _ w9 := hS
          have x0 : w9.cell? (p2.add (i * 7)) = some (.int .i64 (u.kind)) := HU0.out w9 hT
          have x1 : w9.cell? ⟨(p2.add (i * 7)).block, (p2.add (i * 7)).off + 1, none⟩ = some (.int .u32 (u.ses)) := HU1.out w9 hT
          have x2 : w9.cell? ⟨(p2.add (i * 7)).block, (p2.add (i * 7)).off + 2, none⟩ = some (.int .u64 (u.seq)) := HU2.out w9 hT
          have x3 : w9.cell? ⟨(p2.add (i * 7)).block, (p2.add (i * 7)).off + 3, none⟩ = some (.int .u64 (u.lim)) := HU3.out w9 hT
          have x4 : w9.cell? ⟨(p2.add (i * 7)).block, (p2.add (i * 7)).off + 4, none⟩ = some (.slice B2 k2 c2) := HU4.out w9 hT
          have x5 : w9.cell? ⟨(p2.add (i * 7)).block, (p2.add (i * 7)).off + 5, none⟩ = some (.bool (u.b.fin)) := HU5.out w9 hT
          have x6 : w9.cell? ⟨(p2.add (i * 7)).block, (p2.add (i * 7)).off + 6, none⟩ = some (.int .u64 (u.b.cnt)) := HU6.out w9 hT
          clear hT hS
          go_simp
          try rfl
        try simp only [Act.put, sA, sZ, sS]
        refine Ps.st (i := 8) (d := some 24) (u := (.bool (eqPK v u))) rfl rfl ?ywg61_70 ?rwg61_70
        case ywg61_70 =>
          refine StepS.call ?fwg61_70 ?awg61_70 [] (by kernel_rfl) (by rfl) (fun w9 => ?hwg61_70) (fun L9 m9 w9 hSh hAt hDn hS => ?cwg61_70)
          case hwg61_70 => go_simp; refine ⟨?_, ?_⟩ <;> rfl
          case cwg61_70 =>
            have hT : Below _ _ w9 := hS
            refine (HC.out w9 hT).mono ?_
            rintro e w8 ⟨rfl, q8⟩
            exact ⟨rfl, bl_ca hT q8⟩
        try simp only [Act.put, sA, sZ, sS]
        obtain ⟨f6, hb9⟩ : ∃ zb : Bool, zb = (!(eqPK v u)) := ⟨_, rfl⟩
        have HEf6 := Lib.hid hb9
        clear hb9
        refine Ps.st (i := 9) (d := some 25) (u := (.bool (f6))) rfl rfl ?ywg61_71 ?rwg61_71
        case ywg61_71 =>
          refine StepS.pure nP (by rfl) (fun w9 => ?_)
          have e9 : (!(eqPK v u)) = f6 := by rw [HEf6.out]
          rw [← e9]
          clear e9
          first | rfl | (go_simp; done) | (go_simp; rfl)
        try simp only [Act.put, sA, sZ, sS]
        refine Ps.done (by kernel_rfl) (fun wg61 hS => ?_) _
        have HW72 := Lib.hid (show Below wr.heap.size wr wg61 from hS)
        clear hS
        obtain ⟨w173, rfl⟩ : ∃ x, x = wg61 := ⟨_, rfl⟩
        have HBN := Lib.hid (bl_ca HBB.out HW72.out)
        cases f6
        · have hvu : v = u := (eqPK_iff v u).1 (by have h := HEf6.out; cases hq : eqPK v u; rw [hq] at h; cases h; rfl)
          have HP2 := Lib.hid (show xs.take (i + 1) = ys.take (i + 1) from by rw [List.take_add_one, List.take_add_one, HP.out, HVI.out, HUI.out, hvu])
          clear hvu
          go_wp2
          go_roundg (gk - 1)
          · exact ⟨i + 1, by omega, by omega, by go_num, HP2.out, HBN.out⟩
          · omega
        · have HF := Lib.hid (show r = false from by
            rw [HR.out]
            refine decide_eq_false fun e => ?_
            have h1 := HVI.out
            rw [e, HUI.out] at h1
            injection h1 with h1
            have h := HEf6.out
            rw [(eqPK_iff v u).2 h1.symm] at h
            cases h)
          go_wp2
          go_ret
          exact ⟨ret_bool (by rw [HF.out]), HBN.out⟩
      · obtain rfl : i = m := by omega
        have hil : (i : Int) ≤ (i : Int) := by omega
        have HT := Lib.hid (show r = true from by
          have hp := HP.out
          rw [List.take_of_length_le (by rw [HXL.out]; omega), List.take_of_length_le (by rw [HYL.out]; omega)] at hp
          rw [HR.out]
          exact decide_eq_true hp)
        clear hx hy bb
        go_wp2
        go_ret
        exact ⟨ret_bool (by rw [HT.out]), HBB.out⟩
  · have e : decide (xs = ys) = false := decide_eq_false fun e => hmn (by rw [← hxl, ← hyl, e])
    rw [e]
    clear e hx hy hxl hyl
    go_enter Try.func18, Try.ntmps18
    go_wp2
    go_ret
    exact ⟨rfl, Below.refl _ _⟩
end Go.Proofs.Ytojghgbaiiajfaa
/- A region that draws, with a variable made beside two calls (operations 2, 3; 8 the variable; 9 its store). Conditions: none. -/
namespace Go.Proofs.Ytojghgbaiiajfaa
open Go.RowKit
def WtS (B : Option Nat → Nat → (Nat → Value) → World → Prop) : Array Bool → (Nat → Value) → World → Prop := fun L m w =>
  ∃ al : Option Nat, (Dn L 8 = true → ∃ g, al = some g ∧ m 8 = .pointer (some ⟨g, 0, none⟩)) ∧ (Dn L 8 = false → al = none) ∧ SeqN [2, 3, 9] (B al) L m w
section
variable {B : Option Nat → Nat → (Nat → Value) → World → Prop} {L : Array Bool} {m m' : Nat → Value} {w w' : World}
theorem WtS.start {n : Nat} (hn : 9 < n) (h : B none 0 m w) : WtS B (Array.replicate n false) m w := by
  refine ⟨none, fun e => ?_, fun _ => rfl, SeqN.start (by simp; omega) h⟩
  unfold Dn at e
  rw [Array.getD_eq_getD_getElem?, Array.getElem?_replicate, if_pos (by omega)] at e
  cases e
theorem WtS.pass {i : Nat} (h8 : (8 != i) = true) (h : ([2, 3, 9].all fun k => k != i) = true) : Pass (WtS B) i := fun L m w hS => by
  obtain ⟨al, h1, h2, hS⟩ := hS
  have e : Dn (L.setIfInBounds i true) 8 = Dn L 8 := dn_ne (by simpa using h8)
  exact ⟨al, by rw [e]; exact h1, by rw [e]; exact h2, SeqN.pass h L m w hS⟩
/-- whatever is done -/
theorem WtS.any {T : World → Prop} (t : ∀ al j m w, B al j m w → T w) (hS : WtS B L m w) : T w := by
  obtain ⟨al, _, _, hS⟩ := hS
  exact t _ _ _ _ hS
theorem WtS.lt {T : World → Prop} (h9 : Dn L 9 = false) (t : ∀ al j m w, j < 3 → B al j m w → T w) (hS : WtS B L m w) : T w := by
  obtain ⟨al, _, _, hS⟩ := hS
  unfold SeqN cntD cntD cntD cntD at hS
  rw [h9] at hS
  refine t _ _ _ _ ?_ hS
  cases Dn L 2 <;> cases Dn L 3 <;> simp
/-- the variable is made -/
theorem WtS.made {v : Value} {g : Nat} (h8 : Dn L 8 = false) (h9 : Dn L 9 = false) (hv : v = .pointer (some ⟨g, 0, none⟩)) (t : ∀ j, j < 3 → B none j m w → B (some g) j (upd m 8 v) w') (hS : WtS B L m w) : WtS B (L.setIfInBounds 8 true) (upd m 8 v) w' := by
  obtain ⟨al, _, h2, hS⟩ := hS
  obtain rfl := h2 h8
  refine ⟨some g, fun _ => ⟨g, rfl, by rw [upd_same]; exact hv⟩, fun e => ?_, ?_⟩
  · rw [dn_eq] at e
    cases e
  · have hS2 := SeqN.pass (i := 8) (by decide) L m w hS
    unfold SeqN cntD cntD cntD cntD at *
    rw [dn_ne (by decide), dn_ne (by decide), dn_ne (by decide), h9] at *
    refine t _ ?_ hS2
    cases Dn L 2 <;> cases Dn L 3 <;> simp
theorem WtS.on2 (h2 : Dn L 2 = false) (h3 : Dn L 3 = false) (h9 : Dn L 9 = false) (hS : WtS B L m w) : ∃ al, B al 0 m w ∧ ∀ v w', B al 1 (upd m 2 v) w' → WtS B (L.setIfInBounds 2 true) (upd m 2 v) w' := by
  obtain ⟨al, a1, a2, hS⟩ := hS
  unfold SeqN cntD cntD cntD cntD at hS
  rw [h2, h3, h9] at hS
  refine ⟨al, hS, fun v w' hB => ⟨al, ?_, ?_, ?_⟩⟩
  · rw [dn_ne (by decide), upd_ne (by decide)]; exact a1
  · rw [dn_ne (by decide)]; exact a2
  · unfold SeqN cntD cntD cntD cntD
    rw [dn_eq, dn_ne (by decide), dn_ne (by decide), h3, h9]
    exact hB
theorem WtS.on3 (h2 : Dn L 2 = true) (h3 : Dn L 3 = false) (h9 : Dn L 9 = false) (hS : WtS B L m w) : ∃ al, B al 1 m w ∧ ∀ v w', B al 2 (upd m 3 v) w' → WtS B (L.setIfInBounds 3 true) (upd m 3 v) w' := by
  obtain ⟨al, a1, a2, hS⟩ := hS
  unfold SeqN cntD cntD cntD cntD at hS
  rw [h2, h3, h9] at hS
  refine ⟨al, hS, fun v w' hB => ⟨al, ?_, ?_, ?_⟩⟩
  · rw [dn_ne (by decide), upd_ne (by decide)]; exact a1
  · rw [dn_ne (by decide)]; exact a2
  · unfold SeqN cntD cntD cntD cntD
    rw [dn_eq, dn_ne (by decide), dn_ne (by decide), h2, h9]
    exact hB
theorem WtS.on9 (h2 : Dn L 2 = true) (h3 : Dn L 3 = true) (h8 : Dn L 8 = true) (h9 : Dn L 9 = false) (hS : WtS B L m w) : ∃ g, m 8 = .pointer (some ⟨g, 0, none⟩) ∧ B (some g) 2 m w ∧ ∀ w', B (some g) 3 m w' → WtS B (L.setIfInBounds 9 true) m w' := by
  obtain ⟨al, a1, a2, hS⟩ := hS
  obtain ⟨g, rfl, hm⟩ := a1 h8
  unfold SeqN cntD cntD cntD cntD at hS
  rw [h2, h3, h9] at hS
  refine ⟨g, hm, hS, fun w' hB => ⟨some g, ?_, ?_, ?_⟩⟩
  · exact fun _ => ⟨g, rfl, hm⟩
  · rw [dn_ne (by decide)]; exact a2
  · unfold SeqN cntD cntD cntD cntD
    rw [dn_eq, dn_ne (by decide), dn_ne (by decide), h2, h3]
    exact hB
theorem WtS.fin (h8 : Dn L 8 = true) (h : ([2, 3, 9].all fun x => Dn L x) = true) (hS : WtS B L m w) : ∃ g, m 8 = .pointer (some ⟨g, 0, none⟩) ∧ B (some g) 3 m w := by
  obtain ⟨al, a1, _, hS⟩ := hS
  obtain ⟨g, rfl, hm⟩ := a1 h8
  exact ⟨g, hm, SeqN.fin h hS⟩
end
end Go.Proofs.Ytojghgbaiiajfaa
/- Rows of one's own, written to. Conditions: none. -/
namespace Go.Proofs.Ytojghgbaiiajfaa
open Go.RowKit
theorem own_there {α : Type} {L : Lay α} {e : TypeId} {w : World} {B n c g i j k : Nat} {G : Nat → Prop} {xs : List α} (h : L.own e w B G (some ⟨g, 0, none⟩) n c xs) (hi : i < n) (hj : j + k ≤ L.size) : w.there g (i * L.size + j) k := by
  intro x hx
  refine ⟨?_, own_frozen h _⟩
  obtain ⟨hl, cs, hreps, hrow⟩ := h
  have hcl := Lay.reps_len hreps
  have h2 : (i + 1) * L.size ≤ xs.length * L.size := Nat.mul_le_mul_right _ (by omega)
  rw [Nat.succ_mul] at h2
  have hlt : i * L.size + j + x < cs.length := by omega
  have := hrow.cells (g := g) rfl (i * L.size + j + x) _ (List.getElem?_eq_getElem hlt)
  rw [addr_zero] at this
  rw [this]; rfl
theorem exec_store_there {P : Program} {o : Oper} {a : Act} {w : World} (ty : TypeId) (x y : Operand) (ho : o.op = .store ty x y) (g k : Nat) (new : Array Value) (hx : a.eval x = .pointer (some ⟨g, k, none⟩)) (hy : a.eval y = .agg new) (hth : w.there g k new.size)
    (hi : (P.info? ty).map (·.size) = some new.size) (h1 : new.all (·.oneCell') = true) : (execOp a.eval o).run P w = .ok .skip (w.setCells g k new.toList) := by
  unfold execOp
  simp only [ho, hx, hy, Instr.storeAt, Instr.sureAddr, Sem.run_bind, Sem.run_pure, Result.andThen_ok, run_storeVar_mid w g k ty new hth hi h1]
theorem own_cells {α : Type} {L : Lay α} {e : TypeId} {w : World} {B n c : Nat} {G : Nat → Prop} {A : Option Addr} {xs : List α} (h : L.own e w B G A n c xs) : ∀ g, A = some ⟨g, 0, none⟩ → w.there g 0 (n * L.size) := by
  rintro g rfl j hj
  have hp : 0 < L.size := Nat.pos_of_ne_zero (fun h0 => by rw [h0] at hj; simp at hj)
  have h1 : j / L.size < n := (Nat.div_lt_iff_lt_mul hp).2 hj
  have := own_there h (i := j / L.size) (j := j % L.size) (k := 1) h1 (Nat.mod_lt _ hp) 0 (by omega)
  rw [Nat.zero_add]
  rw [Nat.add_zero, Nat.div_add_mod'] at this
  exact this
theorem eqSC_refl (s : SC) : eqSC s s = true := (eqSC_iff s s).2 rfl
end Go.Proofs.Ytojghgbaiiajfaa
