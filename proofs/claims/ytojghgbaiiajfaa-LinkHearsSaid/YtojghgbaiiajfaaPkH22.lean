/- The reference's hears. Conditions: the rows read as these; the receiver may be. -/
import Derived.Test.YtojghgbaiiajfaaPkH21
namespace Go.Proofs.Ytojghgbaiiajfaa
open Go.RowKit
set_option maxRecDepth 100000 in
set_option maxHeartbeats 64000000 in
theorem rhears_any (G1 G2 G3 : Nat → Prop) (r : RC) (A : Option Addr) (n c : Nat) (A2 : Option Addr) (m d : Nat) (pk : PK) (pA : Option Addr) (pn pc : Nat) (w : World) (h : LH4.rd w G1 A n r.ahead) (h2 : LB3.rd w G2 A2 m r.buf) (hr : LR.rd w G3 pA pn pk.b.rows) (hn : n ≤ 9223372036854775807) (hm : m ≤ 9223372036854775807) (hpn : pn ≤ 9223372036854775807) (hok : recB r = true) :
 Calls Try.prog 86 #[.agg (r.cells A n c A2 m d), .agg (pk.cells pA pn pc)] w fun e w' => e = .returned (.bool (hearB r pk)) ∧ Below w.heap.size w w' := by
 have q1 := bl_al (Below.refl w.heap.size w) (.cells (r.cells A n c A2 m d) 36)
 have q2 := bl_al (Below.refl (w.alloc (.cells (r.cells A n c A2 m d) 36)).heap.size (w.alloc (.cells (r.cells A n c A2 m d) 36))) (.cells (pk.cells pA pn pc) 47)
 have HX := Lib.hid ((Blk.new w 36 (r.cells A n c A2 m d)).ca q2)
 have HP := Lib.hid (show Blk ((w.alloc (.cells (r.cells A n c A2 m d) 36)).alloc (.cells (pk.cells pA pn pc) 47)) (w.heap.size + 1) 47 (pk.cells pA pn pc) from Blk.mk' (by simp only [World.size_alloc]))
 have HQ := Lib.hid (bl_ca q1 q2)
 have HRA := Lib.hid (Lay.rd_below (Lay.rd_below h q1) q2)
 have HRB := Lib.hid (Lay.rd_below (Lay.rd_below h2 q1) q2)
 have HRP := Lib.hid (Lay.rd_below (Lay.rd_below hr q1) q2)
 have hbl := Lay.rd_len h2
 have hal := Lay.rd_len h
 have hrs := recB_len hok
 have hrm : (r.buf.length : Int) ≤ r.room ∧ r.room ≤ 8 := by
  unfold recB recA at hok
  simp only [Bool.and_eq_true, decide_eq_true_eq] at hok
  omega
 clear h h2 hr q1 q2 hok
 obtain ⟨RR, hRR⟩ : ∃ RR, RR = hearB r pk := ⟨_, rfl⟩
 rw [← hRR]
 have HRR := Lib.hid hRR
 clear hRR
 obtain ⟨ck, hck⟩ : ∃ ck, ck = checkP pk := ⟨_, rfl⟩
 have HCK := Lib.hid hck
 obtain ⟨en, hen⟩ : ∃ en, en = endsB r.buf := ⟨_, rfl⟩
 have HEN := Lib.hid hen
 obtain ⟨lm, hlm⟩ : ∃ lm, lm = limR r := ⟨_, rfl⟩
 have HLM := Lib.hid hlm
 have HHB := Lib.hid (show RR = (!((((((!ck || !decide (pk.kind = 1)) || !decide (pk.ses = r.ses)) || r.over) || en) || decide (pk.seq < r.next)) || decide (lm < pk.seq)) && !(r.ahead.any (againstB pk.b pk.seq))) from by
  rw [HRR.out, hck, hen, hlm]
  unfold hearB heardA takesB
  cases checkP pk <;> cases decide (pk.kind = 1) <;> cases decide (pk.ses = r.ses) <;> simp)
 clear hck hen hlm HRR
 go_enter Try.func86, Try.ntmps86
 go_wp2_with fail
 generalize (w.alloc (.cells (r.cells A n c A2 m d) 36)).alloc (.cells (pk.cells pA pn pc) 47) = w1 at *
 refine wp_region_ps (S := fun _ _ w' => Below w1.heap.size w1 w') (by kernel_rfl) ?spswg1 ?ppswg1
 case spswg1 =>
  exact (Below.refl w1.heap.size w1).drew
 refine Pz 0 (some 7) (.agg #[.int .i64 (pk.kind), .int .u32 (pk.ses), .int .u64 (pk.seq), .int .u64 (pk.lim), .slice pA pn pc, .bool (pk.b.fin), .int .u64 (pk.b.cnt)]) rfl rfl ?ywg1_2 ?rwg1_2
 case ywg1_2 =>
  refine StepS.read [] (by kernel_rfl) nP (by rfl) (fun L9 m9 w9 hSh hAt hDn hS => ?_)
  have hT : Below _ _ w9 := hS
  have x0 : w9.cell? ⟨w.heap.size + 1, 0, none⟩ = some (.int .i64 (pk.kind)) := (HP.out.ca hT).cell 0
  have x1 : w9.cell? ⟨w.heap.size + 1, 1, none⟩ = some (.int .u32 (pk.ses)) := (HP.out.ca hT).cell 1
  have x2 : w9.cell? ⟨w.heap.size + 1, 2, none⟩ = some (.int .u64 (pk.seq)) := (HP.out.ca hT).cell 2
  have x3 : w9.cell? ⟨w.heap.size + 1, 3, none⟩ = some (.int .u64 (pk.lim)) := (HP.out.ca hT).cell 3
  have x4 : w9.cell? ⟨w.heap.size + 1, 4, none⟩ = some (.slice pA pn pc) := (HP.out.ca hT).cell 4
  have x5 : w9.cell? ⟨w.heap.size + 1, 5, none⟩ = some (.bool (pk.b.fin)) := (HP.out.ca hT).cell 5
  have x6 : w9.cell? ⟨w.heap.size + 1, 6, none⟩ = some (.int .u64 (pk.b.cnt)) := (HP.out.ca hT).cell 6
  clear hT hS
  go_simp
  try rfl
 try simp only [Act.put, sA, sZ, sS]
 refine Pz 1 (some 8) (.bool (ck)) rfl rfl ?ywg1_3 ?rwg1_3
 case ywg1_3 =>
  refine StepS.call ?fwg1_3 ?awg1_3 [] (by kernel_rfl) (by rfl) (fun w9 => ?hwg1_3) (fun L9 m9 w9 hSh hAt hDn hS => ?cwg1_3)
  case hwg1_3 => go_simp; refine ⟨?_, ?_⟩ <;> rfl
  case cwg1_3 =>
   have hT : Below _ _ w9 := hS
   refine (rpacket_any _ pk pA pn pc w9 (Lay.rd_below HRP.out hT) hpn).mono ?_
   rintro e w8 ⟨rfl, q8⟩
   exact ⟨congrArg (fun b => Ending.returned (Value.bool b)) HCK.out.symm, bl_ca hT q8⟩
 try simp only [Act.put, sA, sZ, sS]
 refine Pz 2 (some 9) (.bool (!ck)) rfl rfl (by exact StepS.pure nP rfl fun _ => rfl) ?_
 try simp only [Act.put, sA, sZ, sS]
 obtain ⟨b3, hb9⟩ : ∃ zb : Bool, zb = (!ck) := ⟨_, rfl⟩
 have HEb3 := Lib.hid hb9
 clear hb9
 refine Pz 3 (some 10) (.bool (b3)) rfl rfl ?ywg1_5 ?rwg1_5
 case ywg1_5 =>
  refine StepS.pure nP (by rfl) (fun w9 => ?_)
  have e9 : (!ck) = b3 := by rw [HEb3.out]
  rw [← e9]
  clear e9
  first | rfl | (go_simp; done) | (go_simp; rfl)
 try simp only [Act.put, sA, sZ, sS]
 refine Pz 4 (some 11) (cond b3 (undef) (.pointer (some ⟨w.heap.size + 1, 0, none⟩))) rfl rfl (by cases b3; (exact StepS.pure nP rfl fun _ => rfl); exact StepS.skip nP rfl) ?_
 try simp only [Act.put, sA, sZ, sS]
 refine Pz 5 (some 12) (cond b3 (undef) (.int .i64 (pk.kind))) rfl rfl ?ywg1_7 ?rwg1_7
 case ywg1_7 =>
  cases b3
  · skip
    refine StepS.read [] (by kernel_rfl) nP (by rfl) (fun L9 m9 w9 hSh hAt hDn hS => ?_)
    have hT : Below _ _ w9 := hS
    have x0 : w9.cell? ⟨w.heap.size + 1, 0, none⟩ = some (.int .i64 (pk.kind)) := (HP.out.ca hT).cell 0
    clear hT hS
    go_simp
    try rfl
  · exact StepS.skip nP (by rfl)
 try simp only [Act.put, sA, sZ, sS]
 refine Pz 6 (some 13) (cond b3 (undef) (.bool (!decide (pk.kind = 1)))) rfl rfl (by cases b3; (exact StepS.pure nP rfl fun _ => rfl); exact StepS.skip nP rfl) ?_
 try simp only [Act.put, sA, sZ, sS]
 refine Pz 7 (some 14) (.bool (b3 || (!decide (pk.kind = 1)))) rfl rfl ?ywg1_9 ?rwg1_9
 case ywg1_9 =>
  refine StepS.pure nP (by rfl) (fun w9 => ?_)
  cases b3 <;> (first | rfl | (go_simp; done) | (go_simp; rfl))
 try simp only [Act.put, sA, sZ, sS]
 obtain ⟨b8, hb9⟩ : ∃ zb : Bool, zb = ((!ck) || (!decide (pk.kind = 1))) := ⟨_, rfl⟩
 have HEb8 := Lib.hid hb9
 clear hb9
 refine Pz 8 (some 15) (.bool (b8)) rfl rfl ?ywg1_10 ?rwg1_10
 case ywg1_10 =>
  refine StepS.pure nP (by rfl) (fun w9 => ?_)
  have e9 : (b3 || (!decide (pk.kind = 1))) = b8 := by rw [HEb8.out, HEb3.out]
  rw [← e9]
  clear e9
  first | rfl | (go_simp; done) | (go_simp; rfl)
 try simp only [Act.put, sA, sZ, sS]
 refine Pz 9 (some 16) (cond b8 (undef) (.pointer (some ⟨w.heap.size + 1, 1, none⟩))) rfl rfl (by cases b8; (exact StepS.pure nP rfl fun _ => rfl); exact StepS.skip nP rfl) ?_
 try simp only [Act.put, sA, sZ, sS]
 refine Pz 10 (some 17) (cond b8 (undef) (.int .u32 (pk.ses))) rfl rfl ?ywg1_12 ?rwg1_12
 case ywg1_12 =>
  cases b8
  · skip
    refine StepS.read [] (by kernel_rfl) nP (by rfl) (fun L9 m9 w9 hSh hAt hDn hS => ?_)
    have hT : Below _ _ w9 := hS
    have x0 : w9.cell? ⟨w.heap.size + 1, 1, none⟩ = some (.int .u32 (pk.ses)) := (HP.out.ca hT).cell 1
    clear hT hS
    go_simp
    try rfl
  · exact StepS.skip nP (by rfl)
 try simp only [Act.put, sA, sZ, sS]
 refine Pz 11 (some 18) (cond b8 (undef) (.pointer (some ⟨w.heap.size, 0, none⟩))) rfl rfl (by cases b8; (exact StepS.pure nP rfl fun _ => rfl); exact StepS.skip nP rfl) ?_
 try simp only [Act.put, sA, sZ, sS]
 refine Pz 12 (some 19) (cond b8 (undef) (.int .u32 (r.ses))) rfl rfl ?ywg1_14 ?rwg1_14
 case ywg1_14 =>
  cases b8
  · skip
    refine StepS.read [] (by kernel_rfl) nP (by rfl) (fun L9 m9 w9 hSh hAt hDn hS => ?_)
    have hT : Below _ _ w9 := hS
    have x0 : w9.cell? ⟨w.heap.size, 0, none⟩ = some (.int .u32 (r.ses)) := (HX.out.ca hT).cell 0
    clear hT hS
    go_simp
    try rfl
  · exact StepS.skip nP (by rfl)
 try simp only [Act.put, sA, sZ, sS]
 refine Pz 13 (some 20) (cond b8 (undef) (.bool (!decide (pk.ses = r.ses)))) rfl rfl (by cases b8; (exact StepS.pure nP rfl fun _ => rfl); exact StepS.skip nP rfl) ?_
 try simp only [Act.put, sA, sZ, sS]
 refine Pz 14 (some 21) (.bool (b8 || (!decide (pk.ses = r.ses)))) rfl rfl ?ywg1_16 ?rwg1_16
 case ywg1_16 =>
  refine StepS.pure nP (by rfl) (fun w9 => ?_)
  cases b8 <;> (first | rfl | (go_simp; done) | (go_simp; rfl))
 try simp only [Act.put, sA, sZ, sS]
 obtain ⟨b15, hb9⟩ : ∃ zb : Bool, zb = (((!ck) || (!decide (pk.kind = 1))) || (!decide (pk.ses = r.ses))) := ⟨_, rfl⟩
 have HEb15 := Lib.hid hb9
 clear hb9
 refine Pz 15 (some 22) (.bool (b15)) rfl rfl ?ywg1_17 ?rwg1_17
 case ywg1_17 =>
  refine StepS.pure nP (by rfl) (fun w9 => ?_)
  have e9 : (b8 || (!decide (pk.ses = r.ses))) = b15 := by rw [HEb15.out, HEb8.out]
  rw [← e9]
  clear e9
  first | rfl | (go_simp; done) | (go_simp; rfl)
 try simp only [Act.put, sA, sZ, sS]
 refine Pz 16 (some 23) (cond b15 (undef) (.pointer (some ⟨w.heap.size, 5, none⟩))) rfl rfl (by cases b15; (exact StepS.pure nP rfl fun _ => rfl); exact StepS.skip nP rfl) ?_
 try simp only [Act.put, sA, sZ, sS]
 refine Pz 17 (some 24) (cond b15 (undef) (.bool (r.over))) rfl rfl ?ywg1_19 ?rwg1_19
 case ywg1_19 =>
  cases b15
  · skip
    refine StepS.read [] (by kernel_rfl) nP (by rfl) (fun L9 m9 w9 hSh hAt hDn hS => ?_)
    have hT : Below _ _ w9 := hS
    have x0 : w9.cell? ⟨w.heap.size, 5, none⟩ = some (.bool (r.over)) := (HX.out.ca hT).cell 5
    clear hT hS
    go_simp
    try rfl
  · exact StepS.skip nP (by rfl)
 try simp only [Act.put, sA, sZ, sS]
 refine Pz 18 (some 25) (.bool (b15 || r.over)) rfl rfl ?ywg1_20 ?rwg1_20
 case ywg1_20 =>
  refine StepS.pure nP (by rfl) (fun w9 => ?_)
  cases b15 <;> (first | rfl | (go_simp; done) | (go_simp; rfl))
 try simp only [Act.put, sA, sZ, sS]
 obtain ⟨b19, hb9⟩ : ∃ zb : Bool, zb = ((((!ck) || (!decide (pk.kind = 1))) || (!decide (pk.ses = r.ses))) || r.over) := ⟨_, rfl⟩
 have HEb19 := Lib.hid hb9
 clear hb9
 refine Pz 19 (some 26) (.bool (b19)) rfl rfl ?ywg1_21 ?rwg1_21
 case ywg1_21 =>
  refine StepS.pure nP (by rfl) (fun w9 => ?_)
  have e9 : (b15 || r.over) = b19 := by rw [HEb19.out, HEb15.out]
  rw [← e9]
  clear e9
  first | rfl | (go_simp; done) | (go_simp; rfl)
 try simp only [Act.put, sA, sZ, sS]
 refine Pz 20 (some 27) (cond b19 (undef) (.pointer (some ⟨w.heap.size, 3, none⟩))) rfl rfl (by cases b19; (exact StepS.pure nP rfl fun _ => rfl); exact StepS.skip nP rfl) ?_
 try simp only [Act.put, sA, sZ, sS]
 refine Pz 21 (some 28) (cond b19 (undef) (.slice A2 m d)) rfl rfl ?ywg1_23 ?rwg1_23
 case ywg1_23 =>
  cases b19
  · skip
    refine StepS.read [] (by kernel_rfl) nP (by rfl) (fun L9 m9 w9 hSh hAt hDn hS => ?_)
    have hT : Below _ _ w9 := hS
    have x0 : w9.cell? ⟨w.heap.size, 3, none⟩ = some (.slice A2 m d) := (HX.out.ca hT).cell 3
    clear hT hS
    go_simp
    try rfl
  · exact StepS.skip nP (by rfl)
 try simp only [Act.put, sA, sZ, sS]
 refine Pz 22 (some 29) (cond b19 (undef) (.bool (en))) rfl rfl ?ywg1_24 ?rwg1_24
 case ywg1_24 =>
  cases b19
  · skip
    refine StepS.call ?fwg1_24 ?awg1_24 [] (by kernel_rfl) (by rfl) (fun w9 => ?hwg1_24) (fun L9 m9 w9 hSh hAt hDn hS => ?cwg1_24)
    case hwg1_24 => go_simp; refine ⟨?_, ?_⟩ <;> rfl
    case cwg1_24 =>
     have hT : Below _ _ w9 := hS
     refine (rends_any _ A2 m d r.buf w9 (Lay.rd_below HRB.out hT) hm).mono ?_
     rintro e w8 ⟨rfl, rfl⟩
     exact ⟨congrArg (fun b => Ending.returned (Value.bool b)) HEN.out.symm, hT⟩
  · exact StepS.skip nP (by rfl)
 try simp only [Act.put, sA, sZ, sS]
 refine Pz 23 (some 30) (.bool (b19 || en)) rfl rfl ?ywg1_25 ?rwg1_25
 case ywg1_25 =>
  refine StepS.pure nP (by rfl) (fun w9 => ?_)
  cases b19 <;> (first | rfl | (go_simp; done) | (go_simp; rfl))
 try simp only [Act.put, sA, sZ, sS]
 obtain ⟨b24, hb9⟩ : ∃ zb : Bool, zb = (((((!ck) || (!decide (pk.kind = 1))) || (!decide (pk.ses = r.ses))) || r.over) || en) := ⟨_, rfl⟩
 have HEb24 := Lib.hid hb9
 clear hb9
 refine Pz 24 (some 31) (.bool (b24)) rfl rfl ?ywg1_26 ?rwg1_26
 case ywg1_26 =>
  refine StepS.pure nP (by rfl) (fun w9 => ?_)
  have e9 : (b19 || en) = b24 := by rw [HEb24.out, HEb19.out]
  rw [← e9]
  clear e9
  first | rfl | (go_simp; done) | (go_simp; rfl)
 try simp only [Act.put, sA, sZ, sS]
 refine Pz 25 (some 32) (cond b24 (undef) (.pointer (some ⟨w.heap.size + 1, 2, none⟩))) rfl rfl (by cases b24; (exact StepS.pure nP rfl fun _ => rfl); exact StepS.skip nP rfl) ?_
 try simp only [Act.put, sA, sZ, sS]
 refine Pz 26 (some 33) (cond b24 (undef) (.int .u64 (pk.seq))) rfl rfl ?ywg1_28 ?rwg1_28
 case ywg1_28 =>
  cases b24
  · skip
    refine StepS.read [] (by kernel_rfl) nP (by rfl) (fun L9 m9 w9 hSh hAt hDn hS => ?_)
    have hT : Below _ _ w9 := hS
    have x0 : w9.cell? ⟨w.heap.size + 1, 2, none⟩ = some (.int .u64 (pk.seq)) := (HP.out.ca hT).cell 2
    clear hT hS
    go_simp
    try rfl
  · exact StepS.skip nP (by rfl)
 try simp only [Act.put, sA, sZ, sS]
 refine Pz 27 (some 34) (cond b24 (undef) (.pointer (some ⟨w.heap.size, 1, none⟩))) rfl rfl (by cases b24; (exact StepS.pure nP rfl fun _ => rfl); exact StepS.skip nP rfl) ?_
 try simp only [Act.put, sA, sZ, sS]
 refine Pz 28 (some 35) (cond b24 (undef) (.int .u64 (r.next))) rfl rfl ?ywg1_30 ?rwg1_30
 case ywg1_30 =>
  cases b24
  · skip
    refine StepS.read [] (by kernel_rfl) nP (by rfl) (fun L9 m9 w9 hSh hAt hDn hS => ?_)
    have hT : Below _ _ w9 := hS
    have x0 : w9.cell? ⟨w.heap.size, 1, none⟩ = some (.int .u64 (r.next)) := (HX.out.ca hT).cell 1
    clear hT hS
    go_simp
    try rfl
  · exact StepS.skip nP (by rfl)
 try simp only [Act.put, sA, sZ, sS]
 refine Pz 29 (some 36) (cond b24 (undef) (.bool (decide (pk.seq < r.next)))) rfl rfl (by cases b24; (exact StepS.pure nP rfl fun _ => rfl); exact StepS.skip nP rfl) ?_
 try simp only [Act.put, sA, sZ, sS]
 refine Pz 30 (some 37) (.bool (b24 || (decide (pk.seq < r.next)))) rfl rfl ?ywg1_32 ?rwg1_32
 case ywg1_32 =>
  refine StepS.pure nP (by rfl) (fun w9 => ?_)
  cases b24 <;> (first | rfl | (go_simp; done) | (go_simp; rfl))
 try simp only [Act.put, sA, sZ, sS]
 obtain ⟨b31, hb9⟩ : ∃ zb : Bool, zb = ((((((!ck) || (!decide (pk.kind = 1))) || (!decide (pk.ses = r.ses))) || r.over) || en) || (decide (pk.seq < r.next))) := ⟨_, rfl⟩
 have HEb31 := Lib.hid hb9
 clear hb9
 refine Pz 31 (some 38) (.bool (b31)) rfl rfl ?ywg1_33 ?rwg1_33
 case ywg1_33 =>
  refine StepS.pure nP (by rfl) (fun w9 => ?_)
  have e9 : (b24 || (decide (pk.seq < r.next))) = b31 := by rw [HEb31.out, HEb24.out]
  rw [← e9]
  clear e9
  first | rfl | (go_simp; done) | (go_simp; rfl)
 try simp only [Act.put, sA, sZ, sS]
 refine Pz 32 (some 39) (cond b31 (undef) (.pointer (some ⟨w.heap.size + 1, 2, none⟩))) rfl rfl (by cases b31; (exact StepS.pure nP rfl fun _ => rfl); exact StepS.skip nP rfl) ?_
 try simp only [Act.put, sA, sZ, sS]
 refine Pz 33 (some 40) (cond b31 (undef) (.int .u64 (pk.seq))) rfl rfl ?ywg1_35 ?rwg1_35
 case ywg1_35 =>
  cases b31
  · skip
    refine StepS.read [] (by kernel_rfl) nP (by rfl) (fun L9 m9 w9 hSh hAt hDn hS => ?_)
    have hT : Below _ _ w9 := hS
    have x0 : w9.cell? ⟨w.heap.size + 1, 2, none⟩ = some (.int .u64 (pk.seq)) := (HP.out.ca hT).cell 2
    clear hT hS
    go_simp
    try rfl
  · exact StepS.skip nP (by rfl)
 try simp only [Act.put, sA, sZ, sS]
 refine Pz 34 (some 41) (cond b31 (undef) (.agg #[.int .u32 (r.ses), .int .u64 (r.next), .slice A n c, .slice A2 m d, .int .i64 (r.room), .bool (r.over)])) rfl rfl ?ywg1_36 ?rwg1_36
 case ywg1_36 =>
  cases b31
  · skip
    refine StepS.read [] (by kernel_rfl) nP (by rfl) (fun L9 m9 w9 hSh hAt hDn hS => ?_)
    have hT : Below _ _ w9 := hS
    have x0 : w9.cell? ⟨w.heap.size, 0, none⟩ = some (.int .u32 (r.ses)) := (HX.out.ca hT).cell 0
    have x1 : w9.cell? ⟨w.heap.size, 1, none⟩ = some (.int .u64 (r.next)) := (HX.out.ca hT).cell 1
    have x2 : w9.cell? ⟨w.heap.size, 2, none⟩ = some (.slice A n c) := (HX.out.ca hT).cell 2
    have x3 : w9.cell? ⟨w.heap.size, 3, none⟩ = some (.slice A2 m d) := (HX.out.ca hT).cell 3
    have x4 : w9.cell? ⟨w.heap.size, 4, none⟩ = some (.int .i64 (r.room)) := (HX.out.ca hT).cell 4
    have x5 : w9.cell? ⟨w.heap.size, 5, none⟩ = some (.bool (r.over)) := (HX.out.ca hT).cell 5
    clear hT hS
    go_simp
    try rfl
  · exact StepS.skip nP (by rfl)
 try simp only [Act.put, sA, sZ, sS]
 refine Pz 35 (some 42) (cond b31 (undef) (.int .u64 (lm))) rfl rfl ?ywg1_37 ?rwg1_37
 case ywg1_37 =>
  cases b31
  · skip
    refine StepS.call ?fwg1_37 ?awg1_37 [] (by kernel_rfl) (by rfl) (fun w9 => ?hwg1_37) (fun L9 m9 w9 hSh hAt hDn hS => ?cwg1_37)
    case hwg1_37 => go_simp; refine ⟨?_, ?_⟩ <;> rfl
    case cwg1_37 =>
     have hT : Below _ _ w9 := hS
     refine (rlimit_any r A n c A2 m d w9 hbl hrs.2.2.1 (by omega) (by omega) hrm.2).mono ?_
     rintro e w8 ⟨rfl, q8⟩
     exact ⟨congrArg (fun b => Ending.returned (Value.int .u64 b)) HLM.out.symm, bl_ca hT q8⟩
  · exact StepS.skip nP (by rfl)
 try simp only [Act.put, sA, sZ, sS]
 refine Pz 36 (some 43) (cond b31 (undef) (.bool (decide (lm < pk.seq)))) rfl rfl (by cases b31; (exact StepS.pure nP rfl fun _ => rfl); exact StepS.skip nP rfl) ?_
 try simp only [Act.put, sA, sZ, sS]
 obtain ⟨bZ, hb9⟩ : ∃ zb : Bool, zb = (((((((!ck) || (!decide (pk.kind = 1))) || (!decide (pk.ses = r.ses))) || r.over) || en) || (decide (pk.seq < r.next))) || (decide (lm < pk.seq))) := ⟨_, rfl⟩
 have HEbZ := Lib.hid hb9
 clear hb9
 refine Pz 37 (some 44) (.bool (bZ)) rfl rfl ?ywg1_39 ?rwg1_39
 case ywg1_39 =>
  refine StepS.pure nP (by rfl) (fun w9 => ?_)
  have e9 : (b31 || (decide (lm < pk.seq))) = bZ := by rw [HEbZ.out, HEb31.out]
  rw [← e9]
  clear e9
  cases b31 <;> (first | rfl | (go_simp; done) | (go_simp; rfl))
 try simp only [Act.put, sA, sZ, sS]
 refine Ps.done (by kernel_rfl) (fun wg1 hS => ?_) _
 try generalize (cond b31 (undef) (.agg #[.int .u32 (r.ses), .int .u64 (r.next), .slice A n c, .slice A2 m d, .int .i64 (r.room), .bool (r.over)]) : Value) = zz40
 try generalize (cond b24 (undef) (.pointer (some ⟨w.heap.size + 1, 2, none⟩)) : Value) = zz41
 try generalize (cond b31 (undef) (.pointer (some ⟨w.heap.size + 1, 2, none⟩)) : Value) = zz42
 try generalize (cond b3 (undef) (.pointer (some ⟨w.heap.size + 1, 0, none⟩)) : Value) = zz43
 try generalize (cond b8 (undef) (.pointer (some ⟨w.heap.size + 1, 1, none⟩)) : Value) = zz44
 try generalize (cond b19 (undef) (.pointer (some ⟨w.heap.size, 3, none⟩)) : Value) = zz45
 try generalize (cond b24 (undef) (.pointer (some ⟨w.heap.size, 1, none⟩)) : Value) = zz46
 try generalize (cond b15 (undef) (.pointer (some ⟨w.heap.size, 5, none⟩)) : Value) = zz47
 try generalize (cond b8 (undef) (.pointer (some ⟨w.heap.size, 0, none⟩)) : Value) = zz48
 try generalize (cond b24 (undef) (.bool (decide (pk.seq < r.next))) : Value) = zz49
 try generalize (cond b8 (undef) (.bool (!decide (pk.ses = r.ses))) : Value) = zz50
 try generalize (cond b31 (undef) (.bool (decide (lm < pk.seq))) : Value) = zz51
 try generalize (cond b3 (undef) (.bool (!decide (pk.kind = 1))) : Value) = zz52
 try generalize (.bool (b24 || (decide (pk.seq < r.next))) : Value) = zz53
 try generalize (.bool (b8 || (!decide (pk.ses = r.ses))) : Value) = zz54
 try generalize (cond b31 (undef) (.int .u64 (pk.seq)) : Value) = zz55
 try generalize (cond b24 (undef) (.int .u64 (pk.seq)) : Value) = zz56
 try generalize (cond b24 (undef) (.int .u64 (r.next)) : Value) = zz57
 try generalize (cond b3 (undef) (.int .i64 (pk.kind)) : Value) = zz58
 try generalize (.bool (b3 || (!decide (pk.kind = 1))) : Value) = zz59
 try generalize (cond b8 (undef) (.int .u32 (pk.ses)) : Value) = zz60
 try generalize (cond b8 (undef) (.int .u32 (r.ses)) : Value) = zz61
 try generalize (cond b15 (undef) (.bool (r.over)) : Value) = zz62
 try generalize (cond b31 (undef) (.int .u64 (lm)) : Value) = zz63
 try generalize (cond b19 (undef) (.slice A2 m d) : Value) = zz64
 try generalize (cond b19 (undef) (.bool (en)) : Value) = zz65
 try generalize (.bool (b15 || r.over) : Value) = zz66
 try generalize (.bool (b19 || en) : Value) = zz67
 have HT2 := Lib.hid (show Below w1.heap.size w1 wg1 from hS)
 clear hS
 obtain ⟨w2, rfl⟩ : ∃ x, x = wg1 := ⟨_, rfl⟩
 have HQ2 := Lib.hid (bl_ca HQ.out HT2.out)
 cases bZ
 · have HHC := Lib.hid (show RR = !(r.ahead.any (againstB pk.b pk.seq)) from by rw [HHB.out, ← HEbZ.out]; rfl)
   have HX2 := Lib.hid (HX.out.ca HT2.out)
   have HP2 := Lib.hid (HP.out.ca HT2.out)
   have HRA2 := Lib.hid (Lay.rd_below HRA.out HT2.out)
   clear HX HP HRA HRB HRP HT2 HHB HQ
   have y2 := HX2.out.cell 2
   go_wp2_with fail
   clear y2
   go_loopg [48] n (fun g a wr => ∃ i : Nat, i + g = n ∧ a = .int .i64 i ∧ (∀ (k : Nat) x, k < i → r.ahead[k]? = some x → againstB pk.b pk.seq x = false) ∧ Below w2.heap.size w2 wr)
   case atStart => exact ⟨0, by omega, rfl, fun k x hk => by omega, Below.refl _ _⟩
   case round =>
    obtain ⟨i, hig, rfl, hlo, bb⟩ := hrel
    have HLO := Lib.hid hlo
    have HBB := Lib.hid bb
    by_cases hlt : i < n
    · have hi1 : (i : Int) < (n : Int) := by omega
      obtain ⟨ad, x, Bx, kx, kc, rfl, hx, s1⟩ := LH4_at (Lay.rd_below HRA2.out bb) hlt
      have e0 := s1.c0
      have e1 := s1.c1
      have e2 := s1.c2
      have e3 := s1.c3
      have HXX := Lib.hid hx
      have HN6 := Lib.hid (Blk.new wr 81 #[.int .u64 0, .slice none 0 0, .bool false, .int .u64 0])
      clear s1 hx bb hlo
      go_upto_region 6 with (first | (refine wpList_store_blk rfl 81 (.tmp 6) (.tmp 51) rfl wr.heap.size 81 #[.int .u64 0, .slice none 0 0, .bool false, .int .u64 0] #[.int .u64 x.seq, .slice Bx kx kc, .bool x.b.fin, .int .u64 x.b.cnt] rfl rfl HN6.out rfl heldI (by simp [Value.oneCell']) ?_; intro w11 h11 g11; have HT11 := Lib.hid h11; have HG11 := Lib.hid g11; clear h11 g11))
      have HBR := Lib.hid (bl_gr (bl_al (Below.refl wr.heap.size wr) (.cells #[.int .u64 0, .slice none 0 0, .bool false, .int .u64 0] 81)) HG11.out (Nat.le_refl _))
      have HB11 := Lib.hid (bl_ca HBB.out HBR.out)
      have HP11 := Lib.hid (HP2.out.ca HB11.out)
      clear e0 e1 e2 e3 HN6 HG11
      refine wp_region_ps0 .text (S := fun _ _ w' => Below w11.heap.size w11 w') (by kernel_rfl) ?spswg68 ?ppswg68
      case spswg68 =>
       exact (Below.refl w11.heap.size w11)
      refine Pz 0 (some 52) (.pointer (some ⟨wr.heap.size, 0, none⟩)) rfl rfl (by exact StepS.pure nP rfl fun _ => rfl) ?_
      try simp only [Act.put, sA, sZ, sS]
      refine Pz 1 (some 53) (.int .u64 (x.seq)) rfl rfl ?ywg68_70 ?rwg68_70
      case ywg68_70 =>
       refine StepS.read [] (by kernel_rfl) nP (by rfl) (fun L9 m9 w9 hSh hAt hDn hS => ?_)
       have hT : Below _ _ w9 := hS
       have x0 : w9.cell? ⟨wr.heap.size, 0, none⟩ = some (.int .u64 (x.seq)) := (HT11.out.ca hT).cell 0
       clear hT hS
       go_simp
       try rfl
      try simp only [Act.put, sA, sZ, sS]
      refine Pz 2 (some 54) (.pointer (some ⟨w.heap.size + 1, 2, none⟩)) rfl rfl (by exact StepS.pure nP rfl fun _ => rfl) ?_
      try simp only [Act.put, sA, sZ, sS]
      refine Pz 3 (some 55) (.int .u64 (pk.seq)) rfl rfl ?ywg68_72 ?rwg68_72
      case ywg68_72 =>
       refine StepS.read [] (by kernel_rfl) nP (by rfl) (fun L9 m9 w9 hSh hAt hDn hS => ?_)
       have hT : Below _ _ w9 := hS
       have x0 : w9.cell? ⟨w.heap.size + 1, 2, none⟩ = some (.int .u64 (pk.seq)) := (HP11.out.ca hT).cell 2
       clear hT hS
       go_simp
       try rfl
      try simp only [Act.put, sA, sZ, sS]
      refine Pz 4 (some 56) (.bool (decide (x.seq = pk.seq))) rfl rfl (by exact StepS.pure nP rfl fun _ => rfl) ?_
      try simp only [Act.put, sA, sZ, sS]
      obtain ⟨b5, hb9⟩ : ∃ zb : Bool, zb = (decide (x.seq = pk.seq)) := ⟨_, rfl⟩
      have HEb5 := Lib.hid hb9
      clear hb9
      refine Pz 5 (some 57) (.bool (b5)) rfl rfl ?ywg68_74 ?rwg68_74
      case ywg68_74 =>
       refine StepS.pure nP (by rfl) (fun w9 => ?_)
       have e9 : (decide (x.seq = pk.seq)) = b5 := by rw [HEb5.out]
       rw [← e9]
       clear e9
       first | rfl | (go_simp; done) | (go_simp; rfl)
      try simp only [Act.put, sA, sZ, sS]
      refine Pz 6 (some 58) (cond b5 (undef) (.pointer (some ⟨wr.heap.size, 1, none⟩))) rfl rfl (by cases b5; (exact StepS.pure nP rfl fun _ => rfl); exact StepS.skip nP rfl) ?_
      try simp only [Act.put, sA, sZ, sS]
      refine Pz 7 (some 59) (cond b5 (undef) (.pointer (some ⟨wr.heap.size, 2, none⟩))) rfl rfl (by cases b5; (exact StepS.pure nP rfl fun _ => rfl); exact StepS.skip nP rfl) ?_
      try simp only [Act.put, sA, sZ, sS]
      refine Pz 8 (some 60) (cond b5 (undef) (.bool (x.b.fin))) rfl rfl ?ywg68_77 ?rwg68_77
      case ywg68_77 =>
       cases b5
       · skip
         refine StepS.read [] (by kernel_rfl) nP (by rfl) (fun L9 m9 w9 hSh hAt hDn hS => ?_)
         have hT : Below _ _ w9 := hS
         have x0 : w9.cell? ⟨wr.heap.size, 2, none⟩ = some (.bool (x.b.fin)) := (HT11.out.ca hT).cell 2
         clear hT hS
         go_simp
         try rfl
       · exact StepS.skip nP (by rfl)
      try simp only [Act.put, sA, sZ, sS]
      obtain ⟨b9, hb9⟩ : ∃ zb : Bool, zb = (x.b.fin) := ⟨_, rfl⟩
      have HEb9 := Lib.hid hb9
      clear hb9
      refine Pz 9 (some 61) (cond b5 (undef) (.bool (b9))) rfl rfl ?ywg68_78 ?rwg68_78
      case ywg68_78 =>
       cases b5
       · skip
         refine StepS.pure nP (by rfl) (fun w9 => ?_)
         have e9 : (x.b.fin) = b9 := by rw [HEb9.out]
         rw [← e9]
         clear e9
         first | rfl | (go_simp; done) | (go_simp; rfl)
       · exact StepS.skip nP (by rfl)
      try simp only [Act.put, sA, sZ, sS]
      refine Pz 10 (some 62) (cond b5 (undef) (cond b9 (.pointer (some ⟨w.heap.size + 1, 2, none⟩)) (undef))) rfl rfl (by cases b5; (cases b9; exact StepS.skip nP rfl; exact StepS.pure nP rfl fun _ => rfl); exact StepS.skip nP rfl) ?_
      try simp only [Act.put, sA, sZ, sS]
      refine Pz 11 (some 63) (cond b5 (undef) (cond b9 (.int .u64 (pk.seq)) (undef))) rfl rfl ?ywg68_80 ?rwg68_80
      case ywg68_80 =>
       cases b5
       · skip
         cases b9
         · exact StepS.skip nP (by rfl)
         · skip
           refine StepS.read [] (by kernel_rfl) nP (by rfl) (fun L9 m9 w9 hSh hAt hDn hS => ?_)
           have hT : Below _ _ w9 := hS
           have x0 : w9.cell? ⟨w.heap.size + 1, 2, none⟩ = some (.int .u64 (pk.seq)) := (HP11.out.ca hT).cell 2
           clear hT hS
           go_simp
           try rfl
       · exact StepS.skip nP (by rfl)
      try simp only [Act.put, sA, sZ, sS]
      refine Pz 12 (some 64) (cond b5 (undef) (cond b9 (.pointer (some ⟨wr.heap.size, 0, none⟩)) (undef))) rfl rfl (by cases b5; (cases b9; exact StepS.skip nP rfl; exact StepS.pure nP rfl fun _ => rfl); exact StepS.skip nP rfl) ?_
      try simp only [Act.put, sA, sZ, sS]
      refine Pz 13 (some 65) (cond b5 (undef) (cond b9 (.int .u64 (x.seq)) (undef))) rfl rfl ?ywg68_82 ?rwg68_82
      case ywg68_82 =>
       cases b5
       · skip
         cases b9
         · exact StepS.skip nP (by rfl)
         · skip
           refine StepS.read [] (by kernel_rfl) nP (by rfl) (fun L9 m9 w9 hSh hAt hDn hS => ?_)
           have hT : Below _ _ w9 := hS
           have x0 : w9.cell? ⟨wr.heap.size, 0, none⟩ = some (.int .u64 (x.seq)) := (HT11.out.ca hT).cell 0
           clear hT hS
           go_simp
           try rfl
       · exact StepS.skip nP (by rfl)
      try simp only [Act.put, sA, sZ, sS]
      refine Pz 14 (some 66) (cond b5 (undef) (cond b9 (.bool (decide (x.seq < pk.seq))) (undef))) rfl rfl (by cases b5; (cases b9; exact StepS.skip nP rfl; exact StepS.pure nP rfl fun _ => rfl); exact StepS.skip nP rfl) ?_
      try simp only [Act.put, sA, sZ, sS]
      refine Pz 15 (some 67) (cond b5 (undef) (.bool (b9 && (decide (x.seq < pk.seq))))) rfl rfl ?ywg68_84 ?rwg68_84
      case ywg68_84 =>
       cases b5
       · skip
         refine StepS.pure nP (by rfl) (fun w9 => ?_)
         cases b9 <;> (first | rfl | (go_simp; done) | (go_simp; rfl))
       · exact StepS.skip nP (by rfl)
      try simp only [Act.put, sA, sZ, sS]
      refine Pz 16 (some 68) (.bool (b5 || (b9 && (decide (x.seq < pk.seq))))) rfl rfl ?ywg68_85 ?rwg68_85
      case ywg68_85 =>
       refine StepS.pure nP (by rfl) (fun w9 => ?_)
       cases b5 <;> (first | rfl | (go_simp; done) | (go_simp; rfl))
      try simp only [Act.put, sA, sZ, sS]
      obtain ⟨b17, hb9⟩ : ∃ zb : Bool, zb = ((decide (x.seq = pk.seq)) || ((x.b.fin) && (decide (x.seq < pk.seq)))) := ⟨_, rfl⟩
      have HEb17 := Lib.hid hb9
      clear hb9
      refine Pz 17 (some 69) (.bool (b17)) rfl rfl ?ywg68_86 ?rwg68_86
      case ywg68_86 =>
       refine StepS.pure nP (by rfl) (fun w9 => ?_)
       have e9 : (b5 || (b9 && (decide (x.seq < pk.seq)))) = b17 := by rw [HEb17.out, HEb5.out, HEb9.out]
       rw [← e9]
       clear e9
       first | rfl | (go_simp; done) | (go_simp; rfl)
      try simp only [Act.put, sA, sZ, sS]
      refine Pz 18 (some 70) (cond b17 (undef) (.pointer (some ⟨w.heap.size + 1, 4, none⟩))) rfl rfl (by cases b17; (exact StepS.pure nP rfl fun _ => rfl); exact StepS.skip nP rfl) ?_
      try simp only [Act.put, sA, sZ, sS]
      refine Pz 19 (some 71) (cond b17 (undef) (.pointer (some ⟨w.heap.size + 1, 5, none⟩))) rfl rfl (by cases b17; (exact StepS.pure nP rfl fun _ => rfl); exact StepS.skip nP rfl) ?_
      try simp only [Act.put, sA, sZ, sS]
      refine Pz 20 (some 72) (cond b17 (undef) (.bool (pk.b.fin))) rfl rfl ?ywg68_89 ?rwg68_89
      case ywg68_89 =>
       cases b17
       · skip
         refine StepS.read [] (by kernel_rfl) nP (by rfl) (fun L9 m9 w9 hSh hAt hDn hS => ?_)
         have hT : Below _ _ w9 := hS
         have x0 : w9.cell? ⟨w.heap.size + 1, 5, none⟩ = some (.bool (pk.b.fin)) := (HP11.out.ca hT).cell 5
         clear hT hS
         go_simp
         try rfl
       · exact StepS.skip nP (by rfl)
      try simp only [Act.put, sA, sZ, sS]
      obtain ⟨b21, hb9⟩ : ∃ zb : Bool, zb = (pk.b.fin) := ⟨_, rfl⟩
      have HEb21 := Lib.hid hb9
      clear hb9
      refine Pz 21 (some 73) (cond b17 (undef) (.bool (b21))) rfl rfl ?ywg68_90 ?rwg68_90
      case ywg68_90 =>
       cases b17
       · skip
         refine StepS.pure nP (by rfl) (fun w9 => ?_)
         have e9 : (pk.b.fin) = b21 := by rw [HEb21.out]
         rw [← e9]
         clear e9
         first | rfl | (go_simp; done) | (go_simp; rfl)
       · exact StepS.skip nP (by rfl)
      try simp only [Act.put, sA, sZ, sS]
      refine Pz 22 (some 74) (cond b17 (undef) (cond b21 (.pointer (some ⟨wr.heap.size, 0, none⟩)) (undef))) rfl rfl (by cases b17; (cases b21; exact StepS.skip nP rfl; exact StepS.pure nP rfl fun _ => rfl); exact StepS.skip nP rfl) ?_
      try simp only [Act.put, sA, sZ, sS]
      refine Pz 23 (some 75) (cond b17 (undef) (cond b21 (.int .u64 (x.seq)) (undef))) rfl rfl ?ywg68_92 ?rwg68_92
      case ywg68_92 =>
       cases b17
       · skip
         cases b21
         · exact StepS.skip nP (by rfl)
         · skip
           refine StepS.read [] (by kernel_rfl) nP (by rfl) (fun L9 m9 w9 hSh hAt hDn hS => ?_)
           have hT : Below _ _ w9 := hS
           have x0 : w9.cell? ⟨wr.heap.size, 0, none⟩ = some (.int .u64 (x.seq)) := (HT11.out.ca hT).cell 0
           clear hT hS
           go_simp
           try rfl
       · exact StepS.skip nP (by rfl)
      try simp only [Act.put, sA, sZ, sS]
      refine Pz 24 (some 76) (cond b17 (undef) (cond b21 (.pointer (some ⟨w.heap.size + 1, 2, none⟩)) (undef))) rfl rfl (by cases b17; (cases b21; exact StepS.skip nP rfl; exact StepS.pure nP rfl fun _ => rfl); exact StepS.skip nP rfl) ?_
      try simp only [Act.put, sA, sZ, sS]
      refine Pz 25 (some 77) (cond b17 (undef) (cond b21 (.int .u64 (pk.seq)) (undef))) rfl rfl ?ywg68_94 ?rwg68_94
      case ywg68_94 =>
       cases b17
       · skip
         cases b21
         · exact StepS.skip nP (by rfl)
         · skip
           refine StepS.read [] (by kernel_rfl) nP (by rfl) (fun L9 m9 w9 hSh hAt hDn hS => ?_)
           have hT : Below _ _ w9 := hS
           have x0 : w9.cell? ⟨w.heap.size + 1, 2, none⟩ = some (.int .u64 (pk.seq)) := (HP11.out.ca hT).cell 2
           clear hT hS
           go_simp
           try rfl
       · exact StepS.skip nP (by rfl)
      try simp only [Act.put, sA, sZ, sS]
      refine Pz 26 (some 78) (cond b17 (undef) (cond b21 (.bool (decide (pk.seq < x.seq))) (undef))) rfl rfl (by cases b17; (cases b21; exact StepS.skip nP rfl; exact StepS.pure nP rfl fun _ => rfl); exact StepS.skip nP rfl) ?_
      try simp only [Act.put, sA, sZ, sS]
      refine Pz 27 (some 79) (cond b17 (undef) (.bool (b21 && (decide (pk.seq < x.seq))))) rfl rfl ?ywg68_96 ?rwg68_96
      case ywg68_96 =>
       cases b17
       · skip
         refine StepS.pure nP (by rfl) (fun w9 => ?_)
         cases b21 <;> (first | rfl | (go_simp; done) | (go_simp; rfl))
       · exact StepS.skip nP (by rfl)
      try simp only [Act.put, sA, sZ, sS]
      obtain ⟨bW, hb9⟩ : ∃ zb : Bool, zb = (((decide (x.seq = pk.seq)) || ((x.b.fin) && (decide (x.seq < pk.seq)))) || ((pk.b.fin) && (decide (pk.seq < x.seq)))) := ⟨_, rfl⟩
      have HEbW := Lib.hid hb9
      clear hb9
      refine Pz 28 (some 80) (.bool (bW)) rfl rfl ?ywg68_97 ?rwg68_97
      case ywg68_97 =>
       refine StepS.pure nP (by rfl) (fun w9 => ?_)
       have e9 : (b17 || (b21 && (decide (pk.seq < x.seq)))) = bW := by rw [HEbW.out, HEb17.out, HEb21.out]
       rw [← e9]
       clear e9
       cases b17 <;> (first | rfl | (go_simp; done) | (go_simp; rfl))
      try simp only [Act.put, sA, sZ, sS]
      refine Ps.done (by kernel_rfl) (fun wg68 hS => ?_) _
      try generalize (cond b17 (undef) (cond b21 (.pointer (some ⟨w.heap.size + 1, 2, none⟩)) (undef)) : Value) = zz98
      try generalize (cond b5 (undef) (cond b9 (.pointer (some ⟨w.heap.size + 1, 2, none⟩)) (undef)) : Value) = zz99
      try generalize (cond b17 (undef) (cond b21 (.pointer (some ⟨wr.heap.size, 0, none⟩)) (undef)) : Value) = zz100
      try generalize (cond b5 (undef) (cond b9 (.pointer (some ⟨wr.heap.size, 0, none⟩)) (undef)) : Value) = zz101
      try generalize (cond b17 (undef) (cond b21 (.bool (decide (pk.seq < x.seq))) (undef)) : Value) = zz102
      try generalize (cond b5 (undef) (cond b9 (.bool (decide (x.seq < pk.seq))) (undef)) : Value) = zz103
      try generalize (cond b17 (undef) (.pointer (some ⟨w.heap.size + 1, 5, none⟩)) : Value) = zz104
      try generalize (cond b17 (undef) (.pointer (some ⟨w.heap.size + 1, 4, none⟩)) : Value) = zz105
      try generalize (cond b17 (undef) (.bool (b21 && (decide (pk.seq < x.seq)))) : Value) = zz106
      try generalize (cond b5 (undef) (.pointer (some ⟨wr.heap.size, 2, none⟩)) : Value) = zz107
      try generalize (cond b5 (undef) (.bool (b9 && (decide (x.seq < pk.seq)))) : Value) = zz108
      try generalize (cond b5 (undef) (.pointer (some ⟨wr.heap.size, 1, none⟩)) : Value) = zz109
      try generalize (cond b17 (undef) (cond b21 (.int .u64 (pk.seq)) (undef)) : Value) = zz110
      try generalize (cond b17 (undef) (cond b21 (.int .u64 (x.seq)) (undef)) : Value) = zz111
      try generalize (cond b5 (undef) (cond b9 (.int .u64 (pk.seq)) (undef)) : Value) = zz112
      try generalize (cond b5 (undef) (cond b9 (.int .u64 (x.seq)) (undef)) : Value) = zz113
      try generalize (.bool (b5 || (b9 && (decide (x.seq < pk.seq)))) : Value) = zz114
      try generalize (cond b17 (undef) (.bool (pk.b.fin)) : Value) = zz115
      try generalize (cond b5 (undef) (.bool (x.b.fin)) : Value) = zz116
      try generalize (cond b17 (undef) (.bool (b21)) : Value) = zz117
      try generalize (cond b5 (undef) (.bool (b9)) : Value) = zz118
      have HT12 := Lib.hid (show Below w11.heap.size w11 wg68 from hS)
      clear hS
      obtain ⟨w12, rfl⟩ : ∃ x, x = wg68 := ⟨_, rfl⟩
      have HB12 := Lib.hid (bl_ca HB11.out HT12.out)
      clear HP11 HT11 HT12 HBR HB11
      cases bW
      · go_wp2
        go_roundg (gk - 1)
        · refine ⟨i + 1, by omega, by go_num, fun k y hk hy => ?_, HB12.out⟩
          rcases Nat.lt_or_ge k i with h | h
          · exact HLO.out k y h hy
          · obtain rfl : k = i := by omega
            rw [HXX.out] at hy
            injection hy with hy
            rw [← hy]
            exact HEbW.out.symm
        · omega
      · go_wp2
        go_ret
        refine ⟨ret_bool ?_, bl_ca HQ2.out HB12.out⟩
        rw [HHC.out]
        have : r.ahead.any (againstB pk.b pk.seq) = true := List.any_eq_true.2 ⟨x, List.mem_of_getElem? HXX.out, HEbW.out.symm⟩
        rw [this]
        rfl
    · obtain rfl : i = n := by omega
      have hi1 : (i : Int) ≤ (i : Int) := by omega
      clear bb hlo
      go_wp2
      go_ret
      refine ⟨ret_bool ?_, bl_ca HQ2.out HBB.out⟩
      rw [HHC.out]
      have : r.ahead.any (againstB pk.b pk.seq) = false := List.any_eq_false.2 (fun y hy => by
       obtain ⟨k, hk⟩ := List.getElem?_of_mem hy
       have hkl := (List.getElem?_eq_some_iff.1 hk).1
       rw [HLO.out k y (by omega) hk]
       simp)
      rw [this]
      rfl
 · go_wp2
   go_ret
   exact ⟨ret_bool (by rw [HHB.out, ← HEbZ.out]; rfl), HQ2.out⟩
end Go.Proofs.Ytojghgbaiiajfaa
/- The reference's copy of batches. Conditions: the slice reads so. -/
namespace Go.Proofs.Ytojghgbaiiajfaa
open Go.RowKit
set_option maxRecDepth 100000 in
set_option maxHeartbeats 4000000 in
theorem rbatches_any (F : Nat → Prop) (A : Option Addr) (m c : Nat) (xs : List BC) (w : World) (h : LB3.rd w F A m xs) (hm : m ≤ 1000) :
 Calls Try.prog 85 #[.slice A m c] w fun e w' => ∃ A2 c2, e = .returned (.slice A2 m c2) ∧ LB3.own 45 w' w.heap.size (fun b => F b ∧ b < w.heap.size) A2 m c2 xs ∧ Below w.heap.size w w' := by
 have oe := Lay.own_empty LB3 w 45 (fun b => F b ∧ b < w.heap.size) (by decide)
 have b1 := bl_al (Below.refl w.heap.size w) (.cells #[] 45)
 have h2 : LB3.rd (w.alloc (.cells #[] 45)) (fun b => F b ∧ b < w.heap.size) A m xs := Lay.rd_below (Lay.rd_weak (fun b hb hl => ⟨hb, hl⟩) h) b1
 have hz := b1.size
 have HOE := Lib.hid oe
 have HH2 := Lib.hid h2
 have HB := Lib.hid b1
 clear h h2 oe b1
 go_enter Try.func85, Try.ntmps85
 go_wp2_with (at_builtin; refine wpList_appLs (L := LB3) (e := 45) rfl (.tmp 3) (.tmp 4) 27 rfl (.agg #[.slice none 0 0, .bool false, .int .u64 0]) 3 40 Try.underlying27 infoB rfl rfl (by decide) w.heap.size (fun b => F b ∧ b < w.heap.size) (fun b => F b ∧ b < w.heap.size) (some ⟨w.heap.size, 0, none⟩) 0 0 [] A m c xs m (by omega) rfl rfl HOE.out HH2.out (fun b hb _ => ⟨hb, fun e => by simp [Value.ownBlock] at e; have := hb.2; omega⟩) (fun b hb => Nat.lt_of_lt_of_le hb.2 hz) (by omega) (by unfold maxLen; omega) hz ?_; intro A4 c4 w4 o4 g4 _; rw [List.nil_append] at o4; have HO4 := Lib.hid o4; have HG4 := Lib.hid g4; clear o4 g4)
 go_ret
 exact ⟨A4, c4, rfl, HO4.out, HB.out.grown HG4.out hz (fun k e => by simp [Value.ownBlock] at e; omega)⟩
end Go.Proofs.Ytojghgbaiiajfaa
