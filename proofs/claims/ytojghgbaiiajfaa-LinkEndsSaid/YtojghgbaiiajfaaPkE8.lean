/- link.CheckReceiver. Conditions: the slices read as these batches. -/
import Derived.Test.YtojghgbaiiajfaaPkE7
namespace Go.Proofs.Ytojghgbaiiajfaa
open Go.RowKit
def aheadB (lim : Int) : Int → List HC → Bool
 | _, [] => true
 | a, h :: l => decide (a < h.seq) && (decide (h.seq ≤ lim) && (batchB h.b h.seq && ((!h.b.fin || l.isEmpty) && aheadB lim h.seq l)))
theorem aheadB_at {l : List HC} {i : Nat} {h : HC} {a lim : Int} (hx : l[i]? = some h) : aheadB lim a (l.drop i) = (decide (a < h.seq) && (decide (h.seq ≤ lim) && (batchB h.b h.seq && ((!h.b.fin || decide (l.length ≤ i + 1)) && aheadB lim h.seq (l.drop (i + 1)))))) := by
 rw [drop_at hx]
 show (decide (a < h.seq) && (decide (h.seq ≤ lim) && (batchB h.b h.seq && ((!h.b.fin || (l.drop (i + 1)).isEmpty) && aheadB lim h.seq (l.drop (i + 1)))))) = _
 rw [show (l.drop (i + 1)).isEmpty = decide (l.length ≤ i + 1) from by rw [Bool.eq_iff_iff]; simp]
def recA (r : RC) : Bool := sesB r.ses && (decide (1 ≤ r.room) && (decide (r.room ≤ 8) && (decide (1 ≤ r.next) && (decide (r.next ≤ 1099511627777) && (decide ((r.buf.length : Int) ≤ r.room) && decide ((r.buf.length : Int) < r.next))))))
def recM (r : RC) : Bool := inRowB r.buf (r.next - (r.buf.length : Int)) && (decide (r.ahead.length = 0) || !endsB r.buf)
def recT (r : RC) : Bool := !r.over || (decide (r.buf.length = 0) && (decide (r.ahead.length = 0) && decide (2 ≤ r.next)))
def recB (r : RC) : Bool := recA r && (recM r && (recT r && aheadB (limR r) r.next r.ahead))
def pvA (next : Int) (l : List HC) (i : Nat) : Int := match i with | 0 => next | k + 1 => match l[k]? with | some h => h.seq | none => next
set_option maxRecDepth 100000 in
set_option maxHeartbeats 16000000 in
theorem crecv_any (Fr F2 : Nat → Prop) (r : RC) (A : Option Addr) (n c : Nat) (B : Option Addr) (m d : Nat) (w : World) (h : LH4.rd w Fr A n r.ahead) (h2 : LB3.rd w F2 B m r.buf) (hn : n ≤ 9223372036854775807) (hm : m ≤ 9223372036854775807) :
 Calls Try.prog 24 #[.agg (r.cells A n c B m d)] w fun e w' => e = .returned (.int .i64 (if recB r then 0 else 320)) ∧ Below w.heap.size w w' := by
 obtain ⟨rr, hr⟩ : ∃ rr : Int, rr = if recB r then 0 else 320 := ⟨_, rfl⟩
 rw [← hr]
 have HRR := Lib.hid hr
 clear hr
 obtain ⟨ses, next, ahead, buf, room, over⟩ := r
 dsimp only at h h2
 have HLA := Lib.hid (Lay.rd_len h)
 have HLB := Lib.hid (Lay.rd_len h2)
 have b1 := bl_al (Below.refl w.heap.size w) (.cells #[.int .u32 ses, .int .u64 next, .slice A n c, .slice B m d, .int .i64 room, .bool over] 36)
 have HB := Lib.hid (Blk.new w 36 #[.int .u32 ses, .int .u64 next, .slice A n c, .slice B m d, .int .i64 room, .bool over])
 have HRA := Lib.hid (Lay.rd_below h b1)
 have HRB := Lib.hid (Lay.rd_below h2 b1)
 have HBB := Lib.hid b1
 clear h h2 b1
 have x3 := HB.out.cell 3
 have hwm : IntKind.u64.wrap (m : Int) = (m : Int) := u64_in (by omega) (by omega)
 have HWM := Lib.hid hwm
 clear hwm
 go_enter Try.func24, Try.ntmps24
 go_upto_region 2 with fail
 clear x3
 generalize w.alloc (.cells #[.int .u32 ses, .int .u64 next, .slice A n c, .slice B m d, .int .i64 room, .bool over] 36) = w1 at *
 refine wp_region_ps0 .text (S := fun _ _ w' => Below w1.heap.size w1 w') (by kernel_rfl) ?spswg1 ?ppswg1
 case spswg1 =>
  exact (Below.refl w1.heap.size w1)
 refine Pz 0 (some 11) (.pointer (some ⟨w.heap.size, 0, none⟩)) rfl rfl (by exact StepS.pure nP rfl fun _ => rfl) ?_
 try simp only [Act.put, sA, sZ, sS]
 refine Pz 1 (some 12) (.int .u32 (ses)) rfl rfl ?ywg1_3 ?rwg1_3
 case ywg1_3 =>
  refine StepS.read [] (by kernel_rfl) nP (by rfl) (fun L9 m9 w9 hSh hAt hDn hS => ?_)
  have hT : Below _ _ w9 := hS
  have x0 : w9.cell? ⟨w.heap.size, 0, none⟩ = some (.int .u32 (ses)) := (HB.out.ca hT).cell 0
  clear hT hS
  go_simp
  try rfl
 try simp only [Act.put, sA, sZ, sS]
 refine Pz 2 (some 13) (.bool (sesB ses)) rfl rfl ?ywg1_4 ?rwg1_4
 case ywg1_4 =>
  refine StepS.call ?fwg1_4 ?awg1_4 [] (by kernel_rfl) (by rfl) (fun w9 => ?hwg1_4) (fun L9 m9 w9 hSh hAt hDn hS => ?cwg1_4)
  case hwg1_4 => go_simp; refine ⟨?_, ?_⟩ <;> rfl
  case cwg1_4 =>
   have hT : Below _ _ w9 := hS
   refine (session_any ses w9).mono ?_
   rintro e w8 ⟨rfl, rfl⟩
   exact ⟨rfl, hT⟩
 try simp only [Act.put, sA, sZ, sS]
 obtain ⟨b2_3, hb9⟩ : ∃ b : Bool, b = (sesB ses) := ⟨_, rfl⟩
 have HEb2_3 := Lib.hid hb9
 clear hb9
 refine Pz 3 (some 14) (.bool (b2_3)) rfl rfl ?ywg1_5 ?rwg1_5
 case ywg1_5 =>
  refine StepS.pure nP (by rfl) (fun w9 => ?_)
  have e9 : (sesB ses) = b2_3 := by rw [HEb2_3.out]
  rw [← e9]
  clear e9
  first | rfl | (go_simp; done) | (go_simp; rfl)
 try simp only [Act.put, sA, sZ, sS]
 refine Pz 4 (some 15) (cond b2_3 (.pointer (some ⟨w.heap.size, 4, none⟩)) (undef)) rfl rfl (by cases b2_3; exact StepS.skip nP rfl; exact StepS.pure nP rfl fun _ => rfl) ?_
 try simp only [Act.put, sA, sZ, sS]
 refine Pz 5 (some 16) (cond b2_3 (.int .i64 (room)) (undef)) rfl rfl ?ywg1_7 ?rwg1_7
 case ywg1_7 =>
  cases b2_3
  · exact StepS.skip nP (by rfl)
  · skip
    refine StepS.read [] (by kernel_rfl) nP (by rfl) (fun L9 m9 w9 hSh hAt hDn hS => ?_)
    have hT : Below _ _ w9 := hS
    have x0 : w9.cell? ⟨w.heap.size, 4, none⟩ = some (.int .i64 (room)) := (HB.out.ca hT).cell 4
    clear hT hS
    go_simp
    try rfl
 try simp only [Act.put, sA, sZ, sS]
 refine Pz 6 (some 17) (cond b2_3 (.bool (decide ((1 : Int) ≤ room))) (undef)) rfl rfl (by cases b2_3; exact StepS.skip nP rfl; exact StepS.pure nP rfl fun _ => rfl) ?_
 try simp only [Act.put, sA, sZ, sS]
 refine Pz 7 (some 18) (.bool (b2_3 && (decide ((1 : Int) ≤ room)))) rfl rfl ?ywg1_9 ?rwg1_9
 case ywg1_9 =>
  refine StepS.pure nP (by rfl) (fun w9 => ?_)
  cases b2_3 <;> (first | rfl | (go_simp; done) | (go_simp; rfl))
 try simp only [Act.put, sA, sZ, sS]
 obtain ⟨b2_8, hb9⟩ : ∃ b : Bool, b = ((sesB ses) && (decide ((1 : Int) ≤ room))) := ⟨_, rfl⟩
 have HEb2_8 := Lib.hid hb9
 clear hb9
 refine Pz 8 (some 19) (.bool (b2_8)) rfl rfl ?ywg1_10 ?rwg1_10
 case ywg1_10 =>
  refine StepS.pure nP (by rfl) (fun w9 => ?_)
  have e9 : (b2_3 && (decide ((1 : Int) ≤ room))) = b2_8 := by rw [HEb2_8.out, HEb2_3.out]
  rw [← e9]
  clear e9
  first | rfl | (go_simp; done) | (go_simp; rfl)
 try simp only [Act.put, sA, sZ, sS]
 refine Pz 9 (some 20) (cond b2_8 (.pointer (some ⟨w.heap.size, 4, none⟩)) (undef)) rfl rfl (by cases b2_8; exact StepS.skip nP rfl; exact StepS.pure nP rfl fun _ => rfl) ?_
 try simp only [Act.put, sA, sZ, sS]
 refine Pz 10 (some 21) (cond b2_8 (.int .i64 (room)) (undef)) rfl rfl ?ywg1_12 ?rwg1_12
 case ywg1_12 =>
  cases b2_8
  · exact StepS.skip nP (by rfl)
  · skip
    refine StepS.read [] (by kernel_rfl) nP (by rfl) (fun L9 m9 w9 hSh hAt hDn hS => ?_)
    have hT : Below _ _ w9 := hS
    have x0 : w9.cell? ⟨w.heap.size, 4, none⟩ = some (.int .i64 (room)) := (HB.out.ca hT).cell 4
    clear hT hS
    go_simp
    try rfl
 try simp only [Act.put, sA, sZ, sS]
 refine Pz 11 (some 22) (cond b2_8 (.bool (decide (room ≤ 8))) (undef)) rfl rfl (by cases b2_8; exact StepS.skip nP rfl; exact StepS.pure nP rfl fun _ => rfl) ?_
 try simp only [Act.put, sA, sZ, sS]
 refine Pz 12 (some 23) (.bool (b2_8 && (decide (room ≤ 8)))) rfl rfl ?ywg1_14 ?rwg1_14
 case ywg1_14 =>
  refine StepS.pure nP (by rfl) (fun w9 => ?_)
  cases b2_8 <;> (first | rfl | (go_simp; done) | (go_simp; rfl))
 try simp only [Act.put, sA, sZ, sS]
 obtain ⟨b2_13, hb9⟩ : ∃ b : Bool, b = (((sesB ses) && (decide ((1 : Int) ≤ room))) && (decide (room ≤ 8))) := ⟨_, rfl⟩
 have HEb2_13 := Lib.hid hb9
 clear hb9
 refine Pz 13 (some 24) (.bool (b2_13)) rfl rfl ?ywg1_15 ?rwg1_15
 case ywg1_15 =>
  refine StepS.pure nP (by rfl) (fun w9 => ?_)
  have e9 : (b2_8 && (decide (room ≤ 8))) = b2_13 := by rw [HEb2_13.out, HEb2_8.out]
  rw [← e9]
  clear e9
  first | rfl | (go_simp; done) | (go_simp; rfl)
 try simp only [Act.put, sA, sZ, sS]
 refine Pz 14 (some 25) (cond b2_13 (.pointer (some ⟨w.heap.size, 1, none⟩)) (undef)) rfl rfl (by cases b2_13; exact StepS.skip nP rfl; exact StepS.pure nP rfl fun _ => rfl) ?_
 try simp only [Act.put, sA, sZ, sS]
 refine Pz 15 (some 26) (cond b2_13 (.int .u64 (next)) (undef)) rfl rfl ?ywg1_17 ?rwg1_17
 case ywg1_17 =>
  cases b2_13
  · exact StepS.skip nP (by rfl)
  · skip
    refine StepS.read [] (by kernel_rfl) nP (by rfl) (fun L9 m9 w9 hSh hAt hDn hS => ?_)
    have hT : Below _ _ w9 := hS
    have x0 : w9.cell? ⟨w.heap.size, 1, none⟩ = some (.int .u64 (next)) := (HB.out.ca hT).cell 1
    clear hT hS
    go_simp
    try rfl
 try simp only [Act.put, sA, sZ, sS]
 refine Pz 16 (some 27) (cond b2_13 (.bool (decide ((1 : Int) ≤ next))) (undef)) rfl rfl (by cases b2_13; exact StepS.skip nP rfl; exact StepS.pure nP rfl fun _ => rfl) ?_
 try simp only [Act.put, sA, sZ, sS]
 refine Pz 17 (some 28) (.bool (b2_13 && (decide ((1 : Int) ≤ next)))) rfl rfl ?ywg1_19 ?rwg1_19
 case ywg1_19 =>
  refine StepS.pure nP (by rfl) (fun w9 => ?_)
  cases b2_13 <;> (first | rfl | (go_simp; done) | (go_simp; rfl))
 try simp only [Act.put, sA, sZ, sS]
 obtain ⟨b2_18, hb9⟩ : ∃ b : Bool, b = ((((sesB ses) && (decide ((1 : Int) ≤ room))) && (decide (room ≤ 8))) && (decide ((1 : Int) ≤ next))) := ⟨_, rfl⟩
 have HEb2_18 := Lib.hid hb9
 clear hb9
 refine Pz 18 (some 29) (.bool (b2_18)) rfl rfl ?ywg1_20 ?rwg1_20
 case ywg1_20 =>
  refine StepS.pure nP (by rfl) (fun w9 => ?_)
  have e9 : (b2_13 && (decide ((1 : Int) ≤ next))) = b2_18 := by rw [HEb2_18.out, HEb2_13.out]
  rw [← e9]
  clear e9
  first | rfl | (go_simp; done) | (go_simp; rfl)
 try simp only [Act.put, sA, sZ, sS]
 refine Pz 19 (some 30) (cond b2_18 (.pointer (some ⟨w.heap.size, 1, none⟩)) (undef)) rfl rfl (by cases b2_18; exact StepS.skip nP rfl; exact StepS.pure nP rfl fun _ => rfl) ?_
 try simp only [Act.put, sA, sZ, sS]
 refine Pz 20 (some 31) (cond b2_18 (.int .u64 (next)) (undef)) rfl rfl ?ywg1_22 ?rwg1_22
 case ywg1_22 =>
  cases b2_18
  · exact StepS.skip nP (by rfl)
  · skip
    refine StepS.read [] (by kernel_rfl) nP (by rfl) (fun L9 m9 w9 hSh hAt hDn hS => ?_)
    have hT : Below _ _ w9 := hS
    have x0 : w9.cell? ⟨w.heap.size, 1, none⟩ = some (.int .u64 (next)) := (HB.out.ca hT).cell 1
    clear hT hS
    go_simp
    try rfl
 try simp only [Act.put, sA, sZ, sS]
 refine Pz 21 (some 32) (cond b2_18 (.bool (decide (next ≤ 1099511627777))) (undef)) rfl rfl (by cases b2_18; exact StepS.skip nP rfl; exact StepS.pure nP rfl fun _ => rfl) ?_
 try simp only [Act.put, sA, sZ, sS]
 refine Pz 22 (some 33) (.bool (b2_18 && (decide (next ≤ 1099511627777)))) rfl rfl ?ywg1_24 ?rwg1_24
 case ywg1_24 =>
  refine StepS.pure nP (by rfl) (fun w9 => ?_)
  cases b2_18 <;> (first | rfl | (go_simp; done) | (go_simp; rfl))
 try simp only [Act.put, sA, sZ, sS]
 obtain ⟨b2_23, hb9⟩ : ∃ b : Bool, b = (((((sesB ses) && (decide ((1 : Int) ≤ room))) && (decide (room ≤ 8))) && (decide ((1 : Int) ≤ next))) && (decide (next ≤ 1099511627777))) := ⟨_, rfl⟩
 have HEb2_23 := Lib.hid hb9
 clear hb9
 refine Pz 23 (some 34) (.bool (b2_23)) rfl rfl ?ywg1_25 ?rwg1_25
 case ywg1_25 =>
  refine StepS.pure nP (by rfl) (fun w9 => ?_)
  have e9 : (b2_18 && (decide (next ≤ 1099511627777))) = b2_23 := by rw [HEb2_23.out, HEb2_18.out]
  rw [← e9]
  clear e9
  first | rfl | (go_simp; done) | (go_simp; rfl)
 try simp only [Act.put, sA, sZ, sS]
 refine Pz 24 (some 35) (cond b2_23 (.int .i64 ((m : Int))) (undef)) rfl rfl (by cases b2_23; exact StepS.skip nP rfl; exact StepS.pure nP rfl fun _ => rfl) ?_
 try simp only [Act.put, sA, sZ, sS]
 refine Pz 25 (some 36) (cond b2_23 (.pointer (some ⟨w.heap.size, 4, none⟩)) (undef)) rfl rfl (by cases b2_23; exact StepS.skip nP rfl; exact StepS.pure nP rfl fun _ => rfl) ?_
 try simp only [Act.put, sA, sZ, sS]
 refine Pz 26 (some 37) (cond b2_23 (.int .i64 (room)) (undef)) rfl rfl ?ywg1_28 ?rwg1_28
 case ywg1_28 =>
  cases b2_23
  · exact StepS.skip nP (by rfl)
  · skip
    refine StepS.read [] (by kernel_rfl) nP (by rfl) (fun L9 m9 w9 hSh hAt hDn hS => ?_)
    have hT : Below _ _ w9 := hS
    have x0 : w9.cell? ⟨w.heap.size, 4, none⟩ = some (.int .i64 (room)) := (HB.out.ca hT).cell 4
    clear hT hS
    go_simp
    try rfl
 try simp only [Act.put, sA, sZ, sS]
 refine Pz 27 (some 38) (cond b2_23 (.bool (decide ((m : Int) ≤ room))) (undef)) rfl rfl (by cases b2_23; exact StepS.skip nP rfl; exact StepS.pure nP rfl fun _ => rfl) ?_
 try simp only [Act.put, sA, sZ, sS]
 refine Pz 28 (some 39) (.bool (b2_23 && (decide ((m : Int) ≤ room)))) rfl rfl ?ywg1_30 ?rwg1_30
 case ywg1_30 =>
  refine StepS.pure nP (by rfl) (fun w9 => ?_)
  cases b2_23 <;> (first | rfl | (go_simp; done) | (go_simp; rfl))
 try simp only [Act.put, sA, sZ, sS]
 obtain ⟨b2_29, hb9⟩ : ∃ b : Bool, b = ((((((sesB ses) && (decide ((1 : Int) ≤ room))) && (decide (room ≤ 8))) && (decide ((1 : Int) ≤ next))) && (decide (next ≤ 1099511627777))) && (decide ((m : Int) ≤ room))) := ⟨_, rfl⟩
 have HEb2_29 := Lib.hid hb9
 clear hb9
 refine Pz 29 (some 40) (.bool (b2_29)) rfl rfl ?ywg1_31 ?rwg1_31
 case ywg1_31 =>
  refine StepS.pure nP (by rfl) (fun w9 => ?_)
  have e9 : (b2_23 && (decide ((m : Int) ≤ room))) = b2_29 := by rw [HEb2_29.out, HEb2_23.out]
  rw [← e9]
  clear e9
  first | rfl | (go_simp; done) | (go_simp; rfl)
 try simp only [Act.put, sA, sZ, sS]
 refine Pz 30 (some 41) (cond b2_29 (.int .i64 ((m : Int))) (undef)) rfl rfl (by cases b2_29; exact StepS.skip nP rfl; exact StepS.pure nP rfl fun _ => rfl) ?_
 try simp only [Act.put, sA, sZ, sS]
 refine Pz 31 (some 42) (cond b2_29 (.int .u64 ((m : Int))) (undef)) rfl rfl ?ywg1_33 ?rwg1_33
 case ywg1_33 =>
  cases b2_29
  · exact StepS.skip nP (by rfl)
  · skip
    refine StepS.pure nP (by rfl) (fun w9 => ?_)
    go_simp
    exact HWM.out
 try simp only [Act.put, sA, sZ, sS]
 refine Pz 32 (some 43) (cond b2_29 (.pointer (some ⟨w.heap.size, 1, none⟩)) (undef)) rfl rfl (by cases b2_29; exact StepS.skip nP rfl; exact StepS.pure nP rfl fun _ => rfl) ?_
 try simp only [Act.put, sA, sZ, sS]
 refine Pz 33 (some 44) (cond b2_29 (.int .u64 (next)) (undef)) rfl rfl ?ywg1_35 ?rwg1_35
 case ywg1_35 =>
  cases b2_29
  · exact StepS.skip nP (by rfl)
  · skip
    refine StepS.read [] (by kernel_rfl) nP (by rfl) (fun L9 m9 w9 hSh hAt hDn hS => ?_)
    have hT : Below _ _ w9 := hS
    have x0 : w9.cell? ⟨w.heap.size, 1, none⟩ = some (.int .u64 (next)) := (HB.out.ca hT).cell 1
    clear hT hS
    go_simp
    try rfl
 try simp only [Act.put, sA, sZ, sS]
 refine Pz 34 (some 45) (cond b2_29 (.bool (decide ((m : Int) < next))) (undef)) rfl rfl (by cases b2_29; exact StepS.skip nP rfl; exact StepS.pure nP rfl fun _ => rfl) ?_
 try simp only [Act.put, sA, sZ, sS]
 obtain ⟨f1, hb9⟩ : ∃ b : Bool, b = (((((((sesB ses) && (decide ((1 : Int) ≤ room))) && (decide (room ≤ 8))) && (decide ((1 : Int) ≤ next))) && (decide (next ≤ 1099511627777))) && (decide ((m : Int) ≤ room))) && (decide ((m : Int) < next))) := ⟨_, rfl⟩
 have HEf1 := Lib.hid hb9
 clear hb9
 refine Pz 35 (some 46) (.bool (f1)) rfl rfl ?ywg1_37 ?rwg1_37
 case ywg1_37 =>
  refine StepS.pure nP (by rfl) (fun w9 => ?_)
  have e9 : (b2_29 && (decide ((m : Int) < next))) = f1 := by rw [HEf1.out, HEb2_29.out]
  rw [← e9]
  clear e9
  cases b2_29 <;> (first | rfl | (go_simp; done) | (go_simp; rfl))
 try simp only [Act.put, sA, sZ, sS]
 refine Pz 36 (some 4) (.bool (f1)) rfl rfl (by exact StepS.pure nP rfl fun _ => rfl) ?_
 try simp only [Act.put, sA, sZ, sS]
 refine Ps.done (by kernel_rfl) (fun wg1 hS => ?_) _
 try generalize (cond b2_29 (.pointer (some ⟨w.heap.size, 1, none⟩)) (undef) : Value) = zz39
 try generalize (cond b2_18 (.pointer (some ⟨w.heap.size, 1, none⟩)) (undef) : Value) = zz40
 try generalize (cond b2_13 (.pointer (some ⟨w.heap.size, 1, none⟩)) (undef) : Value) = zz41
 try generalize (cond b2_23 (.pointer (some ⟨w.heap.size, 4, none⟩)) (undef) : Value) = zz42
 try generalize (cond b2_3 (.pointer (some ⟨w.heap.size, 4, none⟩)) (undef) : Value) = zz43
 try generalize (cond b2_18 (.bool (decide (next ≤ 1099511627777))) (undef) : Value) = zz44
 try generalize (cond b2_8 (.pointer (some ⟨w.heap.size, 4, none⟩)) (undef) : Value) = zz45
 try generalize (cond b2_13 (.bool (decide ((1 : Int) ≤ next))) (undef) : Value) = zz46
 try generalize (cond b2_23 (.bool (decide ((m : Int) ≤ room))) (undef) : Value) = zz47
 try generalize (cond b2_29 (.bool (decide ((m : Int) < next))) (undef) : Value) = zz48
 try generalize (cond b2_3 (.bool (decide ((1 : Int) ≤ room))) (undef) : Value) = zz49
 try generalize (.bool (b2_18 && (decide (next ≤ 1099511627777))) : Value) = zz50
 try generalize (cond b2_8 (.bool (decide (room ≤ 8))) (undef) : Value) = zz51
 try generalize (.bool (b2_23 && (decide ((m : Int) ≤ room))) : Value) = zz52
 try generalize (.bool (b2_13 && (decide ((1 : Int) ≤ next))) : Value) = zz53
 try generalize (.bool (b2_3 && (decide ((1 : Int) ≤ room))) : Value) = zz54
 try generalize (cond b2_23 (.int .i64 ((m : Int))) (undef) : Value) = zz55
 try generalize (cond b2_29 (.int .i64 ((m : Int))) (undef) : Value) = zz56
 try generalize (cond b2_29 (.int .u64 ((m : Int))) (undef) : Value) = zz57
 try generalize (cond b2_13 (.int .u64 (next)) (undef) : Value) = zz58
 try generalize (cond b2_23 (.int .i64 (room)) (undef) : Value) = zz59
 try generalize (cond b2_18 (.int .u64 (next)) (undef) : Value) = zz60
 try generalize (cond b2_29 (.int .u64 (next)) (undef) : Value) = zz61
 try generalize (cond b2_8 (.int .i64 (room)) (undef) : Value) = zz62
 try generalize (cond b2_3 (.int .i64 (room)) (undef) : Value) = zz63
 try generalize (.bool (b2_8 && (decide (room ≤ 8))) : Value) = zz64
 have HW65 := Lib.hid (show Below w1.heap.size w1 wg1 from hS)
 clear hS
 obtain ⟨w166, rfl⟩ : ∃ x, x = wg1 := ⟨_, rfl⟩
 have HSA := Lib.hid (show f1 = recA ⟨ses, next, ahead, buf, room, over⟩ from by rw [HEf1.out]; unfold recA; dsimp only; rw [HLB.out, Bool.eq_iff_iff]; simp; grind)
 have HBD := Lib.hid (show f1 = true → 1 ≤ next ∧ next ≤ 1099511627777 ∧ (m : Int) ≤ room ∧ 1 ≤ room ∧ room ≤ 8 ∧ (m : Int) < next from fun h => by rw [HEf1.out] at h; simp at h; omega)
 have HWN := Lib.hid (fun h : f1 = true => (u64_in (x := next - (m : Int)) (by have h9 := HBD.out h; omega) (by have h9 := HBD.out h; omega)))
 clear HEf1
 go_upto_region 3 with fail
 cases f1
 · skip
   refine wp_region_ps0 .text (S := fun _ _ w' => Below w1.heap.size w1 w') (by kernel_rfl) ?spswg67 ?ppswg67
   case spswg67 =>
    exact HW65.out
   refine Pz 0 (some 47) (.bool (false)) rfl rfl (by exact StepS.pure nP rfl fun _ => rfl) ?_
   try simp only [Act.put, sA, sZ, sS]
   refine Pz 1 (some 48) (.bool (false)) rfl rfl (by exact StepS.pure nP rfl fun _ => rfl) ?_
   try simp only [Act.put, sA, sZ, sS]
   refine Pz 2 (some 49) undef rfl rfl (by  exact StepS.skip nP rfl) ?_
   try simp only [Act.put, sA, sZ, sS]
   refine Pz 3 (some 50) undef rfl rfl (by  exact StepS.skip nP rfl) ?_
   try simp only [Act.put, sA, sZ, sS]
   refine Pz 4 (some 51) undef rfl rfl (by  exact StepS.skip nP rfl) ?_
   try simp only [Act.put, sA, sZ, sS]
   refine Pz 5 (some 52) undef rfl rfl (by  exact StepS.skip nP rfl) ?_
   try simp only [Act.put, sA, sZ, sS]
   refine Pz 6 (some 53) undef rfl rfl (by  exact StepS.skip nP rfl) ?_
   try simp only [Act.put, sA, sZ, sS]
   refine Pz 7 (some 54) undef rfl rfl (by  exact StepS.skip nP rfl) ?_
   try simp only [Act.put, sA, sZ, sS]
   refine Pz 8 (some 55) undef rfl rfl (by  exact StepS.skip nP rfl) ?_
   try simp only [Act.put, sA, sZ, sS]
   refine Pz 9 (some 56) undef rfl rfl (by  exact StepS.skip nP rfl) ?_
   try simp only [Act.put, sA, sZ, sS]
   refine Pz 10 (some 57) (.bool (false)) rfl rfl (by exact StepS.pure nP rfl fun _ => rfl) ?_
   try simp only [Act.put, sA, sZ, sS]
   refine Pz 11 (some 58) (.bool (false)) rfl rfl (by exact StepS.pure nP rfl fun _ => rfl) ?_
   try simp only [Act.put, sA, sZ, sS]
   refine Pz 12 (some 59) undef rfl rfl (by  exact StepS.skip nP rfl) ?_
   try simp only [Act.put, sA, sZ, sS]
   refine Pz 13 (some 60) undef rfl rfl (by  exact StepS.skip nP rfl) ?_
   try simp only [Act.put, sA, sZ, sS]
   refine Pz 14 (some 61) undef rfl rfl (by  exact StepS.skip nP rfl) ?_
   try simp only [Act.put, sA, sZ, sS]
   refine Pz 15 (some 62) undef rfl rfl (by  exact StepS.skip nP rfl) ?_
   try simp only [Act.put, sA, sZ, sS]
   refine Pz 16 (some 63) undef rfl rfl (by  exact StepS.skip nP rfl) ?_
   try simp only [Act.put, sA, sZ, sS]
   refine Pz 17 (some 64) undef rfl rfl (by  exact StepS.skip nP rfl) ?_
   try simp only [Act.put, sA, sZ, sS]
   refine Pz 18 (some 65) undef rfl rfl (by  exact StepS.skip nP rfl) ?_
   try simp only [Act.put, sA, sZ, sS]
   refine Pz 19 (some 66) undef rfl rfl (by  exact StepS.skip nP rfl) ?_
   try simp only [Act.put, sA, sZ, sS]
   refine Pz 20 (some 67) undef rfl rfl (by  exact StepS.skip nP rfl) ?_
   try simp only [Act.put, sA, sZ, sS]
   refine Pz 21 (some 68) undef rfl rfl (by  exact StepS.skip nP rfl) ?_
   try simp only [Act.put, sA, sZ, sS]
   refine Pz 22 (some 69) (.bool (false)) rfl rfl (by exact StepS.pure nP rfl fun _ => rfl) ?_
   try simp only [Act.put, sA, sZ, sS]
   refine Pz 23 (some 4) (.bool (false)) rfl rfl (by exact StepS.pure nP rfl fun _ => rfl) ?_
   try simp only [Act.put, sA, sZ, sS]
   refine Ps.done (by kernel_rfl) (fun wg67 hS => ?_) _
   have HW92 := Lib.hid (show Below w1.heap.size w1 wg67 from hS)
   clear hS
   obtain ⟨w193, rfl⟩ : ∃ x, x = wg67 := ⟨_, rfl⟩
   go_upto_region 4 with fail
   refine wp_region_ps0 .text (S := fun _ _ w' => Below w1.heap.size w1 w') (by kernel_rfl) ?spswg94 ?ppswg94
   case spswg94 =>
    exact HW92.out
   refine Pz 0 (some 70) (.bool (false)) rfl rfl (by exact StepS.pure nP rfl fun _ => rfl) ?_
   try simp only [Act.put, sA, sZ, sS]
   refine Pz 1 (some 71) (.bool (true)) rfl rfl (by exact StepS.pure nP rfl fun _ => rfl) ?_
   try simp only [Act.put, sA, sZ, sS]
   refine Pz 2 (some 72) (.bool (true)) rfl rfl (by exact StepS.pure nP rfl fun _ => rfl) ?_
   try simp only [Act.put, sA, sZ, sS]
   refine Pz 3 (some 73) undef rfl rfl (by  exact StepS.skip nP rfl) ?_
   try simp only [Act.put, sA, sZ, sS]
   refine Pz 4 (some 74) undef rfl rfl (by  exact StepS.skip nP rfl) ?_
   try simp only [Act.put, sA, sZ, sS]
   refine Pz 5 (some 75) undef rfl rfl (by  exact StepS.skip nP rfl) ?_
   try simp only [Act.put, sA, sZ, sS]
   refine Pz 6 (some 76) undef rfl rfl (by  exact StepS.skip nP rfl) ?_
   try simp only [Act.put, sA, sZ, sS]
   refine Pz 7 (some 77) undef rfl rfl (by  exact StepS.skip nP rfl) ?_
   try simp only [Act.put, sA, sZ, sS]
   refine Pz 8 (some 78) undef rfl rfl (by  exact StepS.skip nP rfl) ?_
   try simp only [Act.put, sA, sZ, sS]
   refine Pz 9 (some 79) undef rfl rfl (by  exact StepS.skip nP rfl) ?_
   try simp only [Act.put, sA, sZ, sS]
   refine Pz 10 (some 80) undef rfl rfl (by  exact StepS.skip nP rfl) ?_
   try simp only [Act.put, sA, sZ, sS]
   refine Pz 11 (some 81) undef rfl rfl (by  exact StepS.skip nP rfl) ?_
   try simp only [Act.put, sA, sZ, sS]
   refine Pz 12 (some 82) undef rfl rfl (by  exact StepS.skip nP rfl) ?_
   try simp only [Act.put, sA, sZ, sS]
   refine Pz 13 (some 83) undef rfl rfl (by  exact StepS.skip nP rfl) ?_
   try simp only [Act.put, sA, sZ, sS]
   refine Pz 14 (some 84) undef rfl rfl (by  exact StepS.skip nP rfl) ?_
   try simp only [Act.put, sA, sZ, sS]
   refine Pz 15 (some 85) undef rfl rfl (by  exact StepS.skip nP rfl) ?_
   try simp only [Act.put, sA, sZ, sS]
   refine Pz 16 (some 86) undef rfl rfl (by  exact StepS.skip nP rfl) ?_
   try simp only [Act.put, sA, sZ, sS]
   refine Pz 17 (some 87) undef rfl rfl (by  exact StepS.skip nP rfl) ?_
   try simp only [Act.put, sA, sZ, sS]
   refine Pz 18 (some 88) undef rfl rfl (by  exact StepS.skip nP rfl) ?_
   try simp only [Act.put, sA, sZ, sS]
   refine Pz 19 (some 89) undef rfl rfl (by  exact StepS.skip nP rfl) ?_
   try simp only [Act.put, sA, sZ, sS]
   refine Pz 20 (some 90) (.bool (true)) rfl rfl (by exact StepS.pure nP rfl fun _ => rfl) ?_
   try simp only [Act.put, sA, sZ, sS]
   refine Ps.done (by kernel_rfl) (fun wg94 hS => ?_) _
   have HW116 := Lib.hid (show Below w1.heap.size w1 wg94 from hS)
   clear hS
   obtain ⟨w217, rfl⟩ : ∃ x, x = wg94 := ⟨_, rfl⟩
   go_wp2
   go_ret
   exact ⟨ret_int (by rw [HRR.out]; unfold recB; rw [← HSA.out]; rfl), bl_ca HBB.out HW116.out⟩
 · skip
   refine wp_region_ps0 .text (S := fun _ _ w' => Below w1.heap.size w1 w') (by kernel_rfl) ?spswg118 ?ppswg118
   case spswg118 =>
    exact HW65.out
   refine Pz 0 (some 47) (.bool (true)) rfl rfl (by exact StepS.pure nP rfl fun _ => rfl) ?_
   try simp only [Act.put, sA, sZ, sS]
   refine Pz 1 (some 48) (.bool (true)) rfl rfl (by exact StepS.pure nP rfl fun _ => rfl) ?_
   try simp only [Act.put, sA, sZ, sS]
   refine Pz 2 (some 49) (.pointer (some ⟨w.heap.size, 3, none⟩)) rfl rfl (by exact StepS.pure nP rfl fun _ => rfl) ?_
   try simp only [Act.put, sA, sZ, sS]
   refine Pz 3 (some 50) (.slice B m d) rfl rfl ?ywg118_122 ?rwg118_122
   case ywg118_122 =>
    refine StepS.read [] (by kernel_rfl) nP (by rfl) (fun L9 m9 w9 hSh hAt hDn hS => ?_)
    have hT : Below _ _ w9 := hS
    have x0 : w9.cell? ⟨w.heap.size, 3, none⟩ = some (.slice B m d) := (HB.out.ca hT).cell 3
    clear hT hS
    go_simp
    try rfl
   try simp only [Act.put, sA, sZ, sS]
   refine Pz 4 (some 51) (.pointer (some ⟨w.heap.size, 1, none⟩)) rfl rfl (by exact StepS.pure nP rfl fun _ => rfl) ?_
   try simp only [Act.put, sA, sZ, sS]
   refine Pz 5 (some 52) (.int .u64 (next)) rfl rfl ?ywg118_124 ?rwg118_124
   case ywg118_124 =>
    refine StepS.read [] (by kernel_rfl) nP (by rfl) (fun L9 m9 w9 hSh hAt hDn hS => ?_)
    have hT : Below _ _ w9 := hS
    have x0 : w9.cell? ⟨w.heap.size, 1, none⟩ = some (.int .u64 (next)) := (HB.out.ca hT).cell 1
    clear hT hS
    go_simp
    try rfl
   try simp only [Act.put, sA, sZ, sS]
   refine Pz 6 (some 53) (.int .i64 ((m : Int))) rfl rfl (by exact StepS.pure nP rfl fun _ => rfl) ?_
   try simp only [Act.put, sA, sZ, sS]
   refine Pz 7 (some 54) (.int .u64 ((m : Int))) rfl rfl ?ywg118_126 ?rwg118_126
   case ywg118_126 =>
    refine StepS.pure nP (by rfl) (fun w9 => ?_)
    go_simp
    exact HWM.out
   try simp only [Act.put, sA, sZ, sS]
   refine Pz 8 (some 55) (.int .u64 (next - (m : Int))) rfl rfl ?ywg118_127 ?rwg118_127
   case ywg118_127 =>
    refine StepS.pure nP (by rfl) (fun w9 => ?_)
    rw [← HWN.out rfl]
    first | rfl | (go_simp; done) | (go_simp; rfl)
   try simp only [Act.put, sA, sZ, sS]
   refine Pz 9 (some 56) (.bool (inRowB buf (next - (m : Int)))) rfl rfl ?ywg118_128 ?rwg118_128
   case ywg118_128 =>
    refine StepS.call ?fwg118_128 ?awg118_128 [] (by kernel_rfl) (by rfl) (fun w9 => ?hwg118_128) (fun L9 m9 w9 hSh hAt hDn hS => ?cwg118_128)
    case hwg118_128 => go_simp; refine ⟨?_, ?_⟩ <;> rfl
    case cwg118_128 =>
     have hT : Below _ _ w9 := hS
     have h9 := HBD.out (by simp)
     refine (inRow_any F2 B m d buf (next - (m : Int)) w9 (Lay.rd_below HRB.out hT) (by omega) (by omega) (by omega)).mono ?_
     rintro e w8 ⟨rfl, q8⟩
     exact ⟨rfl, bl_ca hT q8⟩
   try simp only [Act.put, sA, sZ, sS]
   refine Pz 10 (some 57) (.bool (inRowB buf (next - (m : Int)))) rfl rfl (by exact StepS.pure nP rfl fun _ => rfl) ?_
   try simp only [Act.put, sA, sZ, sS]
   obtain ⟨b3_11, hb9⟩ : ∃ b : Bool, b = (inRowB buf (next - (m : Int))) := ⟨_, rfl⟩
   have HEb3_11 := Lib.hid hb9
   clear hb9
   refine Pz 11 (some 58) (.bool (b3_11)) rfl rfl ?ywg118_130 ?rwg118_130
   case ywg118_130 =>
    refine StepS.pure nP (by rfl) (fun w9 => ?_)
    have e9 : (inRowB buf (next - (m : Int))) = b3_11 := by rw [HEb3_11.out]
    rw [← e9]
    clear e9
    first | rfl | (go_simp; done) | (go_simp; rfl)
   try simp only [Act.put, sA, sZ, sS]
   refine Pz 12 (some 59) (cond b3_11 (.pointer (some ⟨w.heap.size, 2, none⟩)) (undef)) rfl rfl (by cases b3_11; exact StepS.skip nP rfl; exact StepS.pure nP rfl fun _ => rfl) ?_
   try simp only [Act.put, sA, sZ, sS]
   refine Pz 13 (some 60) (cond b3_11 (.slice A n c) (undef)) rfl rfl ?ywg118_132 ?rwg118_132
   case ywg118_132 =>
    cases b3_11
    · exact StepS.skip nP (by rfl)
    · skip
      refine StepS.read [] (by kernel_rfl) nP (by rfl) (fun L9 m9 w9 hSh hAt hDn hS => ?_)
      have hT : Below _ _ w9 := hS
      have x0 : w9.cell? ⟨w.heap.size, 2, none⟩ = some (.slice A n c) := (HB.out.ca hT).cell 2
      clear hT hS
      go_simp
      try rfl
   try simp only [Act.put, sA, sZ, sS]
   refine Pz 14 (some 61) (cond b3_11 (.int .i64 ((n : Int))) (undef)) rfl rfl (by cases b3_11; exact StepS.skip nP rfl; exact StepS.pure nP rfl fun _ => by first | rfl | (go_simp; done) | (go_simp; rfl)) ?_
   try simp only [Act.put, sA, sZ, sS]
   refine Pz 15 (some 62) (cond b3_11 (.bool (decide ((n : Int) = 0))) (undef)) rfl rfl (by cases b3_11; exact StepS.skip nP rfl; exact StepS.pure nP rfl fun _ => rfl) ?_
   try simp only [Act.put, sA, sZ, sS]
   obtain ⟨b3_16, hb9⟩ : ∃ b : Bool, b = (decide ((n : Int) = 0)) := ⟨_, rfl⟩
   have HEb3_16 := Lib.hid hb9
   clear hb9
   refine Pz 16 (some 63) (cond b3_11 (.bool (b3_16)) (undef)) rfl rfl ?ywg118_135 ?rwg118_135
   case ywg118_135 =>
    cases b3_11
    · exact StepS.skip nP (by rfl)
    · skip
      refine StepS.pure nP (by rfl) (fun w9 => ?_)
      have e9 : (decide ((n : Int) = 0)) = b3_16 := by rw [HEb3_16.out]
      rw [← e9]
      clear e9
      first | rfl | (go_simp; done) | (go_simp; rfl)
   try simp only [Act.put, sA, sZ, sS]
   refine Pz 17 (some 64) (cond b3_11 (cond b3_16 (undef) (.pointer (some ⟨w.heap.size, 3, none⟩))) (undef)) rfl rfl (by cases b3_11; exact StepS.skip nP rfl; cases b3_16; (exact StepS.pure nP rfl fun _ => rfl); exact StepS.skip nP rfl) ?_
   try simp only [Act.put, sA, sZ, sS]
   refine Pz 18 (some 65) (cond b3_11 (cond b3_16 (undef) (.slice B m d)) (undef)) rfl rfl ?ywg118_137 ?rwg118_137
   case ywg118_137 =>
    cases b3_11
    · exact StepS.skip nP (by rfl)
    · skip
      cases b3_16
      · skip
        refine StepS.read [] (by kernel_rfl) nP (by rfl) (fun L9 m9 w9 hSh hAt hDn hS => ?_)
        have hT : Below _ _ w9 := hS
        have x0 : w9.cell? ⟨w.heap.size, 3, none⟩ = some (.slice B m d) := (HB.out.ca hT).cell 3
        clear hT hS
        go_simp
        try rfl
      · exact StepS.skip nP (by rfl)
   try simp only [Act.put, sA, sZ, sS]
   refine Pz 19 (some 66) (cond b3_11 (cond b3_16 (undef) (.bool (endsB buf))) (undef)) rfl rfl ?ywg118_138 ?rwg118_138
   case ywg118_138 =>
    cases b3_11
    · exact StepS.skip nP (by rfl)
    · skip
      cases b3_16
      · skip
        refine StepS.call ?fwg118_138 ?awg118_138 [] (by kernel_rfl) (by rfl) (fun w9 => ?hwg118_138) (fun L9 m9 w9 hSh hAt hDn hS => ?cwg118_138)
        case hwg118_138 => go_simp; refine ⟨?_, ?_⟩ <;> rfl
        case cwg118_138 =>
         have hT : Below _ _ w9 := hS
         refine (ends_any F2 B m d buf w9 (Lay.rd_below HRB.out hT) hm).mono ?_
         rintro e w8 ⟨rfl, rfl⟩
         exact ⟨rfl, hT⟩
      · exact StepS.skip nP (by rfl)
   try simp only [Act.put, sA, sZ, sS]
   refine Pz 20 (some 67) (cond b3_11 (cond b3_16 (undef) (.bool (!(endsB buf)))) (undef)) rfl rfl (by cases b3_11; exact StepS.skip nP rfl; cases b3_16; (exact StepS.pure nP rfl fun _ => rfl); exact StepS.skip nP rfl) ?_
   try simp only [Act.put, sA, sZ, sS]
   refine Pz 21 (some 68) (cond b3_11 (.bool (b3_16 || (!(endsB buf)))) (undef)) rfl rfl ?ywg118_140 ?rwg118_140
   case ywg118_140 =>
    cases b3_11
    · exact StepS.skip nP (by rfl)
    · skip
      refine StepS.pure nP (by rfl) (fun w9 => ?_)
      cases b3_16 <;> (first | rfl | (go_simp; done) | (go_simp; rfl))
   try simp only [Act.put, sA, sZ, sS]
   obtain ⟨f3, hb9⟩ : ∃ b : Bool, b = ((inRowB buf (next - (m : Int))) && ((decide ((n : Int) = 0)) || (!(endsB buf)))) := ⟨_, rfl⟩
   have HEf3 := Lib.hid hb9
   clear hb9
   refine Pz 22 (some 69) (.bool (f3)) rfl rfl ?ywg118_141 ?rwg118_141
   case ywg118_141 =>
    refine StepS.pure nP (by rfl) (fun w9 => ?_)
    have e9 : (b3_11 && (b3_16 || (!(endsB buf)))) = f3 := by rw [HEf3.out, HEb3_11.out, HEb3_16.out]
    rw [← e9]
    clear e9
    cases b3_11 <;> (first | rfl | (go_simp; done) | (go_simp; rfl))
   try simp only [Act.put, sA, sZ, sS]
   refine Pz 23 (some 4) (.bool (f3)) rfl rfl (by exact StepS.pure nP rfl fun _ => rfl) ?_
   try simp only [Act.put, sA, sZ, sS]
   refine Ps.done (by kernel_rfl) (fun wg118 hS => ?_) _
   try generalize (cond b3_11 (cond b3_16 (undef) (.pointer (some ⟨w.heap.size, 3, none⟩))) (undef) : Value) = zz143
   try generalize (cond b3_11 (cond b3_16 (undef) (.bool (!(endsB buf)))) (undef) : Value) = zz144
   try generalize (cond b3_11 (.pointer (some ⟨w.heap.size, 2, none⟩)) (undef) : Value) = zz145
   try generalize (cond b3_11 (cond b3_16 (undef) (.bool (endsB buf))) (undef) : Value) = zz146
   try generalize (cond b3_11 (cond b3_16 (undef) (.slice B m d)) (undef) : Value) = zz147
   try generalize (cond b3_11 (.bool (b3_16 || (!(endsB buf)))) (undef) : Value) = zz148
   try generalize (cond b3_11 (.bool (decide ((n : Int) = 0))) (undef) : Value) = zz149
   try generalize (cond b3_11 (.int .i64 ((n : Int))) (undef) : Value) = zz150
   try generalize (cond b3_11 (.bool (b3_16)) (undef) : Value) = zz151
   try generalize (cond b3_11 (.slice A n c) (undef) : Value) = zz152
   have HW153 := Lib.hid (show Below w1.heap.size w1 wg118 from hS)
   clear hS
   obtain ⟨w254, rfl⟩ : ∃ x, x = wg118 := ⟨_, rfl⟩
   have HSM := Lib.hid (show f3 = recM ⟨ses, next, ahead, buf, room, over⟩ from by rw [HEf3.out]; unfold recM; dsimp only; rw [HLB.out, HLA.out, Bool.eq_iff_iff]; simp)
   clear HEf3
   go_upto_region 4 with fail
   refine wp_region_ps0 .text (S := fun _ _ w' => Below w1.heap.size w1 w') (by kernel_rfl) ?spswg155 ?ppswg155
   case spswg155 =>
    exact HW153.out
   refine Pz 0 (some 70) (.bool (f3)) rfl rfl (by exact StepS.pure nP rfl fun _ => rfl) ?_
   try simp only [Act.put, sA, sZ, sS]
   refine Pz 1 (some 71) (.bool (!f3)) rfl rfl (by exact StepS.pure nP rfl fun _ => rfl) ?_
   try simp only [Act.put, sA, sZ, sS]
   obtain ⟨b4_2, hb9⟩ : ∃ b : Bool, b = (!f3) := ⟨_, rfl⟩
   have HEb4_2 := Lib.hid hb9
   clear hb9
   refine Pz 2 (some 72) (.bool (b4_2)) rfl rfl ?ywg155_158 ?rwg155_158
   case ywg155_158 =>
    refine StepS.pure nP (by rfl) (fun w9 => ?_)
    have e9 : (!f3) = b4_2 := by rw [HEb4_2.out]
    rw [← e9]
    clear e9
    first | rfl | (go_simp; done) | (go_simp; rfl)
   try simp only [Act.put, sA, sZ, sS]
   refine Pz 3 (some 73) (cond b4_2 (undef) (.pointer (some ⟨w.heap.size, 5, none⟩))) rfl rfl (by cases b4_2; (exact StepS.pure nP rfl fun _ => rfl); exact StepS.skip nP rfl) ?_
   try simp only [Act.put, sA, sZ, sS]
   refine Pz 4 (some 74) (cond b4_2 (undef) (.bool (over))) rfl rfl ?ywg155_160 ?rwg155_160
   case ywg155_160 =>
    cases b4_2
    · skip
      refine StepS.read [] (by kernel_rfl) nP (by rfl) (fun L9 m9 w9 hSh hAt hDn hS => ?_)
      have hT : Below _ _ w9 := hS
      have x0 : w9.cell? ⟨w.heap.size, 5, none⟩ = some (.bool (over)) := (HB.out.ca hT).cell 5
      clear hT hS
      go_simp
      try rfl
    · exact StepS.skip nP (by rfl)
   try simp only [Act.put, sA, sZ, sS]
   obtain ⟨b4_5, hb9⟩ : ∃ b : Bool, b = (over) := ⟨_, rfl⟩
   have HEb4_5 := Lib.hid hb9
   clear hb9
   refine Pz 5 (some 75) (cond b4_2 (undef) (.bool (b4_5))) rfl rfl ?ywg155_161 ?rwg155_161
   case ywg155_161 =>
    cases b4_2
    · skip
      refine StepS.pure nP (by rfl) (fun w9 => ?_)
      have e9 : (over) = b4_5 := by rw [HEb4_5.out]
      rw [← e9]
      clear e9
      first | rfl | (go_simp; done) | (go_simp; rfl)
    · exact StepS.skip nP (by rfl)
   try simp only [Act.put, sA, sZ, sS]
   refine Pz 6 (some 76) (cond b4_2 (undef) (cond b4_5 (.int .i64 ((m : Int))) (undef))) rfl rfl (by cases b4_2; (cases b4_5; exact StepS.skip nP rfl; exact StepS.pure nP rfl fun _ => rfl); exact StepS.skip nP rfl) ?_
   try simp only [Act.put, sA, sZ, sS]
   refine Pz 7 (some 77) (cond b4_2 (undef) (cond b4_5 (.bool (decide ((0 : Int) < (m : Int)))) (undef))) rfl rfl (by cases b4_2; (cases b4_5; exact StepS.skip nP rfl; exact StepS.pure nP rfl fun _ => rfl); exact StepS.skip nP rfl) ?_
   try simp only [Act.put, sA, sZ, sS]
   obtain ⟨b4_8, hb9⟩ : ∃ b : Bool, b = (decide ((0 : Int) < (m : Int))) := ⟨_, rfl⟩
   have HEb4_8 := Lib.hid hb9
   clear hb9
   refine Pz 8 (some 78) (cond b4_2 (undef) (cond b4_5 (.bool (b4_8)) (undef))) rfl rfl ?ywg155_164 ?rwg155_164
   case ywg155_164 =>
    cases b4_2
    · skip
      cases b4_5
      · exact StepS.skip nP (by rfl)
      · skip
        refine StepS.pure nP (by rfl) (fun w9 => ?_)
        have e9 : (decide ((0 : Int) < (m : Int))) = b4_8 := by rw [HEb4_8.out]
        rw [← e9]
        clear e9
        first | rfl | (go_simp; done) | (go_simp; rfl)
    · exact StepS.skip nP (by rfl)
   try simp only [Act.put, sA, sZ, sS]
   refine Pz 9 (some 79) (cond b4_2 (undef) (cond b4_5 (cond b4_8 (undef) (.pointer (some ⟨w.heap.size, 2, none⟩))) (undef))) rfl rfl (by cases b4_2; (cases b4_5; exact StepS.skip nP rfl; cases b4_8; (exact StepS.pure nP rfl fun _ => rfl); exact StepS.skip nP rfl); exact StepS.skip nP rfl) ?_
   try simp only [Act.put, sA, sZ, sS]
   refine Pz 10 (some 80) (cond b4_2 (undef) (cond b4_5 (cond b4_8 (undef) (.slice A n c)) (undef))) rfl rfl ?ywg155_166 ?rwg155_166
   case ywg155_166 =>
    cases b4_2
    · skip
      cases b4_5
      · exact StepS.skip nP (by rfl)
      · skip
        cases b4_8
        · skip
          refine StepS.read [] (by kernel_rfl) nP (by rfl) (fun L9 m9 w9 hSh hAt hDn hS => ?_)
          have hT : Below _ _ w9 := hS
          have x0 : w9.cell? ⟨w.heap.size, 2, none⟩ = some (.slice A n c) := (HB.out.ca hT).cell 2
          clear hT hS
          go_simp
          try rfl
        · exact StepS.skip nP (by rfl)
    · exact StepS.skip nP (by rfl)
   try simp only [Act.put, sA, sZ, sS]
   refine Pz 11 (some 81) (cond b4_2 (undef) (cond b4_5 (cond b4_8 (undef) (.int .i64 ((n : Int)))) (undef))) rfl rfl (by cases b4_2; (cases b4_5; exact StepS.skip nP rfl; cases b4_8; (exact StepS.pure nP rfl fun _ => by first | rfl | (go_simp; done) | (go_simp; rfl)); exact StepS.skip nP rfl); exact StepS.skip nP rfl) ?_
   try simp only [Act.put, sA, sZ, sS]
   refine Pz 12 (some 82) (cond b4_2 (undef) (cond b4_5 (cond b4_8 (undef) (.bool (decide ((0 : Int) < (n : Int))))) (undef))) rfl rfl (by cases b4_2; (cases b4_5; exact StepS.skip nP rfl; cases b4_8; (exact StepS.pure nP rfl fun _ => rfl); exact StepS.skip nP rfl); exact StepS.skip nP rfl) ?_
   try simp only [Act.put, sA, sZ, sS]
   refine Pz 13 (some 83) (cond b4_2 (undef) (cond b4_5 (.bool (b4_8 || (decide ((0 : Int) < (n : Int))))) (undef))) rfl rfl ?ywg155_169 ?rwg155_169
   case ywg155_169 =>
    cases b4_2
    · skip
      cases b4_5
      · exact StepS.skip nP (by rfl)
      · skip
        refine StepS.pure nP (by rfl) (fun w9 => ?_)
        cases b4_8 <;> (first | rfl | (go_simp; done) | (go_simp; rfl))
    · exact StepS.skip nP (by rfl)
   try simp only [Act.put, sA, sZ, sS]
   obtain ⟨b4_14, hb9⟩ : ∃ b : Bool, b = ((decide ((0 : Int) < (m : Int))) || (decide ((0 : Int) < (n : Int)))) := ⟨_, rfl⟩
   have HEb4_14 := Lib.hid hb9
   clear hb9
   refine Pz 14 (some 84) (cond b4_2 (undef) (cond b4_5 (.bool (b4_14)) (undef))) rfl rfl ?ywg155_170 ?rwg155_170
   case ywg155_170 =>
    cases b4_2
    · skip
      cases b4_5
      · exact StepS.skip nP (by rfl)
      · skip
        refine StepS.pure nP (by rfl) (fun w9 => ?_)
        have e9 : (b4_8 || (decide ((0 : Int) < (n : Int)))) = b4_14 := by rw [HEb4_14.out, HEb4_8.out]
        rw [← e9]
        clear e9
        first | rfl | (go_simp; done) | (go_simp; rfl)
    · exact StepS.skip nP (by rfl)
   try simp only [Act.put, sA, sZ, sS]
   refine Pz 15 (some 85) (cond b4_2 (undef) (cond b4_5 (cond b4_14 (undef) (.pointer (some ⟨w.heap.size, 1, none⟩))) (undef))) rfl rfl (by cases b4_2; (cases b4_5; exact StepS.skip nP rfl; cases b4_14; (exact StepS.pure nP rfl fun _ => rfl); exact StepS.skip nP rfl); exact StepS.skip nP rfl) ?_
   try simp only [Act.put, sA, sZ, sS]
   refine Pz 16 (some 86) (cond b4_2 (undef) (cond b4_5 (cond b4_14 (undef) (.int .u64 (next))) (undef))) rfl rfl ?ywg155_172 ?rwg155_172
   case ywg155_172 =>
    cases b4_2
    · skip
      cases b4_5
      · exact StepS.skip nP (by rfl)
      · skip
        cases b4_14
        · skip
          refine StepS.read [] (by kernel_rfl) nP (by rfl) (fun L9 m9 w9 hSh hAt hDn hS => ?_)
          have hT : Below _ _ w9 := hS
          have x0 : w9.cell? ⟨w.heap.size, 1, none⟩ = some (.int .u64 (next)) := (HB.out.ca hT).cell 1
          clear hT hS
          go_simp
          try rfl
        · exact StepS.skip nP (by rfl)
    · exact StepS.skip nP (by rfl)
   try simp only [Act.put, sA, sZ, sS]
   refine Pz 17 (some 87) (cond b4_2 (undef) (cond b4_5 (cond b4_14 (undef) (.bool (decide (next < 2)))) (undef))) rfl rfl (by cases b4_2; (cases b4_5; exact StepS.skip nP rfl; cases b4_14; (exact StepS.pure nP rfl fun _ => rfl); exact StepS.skip nP rfl); exact StepS.skip nP rfl) ?_
   try simp only [Act.put, sA, sZ, sS]
   refine Pz 18 (some 88) (cond b4_2 (undef) (cond b4_5 (.bool (b4_14 || (decide (next < 2)))) (undef))) rfl rfl ?ywg155_174 ?rwg155_174
   case ywg155_174 =>
    cases b4_2
    · skip
      cases b4_5
      · exact StepS.skip nP (by rfl)
      · skip
        refine StepS.pure nP (by rfl) (fun w9 => ?_)
        cases b4_14 <;> (first | rfl | (go_simp; done) | (go_simp; rfl))
    · exact StepS.skip nP (by rfl)
   try simp only [Act.put, sA, sZ, sS]
   refine Pz 19 (some 89) (cond b4_2 (undef) (.bool (b4_5 && (b4_14 || (decide (next < 2)))))) rfl rfl ?ywg155_175 ?rwg155_175
   case ywg155_175 =>
    cases b4_2
    · skip
      refine StepS.pure nP (by rfl) (fun w9 => ?_)
      cases b4_5 <;> (first | rfl | (go_simp; done) | (go_simp; rfl))
    · exact StepS.skip nP (by rfl)
   try simp only [Act.put, sA, sZ, sS]
   obtain ⟨f4, hb9⟩ : ∃ b : Bool, b = ((!f3) || ((over) && (((decide ((0 : Int) < (m : Int))) || (decide ((0 : Int) < (n : Int)))) || (decide (next < 2))))) := ⟨_, rfl⟩
   have HEf4 := Lib.hid hb9
   clear hb9
   refine Pz 20 (some 90) (.bool (f4)) rfl rfl ?ywg155_176 ?rwg155_176
   case ywg155_176 =>
    refine StepS.pure nP (by rfl) (fun w9 => ?_)
    have e9 : (b4_2 || (b4_5 && (b4_14 || (decide (next < 2))))) = f4 := by rw [HEf4.out, HEb4_2.out, HEb4_5.out, HEb4_14.out]
    rw [← e9]
    clear e9
    cases b4_2 <;> (first | rfl | (go_simp; done) | (go_simp; rfl))
   try simp only [Act.put, sA, sZ, sS]
   refine Ps.done (by kernel_rfl) (fun wg155 hS => ?_) _
   try generalize (cond b4_2 (undef) (cond b4_5 (cond b4_14 (undef) (.pointer (some ⟨w.heap.size, 1, none⟩))) (undef)) : Value) = zz177
   try generalize (cond b4_2 (undef) (cond b4_5 (cond b4_8 (undef) (.bool (decide ((0 : Int) < (n : Int))))) (undef)) : Value) = zz178
   try generalize (cond b4_2 (undef) (cond b4_5 (cond b4_8 (undef) (.pointer (some ⟨w.heap.size, 2, none⟩))) (undef)) : Value) = zz179
   try generalize (cond b4_2 (undef) (cond b4_5 (.bool (b4_8 || (decide ((0 : Int) < (n : Int))))) (undef)) : Value) = zz180
   try generalize (cond b4_2 (undef) (cond b4_5 (cond b4_14 (undef) (.bool (decide (next < 2)))) (undef)) : Value) = zz181
   try generalize (cond b4_2 (undef) (cond b4_5 (cond b4_8 (undef) (.int .i64 ((n : Int)))) (undef)) : Value) = zz182
   try generalize (cond b4_2 (undef) (cond b4_5 (.bool (decide ((0 : Int) < (m : Int)))) (undef)) : Value) = zz183
   try generalize (cond b4_2 (undef) (cond b4_5 (cond b4_14 (undef) (.int .u64 (next))) (undef)) : Value) = zz184
   try generalize (cond b4_2 (undef) (cond b4_5 (.bool (b4_14 || (decide (next < 2)))) (undef)) : Value) = zz185
   try generalize (cond b4_2 (undef) (cond b4_5 (cond b4_8 (undef) (.slice A n c)) (undef)) : Value) = zz186
   try generalize (cond b4_2 (undef) (.bool (b4_5 && (b4_14 || (decide (next < 2))))) : Value) = zz187
   try generalize (cond b4_2 (undef) (cond b4_5 (.int .i64 ((m : Int))) (undef)) : Value) = zz188
   try generalize (cond b4_2 (undef) (.pointer (some ⟨w.heap.size, 5, none⟩)) : Value) = zz189
   try generalize (cond b4_2 (undef) (cond b4_5 (.bool (b4_14)) (undef)) : Value) = zz190
   try generalize (cond b4_2 (undef) (cond b4_5 (.bool (b4_8)) (undef)) : Value) = zz191
   try generalize (cond b4_2 (undef) (.bool (b4_5)) : Value) = zz192
   try generalize (cond b4_2 (undef) (.bool (over)) : Value) = zz193
   have HW194 := Lib.hid (show Below w1.heap.size w1 wg155 from hS)
   clear hS
   obtain ⟨w295, rfl⟩ : ∃ x, x = wg155 := ⟨_, rfl⟩
   have HST := Lib.hid (show f4 = !(f3 && recT ⟨ses, next, ahead, buf, room, over⟩) from by rw [HEf4.out]; unfold recT; dsimp only; rw [HLB.out, HLA.out, Bool.eq_iff_iff]; cases f3 <;> cases over <;> simp <;> omega)
   clear HEf4
   cases f4
   · have hft := HST.out
     obtain ⟨rfl, hrt⟩ : f3 = true ∧ recT ⟨ses, next, ahead, buf, room, over⟩ = true := by revert hft; cases f3 <;> cases recT ⟨ses, next, ahead, buf, room, over⟩ <;> simp
     obtain ⟨lim, hlim⟩ : ∃ lim, lim = limR ⟨ses, next, ahead, buf, room, over⟩ := ⟨_, rfl⟩
     have HLIM := Lib.hid hlim
     have HRL := Lib.hid (show rr = (if aheadB lim next ahead then 0 else 320) from by rw [HRR.out, hlim]; unfold recB; rw [← HSA.out, ← HSM.out, hrt]; rfl)
     clear hft hrt hlim HST
     have y1 := (HB.out.ca HW194.out).cell 1
     have y2 := (HB.out.ca HW194.out).cell 2
     go_wp2_with fail
     clear y1 y2
     go_loopg [5, 96] n (fun g p5 a wr => ∃ i : Nat, i + g = n ∧ a = .int .i64 i ∧ p5 = .int .u64 (pvA next ahead i) ∧ aheadB lim next ahead = aheadB lim (pvA next ahead i) (ahead.drop i) ∧ Below w1.heap.size w1 wr)
     case atStart => exact ⟨0, by omega, rfl, rfl, rfl, HW194.out⟩
     case round =>
      obtain ⟨i, hig, rfl, rfl, hri, bb⟩ := hrel
      have HI := Lib.hid hri
      have HBW := Lib.hid bb
      clear hri
      by_cases hlt : i < n
      · have hi1 : (i : Int) < (n : Int) := by omega
        obtain ⟨p, ⟨seq, rows, fin, cnt⟩, Bh, kh, dh, rfl, hx, s1⟩ := LH4_at (Lay.rd_below HRA.out bb) hlt
        have e0 := s1.c0
        have e1 := s1.c1
        have e2 := s1.c2
        have e3 := s1.c3
        dsimp only at e0 e1 e2 e3
        have q5 := bl_al (Below.refl wr.heap.size wr) (.cells #[.int .u64 seq, .slice Bh kh dh, .bool fin, .int .u64 cnt] 81)
        have hrd := Lay.rd_below s1.rd q5
        have hkk := Nat.le_trans s1.nc s1.cm
        have HF1 := Lib.hid (Blk.new wr 81 #[.int .u64 seq, .slice Bh kh dh, .bool fin, .int .u64 cnt])
        have HB5 := Lib.hid (HB.out.ca (bl_ca bb q5))
        have HBW5 := Lib.hid (bl_ca bb q5)
        have HCB := Lib.hid (fun W (q : Below (wr.alloc (.cells #[.int .u64 seq, .slice Bh kh dh, .bool fin, .int .u64 cnt] 81)).heap.size (wr.alloc (.cells #[.int .u64 seq, .slice Bh kh dh, .bool fin, .int .u64 cnt] 81)) W) => batch_any Fr ⟨rows, fin, cnt⟩ Bh kh dh seq W (Lay.rd_below hrd q) hkk)
        have HCL := Lib.hid (fun W => limit_any ⟨ses, next, ahead, buf, room, over⟩ (some p) n c B m d W HLB.out (HBD.out (by simp)).1 (by have h := HBD.out (by simp); dsimp only; omega) (HBD.out (by simp)).2.2.1 (HBD.out (by simp)).2.2.2.2.1)
        rw [← HLIM.out] at HCL
        obtain ⟨pv, hpv⟩ : ∃ pv, pv = pvA next ahead i := ⟨_, rfl⟩
        rw [← hpv]
        rw [← hpv] at HI
        have HPV := Lib.hid hpv
        clear hpv
        have HS := Lib.hid (aheadB_at (a := pv) (lim := lim) hx)
        have HNX := Lib.hid (show pvA next ahead (i + 1) = seq from by show (match ahead[i]? with | some h => h.seq | none => next) = _; rw [hx])
        have HWL := Lib.hid (show IntKind.i64.wrap ((n : Int) - 1) = (n : Int) - 1 from by simp [IntKind.wrap, IntKind.signed, IntKind.bits]; omega)
        clear q5 hrd hx s1 bb
        go_upto_region 10 with fail
        clear e0 e1 e2 e3
        generalize wr.alloc (.cells #[.int .u64 seq, .slice Bh kh dh, .bool fin, .int .u64 cnt] 81) = w5 at *
        refine wp_region_ps (S := fun _ _ w' => Below w5.heap.size w5 w') (by kernel_rfl) ?spswg196 ?ppswg196
        case spswg196 =>
         exact (Below.refl w5.heap.size w5).drew
        refine Pz 0 (some 101) (.pointer (some ⟨wr.heap.size, 0, none⟩)) rfl rfl (by exact StepS.pure nP rfl fun _ => rfl) ?_
        try simp only [Act.put, sA, sZ, sS]
        refine Pz 1 (some 102) (.int .u64 (seq)) rfl rfl ?ywg196_198 ?rwg196_198
        case ywg196_198 =>
         refine StepS.read [] (by kernel_rfl) nP (by rfl) (fun L9 m9 w9 hSh hAt hDn hS => ?_)
         have hT : Below _ _ w9 := hS
         have x0 : w9.cell? ⟨wr.heap.size, 0, none⟩ = some (.int .u64 (seq)) := (HF1.out.ca hT).cell 0
         clear hT hS
         go_simp
         try rfl
        try simp only [Act.put, sA, sZ, sS]
        refine Pz 2 (some 103) (.int .u64 (pv)) rfl rfl (by exact StepS.pure nP rfl fun _ => rfl) ?_
        try simp only [Act.put, sA, sZ, sS]
        refine Pz 3 (some 104) (.bool (decide (seq ≤ pv))) rfl rfl (by exact StepS.pure nP rfl fun _ => rfl) ?_
        try simp only [Act.put, sA, sZ, sS]
        obtain ⟨b10_4, hb9⟩ : ∃ b : Bool, b = (decide (seq ≤ pv)) := ⟨_, rfl⟩
        have HEb10_4 := Lib.hid hb9
        clear hb9
        refine Pz 4 (some 105) (.bool (b10_4)) rfl rfl ?ywg196_201 ?rwg196_201
        case ywg196_201 =>
         refine StepS.pure nP (by rfl) (fun w9 => ?_)
         have e9 : (decide (seq ≤ pv)) = b10_4 := by rw [HEb10_4.out]
         rw [← e9]
         clear e9
         first | rfl | (go_simp; done) | (go_simp; rfl)
        try simp only [Act.put, sA, sZ, sS]
        refine Pz 5 (some 106) (cond b10_4 (undef) (.pointer (some ⟨wr.heap.size, 0, none⟩))) rfl rfl (by cases b10_4; (exact StepS.pure nP rfl fun _ => rfl); exact StepS.skip nP rfl) ?_
        try simp only [Act.put, sA, sZ, sS]
        refine Pz 6 (some 107) (cond b10_4 (undef) (.int .u64 (seq))) rfl rfl ?ywg196_203 ?rwg196_203
        case ywg196_203 =>
         cases b10_4
         · skip
           refine StepS.read [] (by kernel_rfl) nP (by rfl) (fun L9 m9 w9 hSh hAt hDn hS => ?_)
           have hT : Below _ _ w9 := hS
           have x0 : w9.cell? ⟨wr.heap.size, 0, none⟩ = some (.int .u64 (seq)) := (HF1.out.ca hT).cell 0
           clear hT hS
           go_simp
           try rfl
         · exact StepS.skip nP (by rfl)
        try simp only [Act.put, sA, sZ, sS]
        refine Pz 7 (some 108) (cond b10_4 (undef) (.agg #[.int .u32 (ses), .int .u64 (next), .slice (some p) n c, .slice B m d, .int .i64 (room), .bool (over)])) rfl rfl ?ywg196_204 ?rwg196_204
        case ywg196_204 =>
         cases b10_4
         · skip
           refine StepS.read [] (by kernel_rfl) nP (by rfl) (fun L9 m9 w9 hSh hAt hDn hS => ?_)
           have hT : Below _ _ w9 := hS
           have x0 : w9.cell? ⟨w.heap.size, 0, none⟩ = some (.int .u32 (ses)) := (HB5.out.ca hT).cell 0
           have x1 : w9.cell? ⟨w.heap.size, 1, none⟩ = some (.int .u64 (next)) := (HB5.out.ca hT).cell 1
           have x2 : w9.cell? ⟨w.heap.size, 2, none⟩ = some (.slice (some p) n c) := (HB5.out.ca hT).cell 2
           have x3 : w9.cell? ⟨w.heap.size, 3, none⟩ = some (.slice B m d) := (HB5.out.ca hT).cell 3
           have x4 : w9.cell? ⟨w.heap.size, 4, none⟩ = some (.int .i64 (room)) := (HB5.out.ca hT).cell 4
           have x5 : w9.cell? ⟨w.heap.size, 5, none⟩ = some (.bool (over)) := (HB5.out.ca hT).cell 5
           clear hT hS
           go_simp
           try rfl
         · exact StepS.skip nP (by rfl)
        try simp only [Act.put, sA, sZ, sS]
        refine Pz 8 (some 109) (cond b10_4 (undef) (.int .u64 (lim))) rfl rfl ?ywg196_205 ?rwg196_205
        case ywg196_205 =>
         cases b10_4
         · skip
           refine StepS.call ?fwg196_205 ?awg196_205 [] (by kernel_rfl) (by rfl) (fun w9 => ?hwg196_205) (fun L9 m9 w9 hSh hAt hDn hS => ?cwg196_205)
           case hwg196_205 => go_simp; refine ⟨?_, ?_⟩ <;> rfl
           case cwg196_205 =>
            have hT : Below _ _ w9 := hS
            refine (HCL.out w9).mono ?_
            rintro e w8 ⟨rfl, q8⟩
            exact ⟨rfl, bl_ca hT q8⟩
         · exact StepS.skip nP (by rfl)
        try simp only [Act.put, sA, sZ, sS]
        refine Pz 9 (some 110) (cond b10_4 (undef) (.bool (decide (lim < seq)))) rfl rfl (by cases b10_4; (exact StepS.pure nP rfl fun _ => rfl); exact StepS.skip nP rfl) ?_
        try simp only [Act.put, sA, sZ, sS]
        refine Pz 10 (some 111) (.bool (b10_4 || (decide (lim < seq)))) rfl rfl ?ywg196_207 ?rwg196_207
        case ywg196_207 =>
         refine StepS.pure nP (by rfl) (fun w9 => ?_)
         cases b10_4 <;> (first | rfl | (go_simp; done) | (go_simp; rfl))
        try simp only [Act.put, sA, sZ, sS]
        obtain ⟨b10_11, hb9⟩ : ∃ b : Bool, b = ((decide (seq ≤ pv)) || (decide (lim < seq))) := ⟨_, rfl⟩
        have HEb10_11 := Lib.hid hb9
        clear hb9
        refine Pz 11 (some 112) (.bool (b10_11)) rfl rfl ?ywg196_208 ?rwg196_208
        case ywg196_208 =>
         refine StepS.pure nP (by rfl) (fun w9 => ?_)
         have e9 : (b10_4 || (decide (lim < seq))) = b10_11 := by rw [HEb10_11.out, HEb10_4.out]
         rw [← e9]
         clear e9
         first | rfl | (go_simp; done) | (go_simp; rfl)
        try simp only [Act.put, sA, sZ, sS]
        refine Pz 12 (some 113) (cond b10_11 (undef) (.pointer (some ⟨wr.heap.size, 1, none⟩))) rfl rfl (by cases b10_11; (exact StepS.pure nP rfl fun _ => rfl); exact StepS.skip nP rfl) ?_
        try simp only [Act.put, sA, sZ, sS]
        refine Pz 13 (some 114) (cond b10_11 (undef) (.agg #[.slice Bh kh dh, .bool (fin), .int .u64 (cnt)])) rfl rfl ?ywg196_210 ?rwg196_210
        case ywg196_210 =>
         cases b10_11
         · skip
           refine StepS.read [] (by kernel_rfl) nP (by rfl) (fun L9 m9 w9 hSh hAt hDn hS => ?_)
           have hT : Below _ _ w9 := hS
           have x0 : w9.cell? ⟨wr.heap.size, 1, none⟩ = some (.slice Bh kh dh) := (HF1.out.ca hT).cell 1
           have x1 : w9.cell? ⟨wr.heap.size, 2, none⟩ = some (.bool (fin)) := (HF1.out.ca hT).cell 2
           have x2 : w9.cell? ⟨wr.heap.size, 3, none⟩ = some (.int .u64 (cnt)) := (HF1.out.ca hT).cell 3
           clear hT hS
           go_simp
           try rfl
         · exact StepS.skip nP (by rfl)
        try simp only [Act.put, sA, sZ, sS]
        refine Pz 14 (some 115) (cond b10_11 (undef) (.pointer (some ⟨wr.heap.size, 0, none⟩))) rfl rfl (by cases b10_11; (exact StepS.pure nP rfl fun _ => rfl); exact StepS.skip nP rfl) ?_
        try simp only [Act.put, sA, sZ, sS]
        refine Pz 15 (some 116) (cond b10_11 (undef) (.int .u64 (seq))) rfl rfl ?ywg196_212 ?rwg196_212
        case ywg196_212 =>
         cases b10_11
         · skip
           refine StepS.read [] (by kernel_rfl) nP (by rfl) (fun L9 m9 w9 hSh hAt hDn hS => ?_)
           have hT : Below _ _ w9 := hS
           have x0 : w9.cell? ⟨wr.heap.size, 0, none⟩ = some (.int .u64 (seq)) := (HF1.out.ca hT).cell 0
           clear hT hS
           go_simp
           try rfl
         · exact StepS.skip nP (by rfl)
        try simp only [Act.put, sA, sZ, sS]
        refine Pz 16 (some 117) (cond b10_11 (undef) (.bool (batchB ⟨rows, fin, cnt⟩ seq))) rfl rfl ?ywg196_213 ?rwg196_213
        case ywg196_213 =>
         cases b10_11
         · skip
           refine StepS.call ?fwg196_213 ?awg196_213 [] (by kernel_rfl) (by rfl) (fun w9 => ?hwg196_213) (fun L9 m9 w9 hSh hAt hDn hS => ?cwg196_213)
           case hwg196_213 => go_simp; refine ⟨?_, ?_⟩ <;> rfl
           case cwg196_213 =>
            have hT : Below _ _ w9 := hS
            refine (HCB.out w9 hT).mono ?_
            rintro e w8 ⟨rfl, q8⟩
            exact ⟨rfl, bl_ca hT q8⟩
         · exact StepS.skip nP (by rfl)
        try simp only [Act.put, sA, sZ, sS]
        refine Pz 17 (some 118) (cond b10_11 (undef) (.bool (!(batchB ⟨rows, fin, cnt⟩ seq)))) rfl rfl (by cases b10_11; (exact StepS.pure nP rfl fun _ => rfl); exact StepS.skip nP rfl) ?_
        try simp only [Act.put, sA, sZ, sS]
        refine Pz 18 (some 119) (.bool (b10_11 || (!(batchB ⟨rows, fin, cnt⟩ seq)))) rfl rfl ?ywg196_215 ?rwg196_215
        case ywg196_215 =>
         refine StepS.pure nP (by rfl) (fun w9 => ?_)
         cases b10_11 <;> (first | rfl | (go_simp; done) | (go_simp; rfl))
        try simp only [Act.put, sA, sZ, sS]
        obtain ⟨b10_19, hb9⟩ : ∃ b : Bool, b = (((decide (seq ≤ pv)) || (decide (lim < seq))) || (!(batchB ⟨rows, fin, cnt⟩ seq))) := ⟨_, rfl⟩
        have HEb10_19 := Lib.hid hb9
        clear hb9
        refine Pz 19 (some 120) (.bool (b10_19)) rfl rfl ?ywg196_216 ?rwg196_216
        case ywg196_216 =>
         refine StepS.pure nP (by rfl) (fun w9 => ?_)
         have e9 : (b10_11 || (!(batchB ⟨rows, fin, cnt⟩ seq))) = b10_19 := by rw [HEb10_19.out, HEb10_11.out]
         rw [← e9]
         clear e9
         first | rfl | (go_simp; done) | (go_simp; rfl)
        try simp only [Act.put, sA, sZ, sS]
        refine Pz 20 (some 121) (cond b10_19 (undef) (.pointer (some ⟨wr.heap.size, 1, none⟩))) rfl rfl (by cases b10_19; (exact StepS.pure nP rfl fun _ => rfl); exact StepS.skip nP rfl) ?_
        try simp only [Act.put, sA, sZ, sS]
        refine Pz 21 (some 122) (cond b10_19 (undef) (.pointer (some ⟨wr.heap.size, 2, none⟩))) rfl rfl (by cases b10_19; (exact StepS.pure nP rfl fun _ => rfl); exact StepS.skip nP rfl) ?_
        try simp only [Act.put, sA, sZ, sS]
        refine Pz 22 (some 123) (cond b10_19 (undef) (.bool (fin))) rfl rfl ?ywg196_219 ?rwg196_219
        case ywg196_219 =>
         cases b10_19
         · skip
           refine StepS.read [] (by kernel_rfl) nP (by rfl) (fun L9 m9 w9 hSh hAt hDn hS => ?_)
           have hT : Below _ _ w9 := hS
           have x0 : w9.cell? ⟨wr.heap.size, 2, none⟩ = some (.bool (fin)) := (HF1.out.ca hT).cell 2
           clear hT hS
           go_simp
           try rfl
         · exact StepS.skip nP (by rfl)
        try simp only [Act.put, sA, sZ, sS]
        obtain ⟨b10_23, hb9⟩ : ∃ b : Bool, b = (fin) := ⟨_, rfl⟩
        have HEb10_23 := Lib.hid hb9
        clear hb9
        refine Pz 23 (some 124) (cond b10_19 (undef) (.bool (b10_23))) rfl rfl ?ywg196_220 ?rwg196_220
        case ywg196_220 =>
         cases b10_19
         · skip
           refine StepS.pure nP (by rfl) (fun w9 => ?_)
           have e9 : (fin) = b10_23 := by rw [HEb10_23.out]
           rw [← e9]
           clear e9
           first | rfl | (go_simp; done) | (go_simp; rfl)
         · exact StepS.skip nP (by rfl)
        try simp only [Act.put, sA, sZ, sS]
        refine Pz 24 (some 125) (cond b10_19 (undef) (cond b10_23 (.int .i64 ((i : Int))) (undef))) rfl rfl (by cases b10_19; (cases b10_23; exact StepS.skip nP rfl; exact StepS.pure nP rfl fun _ => rfl); exact StepS.skip nP rfl) ?_
        try simp only [Act.put, sA, sZ, sS]
        refine Pz 25 (some 126) (cond b10_19 (undef) (cond b10_23 (.pointer (some ⟨w.heap.size, 2, none⟩)) (undef))) rfl rfl (by cases b10_19; (cases b10_23; exact StepS.skip nP rfl; exact StepS.pure nP rfl fun _ => rfl); exact StepS.skip nP rfl) ?_
        try simp only [Act.put, sA, sZ, sS]
        refine Pz 26 (some 127) (cond b10_19 (undef) (cond b10_23 (.slice (some p) n c) (undef))) rfl rfl ?ywg196_223 ?rwg196_223
        case ywg196_223 =>
         cases b10_19
         · skip
           cases b10_23
           · exact StepS.skip nP (by rfl)
           · skip
             refine StepS.read [] (by kernel_rfl) nP (by rfl) (fun L9 m9 w9 hSh hAt hDn hS => ?_)
             have hT : Below _ _ w9 := hS
             have x0 : w9.cell? ⟨w.heap.size, 2, none⟩ = some (.slice (some p) n c) := (HB5.out.ca hT).cell 2
             clear hT hS
             go_simp
             try rfl
         · exact StepS.skip nP (by rfl)
        try simp only [Act.put, sA, sZ, sS]
        refine Pz 27 (some 128) (cond b10_19 (undef) (cond b10_23 (.int .i64 ((n : Int))) (undef))) rfl rfl (by cases b10_19; (cases b10_23; exact StepS.skip nP rfl; exact StepS.pure nP rfl fun _ => by first | rfl | (go_simp; done) | (go_simp; rfl)); exact StepS.skip nP rfl) ?_
        try simp only [Act.put, sA, sZ, sS]
        refine Pz 28 (some 129) (cond b10_19 (undef) (cond b10_23 (.int .i64 ((n : Int) - 1)) (undef))) rfl rfl ?ywg196_225 ?rwg196_225
        case ywg196_225 =>
         cases b10_19
         · skip
           cases b10_23
           · exact StepS.skip nP (by rfl)
           · skip
             refine StepS.pure nP (by rfl) (fun w9 => ?_)
             rw [← HWL.out]
             first | rfl | (go_simp; done) | (go_simp; rfl)
         · exact StepS.skip nP (by rfl)
        try simp only [Act.put, sA, sZ, sS]
        refine Pz 29 (some 130) (cond b10_19 (undef) (cond b10_23 (.bool (decide ((i : Int) < ((n : Int) - 1)))) (undef))) rfl rfl (by cases b10_19; (cases b10_23; exact StepS.skip nP rfl; exact StepS.pure nP rfl fun _ => rfl); exact StepS.skip nP rfl) ?_
        try simp only [Act.put, sA, sZ, sS]
        refine Pz 30 (some 131) (cond b10_19 (undef) (.bool (b10_23 && (decide ((i : Int) < ((n : Int) - 1)))))) rfl rfl ?ywg196_227 ?rwg196_227
        case ywg196_227 =>
         cases b10_19
         · skip
           refine StepS.pure nP (by rfl) (fun w9 => ?_)
           cases b10_23 <;> (first | rfl | (go_simp; done) | (go_simp; rfl))
         · exact StepS.skip nP (by rfl)
        try simp only [Act.put, sA, sZ, sS]
        obtain ⟨f9, hb9⟩ : ∃ b : Bool, b = ((((decide (seq ≤ pv)) || (decide (lim < seq))) || (!(batchB ⟨rows, fin, cnt⟩ seq))) || ((fin) && (decide ((i : Int) < ((n : Int) - 1))))) := ⟨_, rfl⟩
        have HEf9 := Lib.hid hb9
        clear hb9
        refine Pz 31 (some 132) (.bool (f9)) rfl rfl ?ywg196_228 ?rwg196_228
        case ywg196_228 =>
         refine StepS.pure nP (by rfl) (fun w9 => ?_)
         have e9 : (b10_19 || (b10_23 && (decide ((i : Int) < ((n : Int) - 1))))) = f9 := by rw [HEf9.out, HEb10_19.out, HEb10_23.out]
         rw [← e9]
         clear e9
         cases b10_19 <;> (first | rfl | (go_simp; done) | (go_simp; rfl))
        try simp only [Act.put, sA, sZ, sS]
        refine Ps.done (by kernel_rfl) (fun wg196 hS => ?_) _
        try generalize (cond b10_4 (undef) (.agg #[.int .u32 (ses), .int .u64 (next), .slice (some p) n c, .slice B m d, .int .i64 (room), .bool (over)]) : Value) = zz229
        try generalize (cond b10_19 (undef) (cond b10_23 (.bool (decide ((i : Int) < ((n : Int) - 1)))) (undef)) : Value) = zz230
        try generalize (cond b10_19 (undef) (cond b10_23 (.pointer (some ⟨w.heap.size, 2, none⟩)) (undef)) : Value) = zz231
        try generalize (cond b10_19 (undef) (.bool (b10_23 && (decide ((i : Int) < ((n : Int) - 1))))) : Value) = zz232
        try generalize (cond b10_11 (undef) (.agg #[.slice Bh kh dh, .bool (fin), .int .u64 (cnt)]) : Value) = zz233
        try generalize (cond b10_19 (undef) (cond b10_23 (.int .i64 ((n : Int) - 1)) (undef)) : Value) = zz234
        try generalize (cond b10_19 (undef) (cond b10_23 (.int .i64 ((i : Int))) (undef)) : Value) = zz235
        try generalize (cond b10_19 (undef) (cond b10_23 (.int .i64 ((n : Int))) (undef)) : Value) = zz236
        try generalize (cond b10_19 (undef) (cond b10_23 (.slice (some p) n c) (undef)) : Value) = zz237
        try generalize (cond b10_11 (undef) (.pointer (some ⟨wr.heap.size, 0, none⟩)) : Value) = zz238
        try generalize (cond b10_19 (undef) (.pointer (some ⟨wr.heap.size, 2, none⟩)) : Value) = zz239
        try generalize (cond b10_19 (undef) (.pointer (some ⟨wr.heap.size, 1, none⟩)) : Value) = zz240
        try generalize (cond b10_11 (undef) (.pointer (some ⟨wr.heap.size, 1, none⟩)) : Value) = zz241
        try generalize (cond b10_4 (undef) (.pointer (some ⟨wr.heap.size, 0, none⟩)) : Value) = zz242
        try generalize (cond b10_11 (undef) (.bool (!(batchB ⟨rows, fin, cnt⟩ seq))) : Value) = zz243
        try generalize (cond b10_11 (undef) (.bool (batchB ⟨rows, fin, cnt⟩ seq)) : Value) = zz244
        try generalize (.bool (b10_11 || (!(batchB ⟨rows, fin, cnt⟩ seq))) : Value) = zz245
        try generalize (cond b10_4 (undef) (.bool (decide (lim < seq))) : Value) = zz246
        try generalize (cond b10_11 (undef) (.int .u64 (seq)) : Value) = zz247
        try generalize (.bool (b10_4 || (decide (lim < seq))) : Value) = zz248
        try generalize (cond b10_19 (undef) (.bool (b10_23)) : Value) = zz249
        try generalize (cond b10_4 (undef) (.int .u64 (seq)) : Value) = zz250
        try generalize (cond b10_4 (undef) (.int .u64 (lim)) : Value) = zz251
        try generalize (cond b10_19 (undef) (.bool (fin)) : Value) = zz252
        have HW253 := Lib.hid (show Below w5.heap.size w5 wg196 from hS)
        clear hS
        obtain ⟨w354, rfl⟩ : ∃ x, x = wg196 := ⟨_, rfl⟩
        have HEQ := Lib.hid (show aheadB lim pv (ahead.drop i) = (!f9 && aheadB lim seq (ahead.drop (i + 1))) from by rw [HS.out, HEf9.out, HLA.out]; dsimp only; cases aheadB lim seq (ahead.drop (i + 1)) <;> cases batchB ⟨rows, fin, cnt⟩ seq <;> cases fin <;> rw [Bool.eq_iff_iff] <;> simp <;> omega)
        have HQW := Lib.hid (bl_ca HBW5.out HW253.out)
        have z0 := (HF1.out.ca HW253.out).cell 0
        cases f9
        · go_wp2
          go_roundg (gk - 1)
          · exact ⟨i + 1, by omega, by go_num, by rw [HNX.out], by rw [HI.out, HEQ.out, HNX.out]; rfl, HQW.out⟩
          · omega
        · go_wp2
          go_ret
          exact ⟨ret_int (by rw [HRL.out, HI.out, HEQ.out]; simp), bl_ca HBB.out HQW.out⟩
      · obtain rfl : i = n := by omega
        have hi1 : (i : Int) ≤ (i : Int) := by omega
        have HAE := Lib.hid (show aheadB lim next ahead = true from by rw [HI.out, List.drop_of_length_le (by rw [HLA.out]; exact Nat.le_refl _)]; rfl)
        clear bb
        go_wp2
        go_ret
        exact ⟨ret_int (by rw [HRL.out, HAE.out]; rfl), bl_ca HBB.out HBW.out⟩
   · go_wp2
     go_ret
     exact ⟨ret_int (by rw [HRR.out]; unfold recB; rw [← HSA.out, ← HSM.out]; have h := HST.out; revert h; cases f3 <;> cases recT ⟨ses, next, ahead, buf, room, over⟩ <;> simp), bl_ca HBB.out HW194.out⟩
end Go.Proofs.Ytojghgbaiiajfaa
