/- link.CheckSender. Conditions: the queue reads as these batches. -/
import Derived.Test.YtojghgbaiiajfaaPkE4
import Derived.Deep.DeepCutAuto
namespace Go.Proofs.Ytojghgbaiiajfaa
open Go.RowKit
def sendA (s : SC) : Bool := sesB s.ses && decide (1 ≤ s.base) && decide (s.base ≤ 1099511627776) && decide ((s.q.length : Int) ≤ 8) && inRowB s.q s.base
def sendM (s : SC) : Bool := (s.ended || !endsB s.q) && decide (s.base - 1 ≤ s.sent) && decide (s.sent ≤ s.base - 1 + (s.q.length : Int)) && decide (s.sent ≤ s.lim) && decide (s.lim ≤ 1099511627776)
def sendT (s : SC) : Bool := decide (0 ≤ s.timer) && decide (s.timer < 3) && (decide (s.timer ≤ 0) || decide (s.base ≤ s.sent))
def sendB (s : SC) : Bool := sendA s && sendM s && sendT s
theorem u64_in {x : Int} (h0 : 0 ≤ x) (h1 : x ≤ 9223372036854775807) : IntKind.u64.wrap x = x := by simp [IntKind.wrap, IntKind.signed, IntKind.bits]; omega
set_option maxRecDepth 100000 in
set_option maxHeartbeats 16000000 in
theorem csend_any (F : Nat → Prop) (s : SC) (A : Option Addr) (n c : Nat) (w : World) (h : LB3.rd w F A n s.q) (hn : n ≤ 9223372036854775807) (_h0 : 0 ≤ s.base) :
 Calls Try.prog 20 #[.agg (s.cells A n c)] w fun e w' => e = .returned (.int .i64 (if sendB s then 0 else 320)) ∧ Below w.heap.size w w' := by
 obtain ⟨r, hr⟩ : ∃ r : Int, r = if sendB s then 0 else 320 := ⟨_, rfl⟩
 rw [← hr]
 have HRR := Lib.hid hr
 clear hr
 obtain ⟨ses, base, q, sent, lim, timer, ended⟩ := s
 dsimp only at h
 have HL := Lib.hid (Lay.rd_len h)
 have b1 := bl_al (Below.refl w.heap.size w) (.cells #[.int .u32 ses, .int .u64 base, .slice A n c, .int .u64 sent, .int .u64 lim, .int .i64 timer, .bool ended] 29)
 have HB := Lib.hid (Blk.new w 29 #[.int .u32 ses, .int .u64 base, .slice A n c, .int .u64 sent, .int .u64 lim, .int .i64 timer, .bool ended])
 have HRD := Lib.hid (Lay.rd_below h b1)
 have HBB := Lib.hid b1
 clear h b1
 go_enter Try.func20, Try.ntmps20
 go_upto_region 1 with fail
 generalize w.alloc (.cells #[.int .u32 ses, .int .u64 base, .slice A n c, .int .u64 sent, .int .u64 lim, .int .i64 timer, .bool ended] 29) = w1 at *
 refine wp_region_ps0 .text (S := fun _ _ w' => Below w1.heap.size w1 w') (by kernel_rfl) ?spswg1 ?ppswg1
 case spswg1 =>
  exact (Below.refl w1.heap.size w1)
 refine Pz 0 (some 4) (.pointer (some ⟨w.heap.size, 0, none⟩)) rfl rfl (by exact StepS.pure nP rfl fun _ => rfl) ?_
 try simp only [Act.put, sA, sZ, sS]
 refine Pz 1 (some 5) (.int .u32 (ses)) rfl rfl ?ywg1_3 ?rwg1_3
 case ywg1_3 =>
  refine StepS.read [] (by kernel_rfl) nP (by rfl) (fun L9 m9 w9 hSh hAt hDn hS => ?_)
  have hT : Below _ _ w9 := hS
  have x0 : w9.cell? ⟨w.heap.size, 0, none⟩ = some (.int .u32 (ses)) := (HB.out.ca hT).cell 0
  clear hT hS
  go_simp
  try rfl
 try simp only [Act.put, sA, sZ, sS]
 refine Pz 2 (some 6) (.bool (sesB ses)) rfl rfl ?ywg1_4 ?rwg1_4
 case ywg1_4 =>
  refine StepS.call ?fwg1_4 ?awg1_4 [] (by kernel_rfl) (by rfl) (fun w9 => ?hwg1_4) (fun L9 m9 w9 hSh hAt hDn hS => ?cwg1_4)
  case hwg1_4 => go_simp; refine ⟨?_, ?_⟩ <;> rfl
  case cwg1_4 =>
   have hT : Below _ _ w9 := hS
   refine (session_any ses w9).mono ?_
   rintro e w8 ⟨rfl, rfl⟩
   exact ⟨rfl, hT⟩
 try simp only [Act.put, sA, sZ, sS]
 obtain ⟨b1_3, hb9⟩ : ∃ b : Bool, b = (sesB ses) := ⟨_, rfl⟩
 have HEb1_3 := Lib.hid hb9
 clear hb9
 refine Pz 3 (some 7) (.bool (b1_3)) rfl rfl ?ywg1_5 ?rwg1_5
 case ywg1_5 =>
  refine StepS.pure nP (by rfl) (fun w9 => ?_)
  have e9 : (sesB ses) = b1_3 := by rw [HEb1_3.out]
  rw [← e9]
  clear e9
  first | rfl | (go_simp; done) | (go_simp; rfl)
 try simp only [Act.put, sA, sZ, sS]
 refine Pz 4 (some 8) (cond b1_3 (.pointer (some ⟨w.heap.size, 1, none⟩)) (undef)) rfl rfl (by cases b1_3; exact StepS.skip nP rfl; exact StepS.pure nP rfl fun _ => rfl) ?_
 try simp only [Act.put, sA, sZ, sS]
 refine Pz 5 (some 9) (cond b1_3 (.int .u64 (base)) (undef)) rfl rfl ?ywg1_7 ?rwg1_7
 case ywg1_7 =>
  cases b1_3
  · exact StepS.skip nP (by rfl)
  · skip
    refine StepS.read [] (by kernel_rfl) nP (by rfl) (fun L9 m9 w9 hSh hAt hDn hS => ?_)
    have hT : Below _ _ w9 := hS
    have x0 : w9.cell? ⟨w.heap.size, 1, none⟩ = some (.int .u64 (base)) := (HB.out.ca hT).cell 1
    clear hT hS
    go_simp
    try rfl
 try simp only [Act.put, sA, sZ, sS]
 refine Pz 6 (some 10) (cond b1_3 (.bool (decide ((1 : Int) ≤ base))) (undef)) rfl rfl (by cases b1_3; exact StepS.skip nP rfl; exact StepS.pure nP rfl fun _ => rfl) ?_
 try simp only [Act.put, sA, sZ, sS]
 refine Pz 7 (some 11) (.bool (b1_3 && (decide ((1 : Int) ≤ base)))) rfl rfl ?ywg1_9 ?rwg1_9
 case ywg1_9 =>
  refine StepS.pure nP (by rfl) (fun w9 => ?_)
  cases b1_3 <;> (first | rfl | (go_simp; done) | (go_simp; rfl))
 try simp only [Act.put, sA, sZ, sS]
 obtain ⟨b1_8, hb9⟩ : ∃ b : Bool, b = ((sesB ses) && (decide ((1 : Int) ≤ base))) := ⟨_, rfl⟩
 have HEb1_8 := Lib.hid hb9
 clear hb9
 refine Pz 8 (some 12) (.bool (b1_8)) rfl rfl ?ywg1_10 ?rwg1_10
 case ywg1_10 =>
  refine StepS.pure nP (by rfl) (fun w9 => ?_)
  have e9 : (b1_3 && (decide ((1 : Int) ≤ base))) = b1_8 := by rw [HEb1_8.out, HEb1_3.out]
  rw [← e9]
  clear e9
  first | rfl | (go_simp; done) | (go_simp; rfl)
 try simp only [Act.put, sA, sZ, sS]
 refine Pz 9 (some 13) (cond b1_8 (.pointer (some ⟨w.heap.size, 1, none⟩)) (undef)) rfl rfl (by cases b1_8; exact StepS.skip nP rfl; exact StepS.pure nP rfl fun _ => rfl) ?_
 try simp only [Act.put, sA, sZ, sS]
 refine Pz 10 (some 14) (cond b1_8 (.int .u64 (base)) (undef)) rfl rfl ?ywg1_12 ?rwg1_12
 case ywg1_12 =>
  cases b1_8
  · exact StepS.skip nP (by rfl)
  · skip
    refine StepS.read [] (by kernel_rfl) nP (by rfl) (fun L9 m9 w9 hSh hAt hDn hS => ?_)
    have hT : Below _ _ w9 := hS
    have x0 : w9.cell? ⟨w.heap.size, 1, none⟩ = some (.int .u64 (base)) := (HB.out.ca hT).cell 1
    clear hT hS
    go_simp
    try rfl
 try simp only [Act.put, sA, sZ, sS]
 refine Pz 11 (some 15) (cond b1_8 (.bool (decide (base ≤ 1099511627776))) (undef)) rfl rfl (by cases b1_8; exact StepS.skip nP rfl; exact StepS.pure nP rfl fun _ => rfl) ?_
 try simp only [Act.put, sA, sZ, sS]
 refine Pz 12 (some 16) (.bool (b1_8 && (decide (base ≤ 1099511627776)))) rfl rfl ?ywg1_14 ?rwg1_14
 case ywg1_14 =>
  refine StepS.pure nP (by rfl) (fun w9 => ?_)
  cases b1_8 <;> (first | rfl | (go_simp; done) | (go_simp; rfl))
 try simp only [Act.put, sA, sZ, sS]
 obtain ⟨b1_13, hb9⟩ : ∃ b : Bool, b = (((sesB ses) && (decide ((1 : Int) ≤ base))) && (decide (base ≤ 1099511627776))) := ⟨_, rfl⟩
 have HEb1_13 := Lib.hid hb9
 clear hb9
 refine Pz 13 (some 17) (.bool (b1_13)) rfl rfl ?ywg1_15 ?rwg1_15
 case ywg1_15 =>
  refine StepS.pure nP (by rfl) (fun w9 => ?_)
  have e9 : (b1_8 && (decide (base ≤ 1099511627776))) = b1_13 := by rw [HEb1_13.out, HEb1_8.out]
  rw [← e9]
  clear e9
  first | rfl | (go_simp; done) | (go_simp; rfl)
 try simp only [Act.put, sA, sZ, sS]
 refine Pz 14 (some 18) (cond b1_13 (.pointer (some ⟨w.heap.size, 2, none⟩)) (undef)) rfl rfl (by cases b1_13; exact StepS.skip nP rfl; exact StepS.pure nP rfl fun _ => rfl) ?_
 try simp only [Act.put, sA, sZ, sS]
 refine Pz 15 (some 19) (cond b1_13 (.slice A n c) (undef)) rfl rfl ?ywg1_17 ?rwg1_17
 case ywg1_17 =>
  cases b1_13
  · exact StepS.skip nP (by rfl)
  · skip
    refine StepS.read [] (by kernel_rfl) nP (by rfl) (fun L9 m9 w9 hSh hAt hDn hS => ?_)
    have hT : Below _ _ w9 := hS
    have x0 : w9.cell? ⟨w.heap.size, 2, none⟩ = some (.slice A n c) := (HB.out.ca hT).cell 2
    clear hT hS
    go_simp
    try rfl
 try simp only [Act.put, sA, sZ, sS]
 refine Pz 16 (some 20) (cond b1_13 (.int .i64 ((n : Int))) (undef)) rfl rfl (by cases b1_13; exact StepS.skip nP rfl; exact StepS.pure nP rfl fun _ => by first | rfl | (go_simp; done) | (go_simp; rfl)) ?_
 try simp only [Act.put, sA, sZ, sS]
 refine Pz 17 (some 21) (cond b1_13 (.bool (decide ((n : Int) ≤ 8))) (undef)) rfl rfl (by cases b1_13; exact StepS.skip nP rfl; exact StepS.pure nP rfl fun _ => rfl) ?_
 try simp only [Act.put, sA, sZ, sS]
 refine Pz 18 (some 22) (.bool (b1_13 && (decide ((n : Int) ≤ 8)))) rfl rfl ?ywg1_20 ?rwg1_20
 case ywg1_20 =>
  refine StepS.pure nP (by rfl) (fun w9 => ?_)
  cases b1_13 <;> (first | rfl | (go_simp; done) | (go_simp; rfl))
 try simp only [Act.put, sA, sZ, sS]
 obtain ⟨b1_19, hb9⟩ : ∃ b : Bool, b = ((((sesB ses) && (decide ((1 : Int) ≤ base))) && (decide (base ≤ 1099511627776))) && (decide ((n : Int) ≤ 8))) := ⟨_, rfl⟩
 have HEb1_19 := Lib.hid hb9
 clear hb9
 refine Pz 19 (some 23) (.bool (b1_19)) rfl rfl ?ywg1_21 ?rwg1_21
 case ywg1_21 =>
  refine StepS.pure nP (by rfl) (fun w9 => ?_)
  have e9 : (b1_13 && (decide ((n : Int) ≤ 8))) = b1_19 := by rw [HEb1_19.out, HEb1_13.out]
  rw [← e9]
  clear e9
  first | rfl | (go_simp; done) | (go_simp; rfl)
 try simp only [Act.put, sA, sZ, sS]
 refine Pz 20 (some 24) (cond b1_19 (.pointer (some ⟨w.heap.size, 2, none⟩)) (undef)) rfl rfl (by cases b1_19; exact StepS.skip nP rfl; exact StepS.pure nP rfl fun _ => rfl) ?_
 try simp only [Act.put, sA, sZ, sS]
 refine Pz 21 (some 25) (cond b1_19 (.slice A n c) (undef)) rfl rfl ?ywg1_23 ?rwg1_23
 case ywg1_23 =>
  cases b1_19
  · exact StepS.skip nP (by rfl)
  · skip
    refine StepS.read [] (by kernel_rfl) nP (by rfl) (fun L9 m9 w9 hSh hAt hDn hS => ?_)
    have hT : Below _ _ w9 := hS
    have x0 : w9.cell? ⟨w.heap.size, 2, none⟩ = some (.slice A n c) := (HB.out.ca hT).cell 2
    clear hT hS
    go_simp
    try rfl
 try simp only [Act.put, sA, sZ, sS]
 refine Pz 22 (some 26) (cond b1_19 (.pointer (some ⟨w.heap.size, 1, none⟩)) (undef)) rfl rfl (by cases b1_19; exact StepS.skip nP rfl; exact StepS.pure nP rfl fun _ => rfl) ?_
 try simp only [Act.put, sA, sZ, sS]
 refine Pz 23 (some 27) (cond b1_19 (.int .u64 (base)) (undef)) rfl rfl ?ywg1_25 ?rwg1_25
 case ywg1_25 =>
  cases b1_19
  · exact StepS.skip nP (by rfl)
  · skip
    refine StepS.read [] (by kernel_rfl) nP (by rfl) (fun L9 m9 w9 hSh hAt hDn hS => ?_)
    have hT : Below _ _ w9 := hS
    have x0 : w9.cell? ⟨w.heap.size, 1, none⟩ = some (.int .u64 (base)) := (HB.out.ca hT).cell 1
    clear hT hS
    go_simp
    try rfl
 try simp only [Act.put, sA, sZ, sS]
 refine Pz 24 (some 28) (cond b1_19 (.bool (inRowB q base)) (undef)) rfl rfl ?ywg1_26 ?rwg1_26
 case ywg1_26 =>
  cases b1_19
  · exact StepS.skip nP (by rfl)
  · skip
    refine StepS.call ?fwg1_26 ?awg1_26 [] (by kernel_rfl) (by rfl) (fun w9 => ?hwg1_26) (fun L9 m9 w9 hSh hAt hDn hS => ?cwg1_26)
    case hwg1_26 => go_simp; refine ⟨?_, ?_⟩ <;> rfl
    case cwg1_26 =>
     have hT : Below _ _ w9 := hS
     have h9 := HEb1_19.out
     simp at h9
     refine (inRow_any F A n c q base w9 (Lay.rd_below HRD.out hT) (by omega) (by omega) (by omega)).mono ?_
     rintro e w8 ⟨rfl, q8⟩
     exact ⟨rfl, bl_ca hT q8⟩
 try simp only [Act.put, sA, sZ, sS]
 obtain ⟨f1, hb9⟩ : ∃ b : Bool, b = (((((sesB ses) && (decide ((1 : Int) ≤ base))) && (decide (base ≤ 1099511627776))) && (decide ((n : Int) ≤ 8))) && (inRowB q base)) := ⟨_, rfl⟩
 have HEf1 := Lib.hid hb9
 clear hb9
 refine Pz 25 (some 29) (.bool (f1)) rfl rfl ?ywg1_27 ?rwg1_27
 case ywg1_27 =>
  refine StepS.pure nP (by rfl) (fun w9 => ?_)
  have e9 : (b1_19 && (inRowB q base)) = f1 := by rw [HEf1.out, HEb1_19.out]
  rw [← e9]
  clear e9
  cases b1_19 <;> (first | rfl | (go_simp; done) | (go_simp; rfl))
 try simp only [Act.put, sA, sZ, sS]
 refine Pz 26 (some 3) (.bool (f1)) rfl rfl (by exact StepS.pure nP rfl fun _ => rfl) ?_
 try simp only [Act.put, sA, sZ, sS]
 refine Ps.done (by kernel_rfl) (fun wg1 hS => ?_) _
 try generalize (cond b1_19 (.pointer (some ⟨w.heap.size, 2, none⟩)) (undef) : Value) = zz29
 try generalize (cond b1_19 (.pointer (some ⟨w.heap.size, 1, none⟩)) (undef) : Value) = zz30
 try generalize (cond b1_13 (.pointer (some ⟨w.heap.size, 2, none⟩)) (undef) : Value) = zz31
 try generalize (cond b1_8 (.pointer (some ⟨w.heap.size, 1, none⟩)) (undef) : Value) = zz32
 try generalize (cond b1_3 (.pointer (some ⟨w.heap.size, 1, none⟩)) (undef) : Value) = zz33
 try generalize (cond b1_8 (.bool (decide (base ≤ 1099511627776))) (undef) : Value) = zz34
 try generalize (cond b1_3 (.bool (decide ((1 : Int) ≤ base))) (undef) : Value) = zz35
 try generalize (cond b1_13 (.bool (decide ((n : Int) ≤ 8))) (undef) : Value) = zz36
 try generalize (.bool (b1_8 && (decide (base ≤ 1099511627776))) : Value) = zz37
 try generalize (.bool (b1_3 && (decide ((1 : Int) ≤ base))) : Value) = zz38
 try generalize (cond b1_19 (.bool (inRowB q base)) (undef) : Value) = zz39
 try generalize (cond b1_13 (.int .i64 ((n : Int))) (undef) : Value) = zz40
 try generalize (.bool (b1_13 && (decide ((n : Int) ≤ 8))) : Value) = zz41
 try generalize (cond b1_19 (.int .u64 (base)) (undef) : Value) = zz42
 try generalize (cond b1_3 (.int .u64 (base)) (undef) : Value) = zz43
 try generalize (cond b1_8 (.int .u64 (base)) (undef) : Value) = zz44
 try generalize (cond b1_19 (.slice A n c) (undef) : Value) = zz45
 try generalize (cond b1_13 (.slice A n c) (undef) : Value) = zz46
 have HW47 := Lib.hid (show Below w1.heap.size w1 wg1 from hS)
 clear hS
 obtain ⟨w148, rfl⟩ : ∃ x, x = wg1 := ⟨_, rfl⟩
 have HSA := Lib.hid (show f1 = sendA ⟨ses, base, q, sent, lim, timer, ended⟩ from by rw [HEf1.out]; unfold sendA; rw [HL.out])
 have HBD := Lib.hid (show f1 = true → 1 ≤ base ∧ base ≤ 1099511627776 ∧ n ≤ 8 from fun h => by rw [HEf1.out] at h; simp at h; omega)
 have HW1 := Lib.hid (fun h : f1 = true => (u64_in (x := base - 1) (by have h9 := HBD.out h; omega) (by have h9 := HBD.out h; omega)))
 clear HEf1
 go_upto_region 2 with fail
 cases f1
 · skip
   refine wp_region_ps (S := fun _ _ w' => Below w1.heap.size w1 w') (by kernel_rfl) ?spswg49 ?ppswg49
   case spswg49 =>
    exact HW47.out.drew
   refine Pz 0 (some 30) (.bool (false)) rfl rfl (by exact StepS.pure nP rfl fun _ => rfl) ?_
   try simp only [Act.put, sA, sZ, sS]
   refine Pz 1 (some 31) (.bool (false)) rfl rfl (by exact StepS.pure nP rfl fun _ => rfl) ?_
   try simp only [Act.put, sA, sZ, sS]
   refine Pz 2 (some 32) undef rfl rfl (by  exact StepS.skip nP rfl) ?_
   try simp only [Act.put, sA, sZ, sS]
   refine Pz 3 (some 33) undef rfl rfl (by  exact StepS.skip nP rfl) ?_
   try simp only [Act.put, sA, sZ, sS]
   refine Pz 4 (some 34) undef rfl rfl (by  exact StepS.skip nP rfl) ?_
   try simp only [Act.put, sA, sZ, sS]
   refine Pz 5 (some 35) undef rfl rfl (by  exact StepS.skip nP rfl) ?_
   try simp only [Act.put, sA, sZ, sS]
   refine Pz 6 (some 36) undef rfl rfl (by  exact StepS.skip nP rfl) ?_
   try simp only [Act.put, sA, sZ, sS]
   refine Pz 7 (some 37) undef rfl rfl (by  exact StepS.skip nP rfl) ?_
   try simp only [Act.put, sA, sZ, sS]
   refine Pz 8 (some 38) undef rfl rfl (by  exact StepS.skip nP rfl) ?_
   try simp only [Act.put, sA, sZ, sS]
   refine Pz 9 (some 39) undef rfl rfl (by  exact StepS.skip nP rfl) ?_
   try simp only [Act.put, sA, sZ, sS]
   refine Pz 10 (some 40) (.bool (false)) rfl rfl (by exact StepS.pure nP rfl fun _ => rfl) ?_
   try simp only [Act.put, sA, sZ, sS]
   refine Pz 11 (some 41) (.bool (false)) rfl rfl (by exact StepS.pure nP rfl fun _ => rfl) ?_
   try simp only [Act.put, sA, sZ, sS]
   refine Pz 12 (some 42) undef rfl rfl (by  exact StepS.skip nP rfl) ?_
   try simp only [Act.put, sA, sZ, sS]
   refine Pz 13 (some 43) undef rfl rfl (by  exact StepS.skip nP rfl) ?_
   try simp only [Act.put, sA, sZ, sS]
   refine Pz 14 (some 44) undef rfl rfl (by  exact StepS.skip nP rfl) ?_
   try simp only [Act.put, sA, sZ, sS]
   refine Pz 15 (some 45) undef rfl rfl (by  exact StepS.skip nP rfl) ?_
   try simp only [Act.put, sA, sZ, sS]
   refine Pz 16 (some 46) undef rfl rfl (by  exact StepS.skip nP rfl) ?_
   try simp only [Act.put, sA, sZ, sS]
   refine Pz 17 (some 47) undef rfl rfl (by  exact StepS.skip nP rfl) ?_
   try simp only [Act.put, sA, sZ, sS]
   refine Pz 18 (some 48) (.bool (false)) rfl rfl (by exact StepS.pure nP rfl fun _ => rfl) ?_
   try simp only [Act.put, sA, sZ, sS]
   refine Pz 19 (some 49) (.bool (false)) rfl rfl (by exact StepS.pure nP rfl fun _ => rfl) ?_
   try simp only [Act.put, sA, sZ, sS]
   refine Pz 20 (some 50) undef rfl rfl (by  exact StepS.skip nP rfl) ?_
   try simp only [Act.put, sA, sZ, sS]
   refine Pz 21 (some 51) undef rfl rfl (by  exact StepS.skip nP rfl) ?_
   try simp only [Act.put, sA, sZ, sS]
   refine Pz 22 (some 52) undef rfl rfl (by  exact StepS.skip nP rfl) ?_
   try simp only [Act.put, sA, sZ, sS]
   refine Pz 23 (some 53) undef rfl rfl (by  exact StepS.skip nP rfl) ?_
   try simp only [Act.put, sA, sZ, sS]
   refine Pz 24 (some 54) undef rfl rfl (by  exact StepS.skip nP rfl) ?_
   try simp only [Act.put, sA, sZ, sS]
   refine Pz 25 (some 55) (.bool (false)) rfl rfl (by exact StepS.pure nP rfl fun _ => rfl) ?_
   try simp only [Act.put, sA, sZ, sS]
   refine Pz 26 (some 56) (.bool (false)) rfl rfl (by exact StepS.pure nP rfl fun _ => rfl) ?_
   try simp only [Act.put, sA, sZ, sS]
   refine Pz 27 (some 57) undef rfl rfl (by  exact StepS.skip nP rfl) ?_
   try simp only [Act.put, sA, sZ, sS]
   refine Pz 28 (some 58) undef rfl rfl (by  exact StepS.skip nP rfl) ?_
   try simp only [Act.put, sA, sZ, sS]
   refine Pz 29 (some 59) undef rfl rfl (by  exact StepS.skip nP rfl) ?_
   try simp only [Act.put, sA, sZ, sS]
   refine Pz 30 (some 60) undef rfl rfl (by  exact StepS.skip nP rfl) ?_
   try simp only [Act.put, sA, sZ, sS]
   refine Pz 31 (some 61) undef rfl rfl (by  exact StepS.skip nP rfl) ?_
   try simp only [Act.put, sA, sZ, sS]
   refine Pz 32 (some 62) (.bool (false)) rfl rfl (by exact StepS.pure nP rfl fun _ => rfl) ?_
   try simp only [Act.put, sA, sZ, sS]
   refine Pz 33 (some 63) (.bool (false)) rfl rfl (by exact StepS.pure nP rfl fun _ => rfl) ?_
   try simp only [Act.put, sA, sZ, sS]
   refine Pz 34 (some 64) undef rfl rfl (by  exact StepS.skip nP rfl) ?_
   try simp only [Act.put, sA, sZ, sS]
   refine Pz 35 (some 65) undef rfl rfl (by  exact StepS.skip nP rfl) ?_
   try simp only [Act.put, sA, sZ, sS]
   refine Pz 36 (some 66) undef rfl rfl (by  exact StepS.skip nP rfl) ?_
   try simp only [Act.put, sA, sZ, sS]
   refine Pz 37 (some 67) (.bool (false)) rfl rfl (by exact StepS.pure nP rfl fun _ => rfl) ?_
   try simp only [Act.put, sA, sZ, sS]
   refine Pz 38 (some 3) (.bool (false)) rfl rfl (by exact StepS.pure nP rfl fun _ => rfl) ?_
   try simp only [Act.put, sA, sZ, sS]
   refine Ps.done (by kernel_rfl) (fun wg49 hS => ?_) _
   have HW89 := Lib.hid (show Below w1.heap.size w1 wg49 from hS)
   clear hS
   obtain ⟨w190, rfl⟩ : ∃ x, x = wg49 := ⟨_, rfl⟩
   go_upto_region 3 with fail
   refine wp_region_ps0 .text (S := fun _ _ w' => Below w1.heap.size w1 w') (by kernel_rfl) ?spswg91 ?ppswg91
   case spswg91 =>
    exact HW89.out
   refine Pz 0 (some 68) (.bool (false)) rfl rfl (by exact StepS.pure nP rfl fun _ => rfl) ?_
   try simp only [Act.put, sA, sZ, sS]
   refine Pz 1 (some 69) (.bool (true)) rfl rfl (by exact StepS.pure nP rfl fun _ => rfl) ?_
   try simp only [Act.put, sA, sZ, sS]
   refine Pz 2 (some 70) (.bool (true)) rfl rfl (by exact StepS.pure nP rfl fun _ => rfl) ?_
   try simp only [Act.put, sA, sZ, sS]
   refine Pz 3 (some 71) undef rfl rfl (by  exact StepS.skip nP rfl) ?_
   try simp only [Act.put, sA, sZ, sS]
   refine Pz 4 (some 72) undef rfl rfl (by  exact StepS.skip nP rfl) ?_
   try simp only [Act.put, sA, sZ, sS]
   refine Pz 5 (some 73) undef rfl rfl (by  exact StepS.skip nP rfl) ?_
   try simp only [Act.put, sA, sZ, sS]
   refine Pz 6 (some 74) (.bool (true)) rfl rfl (by exact StepS.pure nP rfl fun _ => rfl) ?_
   try simp only [Act.put, sA, sZ, sS]
   refine Pz 7 (some 75) (.bool (true)) rfl rfl (by exact StepS.pure nP rfl fun _ => rfl) ?_
   try simp only [Act.put, sA, sZ, sS]
   refine Pz 8 (some 76) undef rfl rfl (by  exact StepS.skip nP rfl) ?_
   try simp only [Act.put, sA, sZ, sS]
   refine Pz 9 (some 77) undef rfl rfl (by  exact StepS.skip nP rfl) ?_
   try simp only [Act.put, sA, sZ, sS]
   refine Pz 10 (some 78) undef rfl rfl (by  exact StepS.skip nP rfl) ?_
   try simp only [Act.put, sA, sZ, sS]
   refine Pz 11 (some 79) (.bool (true)) rfl rfl (by exact StepS.pure nP rfl fun _ => rfl) ?_
   try simp only [Act.put, sA, sZ, sS]
   refine Pz 12 (some 80) (.bool (true)) rfl rfl (by exact StepS.pure nP rfl fun _ => rfl) ?_
   try simp only [Act.put, sA, sZ, sS]
   refine Pz 13 (some 81) undef rfl rfl (by  exact StepS.skip nP rfl) ?_
   try simp only [Act.put, sA, sZ, sS]
   refine Pz 14 (some 82) undef rfl rfl (by  exact StepS.skip nP rfl) ?_
   try simp only [Act.put, sA, sZ, sS]
   refine Pz 15 (some 83) undef rfl rfl (by  exact StepS.skip nP rfl) ?_
   try simp only [Act.put, sA, sZ, sS]
   refine Pz 16 (some 84) undef rfl rfl (by  exact StepS.skip nP rfl) ?_
   try simp only [Act.put, sA, sZ, sS]
   refine Pz 17 (some 85) undef rfl rfl (by  exact StepS.skip nP rfl) ?_
   try simp only [Act.put, sA, sZ, sS]
   refine Pz 18 (some 86) undef rfl rfl (by  exact StepS.skip nP rfl) ?_
   try simp only [Act.put, sA, sZ, sS]
   refine Pz 19 (some 87) undef rfl rfl (by  exact StepS.skip nP rfl) ?_
   try simp only [Act.put, sA, sZ, sS]
   refine Pz 20 (some 88) undef rfl rfl (by  exact StepS.skip nP rfl) ?_
   try simp only [Act.put, sA, sZ, sS]
   refine Pz 21 (some 89) undef rfl rfl (by  exact StepS.skip nP rfl) ?_
   try simp only [Act.put, sA, sZ, sS]
   refine Pz 22 (some 90) undef rfl rfl (by  exact StepS.skip nP rfl) ?_
   try simp only [Act.put, sA, sZ, sS]
   refine Pz 23 (some 91) (.bool (true)) rfl rfl (by exact StepS.pure nP rfl fun _ => rfl) ?_
   try simp only [Act.put, sA, sZ, sS]
   refine Ps.done (by kernel_rfl) (fun wg91 hS => ?_) _
   have HW116 := Lib.hid (show Below w1.heap.size w1 wg91 from hS)
   clear hS
   obtain ⟨w217, rfl⟩ : ∃ x, x = wg91 := ⟨_, rfl⟩
   go_wp2
   go_ret
   exact ⟨ret_int (by rw [HRR.out]; unfold sendB; rw [← HSA.out]; rfl), bl_ca HBB.out HW116.out⟩
 · skip
   refine wp_region_ps (S := fun _ _ w' => Below w1.heap.size w1 w') (by kernel_rfl) ?spswg118 ?ppswg118
   case spswg118 =>
    exact HW47.out.drew
   refine Pz 0 (some 30) (.bool (true)) rfl rfl (by exact StepS.pure nP rfl fun _ => rfl) ?_
   try simp only [Act.put, sA, sZ, sS]
   refine Pz 1 (some 31) (.bool (true)) rfl rfl (by exact StepS.pure nP rfl fun _ => rfl) ?_
   try simp only [Act.put, sA, sZ, sS]
   refine Pz 2 (some 32) (.pointer (some ⟨w.heap.size, 6, none⟩)) rfl rfl (by exact StepS.pure nP rfl fun _ => rfl) ?_
   try simp only [Act.put, sA, sZ, sS]
   refine Pz 3 (some 33) (.bool (ended)) rfl rfl ?ywg118_122 ?rwg118_122
   case ywg118_122 =>
    refine StepS.read [] (by kernel_rfl) nP (by rfl) (fun L9 m9 w9 hSh hAt hDn hS => ?_)
    have hT : Below _ _ w9 := hS
    have x0 : w9.cell? ⟨w.heap.size, 6, none⟩ = some (.bool (ended)) := (HB.out.ca hT).cell 6
    clear hT hS
    go_simp
    try rfl
   try simp only [Act.put, sA, sZ, sS]
   obtain ⟨b2_4, hb9⟩ : ∃ b : Bool, b = (ended) := ⟨_, rfl⟩
   have HEb2_4 := Lib.hid hb9
   clear hb9
   refine Pz 4 (some 34) (.bool (b2_4)) rfl rfl ?ywg118_123 ?rwg118_123
   case ywg118_123 =>
    refine StepS.pure nP (by rfl) (fun w9 => ?_)
    have e9 : (ended) = b2_4 := by rw [HEb2_4.out]
    rw [← e9]
    clear e9
    first | rfl | (go_simp; done) | (go_simp; rfl)
   try simp only [Act.put, sA, sZ, sS]
   refine Pz 5 (some 35) (cond b2_4 (undef) (.pointer (some ⟨w.heap.size, 2, none⟩))) rfl rfl (by cases b2_4; (exact StepS.pure nP rfl fun _ => rfl); exact StepS.skip nP rfl) ?_
   try simp only [Act.put, sA, sZ, sS]
   refine Pz 6 (some 36) (cond b2_4 (undef) (.slice A n c)) rfl rfl ?ywg118_125 ?rwg118_125
   case ywg118_125 =>
    cases b2_4
    · skip
      refine StepS.read [] (by kernel_rfl) nP (by rfl) (fun L9 m9 w9 hSh hAt hDn hS => ?_)
      have hT : Below _ _ w9 := hS
      have x0 : w9.cell? ⟨w.heap.size, 2, none⟩ = some (.slice A n c) := (HB.out.ca hT).cell 2
      clear hT hS
      go_simp
      try rfl
    · exact StepS.skip nP (by rfl)
   try simp only [Act.put, sA, sZ, sS]
   refine Pz 7 (some 37) (cond b2_4 (undef) (.bool (endsB q))) rfl rfl ?ywg118_126 ?rwg118_126
   case ywg118_126 =>
    cases b2_4
    · skip
      refine StepS.call ?fwg118_126 ?awg118_126 [] (by kernel_rfl) (by rfl) (fun w9 => ?hwg118_126) (fun L9 m9 w9 hSh hAt hDn hS => ?cwg118_126)
      case hwg118_126 => go_simp; refine ⟨?_, ?_⟩ <;> rfl
      case cwg118_126 =>
       have hT : Below _ _ w9 := hS
       refine (ends_any F A n c q w9 (Lay.rd_below HRD.out hT) hn).mono ?_
       rintro e w8 ⟨rfl, rfl⟩
       exact ⟨rfl, hT⟩
    · exact StepS.skip nP (by rfl)
   try simp only [Act.put, sA, sZ, sS]
   refine Pz 8 (some 38) (cond b2_4 (undef) (.bool (!(endsB q)))) rfl rfl (by cases b2_4; (exact StepS.pure nP rfl fun _ => rfl); exact StepS.skip nP rfl) ?_
   try simp only [Act.put, sA, sZ, sS]
   refine Pz 9 (some 39) (.bool (b2_4 || (!(endsB q)))) rfl rfl ?ywg118_128 ?rwg118_128
   case ywg118_128 =>
    refine StepS.pure nP (by rfl) (fun w9 => ?_)
    cases b2_4 <;> (first | rfl | (go_simp; done) | (go_simp; rfl))
   try simp only [Act.put, sA, sZ, sS]
   refine Pz 10 (some 40) (.bool (b2_4 || (!(endsB q)))) rfl rfl (by exact StepS.pure nP rfl fun _ => rfl) ?_
   try simp only [Act.put, sA, sZ, sS]
   obtain ⟨b2_11, hb9⟩ : ∃ b : Bool, b = ((ended) || (!(endsB q))) := ⟨_, rfl⟩
   have HEb2_11 := Lib.hid hb9
   clear hb9
   refine Pz 11 (some 41) (.bool (b2_11)) rfl rfl ?ywg118_130 ?rwg118_130
   case ywg118_130 =>
    refine StepS.pure nP (by rfl) (fun w9 => ?_)
    have e9 : (b2_4 || (!(endsB q))) = b2_11 := by rw [HEb2_11.out, HEb2_4.out]
    rw [← e9]
    clear e9
    first | rfl | (go_simp; done) | (go_simp; rfl)
   try simp only [Act.put, sA, sZ, sS]
   refine Pz 12 (some 42) (cond b2_11 (.pointer (some ⟨w.heap.size, 3, none⟩)) (undef)) rfl rfl (by cases b2_11; exact StepS.skip nP rfl; exact StepS.pure nP rfl fun _ => rfl) ?_
   try simp only [Act.put, sA, sZ, sS]
   refine Pz 13 (some 43) (cond b2_11 (.int .u64 (sent)) (undef)) rfl rfl ?ywg118_132 ?rwg118_132
   case ywg118_132 =>
    cases b2_11
    · exact StepS.skip nP (by rfl)
    · skip
      refine StepS.read [] (by kernel_rfl) nP (by rfl) (fun L9 m9 w9 hSh hAt hDn hS => ?_)
      have hT : Below _ _ w9 := hS
      have x0 : w9.cell? ⟨w.heap.size, 3, none⟩ = some (.int .u64 (sent)) := (HB.out.ca hT).cell 3
      clear hT hS
      go_simp
      try rfl
   try simp only [Act.put, sA, sZ, sS]
   refine Pz 14 (some 44) (cond b2_11 (.pointer (some ⟨w.heap.size, 1, none⟩)) (undef)) rfl rfl (by cases b2_11; exact StepS.skip nP rfl; exact StepS.pure nP rfl fun _ => rfl) ?_
   try simp only [Act.put, sA, sZ, sS]
   refine Pz 15 (some 45) (cond b2_11 (.int .u64 (base)) (undef)) rfl rfl ?ywg118_134 ?rwg118_134
   case ywg118_134 =>
    cases b2_11
    · exact StepS.skip nP (by rfl)
    · skip
      refine StepS.read [] (by kernel_rfl) nP (by rfl) (fun L9 m9 w9 hSh hAt hDn hS => ?_)
      have hT : Below _ _ w9 := hS
      have x0 : w9.cell? ⟨w.heap.size, 1, none⟩ = some (.int .u64 (base)) := (HB.out.ca hT).cell 1
      clear hT hS
      go_simp
      try rfl
   try simp only [Act.put, sA, sZ, sS]
   refine Pz 16 (some 46) (cond b2_11 (.int .u64 (base - 1)) (undef)) rfl rfl ?ywg118_135 ?rwg118_135
   case ywg118_135 =>
    cases b2_11
    · exact StepS.skip nP (by rfl)
    · skip
      refine StepS.pure nP (by rfl) (fun w9 => ?_)
      rw [← HW1.out rfl]
      first | rfl | (go_simp; done) | (go_simp; rfl)
   try simp only [Act.put, sA, sZ, sS]
   refine Pz 17 (some 47) (cond b2_11 (.bool (decide ((base - 1) ≤ sent))) (undef)) rfl rfl (by cases b2_11; exact StepS.skip nP rfl; exact StepS.pure nP rfl fun _ => rfl) ?_
   try simp only [Act.put, sA, sZ, sS]
   refine Pz 18 (some 48) (.bool (b2_11 && (decide ((base - 1) ≤ sent)))) rfl rfl ?ywg118_137 ?rwg118_137
   case ywg118_137 =>
    refine StepS.pure nP (by rfl) (fun w9 => ?_)
    cases b2_11 <;> (first | rfl | (go_simp; done) | (go_simp; rfl))
   try simp only [Act.put, sA, sZ, sS]
   obtain ⟨b2_19, hb9⟩ : ∃ b : Bool, b = (((ended) || (!(endsB q))) && (decide ((base - 1) ≤ sent))) := ⟨_, rfl⟩
   have HEb2_19 := Lib.hid hb9
   clear hb9
   refine Pz 19 (some 49) (.bool (b2_19)) rfl rfl ?ywg118_138 ?rwg118_138
   case ywg118_138 =>
    refine StepS.pure nP (by rfl) (fun w9 => ?_)
    have e9 : (b2_11 && (decide ((base - 1) ≤ sent))) = b2_19 := by rw [HEb2_19.out, HEb2_11.out]
    rw [← e9]
    clear e9
    first | rfl | (go_simp; done) | (go_simp; rfl)
   try simp only [Act.put, sA, sZ, sS]
   refine Pz 20 (some 50) (cond b2_19 (.pointer (some ⟨w.heap.size, 3, none⟩)) (undef)) rfl rfl (by cases b2_19; exact StepS.skip nP rfl; exact StepS.pure nP rfl fun _ => rfl) ?_
   try simp only [Act.put, sA, sZ, sS]
   refine Pz 21 (some 51) (cond b2_19 (.int .u64 (sent)) (undef)) rfl rfl ?ywg118_140 ?rwg118_140
   case ywg118_140 =>
    cases b2_19
    · exact StepS.skip nP (by rfl)
    · skip
      refine StepS.read [] (by kernel_rfl) nP (by rfl) (fun L9 m9 w9 hSh hAt hDn hS => ?_)
      have hT : Below _ _ w9 := hS
      have x0 : w9.cell? ⟨w.heap.size, 3, none⟩ = some (.int .u64 (sent)) := (HB.out.ca hT).cell 3
      clear hT hS
      go_simp
      try rfl
   try simp only [Act.put, sA, sZ, sS]
   refine Pz 22 (some 52) (cond b2_19 (.agg #[.int .u32 (ses), .int .u64 (base), .slice A n c, .int .u64 (sent), .int .u64 (lim), .int .i64 (timer), .bool (ended)]) (undef)) rfl rfl ?ywg118_141 ?rwg118_141
   case ywg118_141 =>
    cases b2_19
    · exact StepS.skip nP (by rfl)
    · skip
      refine StepS.read [] (by kernel_rfl) nP (by rfl) (fun L9 m9 w9 hSh hAt hDn hS => ?_)
      have hT : Below _ _ w9 := hS
      have x0 : w9.cell? ⟨w.heap.size, 0, none⟩ = some (.int .u32 (ses)) := (HB.out.ca hT).cell 0
      have x1 : w9.cell? ⟨w.heap.size, 1, none⟩ = some (.int .u64 (base)) := (HB.out.ca hT).cell 1
      have x2 : w9.cell? ⟨w.heap.size, 2, none⟩ = some (.slice A n c) := (HB.out.ca hT).cell 2
      have x3 : w9.cell? ⟨w.heap.size, 3, none⟩ = some (.int .u64 (sent)) := (HB.out.ca hT).cell 3
      have x4 : w9.cell? ⟨w.heap.size, 4, none⟩ = some (.int .u64 (lim)) := (HB.out.ca hT).cell 4
      have x5 : w9.cell? ⟨w.heap.size, 5, none⟩ = some (.int .i64 (timer)) := (HB.out.ca hT).cell 5
      have x6 : w9.cell? ⟨w.heap.size, 6, none⟩ = some (.bool (ended)) := (HB.out.ca hT).cell 6
      clear hT hS
      go_simp
      try rfl
   try simp only [Act.put, sA, sZ, sS]
   refine Pz 23 (some 53) (cond b2_19 (.int .u64 (base - 1 + (n : Int))) (undef)) rfl rfl ?ywg118_142 ?rwg118_142
   case ywg118_142 =>
    cases b2_19
    · exact StepS.skip nP (by rfl)
    · skip
      refine StepS.call ?fwg118_142 ?awg118_142 [] (by kernel_rfl) (by rfl) (fun w9 => ?hwg118_142) (fun L9 m9 w9 hSh hAt hDn hS => ?cwg118_142)
      case hwg118_142 => go_simp; refine ⟨?_, ?_⟩ <;> rfl
      case cwg118_142 =>
       have hT : Below _ _ w9 := hS
       have h9 := HBD.out rfl
       refine (last_any ⟨ses, base, q, sent, lim, timer, ended⟩ A n c w9 (by dsimp only; omega) (by dsimp only; omega) (by omega)).mono ?_
       rintro e w8 ⟨rfl, q8⟩
       exact ⟨rfl, bl_ca hT q8⟩
   try simp only [Act.put, sA, sZ, sS]
   refine Pz 24 (some 54) (cond b2_19 (.bool (decide (sent ≤ (base - 1 + (n : Int))))) (undef)) rfl rfl (by cases b2_19; exact StepS.skip nP rfl; exact StepS.pure nP rfl fun _ => rfl) ?_
   try simp only [Act.put, sA, sZ, sS]
   refine Pz 25 (some 55) (.bool (b2_19 && (decide (sent ≤ (base - 1 + (n : Int)))))) rfl rfl ?ywg118_144 ?rwg118_144
   case ywg118_144 =>
    refine StepS.pure nP (by rfl) (fun w9 => ?_)
    cases b2_19 <;> (first | rfl | (go_simp; done) | (go_simp; rfl))
   try simp only [Act.put, sA, sZ, sS]
   obtain ⟨b2_26, hb9⟩ : ∃ b : Bool, b = ((((ended) || (!(endsB q))) && (decide ((base - 1) ≤ sent))) && (decide (sent ≤ (base - 1 + (n : Int))))) := ⟨_, rfl⟩
   have HEb2_26 := Lib.hid hb9
   clear hb9
   refine Pz 26 (some 56) (.bool (b2_26)) rfl rfl ?ywg118_145 ?rwg118_145
   case ywg118_145 =>
    refine StepS.pure nP (by rfl) (fun w9 => ?_)
    have e9 : (b2_19 && (decide (sent ≤ (base - 1 + (n : Int))))) = b2_26 := by rw [HEb2_26.out, HEb2_19.out]
    rw [← e9]
    clear e9
    first | rfl | (go_simp; done) | (go_simp; rfl)
   try simp only [Act.put, sA, sZ, sS]
   refine Pz 27 (some 57) (cond b2_26 (.pointer (some ⟨w.heap.size, 4, none⟩)) (undef)) rfl rfl (by cases b2_26; exact StepS.skip nP rfl; exact StepS.pure nP rfl fun _ => rfl) ?_
   try simp only [Act.put, sA, sZ, sS]
   refine Pz 28 (some 58) (cond b2_26 (.int .u64 (lim)) (undef)) rfl rfl ?ywg118_147 ?rwg118_147
   case ywg118_147 =>
    cases b2_26
    · exact StepS.skip nP (by rfl)
    · skip
      refine StepS.read [] (by kernel_rfl) nP (by rfl) (fun L9 m9 w9 hSh hAt hDn hS => ?_)
      have hT : Below _ _ w9 := hS
      have x0 : w9.cell? ⟨w.heap.size, 4, none⟩ = some (.int .u64 (lim)) := (HB.out.ca hT).cell 4
      clear hT hS
      go_simp
      try rfl
   try simp only [Act.put, sA, sZ, sS]
   refine Pz 29 (some 59) (cond b2_26 (.pointer (some ⟨w.heap.size, 3, none⟩)) (undef)) rfl rfl (by cases b2_26; exact StepS.skip nP rfl; exact StepS.pure nP rfl fun _ => rfl) ?_
   try simp only [Act.put, sA, sZ, sS]
   refine Pz 30 (some 60) (cond b2_26 (.int .u64 (sent)) (undef)) rfl rfl ?ywg118_149 ?rwg118_149
   case ywg118_149 =>
    cases b2_26
    · exact StepS.skip nP (by rfl)
    · skip
      refine StepS.read [] (by kernel_rfl) nP (by rfl) (fun L9 m9 w9 hSh hAt hDn hS => ?_)
      have hT : Below _ _ w9 := hS
      have x0 : w9.cell? ⟨w.heap.size, 3, none⟩ = some (.int .u64 (sent)) := (HB.out.ca hT).cell 3
      clear hT hS
      go_simp
      try rfl
   try simp only [Act.put, sA, sZ, sS]
   refine Pz 31 (some 61) (cond b2_26 (.bool (decide (sent ≤ lim))) (undef)) rfl rfl (by cases b2_26; exact StepS.skip nP rfl; exact StepS.pure nP rfl fun _ => rfl) ?_
   try simp only [Act.put, sA, sZ, sS]
   refine Pz 32 (some 62) (.bool (b2_26 && (decide (sent ≤ lim)))) rfl rfl ?ywg118_151 ?rwg118_151
   case ywg118_151 =>
    refine StepS.pure nP (by rfl) (fun w9 => ?_)
    cases b2_26 <;> (first | rfl | (go_simp; done) | (go_simp; rfl))
   try simp only [Act.put, sA, sZ, sS]
   obtain ⟨b2_33, hb9⟩ : ∃ b : Bool, b = (((((ended) || (!(endsB q))) && (decide ((base - 1) ≤ sent))) && (decide (sent ≤ (base - 1 + (n : Int))))) && (decide (sent ≤ lim))) := ⟨_, rfl⟩
   have HEb2_33 := Lib.hid hb9
   clear hb9
   refine Pz 33 (some 63) (.bool (b2_33)) rfl rfl ?ywg118_152 ?rwg118_152
   case ywg118_152 =>
    refine StepS.pure nP (by rfl) (fun w9 => ?_)
    have e9 : (b2_26 && (decide (sent ≤ lim))) = b2_33 := by rw [HEb2_33.out, HEb2_26.out]
    rw [← e9]
    clear e9
    first | rfl | (go_simp; done) | (go_simp; rfl)
   try simp only [Act.put, sA, sZ, sS]
   refine Pz 34 (some 64) (cond b2_33 (.pointer (some ⟨w.heap.size, 4, none⟩)) (undef)) rfl rfl (by cases b2_33; exact StepS.skip nP rfl; exact StepS.pure nP rfl fun _ => rfl) ?_
   try simp only [Act.put, sA, sZ, sS]
   refine Pz 35 (some 65) (cond b2_33 (.int .u64 (lim)) (undef)) rfl rfl ?ywg118_154 ?rwg118_154
   case ywg118_154 =>
    cases b2_33
    · exact StepS.skip nP (by rfl)
    · skip
      refine StepS.read [] (by kernel_rfl) nP (by rfl) (fun L9 m9 w9 hSh hAt hDn hS => ?_)
      have hT : Below _ _ w9 := hS
      have x0 : w9.cell? ⟨w.heap.size, 4, none⟩ = some (.int .u64 (lim)) := (HB.out.ca hT).cell 4
      clear hT hS
      go_simp
      try rfl
   try simp only [Act.put, sA, sZ, sS]
   refine Pz 36 (some 66) (cond b2_33 (.bool (decide (lim ≤ 1099511627776))) (undef)) rfl rfl (by cases b2_33; exact StepS.skip nP rfl; exact StepS.pure nP rfl fun _ => rfl) ?_
   try simp only [Act.put, sA, sZ, sS]
   obtain ⟨f2, hb9⟩ : ∃ b : Bool, b = ((((((ended) || (!(endsB q))) && (decide ((base - 1) ≤ sent))) && (decide (sent ≤ (base - 1 + (n : Int))))) && (decide (sent ≤ lim))) && (decide (lim ≤ 1099511627776))) := ⟨_, rfl⟩
   have HEf2 := Lib.hid hb9
   clear hb9
   refine Pz 37 (some 67) (.bool (f2)) rfl rfl ?ywg118_156 ?rwg118_156
   case ywg118_156 =>
    refine StepS.pure nP (by rfl) (fun w9 => ?_)
    have e9 : (b2_33 && (decide (lim ≤ 1099511627776))) = f2 := by rw [HEf2.out, HEb2_33.out]
    rw [← e9]
    clear e9
    cases b2_33 <;> (first | rfl | (go_simp; done) | (go_simp; rfl))
   try simp only [Act.put, sA, sZ, sS]
   refine Pz 38 (some 3) (.bool (f2)) rfl rfl (by exact StepS.pure nP rfl fun _ => rfl) ?_
   try simp only [Act.put, sA, sZ, sS]
   refine Ps.done (by kernel_rfl) (fun wg118 hS => ?_) _
   try generalize (cond b2_19 (.agg #[.int .u32 (ses), .int .u64 (base), .slice A n c, .int .u64 (sent), .int .u64 (lim), .int .i64 (timer), .bool (ended)]) (undef) : Value) = zz158
   try generalize (cond b2_19 (.bool (decide (sent ≤ (base - 1 + (n : Int))))) (undef) : Value) = zz159
   try generalize (cond b2_11 (.pointer (some ⟨w.heap.size, 3, none⟩)) (undef) : Value) = zz160
   try generalize (cond b2_33 (.pointer (some ⟨w.heap.size, 4, none⟩)) (undef) : Value) = zz161
   try generalize (cond b2_26 (.pointer (some ⟨w.heap.size, 4, none⟩)) (undef) : Value) = zz162
   try generalize (cond b2_26 (.pointer (some ⟨w.heap.size, 3, none⟩)) (undef) : Value) = zz163
   try generalize (cond b2_19 (.pointer (some ⟨w.heap.size, 3, none⟩)) (undef) : Value) = zz164
   try generalize (cond b2_11 (.pointer (some ⟨w.heap.size, 1, none⟩)) (undef) : Value) = zz165
   try generalize (cond b2_4 (undef) (.pointer (some ⟨w.heap.size, 2, none⟩)) : Value) = zz166
   try generalize (cond b2_33 (.bool (decide (lim ≤ 1099511627776))) (undef) : Value) = zz167
   try generalize (.bool (b2_19 && (decide (sent ≤ (base - 1 + (n : Int))))) : Value) = zz168
   try generalize (cond b2_11 (.bool (decide ((base - 1) ≤ sent))) (undef) : Value) = zz169
   try generalize (cond b2_19 (.int .u64 (base - 1 + (n : Int))) (undef) : Value) = zz170
   try generalize (cond b2_26 (.bool (decide (sent ≤ lim))) (undef) : Value) = zz171
   try generalize (.bool (b2_11 && (decide ((base - 1) ≤ sent))) : Value) = zz172
   try generalize (cond b2_11 (.int .u64 (base - 1)) (undef) : Value) = zz173
   try generalize (cond b2_4 (undef) (.bool (!(endsB q))) : Value) = zz174
   try generalize (.bool (b2_26 && (decide (sent ≤ lim))) : Value) = zz175
   try generalize (cond b2_26 (.int .u64 (sent)) (undef) : Value) = zz176
   try generalize (cond b2_11 (.int .u64 (sent)) (undef) : Value) = zz177
   try generalize (cond b2_19 (.int .u64 (sent)) (undef) : Value) = zz178
   try generalize (cond b2_11 (.int .u64 (base)) (undef) : Value) = zz179
   try generalize (cond b2_33 (.int .u64 (lim)) (undef) : Value) = zz180
   try generalize (cond b2_26 (.int .u64 (lim)) (undef) : Value) = zz181
   try generalize (cond b2_4 (undef) (.bool (endsB q)) : Value) = zz182
   try generalize (cond b2_4 (undef) (.slice A n c) : Value) = zz183
   try generalize (.bool (b2_4 || (!(endsB q))) : Value) = zz184
   have HW185 := Lib.hid (show Below w1.heap.size w1 wg118 from hS)
   clear hS
   obtain ⟨w286, rfl⟩ : ∃ x, x = wg118 := ⟨_, rfl⟩
   have HSM := Lib.hid (show f2 = sendM ⟨ses, base, q, sent, lim, timer, ended⟩ from by rw [HEf2.out]; unfold sendM; rw [HL.out])
   go_upto_region 3 with fail
   clear HEf2
   refine wp_region_ps0 .text (S := fun _ _ w' => Below w1.heap.size w1 w') (by kernel_rfl) ?spswg187 ?ppswg187
   case spswg187 =>
    exact HW185.out
   refine Pz 0 (some 68) (.bool (f2)) rfl rfl (by exact StepS.pure nP rfl fun _ => rfl) ?_
   try simp only [Act.put, sA, sZ, sS]
   refine Pz 1 (some 69) (.bool (!f2)) rfl rfl (by exact StepS.pure nP rfl fun _ => rfl) ?_
   try simp only [Act.put, sA, sZ, sS]
   obtain ⟨b3_2, hb9⟩ : ∃ b : Bool, b = (!f2) := ⟨_, rfl⟩
   have HEb3_2 := Lib.hid hb9
   clear hb9
   refine Pz 2 (some 70) (.bool (b3_2)) rfl rfl ?ywg187_190 ?rwg187_190
   case ywg187_190 =>
    refine StepS.pure nP (by rfl) (fun w9 => ?_)
    have e9 : (!f2) = b3_2 := by rw [HEb3_2.out]
    rw [← e9]
    clear e9
    first | rfl | (go_simp; done) | (go_simp; rfl)
   try simp only [Act.put, sA, sZ, sS]
   refine Pz 3 (some 71) (cond b3_2 (undef) (.pointer (some ⟨w.heap.size, 5, none⟩))) rfl rfl (by cases b3_2; (exact StepS.pure nP rfl fun _ => rfl); exact StepS.skip nP rfl) ?_
   try simp only [Act.put, sA, sZ, sS]
   refine Pz 4 (some 72) (cond b3_2 (undef) (.int .i64 (timer))) rfl rfl ?ywg187_192 ?rwg187_192
   case ywg187_192 =>
    cases b3_2
    · skip
      refine StepS.read [] (by kernel_rfl) nP (by rfl) (fun L9 m9 w9 hSh hAt hDn hS => ?_)
      have hT : Below _ _ w9 := hS
      have x0 : w9.cell? ⟨w.heap.size, 5, none⟩ = some (.int .i64 (timer)) := (HB.out.ca hT).cell 5
      clear hT hS
      go_simp
      try rfl
    · exact StepS.skip nP (by rfl)
   try simp only [Act.put, sA, sZ, sS]
   refine Pz 5 (some 73) (cond b3_2 (undef) (.bool (decide (timer < 0)))) rfl rfl (by cases b3_2; (exact StepS.pure nP rfl fun _ => rfl); exact StepS.skip nP rfl) ?_
   try simp only [Act.put, sA, sZ, sS]
   refine Pz 6 (some 74) (.bool (b3_2 || (decide (timer < 0)))) rfl rfl ?ywg187_194 ?rwg187_194
   case ywg187_194 =>
    refine StepS.pure nP (by rfl) (fun w9 => ?_)
    cases b3_2 <;> (first | rfl | (go_simp; done) | (go_simp; rfl))
   try simp only [Act.put, sA, sZ, sS]
   obtain ⟨b3_7, hb9⟩ : ∃ b : Bool, b = ((!f2) || (decide (timer < 0))) := ⟨_, rfl⟩
   have HEb3_7 := Lib.hid hb9
   clear hb9
   refine Pz 7 (some 75) (.bool (b3_7)) rfl rfl ?ywg187_195 ?rwg187_195
   case ywg187_195 =>
    refine StepS.pure nP (by rfl) (fun w9 => ?_)
    have e9 : (b3_2 || (decide (timer < 0))) = b3_7 := by rw [HEb3_7.out, HEb3_2.out]
    rw [← e9]
    clear e9
    first | rfl | (go_simp; done) | (go_simp; rfl)
   try simp only [Act.put, sA, sZ, sS]
   refine Pz 8 (some 76) (cond b3_7 (undef) (.pointer (some ⟨w.heap.size, 5, none⟩))) rfl rfl (by cases b3_7; (exact StepS.pure nP rfl fun _ => rfl); exact StepS.skip nP rfl) ?_
   try simp only [Act.put, sA, sZ, sS]
   refine Pz 9 (some 77) (cond b3_7 (undef) (.int .i64 (timer))) rfl rfl ?ywg187_197 ?rwg187_197
   case ywg187_197 =>
    cases b3_7
    · skip
      refine StepS.read [] (by kernel_rfl) nP (by rfl) (fun L9 m9 w9 hSh hAt hDn hS => ?_)
      have hT : Below _ _ w9 := hS
      have x0 : w9.cell? ⟨w.heap.size, 5, none⟩ = some (.int .i64 (timer)) := (HB.out.ca hT).cell 5
      clear hT hS
      go_simp
      try rfl
    · exact StepS.skip nP (by rfl)
   try simp only [Act.put, sA, sZ, sS]
   refine Pz 10 (some 78) (cond b3_7 (undef) (.bool (decide ((3 : Int) ≤ timer)))) rfl rfl (by cases b3_7; (exact StepS.pure nP rfl fun _ => rfl); exact StepS.skip nP rfl) ?_
   try simp only [Act.put, sA, sZ, sS]
   refine Pz 11 (some 79) (.bool (b3_7 || (decide ((3 : Int) ≤ timer)))) rfl rfl ?ywg187_199 ?rwg187_199
   case ywg187_199 =>
    refine StepS.pure nP (by rfl) (fun w9 => ?_)
    cases b3_7 <;> (first | rfl | (go_simp; done) | (go_simp; rfl))
   try simp only [Act.put, sA, sZ, sS]
   obtain ⟨b3_12, hb9⟩ : ∃ b : Bool, b = (((!f2) || (decide (timer < 0))) || (decide ((3 : Int) ≤ timer))) := ⟨_, rfl⟩
   have HEb3_12 := Lib.hid hb9
   clear hb9
   refine Pz 12 (some 80) (.bool (b3_12)) rfl rfl ?ywg187_200 ?rwg187_200
   case ywg187_200 =>
    refine StepS.pure nP (by rfl) (fun w9 => ?_)
    have e9 : (b3_7 || (decide ((3 : Int) ≤ timer))) = b3_12 := by rw [HEb3_12.out, HEb3_7.out]
    rw [← e9]
    clear e9
    first | rfl | (go_simp; done) | (go_simp; rfl)
   try simp only [Act.put, sA, sZ, sS]
   refine Pz 13 (some 81) (cond b3_12 (undef) (.pointer (some ⟨w.heap.size, 5, none⟩))) rfl rfl (by cases b3_12; (exact StepS.pure nP rfl fun _ => rfl); exact StepS.skip nP rfl) ?_
   try simp only [Act.put, sA, sZ, sS]
   refine Pz 14 (some 82) (cond b3_12 (undef) (.int .i64 (timer))) rfl rfl ?ywg187_202 ?rwg187_202
   case ywg187_202 =>
    cases b3_12
    · skip
      refine StepS.read [] (by kernel_rfl) nP (by rfl) (fun L9 m9 w9 hSh hAt hDn hS => ?_)
      have hT : Below _ _ w9 := hS
      have x0 : w9.cell? ⟨w.heap.size, 5, none⟩ = some (.int .i64 (timer)) := (HB.out.ca hT).cell 5
      clear hT hS
      go_simp
      try rfl
    · exact StepS.skip nP (by rfl)
   try simp only [Act.put, sA, sZ, sS]
   refine Pz 15 (some 83) (cond b3_12 (undef) (.bool (decide ((0 : Int) < timer)))) rfl rfl (by cases b3_12; (exact StepS.pure nP rfl fun _ => rfl); exact StepS.skip nP rfl) ?_
   try simp only [Act.put, sA, sZ, sS]
   obtain ⟨b3_16, hb9⟩ : ∃ b : Bool, b = (decide ((0 : Int) < timer)) := ⟨_, rfl⟩
   have HEb3_16 := Lib.hid hb9
   clear hb9
   refine Pz 16 (some 84) (cond b3_12 (undef) (.bool (b3_16))) rfl rfl ?ywg187_204 ?rwg187_204
   case ywg187_204 =>
    cases b3_12
    · skip
      refine StepS.pure nP (by rfl) (fun w9 => ?_)
      have e9 : (decide ((0 : Int) < timer)) = b3_16 := by rw [HEb3_16.out]
      rw [← e9]
      clear e9
      first | rfl | (go_simp; done) | (go_simp; rfl)
    · exact StepS.skip nP (by rfl)
   try simp only [Act.put, sA, sZ, sS]
   refine Pz 17 (some 85) (cond b3_12 (undef) (cond b3_16 (.pointer (some ⟨w.heap.size, 3, none⟩)) (undef))) rfl rfl (by cases b3_12; (cases b3_16; exact StepS.skip nP rfl; exact StepS.pure nP rfl fun _ => rfl); exact StepS.skip nP rfl) ?_
   try simp only [Act.put, sA, sZ, sS]
   refine Pz 18 (some 86) (cond b3_12 (undef) (cond b3_16 (.int .u64 (sent)) (undef))) rfl rfl ?ywg187_206 ?rwg187_206
   case ywg187_206 =>
    cases b3_12
    · skip
      cases b3_16
      · exact StepS.skip nP (by rfl)
      · skip
        refine StepS.read [] (by kernel_rfl) nP (by rfl) (fun L9 m9 w9 hSh hAt hDn hS => ?_)
        have hT : Below _ _ w9 := hS
        have x0 : w9.cell? ⟨w.heap.size, 3, none⟩ = some (.int .u64 (sent)) := (HB.out.ca hT).cell 3
        clear hT hS
        go_simp
        try rfl
    · exact StepS.skip nP (by rfl)
   try simp only [Act.put, sA, sZ, sS]
   refine Pz 19 (some 87) (cond b3_12 (undef) (cond b3_16 (.pointer (some ⟨w.heap.size, 1, none⟩)) (undef))) rfl rfl (by cases b3_12; (cases b3_16; exact StepS.skip nP rfl; exact StepS.pure nP rfl fun _ => rfl); exact StepS.skip nP rfl) ?_
   try simp only [Act.put, sA, sZ, sS]
   refine Pz 20 (some 88) (cond b3_12 (undef) (cond b3_16 (.int .u64 (base)) (undef))) rfl rfl ?ywg187_208 ?rwg187_208
   case ywg187_208 =>
    cases b3_12
    · skip
      cases b3_16
      · exact StepS.skip nP (by rfl)
      · skip
        refine StepS.read [] (by kernel_rfl) nP (by rfl) (fun L9 m9 w9 hSh hAt hDn hS => ?_)
        have hT : Below _ _ w9 := hS
        have x0 : w9.cell? ⟨w.heap.size, 1, none⟩ = some (.int .u64 (base)) := (HB.out.ca hT).cell 1
        clear hT hS
        go_simp
        try rfl
    · exact StepS.skip nP (by rfl)
   try simp only [Act.put, sA, sZ, sS]
   refine Pz 21 (some 89) (cond b3_12 (undef) (cond b3_16 (.bool (decide (sent < base))) (undef))) rfl rfl (by cases b3_12; (cases b3_16; exact StepS.skip nP rfl; exact StepS.pure nP rfl fun _ => rfl); exact StepS.skip nP rfl) ?_
   try simp only [Act.put, sA, sZ, sS]
   refine Pz 22 (some 90) (cond b3_12 (undef) (.bool (b3_16 && (decide (sent < base))))) rfl rfl ?ywg187_210 ?rwg187_210
   case ywg187_210 =>
    cases b3_12
    · skip
      refine StepS.pure nP (by rfl) (fun w9 => ?_)
      cases b3_16 <;> (first | rfl | (go_simp; done) | (go_simp; rfl))
    · exact StepS.skip nP (by rfl)
   try simp only [Act.put, sA, sZ, sS]
   obtain ⟨f3, hb9⟩ : ∃ b : Bool, b = ((((!f2) || (decide (timer < 0))) || (decide ((3 : Int) ≤ timer))) || ((decide ((0 : Int) < timer)) && (decide (sent < base)))) := ⟨_, rfl⟩
   have HEf3 := Lib.hid hb9
   clear hb9
   refine Pz 23 (some 91) (.bool (f3)) rfl rfl ?ywg187_211 ?rwg187_211
   case ywg187_211 =>
    refine StepS.pure nP (by rfl) (fun w9 => ?_)
    have e9 : (b3_12 || (b3_16 && (decide (sent < base)))) = f3 := by rw [HEf3.out, HEb3_12.out, HEb3_16.out]
    rw [← e9]
    clear e9
    cases b3_12 <;> (first | rfl | (go_simp; done) | (go_simp; rfl))
   try simp only [Act.put, sA, sZ, sS]
   refine Ps.done (by kernel_rfl) (fun wg187 hS => ?_) _
   try generalize (cond b3_12 (undef) (cond b3_16 (.pointer (some ⟨w.heap.size, 1, none⟩)) (undef)) : Value) = zz212
   try generalize (cond b3_12 (undef) (cond b3_16 (.pointer (some ⟨w.heap.size, 3, none⟩)) (undef)) : Value) = zz213
   try generalize (cond b3_12 (undef) (cond b3_16 (.bool (decide (sent < base))) (undef)) : Value) = zz214
   try generalize (cond b3_12 (undef) (.bool (b3_16 && (decide (sent < base)))) : Value) = zz215
   try generalize (cond b3_12 (undef) (.pointer (some ⟨w.heap.size, 5, none⟩)) : Value) = zz216
   try generalize (cond b3_12 (undef) (cond b3_16 (.int .u64 (sent)) (undef)) : Value) = zz217
   try generalize (cond b3_7 (undef) (.pointer (some ⟨w.heap.size, 5, none⟩)) : Value) = zz218
   try generalize (cond b3_12 (undef) (cond b3_16 (.int .u64 (base)) (undef)) : Value) = zz219
   try generalize (cond b3_2 (undef) (.pointer (some ⟨w.heap.size, 5, none⟩)) : Value) = zz220
   try generalize (cond b3_12 (undef) (.bool (decide ((0 : Int) < timer))) : Value) = zz221
   try generalize (cond b3_7 (undef) (.bool (decide ((3 : Int) ≤ timer))) : Value) = zz222
   try generalize (cond b3_2 (undef) (.bool (decide (timer < 0))) : Value) = zz223
   try generalize (.bool (b3_7 || (decide ((3 : Int) ≤ timer))) : Value) = zz224
   try generalize (cond b3_12 (undef) (.int .i64 (timer)) : Value) = zz225
   try generalize (cond b3_2 (undef) (.int .i64 (timer)) : Value) = zz226
   try generalize (cond b3_7 (undef) (.int .i64 (timer)) : Value) = zz227
   try generalize (.bool (b3_2 || (decide (timer < 0))) : Value) = zz228
   try generalize (cond b3_12 (undef) (.bool (b3_16)) : Value) = zz229
   have HW230 := Lib.hid (show Below w1.heap.size w1 wg187 from hS)
   clear hS
   obtain ⟨w331, rfl⟩ : ∃ x, x = wg187 := ⟨_, rfl⟩
   have HST := Lib.hid (show f3 = !(f2 && sendT ⟨ses, base, q, sent, lim, timer, ended⟩) from by rw [HEf3.out]; unfold sendT; rw [Bool.eq_iff_iff]; cases f2 <;> simp <;> omega)
   cases f3
   · go_wp2
     go_ret
     exact ⟨ret_int (by rw [HRR.out]; unfold sendB; rw [← HSA.out, ← HSM.out]; have h := HST.out; revert h; cases f2 <;> cases sendT ⟨ses, base, q, sent, lim, timer, ended⟩ <;> simp), bl_ca HBB.out HW230.out⟩
   · go_wp2
     go_ret
     exact ⟨ret_int (by rw [HRR.out]; unfold sendB; rw [← HSA.out, ← HSM.out]; have h := HST.out; revert h; cases f2 <;> cases sendT ⟨ses, base, q, sent, lim, timer, ended⟩ <;> simp), bl_ca HBB.out HW230.out⟩
end Go.Proofs.Ytojghgbaiiajfaa
/- A region whose order Go leaves open, with any number of operations, one behind the other, that change what is known. Conditions: none. -/
namespace Go.Proofs.Ytojghgbaiiajfaa
open Go.RowKit
def cntD (L : Array Bool) : List Nat → Nat
 | [] => 0
 | k :: ks => (if Dn L k then 1 else 0) + cntD L ks
theorem cntD_ne {L : Array Bool} {i : Nat} : ∀ {ks : List Nat}, i ∉ ks → cntD (L.setIfInBounds i true) ks = cntD L ks
 | [], _ => rfl
 | k :: ks, h => by
  simp only [List.mem_cons, not_or] at h
  unfold cntD
  rw [dn_ne (Ne.symm h.1), cntD_ne h.2]
theorem cntD_all {L : Array Bool} : ∀ {ks : List Nat}, (∀ x ∈ ks, Dn L x = true) → cntD L ks = ks.length
 | [], _ => rfl
 | k :: ks, h => by
  unfold cntD
  rw [h k (by simp), cntD_all (fun x hx => h x (by simp [hx])), if_pos rfl, List.length_cons, Nat.add_comm]
theorem cntD_none {L : Array Bool} : ∀ {ks : List Nat}, (∀ x ∈ ks, Dn L x = false) → cntD L ks = 0
 | [], _ => rfl
 | k :: ks, h => by
  unfold cntD
  rw [h k (by simp), cntD_none (fun x hx => h x (by simp [hx]))]; rfl
theorem cntD_append (L : Array Bool) : ∀ (a b : List Nat), cntD L (a ++ b) = cntD L a + cntD L b
 | [], b => by simp [cntD]
 | k :: ks, b => by
  show (if Dn L k then 1 else 0) + cntD L (ks ++ b) = (if Dn L k then 1 else 0) + cntD L ks + cntD L b
  rw [cntD_append L ks b, Nat.add_assoc]
/-- how many of ks are done says what is known -/
def SeqN (ks : List Nat) (B : Nat → (Nat → Value) → World → Prop) : Array Bool → (Nat → Value) → World → Prop := fun L m w => B (cntD L ks) m w
section
variable {ks pre post : List Nat} {k : Nat} {B : Nat → (Nat → Value) → World → Prop} {L : Array Bool} {m : Nat → Value} {w w' : World}
theorem SeqN.start {n : Nat} (h1 : (ks.all fun k => decide (k < n)) = true) (h : B 0 m w) : SeqN ks B (Array.replicate n false) m w := by
 unfold SeqN
 rw [cntD_none (fun x hx => by
  have := List.all_eq_true.1 h1 x hx
  simp only [decide_eq_true_eq] at this
  unfold Dn
  simp [this])]
 exact h
theorem SeqN.any {T : World → Prop} (t : ∀ j m w, B j m w → T w) (hS : SeqN ks B L m w) : T w := t _ _ _ hS
theorem SeqN.pass {i : Nat} (h : (ks.all fun k => k != i) = true) : Pass (SeqN ks B) i := fun L m w hS => by
 unfold SeqN at *
 rw [cntD_ne (fun hi => by have := List.all_eq_true.1 h i hi; simp at this)]
 exact hS
theorem post_no {md : Region.Mode} {ops : Array Oper} (hsh : Shut md ops L) (hun : Dn L k = false) (h : (post.all fun x => reach md ops ops.size x k) = true) : ∀ x ∈ post, Dn L x = false :=
 fun x hx => reach_no hsh (List.all_eq_true.1 h x hx) hun
theorem SeqN.at_ (pre post : List Nat) {md : Region.Mode} {ops : Array Oper} {m0 m1 : Nat → Value} (hsh : Shut md ops L) (hat : At m0 pre L m1) (hun : Dn L k = false) (hp : (post.all fun x => reach md ops ops.size x k) = true)
 (hS : SeqN (pre ++ k :: post) B L m w) : B pre.length m w := by
 unfold SeqN at hS
 rw [cntD_append, cntD_all (fun x hx => (hat x hx).1)] at hS
 unfold cntD at hS
 rw [hun, cntD_none (post_no hsh hun hp)] at hS
 exact hS
theorem SeqN.set_ (pre post : List Nat) {md : Region.Mode} {ops : Array Oper} {m0 m1 m' : Nat → Value} (hsh : Shut md ops L) (hat : At m0 pre L m1) (hun : Dn L k = false) (hp : (post.all fun x => reach md ops ops.size x k) = true)
 (h1 : (pre.all fun x => x != k) = true) (h2 : (post.all fun x => x != k) = true) (h : B (pre.length + 1) m' w') : SeqN (pre ++ k :: post) B (L.setIfInBounds k true) m' w' := by
 unfold SeqN
 rw [cntD_append, cntD_ne (fun hi => by have := List.all_eq_true.1 h1 k hi; simp at this), cntD_all (fun x hx => (hat x hx).1)]
 unfold cntD
 rw [dn_eq, cntD_ne (fun hi => by have := List.all_eq_true.1 h2 k hi; simp at this), cntD_none (post_no hsh hun hp)]
 exact h
theorem SeqN.fin (h : (ks.all fun x => Dn L x) = true) (hS : SeqN ks B L m w) : B ks.length m w := by
 unfold SeqN at hS
 rw [cntD_all (fun x hx => List.all_eq_true.1 h x hx)] at hS
 exact hS
/-- what is listed elsewhere, of which B knows nothing -/
theorem SeqN.turn {i : Nat} {v : Value} (h : (ks.all fun k => k != i) = true) (hB : ∀ j m w, B j m w → B j (upd m i v) w) (hS : SeqN ks B L m w) : SeqN ks B (L.setIfInBounds i true) (upd m i v) w := by
 have := SeqN.pass h L m w hS
 exact hB _ _ _ this
end
end Go.Proofs.Ytojghgbaiiajfaa
/- A part of a whole variable is stored. Conditions: none. -/
namespace Go.Proofs.Ytojghgbaiiajfaa
open Go.RowKit
def splice (cs : Array Value) (o : Nat) (vs : List Value) : Array Value := (cs.toList.take o ++ vs ++ cs.toList.drop (o + vs.length)).toArray
theorem blk_setMid {g : Nat} {t : TypeId} : ∀ (vs : List Value) (o : Nat) (w : World) (cs : List Value), Blk w g t cs.toArray → o + vs.length ≤ cs.length → Blk (w.setCells g o vs) g t (cs.take o ++ vs ++ cs.drop (o + vs.length)).toArray
 | [], o, w, cs, h, _ => by rw [World.setCells]; simpa using h
 | v :: vs, o, w, cs, h, hl => by
  rw [World.setCells]
  simp only [List.length_cons] at hl
  have h1 := h.set_ o v
  rw [List.setIfInBounds_toArray] at h1
  have h2 := blk_setMid vs (o + 1) _ _ h1 (by rw [List.length_set]; omega)
  have e : (cs.set o v).take (o + 1) ++ vs ++ (cs.set o v).drop (o + 1 + vs.length) = cs.take o ++ v :: vs ++ cs.drop (o + (v :: vs).length) := by
   rw [List.take_add_one, List.take_set, List.set_eq_of_length_le (by rw [List.length_take]; omega), List.getElem?_set_self (by omega), List.drop_set_of_lt (by omega)]
   simp only [Option.toList, List.length_cons, List.append_assoc, List.cons_append]
   rw [show o + 1 + vs.length = o + (vs.length + 1) from by omega]
   rfl
  rw [e] at h2
  exact h2
theorem there_mid {w : World} {g : Nat} {t : TypeId} {cs : Array Value} (h : Blk w g t cs) {o n : Nat} (hl : o + n ≤ cs.size) : w.there g o n := fun j hj => by
 have := there_blk h (o + j) (by omega)
 rwa [Nat.zero_add] at this
section
variable {P : Program}
theorem exec_store_part {o : Oper} {a : Act} {w : World} (ty : TypeId) (x y : Operand) (ho : o.op = .store ty x y) (g k : Nat) (t : TypeId) (cs new cs' : Array Value) (hx : a.eval x = .pointer (some ⟨g, k, none⟩)) (hy : a.eval y = .agg new) (hb : Blk w g t cs) (hs : k + new.size ≤ cs.size)
 (hi : (P.info? ty).map (·.size) = some new.size) (h1 : new.all (·.oneCell') = true) (hc : splice cs k new.toList = cs') : ∃ w', (execOp a.eval o).run P w = .ok .skip w' ∧ Blk w' g t cs' ∧ w.grownBy w' (some g) := by
 refine ⟨w.setCells g k new.toList, ?_, ?_, grown_setCells _ _ _ (World.grownBy.refl w _)⟩
 · unfold execOp
   simp only [ho, hx, hy, Instr.storeAt, Instr.sureAddr, Sem.run_bind, Sem.run_pure, Result.andThen_ok, run_storeVar_mid w g k ty new (there_mid hb hs) hi h1]
 · rw [← hc]; exact blk_setMid new.toList k w cs.toList (by simpa using hb) (by simpa using hs)
end
end Go.Proofs.Ytojghgbaiiajfaa
