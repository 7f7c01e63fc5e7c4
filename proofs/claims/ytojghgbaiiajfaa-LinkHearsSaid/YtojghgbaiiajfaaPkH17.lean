/- RightReceiver of the reference. Conditions: the rows read as these batches. -/
import Derived.Test.YtojghgbaiiajfaaPkH16
namespace Go.Proofs.Ytojghgbaiiajfaa
open Go.RowKit
theorem aheadB_len {lim : Int} : ∀ {l : List HC} {a : Int}, aheadB lim a l = true → l = [] ∨ a + (l.length : Int) ≤ lim
 | [], _, _ => .inl rfl
 | h :: l, a, e => by
  unfold aheadB at e
  simp only [Bool.and_eq_true, decide_eq_true_eq] at e
  obtain ⟨h1, h2, h3, h4, h5⟩ := e
  right
  rcases aheadB_len h5 with h6 | h6
  · subst h6; simp; omega
  · simp only [List.length_cons]; omega
set_option maxRecDepth 100000 in
set_option maxHeartbeats 16000000 in
theorem rrecv_any (Fr F2 : Nat → Prop) (r : RC) (A : Option Addr) (n c : Nat) (B : Option Addr) (m d : Nat) (w : World) (h : LH4.rd w Fr A n r.ahead) (h2 : LB3.rd w F2 B m r.buf) (hn : n ≤ 9223372036854775807) (hm : m ≤ 9223372036854775807) :
 Calls Try.prog 23 #[.agg (r.cells A n c B m d)] w fun e w' => e = .returned (.bool (recB r)) ∧ Below w.heap.size w w' := by
 obtain ⟨rr, hr⟩ : ∃ rr, rr = recB r := ⟨_, rfl⟩
 rw [← hr]
 have HRR := Lib.hid hr
 clear hr
 obtain ⟨ses, next, ahead, buf, room, over⟩ := r
 dsimp only at h h2
 have HLA := Lib.hid (Lay.rd_len h)
 have HLB := Lib.hid (Lay.rd_len h2)
 have b1 := bl_al (Below.refl w.heap.size w) (.cells #[.int .u32 ses, .int .u64 next, .slice A n c, .slice B m d, .int .i64 room, .bool over] 36)
 have HB := Lib.hid (Blk.new w 36 #[.int .u32 ses, .int .u64 next, .slice A n c, .slice B m d, .int .i64 room, .bool over])
 have HRA := Lib.hid (Lay.rd_below h b1)
 have HRB := Lib.hid (Lay.rd_below h2 b1)
 have HBB := Lib.hid b1
 clear h h2 b1
 have x3 := HB.out.cell 3
 have hwm : IntKind.u64.wrap (m : Int) = (m : Int) := u64_in (by omega) (by omega)
 have HWM := Lib.hid hwm
 clear hwm
 go_enter Try.func23, Try.ntmps23
 go_upto_region 2 with fail
 clear x3
 generalize w.alloc (.cells #[.int .u32 ses, .int .u64 next, .slice A n c, .slice B m d, .int .i64 room, .bool over] 36) = w1 at *
 refine wp_region_ps0 .text (S := fun _ _ w' => Below w1.heap.size w1 w') (by kernel_rfl) ?spswg103 ?ppswg103
 case spswg103 =>
  exact (Below.refl w1.heap.size w1)
 refine Pz 0 (some 9) (.pointer (some ⟨w.heap.size, 0, none⟩)) rfl rfl (by exact StepS.pure nP rfl fun _ => rfl) ?_
 try simp only [Act.put, sA, sZ, sS]
 refine Pz 1 (some 10) (.int .u32 (ses)) rfl rfl ?ywg103_105 ?rwg103_105
 case ywg103_105 =>
  refine StepS.read [] (by kernel_rfl) nP (by rfl) (fun L9 m9 w9 hSh hAt hDn hS => ?_)
  have hT : Below _ _ w9 := hS
  have x0 : w9.cell? ⟨w.heap.size, 0, none⟩ = some (.int .u32 (ses)) := (HB.out.ca hT).cell 0
  clear hT hS
  go_simp
  try rfl
 try simp only [Act.put, sA, sZ, sS]
 refine Pz 2 (some 11) (.bool (sesB ses)) rfl rfl ?ywg103_106 ?rwg103_106
 case ywg103_106 =>
  refine StepS.call ?fwg103_106 ?awg103_106 [] (by kernel_rfl) (by rfl) (fun w9 => ?hwg103_106) (fun L9 m9 w9 hSh hAt hDn hS => ?cwg103_106)
  case hwg103_106 => go_simp; refine ⟨?_, ?_⟩ <;> rfl
  case cwg103_106 =>
   have hT : Below _ _ w9 := hS
   refine (rsession_any ses w9).mono ?_
   rintro e w8 ⟨rfl, rfl⟩
   exact ⟨rfl, hT⟩
 try simp only [Act.put, sA, sZ, sS]
 refine Pz 3 (some 12) (.bool (!(sesB ses))) rfl rfl (by exact StepS.pure nP rfl fun _ => rfl) ?_
 try simp only [Act.put, sA, sZ, sS]
 obtain ⟨b2_4, hb9⟩ : ∃ b : Bool, b = (!(sesB ses)) := ⟨_, rfl⟩
 have HEb2_4 := Lib.hid hb9
 clear hb9
 refine Pz 4 (some 13) (.bool (b2_4)) rfl rfl ?ywg103_108 ?rwg103_108
 case ywg103_108 =>
  refine StepS.pure nP (by rfl) (fun w9 => ?_)
  have e9 : (!(sesB ses)) = b2_4 := by rw [HEb2_4.out]
  rw [← e9]
  clear e9
  first | rfl | (go_simp; done) | (go_simp; rfl)
 try simp only [Act.put, sA, sZ, sS]
 refine Pz 5 (some 14) (cond b2_4 (undef) (.pointer (some ⟨w.heap.size, 4, none⟩))) rfl rfl (by cases b2_4; (exact StepS.pure nP rfl fun _ => rfl); exact StepS.skip nP rfl) ?_
 try simp only [Act.put, sA, sZ, sS]
 refine Pz 6 (some 15) (cond b2_4 (undef) (.int .i64 (room))) rfl rfl ?ywg103_110 ?rwg103_110
 case ywg103_110 =>
  cases b2_4
  · skip
    refine StepS.read [] (by kernel_rfl) nP (by rfl) (fun L9 m9 w9 hSh hAt hDn hS => ?_)
    have hT : Below _ _ w9 := hS
    have x0 : w9.cell? ⟨w.heap.size, 4, none⟩ = some (.int .i64 (room)) := (HB.out.ca hT).cell 4
    clear hT hS
    go_simp
    try rfl
  · exact StepS.skip nP (by rfl)
 try simp only [Act.put, sA, sZ, sS]
 refine Pz 7 (some 16) (cond b2_4 (undef) (.bool (decide (room < 1)))) rfl rfl (by cases b2_4; (exact StepS.pure nP rfl fun _ => rfl); exact StepS.skip nP rfl) ?_
 try simp only [Act.put, sA, sZ, sS]
 refine Pz 8 (some 17) (.bool (b2_4 || (decide (room < 1)))) rfl rfl ?ywg103_112 ?rwg103_112
 case ywg103_112 =>
  refine StepS.pure nP (by rfl) (fun w9 => ?_)
  cases b2_4 <;> (first | rfl | (go_simp; done) | (go_simp; rfl))
 try simp only [Act.put, sA, sZ, sS]
 obtain ⟨b2_9, hb9⟩ : ∃ b : Bool, b = ((!(sesB ses)) || (decide (room < 1))) := ⟨_, rfl⟩
 have HEb2_9 := Lib.hid hb9
 clear hb9
 refine Pz 9 (some 18) (.bool (b2_9)) rfl rfl ?ywg103_113 ?rwg103_113
 case ywg103_113 =>
  refine StepS.pure nP (by rfl) (fun w9 => ?_)
  have e9 : (b2_4 || (decide (room < 1))) = b2_9 := by rw [HEb2_9.out, HEb2_4.out]
  rw [← e9]
  clear e9
  first | rfl | (go_simp; done) | (go_simp; rfl)
 try simp only [Act.put, sA, sZ, sS]
 refine Pz 10 (some 19) (cond b2_9 (undef) (.pointer (some ⟨w.heap.size, 4, none⟩))) rfl rfl (by cases b2_9; (exact StepS.pure nP rfl fun _ => rfl); exact StepS.skip nP rfl) ?_
 try simp only [Act.put, sA, sZ, sS]
 refine Pz 11 (some 20) (cond b2_9 (undef) (.int .i64 (room))) rfl rfl ?ywg103_115 ?rwg103_115
 case ywg103_115 =>
  cases b2_9
  · skip
    refine StepS.read [] (by kernel_rfl) nP (by rfl) (fun L9 m9 w9 hSh hAt hDn hS => ?_)
    have hT : Below _ _ w9 := hS
    have x0 : w9.cell? ⟨w.heap.size, 4, none⟩ = some (.int .i64 (room)) := (HB.out.ca hT).cell 4
    clear hT hS
    go_simp
    try rfl
  · exact StepS.skip nP (by rfl)
 try simp only [Act.put, sA, sZ, sS]
 refine Pz 12 (some 21) (cond b2_9 (undef) (.bool (decide ((8 : Int) < room)))) rfl rfl (by cases b2_9; (exact StepS.pure nP rfl fun _ => rfl); exact StepS.skip nP rfl) ?_
 try simp only [Act.put, sA, sZ, sS]
 refine Pz 13 (some 22) (.bool (b2_9 || (decide ((8 : Int) < room)))) rfl rfl ?ywg103_117 ?rwg103_117
 case ywg103_117 =>
  refine StepS.pure nP (by rfl) (fun w9 => ?_)
  cases b2_9 <;> (first | rfl | (go_simp; done) | (go_simp; rfl))
 try simp only [Act.put, sA, sZ, sS]
 obtain ⟨b2_14, hb9⟩ : ∃ b : Bool, b = (((!(sesB ses)) || (decide (room < 1))) || (decide ((8 : Int) < room))) := ⟨_, rfl⟩
 have HEb2_14 := Lib.hid hb9
 clear hb9
 refine Pz 14 (some 23) (.bool (b2_14)) rfl rfl ?ywg103_118 ?rwg103_118
 case ywg103_118 =>
  refine StepS.pure nP (by rfl) (fun w9 => ?_)
  have e9 : (b2_9 || (decide ((8 : Int) < room))) = b2_14 := by rw [HEb2_14.out, HEb2_9.out]
  rw [← e9]
  clear e9
  first | rfl | (go_simp; done) | (go_simp; rfl)
 try simp only [Act.put, sA, sZ, sS]
 refine Pz 15 (some 24) (cond b2_14 (undef) (.pointer (some ⟨w.heap.size, 1, none⟩))) rfl rfl (by cases b2_14; (exact StepS.pure nP rfl fun _ => rfl); exact StepS.skip nP rfl) ?_
 try simp only [Act.put, sA, sZ, sS]
 refine Pz 16 (some 25) (cond b2_14 (undef) (.int .u64 (next))) rfl rfl ?ywg103_120 ?rwg103_120
 case ywg103_120 =>
  cases b2_14
  · skip
    refine StepS.read [] (by kernel_rfl) nP (by rfl) (fun L9 m9 w9 hSh hAt hDn hS => ?_)
    have hT : Below _ _ w9 := hS
    have x0 : w9.cell? ⟨w.heap.size, 1, none⟩ = some (.int .u64 (next)) := (HB.out.ca hT).cell 1
    clear hT hS
    go_simp
    try rfl
  · exact StepS.skip nP (by rfl)
 try simp only [Act.put, sA, sZ, sS]
 refine Pz 17 (some 26) (cond b2_14 (undef) (.bool (decide (next < 1)))) rfl rfl (by cases b2_14; (exact StepS.pure nP rfl fun _ => rfl); exact StepS.skip nP rfl) ?_
 try simp only [Act.put, sA, sZ, sS]
 refine Pz 18 (some 27) (.bool (b2_14 || (decide (next < 1)))) rfl rfl ?ywg103_122 ?rwg103_122
 case ywg103_122 =>
  refine StepS.pure nP (by rfl) (fun w9 => ?_)
  cases b2_14 <;> (first | rfl | (go_simp; done) | (go_simp; rfl))
 try simp only [Act.put, sA, sZ, sS]
 obtain ⟨b2_19, hb9⟩ : ∃ b : Bool, b = ((((!(sesB ses)) || (decide (room < 1))) || (decide ((8 : Int) < room))) || (decide (next < 1))) := ⟨_, rfl⟩
 have HEb2_19 := Lib.hid hb9
 clear hb9
 refine Pz 19 (some 28) (.bool (b2_19)) rfl rfl ?ywg103_123 ?rwg103_123
 case ywg103_123 =>
  refine StepS.pure nP (by rfl) (fun w9 => ?_)
  have e9 : (b2_14 || (decide (next < 1))) = b2_19 := by rw [HEb2_19.out, HEb2_14.out]
  rw [← e9]
  clear e9
  first | rfl | (go_simp; done) | (go_simp; rfl)
 try simp only [Act.put, sA, sZ, sS]
 refine Pz 20 (some 29) (cond b2_19 (undef) (.pointer (some ⟨w.heap.size, 1, none⟩))) rfl rfl (by cases b2_19; (exact StepS.pure nP rfl fun _ => rfl); exact StepS.skip nP rfl) ?_
 try simp only [Act.put, sA, sZ, sS]
 refine Pz 21 (some 30) (cond b2_19 (undef) (.int .u64 (next))) rfl rfl ?ywg103_125 ?rwg103_125
 case ywg103_125 =>
  cases b2_19
  · skip
    refine StepS.read [] (by kernel_rfl) nP (by rfl) (fun L9 m9 w9 hSh hAt hDn hS => ?_)
    have hT : Below _ _ w9 := hS
    have x0 : w9.cell? ⟨w.heap.size, 1, none⟩ = some (.int .u64 (next)) := (HB.out.ca hT).cell 1
    clear hT hS
    go_simp
    try rfl
  · exact StepS.skip nP (by rfl)
 try simp only [Act.put, sA, sZ, sS]
 refine Pz 22 (some 31) (cond b2_19 (undef) (.bool (decide ((1099511627777 : Int) < next)))) rfl rfl (by cases b2_19; (exact StepS.pure nP rfl fun _ => rfl); exact StepS.skip nP rfl) ?_
 try simp only [Act.put, sA, sZ, sS]
 refine Pz 23 (some 32) (.bool (b2_19 || (decide ((1099511627777 : Int) < next)))) rfl rfl ?ywg103_127 ?rwg103_127
 case ywg103_127 =>
  refine StepS.pure nP (by rfl) (fun w9 => ?_)
  cases b2_19 <;> (first | rfl | (go_simp; done) | (go_simp; rfl))
 try simp only [Act.put, sA, sZ, sS]
 obtain ⟨b2_24, hb9⟩ : ∃ b : Bool, b = (((((!(sesB ses)) || (decide (room < 1))) || (decide ((8 : Int) < room))) || (decide (next < 1))) || (decide ((1099511627777 : Int) < next))) := ⟨_, rfl⟩
 have HEb2_24 := Lib.hid hb9
 clear hb9
 refine Pz 24 (some 33) (.bool (b2_24)) rfl rfl ?ywg103_128 ?rwg103_128
 case ywg103_128 =>
  refine StepS.pure nP (by rfl) (fun w9 => ?_)
  have e9 : (b2_19 || (decide ((1099511627777 : Int) < next))) = b2_24 := by rw [HEb2_24.out, HEb2_19.out]
  rw [← e9]
  clear e9
  first | rfl | (go_simp; done) | (go_simp; rfl)
 try simp only [Act.put, sA, sZ, sS]
 refine Pz 25 (some 34) (cond b2_24 (undef) (.int .i64 ((m : Int)))) rfl rfl (by cases b2_24; (exact StepS.pure nP rfl fun _ => rfl); exact StepS.skip nP rfl) ?_
 try simp only [Act.put, sA, sZ, sS]
 refine Pz 26 (some 35) (cond b2_24 (undef) (.pointer (some ⟨w.heap.size, 4, none⟩))) rfl rfl (by cases b2_24; (exact StepS.pure nP rfl fun _ => rfl); exact StepS.skip nP rfl) ?_
 try simp only [Act.put, sA, sZ, sS]
 refine Pz 27 (some 36) (cond b2_24 (undef) (.int .i64 (room))) rfl rfl ?ywg103_131 ?rwg103_131
 case ywg103_131 =>
  cases b2_24
  · skip
    refine StepS.read [] (by kernel_rfl) nP (by rfl) (fun L9 m9 w9 hSh hAt hDn hS => ?_)
    have hT : Below _ _ w9 := hS
    have x0 : w9.cell? ⟨w.heap.size, 4, none⟩ = some (.int .i64 (room)) := (HB.out.ca hT).cell 4
    clear hT hS
    go_simp
    try rfl
  · exact StepS.skip nP (by rfl)
 try simp only [Act.put, sA, sZ, sS]
 refine Pz 28 (some 37) (cond b2_24 (undef) (.bool (decide (room < (m : Int))))) rfl rfl (by cases b2_24; (exact StepS.pure nP rfl fun _ => rfl); exact StepS.skip nP rfl) ?_
 try simp only [Act.put, sA, sZ, sS]
 refine Pz 29 (some 38) (.bool (b2_24 || (decide (room < (m : Int))))) rfl rfl ?ywg103_133 ?rwg103_133
 case ywg103_133 =>
  refine StepS.pure nP (by rfl) (fun w9 => ?_)
  cases b2_24 <;> (first | rfl | (go_simp; done) | (go_simp; rfl))
 try simp only [Act.put, sA, sZ, sS]
 obtain ⟨b2_30, hb9⟩ : ∃ b : Bool, b = ((((((!(sesB ses)) || (decide (room < 1))) || (decide ((8 : Int) < room))) || (decide (next < 1))) || (decide ((1099511627777 : Int) < next))) || (decide (room < (m : Int)))) := ⟨_, rfl⟩
 have HEb2_30 := Lib.hid hb9
 clear hb9
 refine Pz 30 (some 39) (.bool (b2_30)) rfl rfl ?ywg103_134 ?rwg103_134
 case ywg103_134 =>
  refine StepS.pure nP (by rfl) (fun w9 => ?_)
  have e9 : (b2_24 || (decide (room < (m : Int)))) = b2_30 := by rw [HEb2_30.out, HEb2_24.out]
  rw [← e9]
  clear e9
  first | rfl | (go_simp; done) | (go_simp; rfl)
 try simp only [Act.put, sA, sZ, sS]
 refine Pz 31 (some 40) (cond b2_30 (undef) (.int .i64 ((m : Int)))) rfl rfl (by cases b2_30; (exact StepS.pure nP rfl fun _ => rfl); exact StepS.skip nP rfl) ?_
 try simp only [Act.put, sA, sZ, sS]
 refine Pz 32 (some 41) (cond b2_30 (undef) (.int .u64 ((m : Int)))) rfl rfl ?ywg103_136 ?rwg103_136
 case ywg103_136 =>
  cases b2_30
  · skip
    refine StepS.pure nP (by rfl) (fun w9 => ?_)
    go_simp
    exact HWM.out
  · exact StepS.skip nP (by rfl)
 try simp only [Act.put, sA, sZ, sS]
 refine Pz 33 (some 42) (cond b2_30 (undef) (.pointer (some ⟨w.heap.size, 1, none⟩))) rfl rfl (by cases b2_30; (exact StepS.pure nP rfl fun _ => rfl); exact StepS.skip nP rfl) ?_
 try simp only [Act.put, sA, sZ, sS]
 refine Pz 34 (some 43) (cond b2_30 (undef) (.int .u64 (next))) rfl rfl ?ywg103_138 ?rwg103_138
 case ywg103_138 =>
  cases b2_30
  · skip
    refine StepS.read [] (by kernel_rfl) nP (by rfl) (fun L9 m9 w9 hSh hAt hDn hS => ?_)
    have hT : Below _ _ w9 := hS
    have x0 : w9.cell? ⟨w.heap.size, 1, none⟩ = some (.int .u64 (next)) := (HB.out.ca hT).cell 1
    clear hT hS
    go_simp
    try rfl
  · exact StepS.skip nP (by rfl)
 try simp only [Act.put, sA, sZ, sS]
 refine Pz 35 (some 44) (cond b2_30 (undef) (.bool (decide (next ≤ (m : Int))))) rfl rfl (by cases b2_30; (exact StepS.pure nP rfl fun _ => rfl); exact StepS.skip nP rfl) ?_
 try simp only [Act.put, sA, sZ, sS]
 obtain ⟨f1, hb9⟩ : ∃ b : Bool, b = (((((((!(sesB ses)) || (decide (room < 1))) || (decide ((8 : Int) < room))) || (decide (next < 1))) || (decide ((1099511627777 : Int) < next))) || (decide (room < (m : Int)))) || (decide (next ≤ (m : Int)))) := ⟨_, rfl⟩
 have HEf1 := Lib.hid hb9
 clear hb9
 refine Pz 36 (some 45) (.bool (f1)) rfl rfl ?ywg103_140 ?rwg103_140
 case ywg103_140 =>
  refine StepS.pure nP (by rfl) (fun w9 => ?_)
  have e9 : (b2_30 || (decide (next ≤ (m : Int)))) = f1 := by rw [HEf1.out, HEb2_30.out]
  rw [← e9]
  clear e9
  cases b2_30 <;> (first | rfl | (go_simp; done) | (go_simp; rfl))
 try simp only [Act.put, sA, sZ, sS]
 refine Ps.done (by kernel_rfl) (fun wg103 hS => ?_) _
 try generalize (cond b2_19 (undef) (.bool (decide ((1099511627777 : Int) < next))) : Value) = zz141
 try generalize (cond b2_14 (undef) (.pointer (some ⟨w.heap.size, 1, none⟩)) : Value) = zz142
 try generalize (cond b2_24 (undef) (.pointer (some ⟨w.heap.size, 4, none⟩)) : Value) = zz143
 try generalize (cond b2_19 (undef) (.pointer (some ⟨w.heap.size, 1, none⟩)) : Value) = zz144
 try generalize (cond b2_30 (undef) (.pointer (some ⟨w.heap.size, 1, none⟩)) : Value) = zz145
 try generalize (cond b2_4 (undef) (.pointer (some ⟨w.heap.size, 4, none⟩)) : Value) = zz146
 try generalize (cond b2_9 (undef) (.pointer (some ⟨w.heap.size, 4, none⟩)) : Value) = zz147
 try generalize (.bool (b2_19 || (decide ((1099511627777 : Int) < next))) : Value) = zz148
 try generalize (cond b2_24 (undef) (.bool (decide (room < (m : Int)))) : Value) = zz149
 try generalize (cond b2_30 (undef) (.bool (decide (next ≤ (m : Int)))) : Value) = zz150
 try generalize (cond b2_9 (undef) (.bool (decide ((8 : Int) < room))) : Value) = zz151
 try generalize (cond b2_14 (undef) (.bool (decide (next < 1))) : Value) = zz152
 try generalize (cond b2_4 (undef) (.bool (decide (room < 1))) : Value) = zz153
 try generalize (.bool (b2_24 || (decide (room < (m : Int)))) : Value) = zz154
 try generalize (.bool (b2_9 || (decide ((8 : Int) < room))) : Value) = zz155
 try generalize (cond b2_24 (undef) (.int .i64 ((m : Int))) : Value) = zz156
 try generalize (cond b2_30 (undef) (.int .i64 ((m : Int))) : Value) = zz157
 try generalize (cond b2_30 (undef) (.int .u64 ((m : Int))) : Value) = zz158
 try generalize (cond b2_30 (undef) (.int .u64 (next)) : Value) = zz159
 try generalize (cond b2_14 (undef) (.int .u64 (next)) : Value) = zz160
 try generalize (cond b2_19 (undef) (.int .u64 (next)) : Value) = zz161
 try generalize (cond b2_24 (undef) (.int .i64 (room)) : Value) = zz162
 try generalize (cond b2_4 (undef) (.int .i64 (room)) : Value) = zz163
 try generalize (cond b2_9 (undef) (.int .i64 (room)) : Value) = zz164
 try generalize (.bool (b2_14 || (decide (next < 1))) : Value) = zz165
 try generalize (.bool (b2_4 || (decide (room < 1))) : Value) = zz166
 have HW167 := Lib.hid (show Below w1.heap.size w1 wg103 from hS)
 clear hS
 obtain ⟨w268, rfl⟩ : ∃ x, x = wg103 := ⟨_, rfl⟩
 cases f1
 · have HBD := Lib.hid (show (1 ≤ next ∧ next ≤ 1099511627777 ∧ (m : Int) ≤ room ∧ 1 ≤ room ∧ room ≤ 8 ∧ (m : Int) < next) ∧ recA ⟨ses, next, ahead, buf, room, over⟩ = true from by have h := HEf1.out; simp at h; unfold recA; dsimp only; rw [HLB.out]; simp; grind)
   have HWN := Lib.hid (show IntKind.u64.wrap (next - (m : Int)) = next - (m : Int) from by have h := HBD.out.1; exact u64_in (by omega) (by omega))
   go_upto_region 4 with fail
   refine wp_region_ps0 .text (S := fun _ _ w' => Below w1.heap.size w1 w') (by kernel_rfl) ?spswg169 ?ppswg169
   case spswg169 =>
    exact HW167.out
   refine Pz 0 (some 46) (.pointer (some ⟨w.heap.size, 3, none⟩)) rfl rfl (by exact StepS.pure nP rfl fun _ => rfl) ?_
   try simp only [Act.put, sA, sZ, sS]
   refine Pz 1 (some 47) (.slice B m d) rfl rfl ?ywg169_171 ?rwg169_171
   case ywg169_171 =>
    refine StepS.read [] (by kernel_rfl) nP (by rfl) (fun L9 m9 w9 hSh hAt hDn hS => ?_)
    have hT : Below _ _ w9 := hS
    have x0 : w9.cell? ⟨w.heap.size, 3, none⟩ = some (.slice B m d) := (HB.out.ca hT).cell 3
    clear hT hS
    go_simp
    try rfl
   try simp only [Act.put, sA, sZ, sS]
   refine Pz 2 (some 48) (.pointer (some ⟨w.heap.size, 1, none⟩)) rfl rfl (by exact StepS.pure nP rfl fun _ => rfl) ?_
   try simp only [Act.put, sA, sZ, sS]
   refine Pz 3 (some 49) (.int .u64 (next)) rfl rfl ?ywg169_173 ?rwg169_173
   case ywg169_173 =>
    refine StepS.read [] (by kernel_rfl) nP (by rfl) (fun L9 m9 w9 hSh hAt hDn hS => ?_)
    have hT : Below _ _ w9 := hS
    have x0 : w9.cell? ⟨w.heap.size, 1, none⟩ = some (.int .u64 (next)) := (HB.out.ca hT).cell 1
    clear hT hS
    go_simp
    try rfl
   try simp only [Act.put, sA, sZ, sS]
   refine Pz 4 (some 50) (.int .i64 ((m : Int))) rfl rfl (by exact StepS.pure nP rfl fun _ => rfl) ?_
   try simp only [Act.put, sA, sZ, sS]
   refine Pz 5 (some 51) (.int .u64 ((m : Int))) rfl rfl ?ywg169_175 ?rwg169_175
   case ywg169_175 =>
    refine StepS.pure nP (by rfl) (fun w9 => ?_)
    go_simp
    exact HWM.out
   try simp only [Act.put, sA, sZ, sS]
   refine Pz 6 (some 52) (.int .u64 (next - (m : Int))) rfl rfl ?ywg169_176 ?rwg169_176
   case ywg169_176 =>
    refine StepS.pure nP (by rfl) (fun w9 => ?_)
    rw [← HWN.out]
    first | rfl | (go_simp; done) | (go_simp; rfl)
   try simp only [Act.put, sA, sZ, sS]
   refine Pz 7 (some 53) (.bool (inRowB buf (next - (m : Int)))) rfl rfl ?ywg169_177 ?rwg169_177
   case ywg169_177 =>
    refine StepS.call ?fwg169_177 ?awg169_177 [] (by kernel_rfl) (by rfl) (fun w9 => ?hwg169_177) (fun L9 m9 w9 hSh hAt hDn hS => ?cwg169_177)
    case hwg169_177 => go_simp; refine ⟨?_, ?_⟩ <;> rfl
    case cwg169_177 =>
     have hT : Below _ _ w9 := hS
     have h9 := HBD.out
     refine (rinRow_any F2 B m d buf (next - (m : Int)) w9 (Lay.rd_below HRB.out hT) (by omega) (by omega) (by omega)).mono ?_
     rintro e w8 ⟨rfl, q8⟩
     exact ⟨rfl, bl_ca hT q8⟩
   try simp only [Act.put, sA, sZ, sS]
   refine Pz 8 (some 54) (.bool (!(inRowB buf (next - (m : Int))))) rfl rfl (by exact StepS.pure nP rfl fun _ => rfl) ?_
   try simp only [Act.put, sA, sZ, sS]
   obtain ⟨b4_9, hb9⟩ : ∃ b : Bool, b = (!(inRowB buf (next - (m : Int)))) := ⟨_, rfl⟩
   have HEb4_9 := Lib.hid hb9
   clear hb9
   refine Pz 9 (some 55) (.bool (b4_9)) rfl rfl ?ywg169_179 ?rwg169_179
   case ywg169_179 =>
    refine StepS.pure nP (by rfl) (fun w9 => ?_)
    have e9 : (!(inRowB buf (next - (m : Int)))) = b4_9 := by rw [HEb4_9.out]
    rw [← e9]
    clear e9
    first | rfl | (go_simp; done) | (go_simp; rfl)
   try simp only [Act.put, sA, sZ, sS]
   refine Pz 10 (some 56) (cond b4_9 (undef) (.pointer (some ⟨w.heap.size, 2, none⟩))) rfl rfl (by cases b4_9; (exact StepS.pure nP rfl fun _ => rfl); exact StepS.skip nP rfl) ?_
   try simp only [Act.put, sA, sZ, sS]
   refine Pz 11 (some 57) (cond b4_9 (undef) (.slice A n c)) rfl rfl ?ywg169_181 ?rwg169_181
   case ywg169_181 =>
    cases b4_9
    · skip
      refine StepS.read [] (by kernel_rfl) nP (by rfl) (fun L9 m9 w9 hSh hAt hDn hS => ?_)
      have hT : Below _ _ w9 := hS
      have x0 : w9.cell? ⟨w.heap.size, 2, none⟩ = some (.slice A n c) := (HB.out.ca hT).cell 2
      clear hT hS
      go_simp
      try rfl
    · exact StepS.skip nP (by rfl)
   try simp only [Act.put, sA, sZ, sS]
   refine Pz 12 (some 58) (cond b4_9 (undef) (.int .i64 ((n : Int)))) rfl rfl (by cases b4_9; (exact StepS.pure nP rfl fun _ => by first | rfl | (go_simp; done) | (go_simp; rfl)); exact StepS.skip nP rfl) ?_
   try simp only [Act.put, sA, sZ, sS]
   refine Pz 13 (some 59) (cond b4_9 (undef) (.bool (decide ((8 : Int) < (n : Int))))) rfl rfl (by cases b4_9; (exact StepS.pure nP rfl fun _ => rfl); exact StepS.skip nP rfl) ?_
   try simp only [Act.put, sA, sZ, sS]
   refine Pz 14 (some 60) (.bool (b4_9 || (decide ((8 : Int) < (n : Int))))) rfl rfl ?ywg169_184 ?rwg169_184
   case ywg169_184 =>
    refine StepS.pure nP (by rfl) (fun w9 => ?_)
    cases b4_9 <;> (first | rfl | (go_simp; done) | (go_simp; rfl))
   try simp only [Act.put, sA, sZ, sS]
   obtain ⟨b4_15, hb9⟩ : ∃ b : Bool, b = ((!(inRowB buf (next - (m : Int)))) || (decide ((8 : Int) < (n : Int)))) := ⟨_, rfl⟩
   have HEb4_15 := Lib.hid hb9
   clear hb9
   refine Pz 15 (some 61) (.bool (b4_15)) rfl rfl ?ywg169_185 ?rwg169_185
   case ywg169_185 =>
    refine StepS.pure nP (by rfl) (fun w9 => ?_)
    have e9 : (b4_9 || (decide ((8 : Int) < (n : Int)))) = b4_15 := by rw [HEb4_15.out, HEb4_9.out]
    rw [← e9]
    clear e9
    first | rfl | (go_simp; done) | (go_simp; rfl)
   try simp only [Act.put, sA, sZ, sS]
   refine Pz 16 (some 62) (cond b4_15 (undef) (.pointer (some ⟨w.heap.size, 3, none⟩))) rfl rfl (by cases b4_15; (exact StepS.pure nP rfl fun _ => rfl); exact StepS.skip nP rfl) ?_
   try simp only [Act.put, sA, sZ, sS]
   refine Pz 17 (some 63) (cond b4_15 (undef) (.slice B m d)) rfl rfl ?ywg169_187 ?rwg169_187
   case ywg169_187 =>
    cases b4_15
    · skip
      refine StepS.read [] (by kernel_rfl) nP (by rfl) (fun L9 m9 w9 hSh hAt hDn hS => ?_)
      have hT : Below _ _ w9 := hS
      have x0 : w9.cell? ⟨w.heap.size, 3, none⟩ = some (.slice B m d) := (HB.out.ca hT).cell 3
      clear hT hS
      go_simp
      try rfl
    · exact StepS.skip nP (by rfl)
   try simp only [Act.put, sA, sZ, sS]
   refine Pz 18 (some 64) (cond b4_15 (undef) (.bool (endsB buf))) rfl rfl ?ywg169_188 ?rwg169_188
   case ywg169_188 =>
    cases b4_15
    · skip
      refine StepS.call ?fwg169_188 ?awg169_188 [] (by kernel_rfl) (by rfl) (fun w9 => ?hwg169_188) (fun L9 m9 w9 hSh hAt hDn hS => ?cwg169_188)
      case hwg169_188 => go_simp; refine ⟨?_, ?_⟩ <;> rfl
      case cwg169_188 =>
       have hT : Below _ _ w9 := hS
       refine (rends_any F2 B m d buf w9 (Lay.rd_below HRB.out hT) hm).mono ?_
       rintro e w8 ⟨rfl, rfl⟩
       exact ⟨rfl, hT⟩
    · exact StepS.skip nP (by rfl)
   try simp only [Act.put, sA, sZ, sS]
   obtain ⟨b4_19, hb9⟩ : ∃ b : Bool, b = (endsB buf) := ⟨_, rfl⟩
   have HEb4_19 := Lib.hid hb9
   clear hb9
   refine Pz 19 (some 65) (cond b4_15 (undef) (.bool (b4_19))) rfl rfl ?ywg169_189 ?rwg169_189
   case ywg169_189 =>
    cases b4_15
    · skip
      refine StepS.pure nP (by rfl) (fun w9 => ?_)
      have e9 : (endsB buf) = b4_19 := by rw [HEb4_19.out]
      rw [← e9]
      clear e9
      first | rfl | (go_simp; done) | (go_simp; rfl)
    · exact StepS.skip nP (by rfl)
   try simp only [Act.put, sA, sZ, sS]
   refine Pz 20 (some 66) (cond b4_15 (undef) (cond b4_19 (.pointer (some ⟨w.heap.size, 2, none⟩)) (undef))) rfl rfl (by cases b4_15; (cases b4_19; exact StepS.skip nP rfl; exact StepS.pure nP rfl fun _ => rfl); exact StepS.skip nP rfl) ?_
   try simp only [Act.put, sA, sZ, sS]
   refine Pz 21 (some 67) (cond b4_15 (undef) (cond b4_19 (.slice A n c) (undef))) rfl rfl ?ywg169_191 ?rwg169_191
   case ywg169_191 =>
    cases b4_15
    · skip
      cases b4_19
      · exact StepS.skip nP (by rfl)
      · skip
        refine StepS.read [] (by kernel_rfl) nP (by rfl) (fun L9 m9 w9 hSh hAt hDn hS => ?_)
        have hT : Below _ _ w9 := hS
        have x0 : w9.cell? ⟨w.heap.size, 2, none⟩ = some (.slice A n c) := (HB.out.ca hT).cell 2
        clear hT hS
        go_simp
        try rfl
    · exact StepS.skip nP (by rfl)
   try simp only [Act.put, sA, sZ, sS]
   refine Pz 22 (some 68) (cond b4_15 (undef) (cond b4_19 (.int .i64 ((n : Int))) (undef))) rfl rfl (by cases b4_15; (cases b4_19; exact StepS.skip nP rfl; exact StepS.pure nP rfl fun _ => by first | rfl | (go_simp; done) | (go_simp; rfl)); exact StepS.skip nP rfl) ?_
   try simp only [Act.put, sA, sZ, sS]
   refine Pz 23 (some 69) (cond b4_15 (undef) (cond b4_19 (.bool (decide ((0 : Int) < (n : Int)))) (undef))) rfl rfl (by cases b4_15; (cases b4_19; exact StepS.skip nP rfl; exact StepS.pure nP rfl fun _ => rfl); exact StepS.skip nP rfl) ?_
   try simp only [Act.put, sA, sZ, sS]
   refine Pz 24 (some 70) (cond b4_15 (undef) (.bool (b4_19 && (decide ((0 : Int) < (n : Int)))))) rfl rfl ?ywg169_194 ?rwg169_194
   case ywg169_194 =>
    cases b4_15
    · skip
      refine StepS.pure nP (by rfl) (fun w9 => ?_)
      cases b4_19 <;> (first | rfl | (go_simp; done) | (go_simp; rfl))
    · exact StepS.skip nP (by rfl)
   try simp only [Act.put, sA, sZ, sS]
   obtain ⟨f4, hb9⟩ : ∃ b : Bool, b = (((!(inRowB buf (next - (m : Int)))) || (decide ((8 : Int) < (n : Int)))) || ((endsB buf) && (decide ((0 : Int) < (n : Int))))) := ⟨_, rfl⟩
   have HEf4 := Lib.hid hb9
   clear hb9
   refine Pz 25 (some 71) (.bool (f4)) rfl rfl ?ywg169_195 ?rwg169_195
   case ywg169_195 =>
    refine StepS.pure nP (by rfl) (fun w9 => ?_)
    have e9 : (b4_15 || (b4_19 && (decide ((0 : Int) < (n : Int))))) = f4 := by rw [HEf4.out, HEb4_15.out, HEb4_19.out]
    rw [← e9]
    clear e9
    cases b4_15 <;> (first | rfl | (go_simp; done) | (go_simp; rfl))
   try simp only [Act.put, sA, sZ, sS]
   refine Ps.done (by kernel_rfl) (fun wg169 hS => ?_) _
   try generalize (cond b4_15 (undef) (cond b4_19 (.bool (decide ((0 : Int) < (n : Int)))) (undef)) : Value) = zz196
   try generalize (cond b4_15 (undef) (cond b4_19 (.pointer (some ⟨w.heap.size, 2, none⟩)) (undef)) : Value) = zz197
   try generalize (cond b4_15 (undef) (.bool (b4_19 && (decide ((0 : Int) < (n : Int))))) : Value) = zz198
   try generalize (cond b4_15 (undef) (cond b4_19 (.int .i64 ((n : Int))) (undef)) : Value) = zz199
   try generalize (cond b4_15 (undef) (.pointer (some ⟨w.heap.size, 3, none⟩)) : Value) = zz200
   try generalize (cond b4_9 (undef) (.bool (decide ((8 : Int) < (n : Int)))) : Value) = zz201
   try generalize (cond b4_9 (undef) (.pointer (some ⟨w.heap.size, 2, none⟩)) : Value) = zz202
   try generalize (cond b4_15 (undef) (cond b4_19 (.slice A n c) (undef)) : Value) = zz203
   try generalize (.bool (b4_9 || (decide ((8 : Int) < (n : Int)))) : Value) = zz204
   try generalize (cond b4_9 (undef) (.int .i64 ((n : Int))) : Value) = zz205
   try generalize (cond b4_15 (undef) (.bool (endsB buf)) : Value) = zz206
   try generalize (cond b4_15 (undef) (.bool (b4_19)) : Value) = zz207
   try generalize (cond b4_15 (undef) (.slice B m d) : Value) = zz208
   try generalize (cond b4_9 (undef) (.slice A n c) : Value) = zz209
   have HW210 := Lib.hid (show Below w1.heap.size w1 wg169 from hS)
   clear hS
   obtain ⟨w311, rfl⟩ : ∃ x, x = wg169 := ⟨_, rfl⟩
   cases f4
   · have HBM := Lib.hid (show recM ⟨ses, next, ahead, buf, room, over⟩ = true ∧ n ≤ 8 from by have h := HEf4.out; simp at h; unfold recM; dsimp only; rw [HLB.out]; have hl := HLA.out; simp; grind)
     obtain ⟨lim, hlim⟩ : ∃ lim, lim = limR ⟨ses, next, ahead, buf, room, over⟩ := ⟨_, rfl⟩
     have HLIM := Lib.hid hlim
     clear hlim
     have HRL := Lib.hid (show rr = (recT ⟨ses, next, ahead, buf, room, over⟩ && aheadB lim next ahead) from by rw [HRR.out, HLIM.out]; unfold recB; rw [HBD.out.2, HBM.out.1]; rfl)
     have hn8 : n ≤ 8 := HBM.out.2
     have x2 := (HB.out.ca HW210.out).cell 2
     go_wp2_with fail
     clear x2
     go_loopg [75] n (fun g a wr => ∃ i : Nat, i + g = n ∧ a = .int .i64 i ∧ aheadB lim next ahead = aheadB lim (pvA next ahead i) (ahead.drop i) ∧ next ≤ pvA next ahead i ∧ Below w1.heap.size w1 wr)
     case atStart => exact ⟨0, by omega, rfl, rfl, Int.le_refl _, HW210.out⟩
     case round =>
      obtain ⟨i, hig, rfl, hri, hpv, bb⟩ := hrel
      have HI := Lib.hid hri
      have HPV := Lib.hid hpv
      have HBW := Lib.hid bb
      clear hri hpv
      by_cases hlt : i < n
      · have hi1 : (i : Int) < (n : Int) := by omega
        obtain ⟨p, ⟨seq, rows, fin, cnt⟩, Bh, kh, dh, rfl, hx, s1⟩ := LH4_at (Lay.rd_below HRA.out bb) hlt
        have e0 := s1.c0
        have e1 := s1.c1
        have e2 := s1.c2
        have e3 := s1.c3
        dsimp only at e0 e1 e2 e3
        have q5 := bl_al (Below.refl wr.heap.size wr) (.cells #[.int .u64 seq, .slice Bh kh dh, .bool fin, .int .u64 cnt] 81)
        have HQ5 := Lib.hid q5
        have hrd := Lay.rd_below s1.rd q5
        have hkk := Nat.le_trans s1.nc s1.cm
        have HF1 := Lib.hid (Blk.new wr 81 #[.int .u64 seq, .slice Bh kh dh, .bool fin, .int .u64 cnt])
        have HB5 := Lib.hid (HB.out.ca (bl_ca bb q5))
        have HBW5 := Lib.hid (bl_ca bb q5)
        have HCB := Lib.hid (fun W (q : Below (wr.alloc (.cells #[.int .u64 seq, .slice Bh kh dh, .bool fin, .int .u64 cnt] 81)).heap.size (wr.alloc (.cells #[.int .u64 seq, .slice Bh kh dh, .bool fin, .int .u64 cnt] 81)) W) => rbatch_any Fr ⟨rows, fin, cnt⟩ Bh kh dh seq W (Lay.rd_below hrd q) hkk)
        have HCL := Lib.hid (fun W => rlimit_any ⟨ses, next, ahead, buf, room, over⟩ (some p) n c B m d W HLB.out HBD.out.1.1 (by have h := HBD.out.1; dsimp only; omega) HBD.out.1.2.2.1 HBD.out.1.2.2.2.2.1)
        rw [← HLIM.out] at HCL
        have HS := Lib.hid (aheadB_at (a := pvA next ahead i) (lim := lim) hx)
        have HX := Lib.hid hx
        have HWL := Lib.hid (show IntKind.i64.wrap ((n : Int) - 1) = (n : Int) - 1 from by simp [IntKind.wrap, IntKind.signed, IntKind.bits]; omega)
        by_cases hz : i = 0
        · skip
          have HPE := Lib.hid (show pvA next ahead i = next from by rw [hz]; rfl)
          have HZ := Lib.hid hz
          clear q5 hrd hx s1 bb hz
          go_upto_region 9 with fail
          clear e0 e1 e2 e3
          generalize wr.alloc (.cells #[.int .u64 seq, .slice Bh kh dh, .bool fin, .int .u64 cnt] 81) = w5 at *
          refine wp_region_ps (S := fun _ _ w' => Below w5.heap.size w5 w') (by kernel_rfl) ?spswg212 ?ppswg212
          case spswg212 =>
           exact (Below.refl w5.heap.size w5).drew
          refine Pz 0 (some 80) (.pointer (some ⟨wr.heap.size, 0, none⟩)) rfl rfl (by exact StepS.pure nP rfl fun _ => rfl) ?_
          try simp only [Act.put, sA, sZ, sS]
          refine Pz 1 (some 81) (.int .u64 (seq)) rfl rfl ?ywg212_214 ?rwg212_214
          case ywg212_214 =>
           refine StepS.read [] (by kernel_rfl) nP (by rfl) (fun L9 m9 w9 hSh hAt hDn hS => ?_)
           have hT : Below _ _ w9 := hS
           have x0 : w9.cell? ⟨wr.heap.size, 0, none⟩ = some (.int .u64 (seq)) := (HF1.out.ca hT).cell 0
           clear hT hS
           go_simp
           try rfl
          try simp only [Act.put, sA, sZ, sS]
          refine Pz 2 (some 82) (.pointer (some ⟨w.heap.size, 1, none⟩)) rfl rfl (by exact StepS.pure nP rfl fun _ => rfl) ?_
          try simp only [Act.put, sA, sZ, sS]
          refine Pz 3 (some 83) (.int .u64 (next)) rfl rfl ?ywg212_216 ?rwg212_216
          case ywg212_216 =>
           refine StepS.read [] (by kernel_rfl) nP (by rfl) (fun L9 m9 w9 hSh hAt hDn hS => ?_)
           have hT : Below _ _ w9 := hS
           have x0 : w9.cell? ⟨w.heap.size, 1, none⟩ = some (.int .u64 (next)) := (HB5.out.ca hT).cell 1
           clear hT hS
           go_simp
           try rfl
          try simp only [Act.put, sA, sZ, sS]
          refine Pz 4 (some 84) (.bool (decide (seq ≤ next))) rfl rfl (by exact StepS.pure nP rfl fun _ => rfl) ?_
          try simp only [Act.put, sA, sZ, sS]
          obtain ⟨b9_5, hb9⟩ : ∃ b : Bool, b = (decide (seq ≤ next)) := ⟨_, rfl⟩
          have HEb9_5 := Lib.hid hb9
          clear hb9
          refine Pz 5 (some 85) (.bool (b9_5)) rfl rfl ?ywg212_218 ?rwg212_218
          case ywg212_218 =>
           refine StepS.pure nP (by rfl) (fun w9 => ?_)
           have e9 : (decide (seq ≤ next)) = b9_5 := by rw [HEb9_5.out]
           rw [← e9]
           clear e9
           first | rfl | (go_simp; done) | (go_simp; rfl)
          try simp only [Act.put, sA, sZ, sS]
          refine Pz 6 (some 86) (cond b9_5 (undef) (.pointer (some ⟨wr.heap.size, 0, none⟩))) rfl rfl (by cases b9_5; (exact StepS.pure nP rfl fun _ => rfl); exact StepS.skip nP rfl) ?_
          try simp only [Act.put, sA, sZ, sS]
          refine Pz 7 (some 87) (cond b9_5 (undef) (.int .u64 (seq))) rfl rfl ?ywg212_220 ?rwg212_220
          case ywg212_220 =>
           cases b9_5
           · skip
             refine StepS.read [] (by kernel_rfl) nP (by rfl) (fun L9 m9 w9 hSh hAt hDn hS => ?_)
             have hT : Below _ _ w9 := hS
             have x0 : w9.cell? ⟨wr.heap.size, 0, none⟩ = some (.int .u64 (seq)) := (HF1.out.ca hT).cell 0
             clear hT hS
             go_simp
             try rfl
           · exact StepS.skip nP (by rfl)
          try simp only [Act.put, sA, sZ, sS]
          refine Pz 8 (some 88) (cond b9_5 (undef) (.agg #[.int .u32 (ses), .int .u64 (next), .slice (some p) n c, .slice B m d, .int .i64 (room), .bool (over)])) rfl rfl ?ywg212_221 ?rwg212_221
          case ywg212_221 =>
           cases b9_5
           · skip
             refine StepS.read [] (by kernel_rfl) nP (by rfl) (fun L9 m9 w9 hSh hAt hDn hS => ?_)
             have hT : Below _ _ w9 := hS
             have x0 : w9.cell? ⟨w.heap.size, 0, none⟩ = some (.int .u32 (ses)) := (HB5.out.ca hT).cell 0
             have x1 : w9.cell? ⟨w.heap.size, 1, none⟩ = some (.int .u64 (next)) := (HB5.out.ca hT).cell 1
             have x2 : w9.cell? ⟨w.heap.size, 2, none⟩ = some (.slice (some p) n c) := (HB5.out.ca hT).cell 2
             have x3 : w9.cell? ⟨w.heap.size, 3, none⟩ = some (.slice B m d) := (HB5.out.ca hT).cell 3
             have x4 : w9.cell? ⟨w.heap.size, 4, none⟩ = some (.int .i64 (room)) := (HB5.out.ca hT).cell 4
             have x5 : w9.cell? ⟨w.heap.size, 5, none⟩ = some (.bool (over)) := (HB5.out.ca hT).cell 5
             clear hT hS
             go_simp
             try rfl
           · exact StepS.skip nP (by rfl)
          try simp only [Act.put, sA, sZ, sS]
          refine Pz 9 (some 89) (cond b9_5 (undef) (.int .u64 (lim))) rfl rfl ?ywg212_222 ?rwg212_222
          case ywg212_222 =>
           cases b9_5
           · skip
             refine StepS.call ?fwg212_222 ?awg212_222 [] (by kernel_rfl) (by rfl) (fun w9 => ?hwg212_222) (fun L9 m9 w9 hSh hAt hDn hS => ?cwg212_222)
             case hwg212_222 => go_simp; refine ⟨?_, ?_⟩ <;> rfl
             case cwg212_222 =>
              have hT : Below _ _ w9 := hS
              refine (HCL.out w9).mono ?_
              rintro e w8 ⟨rfl, q8⟩
              exact ⟨rfl, bl_ca hT q8⟩
           · exact StepS.skip nP (by rfl)
          try simp only [Act.put, sA, sZ, sS]
          refine Pz 10 (some 90) (cond b9_5 (undef) (.bool (decide (lim < seq)))) rfl rfl (by cases b9_5; (exact StepS.pure nP rfl fun _ => rfl); exact StepS.skip nP rfl) ?_
          try simp only [Act.put, sA, sZ, sS]
          refine Pz 11 (some 91) (.bool (b9_5 || (decide (lim < seq)))) rfl rfl ?ywg212_224 ?rwg212_224
          case ywg212_224 =>
           refine StepS.pure nP (by rfl) (fun w9 => ?_)
           cases b9_5 <;> (first | rfl | (go_simp; done) | (go_simp; rfl))
          try simp only [Act.put, sA, sZ, sS]
          obtain ⟨b9_12, hb9⟩ : ∃ b : Bool, b = ((decide (seq ≤ next)) || (decide (lim < seq))) := ⟨_, rfl⟩
          have HEb9_12 := Lib.hid hb9
          clear hb9
          refine Pz 12 (some 92) (.bool (b9_12)) rfl rfl ?ywg212_225 ?rwg212_225
          case ywg212_225 =>
           refine StepS.pure nP (by rfl) (fun w9 => ?_)
           have e9 : (b9_5 || (decide (lim < seq))) = b9_12 := by rw [HEb9_12.out, HEb9_5.out]
           rw [← e9]
           clear e9
           first | rfl | (go_simp; done) | (go_simp; rfl)
          try simp only [Act.put, sA, sZ, sS]
          refine Pz 13 (some 93) (cond b9_12 (undef) (.int .i64 ((i : Int)))) rfl rfl (by cases b9_12; (exact StepS.pure nP rfl fun _ => rfl); exact StepS.skip nP rfl) ?_
          try simp only [Act.put, sA, sZ, sS]
          refine Pz 14 (some 94) (cond b9_12 (undef) (.bool (false))) rfl rfl ?ywg212_227 ?rwg212_227
          case ywg212_227 =>
           cases b9_12
           · skip
             refine StepS.pure nP (by rfl) (fun w9 => ?_)
             go_simp
             exact HZ.out
           · exact StepS.skip nP (by rfl)
          try simp only [Act.put, sA, sZ, sS]
          refine Pz 15 (some 95) (cond b9_12 (undef) (.bool (false))) rfl rfl (by cases b9_12; (exact StepS.pure nP rfl fun _ => rfl); exact StepS.skip nP rfl) ?_
          try simp only [Act.put, sA, sZ, sS]
          refine Pz 16 (some 96) undef rfl rfl (by cases b9_12 <;> exact StepS.skip nP rfl) ?_
          try simp only [Act.put, sA, sZ, sS]
          refine Pz 17 (some 97) undef rfl rfl (by cases b9_12 <;> exact StepS.skip nP rfl) ?_
          try simp only [Act.put, sA, sZ, sS]
          refine Pz 18 (some 98) undef rfl rfl (by cases b9_12 <;> exact StepS.skip nP rfl) ?_
          try simp only [Act.put, sA, sZ, sS]
          refine Pz 19 (some 99) undef rfl rfl (by cases b9_12 <;> exact StepS.skip nP rfl) ?_
          try simp only [Act.put, sA, sZ, sS]
          refine Pz 20 (some 100) undef rfl rfl (by cases b9_12 <;> exact StepS.skip nP rfl) ?_
          try simp only [Act.put, sA, sZ, sS]
          refine Pz 21 (some 101) undef rfl rfl (by cases b9_12 <;> exact StepS.skip nP rfl) ?_
          try simp only [Act.put, sA, sZ, sS]
          refine Pz 22 (some 102) undef rfl rfl (by cases b9_12 <;> exact StepS.skip nP rfl) ?_
          try simp only [Act.put, sA, sZ, sS]
          refine Pz 23 (some 103) undef rfl rfl (by cases b9_12 <;> exact StepS.skip nP rfl) ?_
          try simp only [Act.put, sA, sZ, sS]
          refine Pz 24 (some 104) undef rfl rfl (by cases b9_12 <;> exact StepS.skip nP rfl) ?_
          try simp only [Act.put, sA, sZ, sS]
          refine Pz 25 (some 105) undef rfl rfl (by cases b9_12 <;> exact StepS.skip nP rfl) ?_
          try simp only [Act.put, sA, sZ, sS]
          refine Pz 26 (some 106) (cond b9_12 (undef) (.bool (false))) rfl rfl (by cases b9_12; (exact StepS.pure nP rfl fun _ => rfl); exact StepS.skip nP rfl) ?_
          try simp only [Act.put, sA, sZ, sS]
          refine Pz 27 (some 107) (.bool (b9_12 || false)) rfl rfl ?ywg212_240 ?rwg212_240
          case ywg212_240 =>
           refine StepS.pure nP (by rfl) (fun w9 => ?_)
           cases b9_12 <;> (first | rfl | (go_simp; done) | (go_simp; rfl))
          try simp only [Act.put, sA, sZ, sS]
          obtain ⟨b9_28, hb9⟩ : ∃ b : Bool, b = (((decide (seq ≤ next)) || (decide (lim < seq))) || false) := ⟨_, rfl⟩
          have HEb9_28 := Lib.hid hb9
          clear hb9
          refine Pz 28 (some 108) (.bool (b9_28)) rfl rfl ?ywg212_241 ?rwg212_241
          case ywg212_241 =>
           refine StepS.pure nP (by rfl) (fun w9 => ?_)
           have e9 : (b9_12 || false) = b9_28 := by rw [HEb9_28.out, HEb9_12.out]
           rw [← e9]
           clear e9
           first | rfl | (go_simp; done) | (go_simp; rfl)
          try simp only [Act.put, sA, sZ, sS]
          refine Pz 29 (some 109) (cond b9_28 (undef) (.pointer (some ⟨wr.heap.size, 1, none⟩))) rfl rfl (by cases b9_28; (exact StepS.pure nP rfl fun _ => rfl); exact StepS.skip nP rfl) ?_
          try simp only [Act.put, sA, sZ, sS]
          refine Pz 30 (some 110) (cond b9_28 (undef) (.agg #[.slice Bh kh dh, .bool (fin), .int .u64 (cnt)])) rfl rfl ?ywg212_243 ?rwg212_243
          case ywg212_243 =>
           cases b9_28
           · skip
             refine StepS.read [] (by kernel_rfl) nP (by rfl) (fun L9 m9 w9 hSh hAt hDn hS => ?_)
             have hT : Below _ _ w9 := hS
             have x0 : w9.cell? ⟨wr.heap.size, 1, none⟩ = some (.slice Bh kh dh) := (HF1.out.ca hT).cell 1
             have x1 : w9.cell? ⟨wr.heap.size, 2, none⟩ = some (.bool (fin)) := (HF1.out.ca hT).cell 2
             have x2 : w9.cell? ⟨wr.heap.size, 3, none⟩ = some (.int .u64 (cnt)) := (HF1.out.ca hT).cell 3
             clear hT hS
             go_simp
             try rfl
           · exact StepS.skip nP (by rfl)
          try simp only [Act.put, sA, sZ, sS]
          refine Pz 31 (some 111) (cond b9_28 (undef) (.pointer (some ⟨wr.heap.size, 0, none⟩))) rfl rfl (by cases b9_28; (exact StepS.pure nP rfl fun _ => rfl); exact StepS.skip nP rfl) ?_
          try simp only [Act.put, sA, sZ, sS]
          refine Pz 32 (some 112) (cond b9_28 (undef) (.int .u64 (seq))) rfl rfl ?ywg212_245 ?rwg212_245
          case ywg212_245 =>
           cases b9_28
           · skip
             refine StepS.read [] (by kernel_rfl) nP (by rfl) (fun L9 m9 w9 hSh hAt hDn hS => ?_)
             have hT : Below _ _ w9 := hS
             have x0 : w9.cell? ⟨wr.heap.size, 0, none⟩ = some (.int .u64 (seq)) := (HF1.out.ca hT).cell 0
             clear hT hS
             go_simp
             try rfl
           · exact StepS.skip nP (by rfl)
          try simp only [Act.put, sA, sZ, sS]
          refine Pz 33 (some 113) (cond b9_28 (undef) (.bool (batchB ⟨rows, fin, cnt⟩ seq))) rfl rfl ?ywg212_246 ?rwg212_246
          case ywg212_246 =>
           cases b9_28
           · skip
             refine StepS.call ?fwg212_246 ?awg212_246 [] (by kernel_rfl) (by rfl) (fun w9 => ?hwg212_246) (fun L9 m9 w9 hSh hAt hDn hS => ?cwg212_246)
             case hwg212_246 => go_simp; refine ⟨?_, ?_⟩ <;> rfl
             case cwg212_246 =>
              have hT : Below _ _ w9 := hS
              refine (HCB.out w9 hT).mono ?_
              rintro e w8 ⟨rfl, q8⟩
              exact ⟨rfl, bl_ca hT q8⟩
           · exact StepS.skip nP (by rfl)
          try simp only [Act.put, sA, sZ, sS]
          refine Pz 34 (some 114) (cond b9_28 (undef) (.bool (!(batchB ⟨rows, fin, cnt⟩ seq)))) rfl rfl (by cases b9_28; (exact StepS.pure nP rfl fun _ => rfl); exact StepS.skip nP rfl) ?_
          try simp only [Act.put, sA, sZ, sS]
          refine Pz 35 (some 115) (.bool (b9_28 || (!(batchB ⟨rows, fin, cnt⟩ seq)))) rfl rfl ?ywg212_248 ?rwg212_248
          case ywg212_248 =>
           refine StepS.pure nP (by rfl) (fun w9 => ?_)
           cases b9_28 <;> (first | rfl | (go_simp; done) | (go_simp; rfl))
          try simp only [Act.put, sA, sZ, sS]
          obtain ⟨b9_36, hb9⟩ : ∃ b : Bool, b = ((((decide (seq ≤ next)) || (decide (lim < seq))) || false) || (!(batchB ⟨rows, fin, cnt⟩ seq))) := ⟨_, rfl⟩
          have HEb9_36 := Lib.hid hb9
          clear hb9
          refine Pz 36 (some 116) (.bool (b9_36)) rfl rfl ?ywg212_249 ?rwg212_249
          case ywg212_249 =>
           refine StepS.pure nP (by rfl) (fun w9 => ?_)
           have e9 : (b9_28 || (!(batchB ⟨rows, fin, cnt⟩ seq))) = b9_36 := by rw [HEb9_36.out, HEb9_28.out]
           rw [← e9]
           clear e9
           first | rfl | (go_simp; done) | (go_simp; rfl)
          try simp only [Act.put, sA, sZ, sS]
          refine Pz 37 (some 117) (cond b9_36 (undef) (.pointer (some ⟨wr.heap.size, 1, none⟩))) rfl rfl (by cases b9_36; (exact StepS.pure nP rfl fun _ => rfl); exact StepS.skip nP rfl) ?_
          try simp only [Act.put, sA, sZ, sS]
          refine Pz 38 (some 118) (cond b9_36 (undef) (.pointer (some ⟨wr.heap.size, 2, none⟩))) rfl rfl (by cases b9_36; (exact StepS.pure nP rfl fun _ => rfl); exact StepS.skip nP rfl) ?_
          try simp only [Act.put, sA, sZ, sS]
          refine Pz 39 (some 119) (cond b9_36 (undef) (.bool (fin))) rfl rfl ?ywg212_252 ?rwg212_252
          case ywg212_252 =>
           cases b9_36
           · skip
             refine StepS.read [] (by kernel_rfl) nP (by rfl) (fun L9 m9 w9 hSh hAt hDn hS => ?_)
             have hT : Below _ _ w9 := hS
             have x0 : w9.cell? ⟨wr.heap.size, 2, none⟩ = some (.bool (fin)) := (HF1.out.ca hT).cell 2
             clear hT hS
             go_simp
             try rfl
           · exact StepS.skip nP (by rfl)
          try simp only [Act.put, sA, sZ, sS]
          obtain ⟨b9_40, hb9⟩ : ∃ b : Bool, b = (fin) := ⟨_, rfl⟩
          have HEb9_40 := Lib.hid hb9
          clear hb9
          refine Pz 40 (some 120) (cond b9_36 (undef) (.bool (b9_40))) rfl rfl ?ywg212_253 ?rwg212_253
          case ywg212_253 =>
           cases b9_36
           · skip
             refine StepS.pure nP (by rfl) (fun w9 => ?_)
             have e9 : (fin) = b9_40 := by rw [HEb9_40.out]
             rw [← e9]
             clear e9
             first | rfl | (go_simp; done) | (go_simp; rfl)
           · exact StepS.skip nP (by rfl)
          try simp only [Act.put, sA, sZ, sS]
          refine Pz 41 (some 121) (cond b9_36 (undef) (cond b9_40 (.int .i64 ((i : Int))) (undef))) rfl rfl (by cases b9_36; (cases b9_40; exact StepS.skip nP rfl; exact StepS.pure nP rfl fun _ => rfl); exact StepS.skip nP rfl) ?_
          try simp only [Act.put, sA, sZ, sS]
          refine Pz 42 (some 122) (cond b9_36 (undef) (cond b9_40 (.pointer (some ⟨w.heap.size, 2, none⟩)) (undef))) rfl rfl (by cases b9_36; (cases b9_40; exact StepS.skip nP rfl; exact StepS.pure nP rfl fun _ => rfl); exact StepS.skip nP rfl) ?_
          try simp only [Act.put, sA, sZ, sS]
          refine Pz 43 (some 123) (cond b9_36 (undef) (cond b9_40 (.slice (some p) n c) (undef))) rfl rfl ?ywg212_256 ?rwg212_256
          case ywg212_256 =>
           cases b9_36
           · skip
             cases b9_40
             · exact StepS.skip nP (by rfl)
             · skip
               refine StepS.read [] (by kernel_rfl) nP (by rfl) (fun L9 m9 w9 hSh hAt hDn hS => ?_)
               have hT : Below _ _ w9 := hS
               have x0 : w9.cell? ⟨w.heap.size, 2, none⟩ = some (.slice (some p) n c) := (HB5.out.ca hT).cell 2
               clear hT hS
               go_simp
               try rfl
           · exact StepS.skip nP (by rfl)
          try simp only [Act.put, sA, sZ, sS]
          refine Pz 44 (some 124) (cond b9_36 (undef) (cond b9_40 (.int .i64 ((n : Int))) (undef))) rfl rfl (by cases b9_36; (cases b9_40; exact StepS.skip nP rfl; exact StepS.pure nP rfl fun _ => by first | rfl | (go_simp; done) | (go_simp; rfl)); exact StepS.skip nP rfl) ?_
          try simp only [Act.put, sA, sZ, sS]
          refine Pz 45 (some 125) (cond b9_36 (undef) (cond b9_40 (.int .i64 ((n : Int) - 1)) (undef))) rfl rfl ?ywg212_258 ?rwg212_258
          case ywg212_258 =>
           cases b9_36
           · skip
             cases b9_40
             · exact StepS.skip nP (by rfl)
             · skip
               refine StepS.pure nP (by rfl) (fun w9 => ?_)
               rw [← HWL.out]
               first | rfl | (go_simp; done) | (go_simp; rfl)
           · exact StepS.skip nP (by rfl)
          try simp only [Act.put, sA, sZ, sS]
          refine Pz 46 (some 126) (cond b9_36 (undef) (cond b9_40 (.bool (!decide ((i : Int) = ((n : Int) - 1)))) (undef))) rfl rfl (by cases b9_36; (cases b9_40; exact StepS.skip nP rfl; exact StepS.pure nP rfl fun _ => rfl); exact StepS.skip nP rfl) ?_
          try simp only [Act.put, sA, sZ, sS]
          refine Pz 47 (some 127) (cond b9_36 (undef) (.bool (b9_40 && (!decide ((i : Int) = ((n : Int) - 1)))))) rfl rfl ?ywg212_260 ?rwg212_260
          case ywg212_260 =>
           cases b9_36
           · skip
             refine StepS.pure nP (by rfl) (fun w9 => ?_)
             cases b9_40 <;> (first | rfl | (go_simp; done) | (go_simp; rfl))
           · exact StepS.skip nP (by rfl)
          try simp only [Act.put, sA, sZ, sS]
          obtain ⟨f9, hb9⟩ : ∃ b : Bool, b = (((((decide (seq ≤ next)) || (decide (lim < seq))) || false) || (!(batchB ⟨rows, fin, cnt⟩ seq))) || ((fin) && (!decide ((i : Int) = ((n : Int) - 1))))) := ⟨_, rfl⟩
          have HEf9 := Lib.hid hb9
          clear hb9
          refine Pz 48 (some 128) (.bool (f9)) rfl rfl ?ywg212_261 ?rwg212_261
          case ywg212_261 =>
           refine StepS.pure nP (by rfl) (fun w9 => ?_)
           have e9 : (b9_36 || (b9_40 && (!decide ((i : Int) = ((n : Int) - 1))))) = f9 := by rw [HEf9.out, HEb9_36.out, HEb9_40.out]
           rw [← e9]
           clear e9
           cases b9_36 <;> (first | rfl | (go_simp; done) | (go_simp; rfl))
          try simp only [Act.put, sA, sZ, sS]
          refine Ps.done (by kernel_rfl) (fun wg212 hS => ?_) _
          try generalize (cond b9_5 (undef) (.agg #[.int .u32 (ses), .int .u64 (next), .slice (some p) n c, .slice B m d, .int .i64 (room), .bool (over)]) : Value) = zz262
          try generalize (cond b9_36 (undef) (cond b9_40 (.bool (!decide ((i : Int) = ((n : Int) - 1)))) (undef)) : Value) = zz263
          try generalize (cond b9_36 (undef) (cond b9_40 (.pointer (some ⟨w.heap.size, 2, none⟩)) (undef)) : Value) = zz264
          try generalize (cond b9_36 (undef) (.bool (b9_40 && (!decide ((i : Int) = ((n : Int) - 1))))) : Value) = zz265
          try generalize (cond b9_28 (undef) (.agg #[.slice Bh kh dh, .bool (fin), .int .u64 (cnt)]) : Value) = zz266
          try generalize (cond b9_36 (undef) (cond b9_40 (.int .i64 ((n : Int) - 1)) (undef)) : Value) = zz267
          try generalize (cond b9_36 (undef) (cond b9_40 (.int .i64 ((n : Int))) (undef)) : Value) = zz268
          try generalize (cond b9_36 (undef) (cond b9_40 (.int .i64 ((i : Int))) (undef)) : Value) = zz269
          try generalize (cond b9_36 (undef) (cond b9_40 (.slice (some p) n c) (undef)) : Value) = zz270
          try generalize (cond b9_36 (undef) (.pointer (some ⟨wr.heap.size, 1, none⟩)) : Value) = zz271
          try generalize (cond b9_28 (undef) (.pointer (some ⟨wr.heap.size, 0, none⟩)) : Value) = zz272
          try generalize (cond b9_36 (undef) (.pointer (some ⟨wr.heap.size, 2, none⟩)) : Value) = zz273
          try generalize (cond b9_28 (undef) (.pointer (some ⟨wr.heap.size, 1, none⟩)) : Value) = zz274
          try generalize (cond b9_28 (undef) (.bool (!(batchB ⟨rows, fin, cnt⟩ seq))) : Value) = zz275
          try generalize (cond b9_5 (undef) (.pointer (some ⟨wr.heap.size, 0, none⟩)) : Value) = zz276
          try generalize (cond b9_28 (undef) (.bool (batchB ⟨rows, fin, cnt⟩ seq)) : Value) = zz277
          try generalize (.bool (b9_28 || (!(batchB ⟨rows, fin, cnt⟩ seq))) : Value) = zz278
          try generalize (cond b9_5 (undef) (.bool (decide (lim < seq))) : Value) = zz279
          try generalize (cond b9_12 (undef) (.int .i64 ((i : Int))) : Value) = zz280
          try generalize (.bool (b9_5 || (decide (lim < seq))) : Value) = zz281
          try generalize (cond b9_28 (undef) (.int .u64 (seq)) : Value) = zz282
          try generalize (cond b9_5 (undef) (.int .u64 (seq)) : Value) = zz283
          try generalize (cond b9_5 (undef) (.int .u64 (lim)) : Value) = zz284
          try generalize (cond b9_12 (undef) (.bool (false)) : Value) = zz285
          try generalize (cond b9_36 (undef) (.bool (b9_40)) : Value) = zz286
          try generalize (cond b9_36 (undef) (.bool (fin)) : Value) = zz287
          try generalize (.bool (b9_12 || false) : Value) = zz288
          have HW289 := Lib.hid (show Below w5.heap.size w5 wg212 from hS)
          clear hS
          obtain ⟨w390, rfl⟩ : ∃ x, x = wg212 := ⟨_, rfl⟩
          have HEQ := Lib.hid (show aheadB lim (pvA next ahead i) (ahead.drop i) = (!f9 && aheadB lim seq (ahead.drop (i + 1))) from by rw [HS.out, HEf9.out, HLA.out]; have hp := HPV.out; rw [HPE.out] at hp ⊢; dsimp only; cases aheadB lim seq (ahead.drop (i + 1)) <;> cases batchB ⟨rows, fin, cnt⟩ seq <;> cases fin <;> rw [Bool.eq_iff_iff] <;> simp <;> omega)
          have HQW := Lib.hid (bl_ca HBW5.out HW289.out)
          have HNX := Lib.hid (show pvA next ahead (i + 1) = seq from by show (match ahead[i]? with | some h => h.seq | none => next) = _; rw [HX.out])
          cases f9
          · have HLE := Lib.hid (show next ≤ seq from by have h9 := HEf9.out; simp at h9; omega)
            go_wp2
            go_roundg (gk - 1)
            · exact ⟨i + 1, by omega, by go_num, by rw [HI.out, HEQ.out, HNX.out]; rfl, by rw [HNX.out]; exact HLE.out, HQW.out⟩
            · omega
          · go_wp2
            go_ret
            exact ⟨ret_bool (by rw [HRL.out, HI.out, HEQ.out]; simp), bl_ca HBB.out HQW.out⟩
        · skip
          obtain ⟨k, hk⟩ : ∃ k, i = k + 1 := ⟨i - 1, by omega⟩
          obtain ⟨p2, hp, Bp, kp, dp, e9, hx9, s9⟩ := LH4_at (Lay.rd_below HRA.out bb) (show k < n by omega)
          injection e9 with e9
          subst e9
          have HP0 := Lib.hid (fun W (q : Below (wr.alloc (.cells #[.int .u64 seq, .slice Bh kh dh, .bool fin, .int .u64 cnt] 81)).heap.size (wr.alloc (.cells #[.int .u64 seq, .slice Bh kh dh, .bool fin, .int .u64 cnt] 81)) W) => ((bl_ca q5 q).cell (p := p.add (k * 4)) (cells_block s9.c0)).trans s9.c0)
          have HPE := Lib.hid (show pvA next ahead i = hp.seq from by rw [hk]; show (match ahead[k]? with | some h => h.seq | none => next) = _; rw [hx9])
          have HWK := Lib.hid (show IntKind.i64.wrap ((i : Int) - 1) = (k : Int) from by simp [IntKind.wrap, IntKind.signed, IntKind.bits]; omega)
          have hk1 : (k : Int) < (n : Int) := by omega
          have HZ := Lib.hid (show 0 < i by omega)
          clear hx9 s9 hk
          clear q5 hrd hx s1 bb hz
          go_upto_region 9 with fail
          clear e0 e1 e2 e3
          generalize wr.alloc (.cells #[.int .u64 seq, .slice Bh kh dh, .bool fin, .int .u64 cnt] 81) = w5 at *
          refine wp_region_ps (S := fun _ _ w' => Below w5.heap.size w5 w') (by kernel_rfl) ?spswg291 ?ppswg291
          case spswg291 =>
           exact (Below.refl w5.heap.size w5).drew
          refine Pz 0 (some 80) (.pointer (some ⟨wr.heap.size, 0, none⟩)) rfl rfl (by exact StepS.pure nP rfl fun _ => rfl) ?_
          try simp only [Act.put, sA, sZ, sS]
          refine Pz 1 (some 81) (.int .u64 (seq)) rfl rfl ?ywg291_293 ?rwg291_293
          case ywg291_293 =>
           refine StepS.read [] (by kernel_rfl) nP (by rfl) (fun L9 m9 w9 hSh hAt hDn hS => ?_)
           have hT : Below _ _ w9 := hS
           have x0 : w9.cell? ⟨wr.heap.size, 0, none⟩ = some (.int .u64 (seq)) := (HF1.out.ca hT).cell 0
           clear hT hS
           go_simp
           try rfl
          try simp only [Act.put, sA, sZ, sS]
          refine Pz 2 (some 82) (.pointer (some ⟨w.heap.size, 1, none⟩)) rfl rfl (by exact StepS.pure nP rfl fun _ => rfl) ?_
          try simp only [Act.put, sA, sZ, sS]
          refine Pz 3 (some 83) (.int .u64 (next)) rfl rfl ?ywg291_295 ?rwg291_295
          case ywg291_295 =>
           refine StepS.read [] (by kernel_rfl) nP (by rfl) (fun L9 m9 w9 hSh hAt hDn hS => ?_)
           have hT : Below _ _ w9 := hS
           have x0 : w9.cell? ⟨w.heap.size, 1, none⟩ = some (.int .u64 (next)) := (HB5.out.ca hT).cell 1
           clear hT hS
           go_simp
           try rfl
          try simp only [Act.put, sA, sZ, sS]
          refine Pz 4 (some 84) (.bool (decide (seq ≤ next))) rfl rfl (by exact StepS.pure nP rfl fun _ => rfl) ?_
          try simp only [Act.put, sA, sZ, sS]
          obtain ⟨b9_5, hb9⟩ : ∃ b : Bool, b = (decide (seq ≤ next)) := ⟨_, rfl⟩
          have HEb9_5 := Lib.hid hb9
          clear hb9
          refine Pz 5 (some 85) (.bool (b9_5)) rfl rfl ?ywg291_297 ?rwg291_297
          case ywg291_297 =>
           refine StepS.pure nP (by rfl) (fun w9 => ?_)
           have e9 : (decide (seq ≤ next)) = b9_5 := by rw [HEb9_5.out]
           rw [← e9]
           clear e9
           first | rfl | (go_simp; done) | (go_simp; rfl)
          try simp only [Act.put, sA, sZ, sS]
          refine Pz 6 (some 86) (cond b9_5 (undef) (.pointer (some ⟨wr.heap.size, 0, none⟩))) rfl rfl (by cases b9_5; (exact StepS.pure nP rfl fun _ => rfl); exact StepS.skip nP rfl) ?_
          try simp only [Act.put, sA, sZ, sS]
          refine Pz 7 (some 87) (cond b9_5 (undef) (.int .u64 (seq))) rfl rfl ?ywg291_299 ?rwg291_299
          case ywg291_299 =>
           cases b9_5
           · skip
             refine StepS.read [] (by kernel_rfl) nP (by rfl) (fun L9 m9 w9 hSh hAt hDn hS => ?_)
             have hT : Below _ _ w9 := hS
             have x0 : w9.cell? ⟨wr.heap.size, 0, none⟩ = some (.int .u64 (seq)) := (HF1.out.ca hT).cell 0
             clear hT hS
             go_simp
             try rfl
           · exact StepS.skip nP (by rfl)
          try simp only [Act.put, sA, sZ, sS]
          refine Pz 8 (some 88) (cond b9_5 (undef) (.agg #[.int .u32 (ses), .int .u64 (next), .slice (some p) n c, .slice B m d, .int .i64 (room), .bool (over)])) rfl rfl ?ywg291_300 ?rwg291_300
          case ywg291_300 =>
           cases b9_5
           · skip
             refine StepS.read [] (by kernel_rfl) nP (by rfl) (fun L9 m9 w9 hSh hAt hDn hS => ?_)
             have hT : Below _ _ w9 := hS
             have x0 : w9.cell? ⟨w.heap.size, 0, none⟩ = some (.int .u32 (ses)) := (HB5.out.ca hT).cell 0
             have x1 : w9.cell? ⟨w.heap.size, 1, none⟩ = some (.int .u64 (next)) := (HB5.out.ca hT).cell 1
             have x2 : w9.cell? ⟨w.heap.size, 2, none⟩ = some (.slice (some p) n c) := (HB5.out.ca hT).cell 2
             have x3 : w9.cell? ⟨w.heap.size, 3, none⟩ = some (.slice B m d) := (HB5.out.ca hT).cell 3
             have x4 : w9.cell? ⟨w.heap.size, 4, none⟩ = some (.int .i64 (room)) := (HB5.out.ca hT).cell 4
             have x5 : w9.cell? ⟨w.heap.size, 5, none⟩ = some (.bool (over)) := (HB5.out.ca hT).cell 5
             clear hT hS
             go_simp
             try rfl
           · exact StepS.skip nP (by rfl)
          try simp only [Act.put, sA, sZ, sS]
          refine Pz 9 (some 89) (cond b9_5 (undef) (.int .u64 (lim))) rfl rfl ?ywg291_301 ?rwg291_301
          case ywg291_301 =>
           cases b9_5
           · skip
             refine StepS.call ?fwg291_301 ?awg291_301 [] (by kernel_rfl) (by rfl) (fun w9 => ?hwg291_301) (fun L9 m9 w9 hSh hAt hDn hS => ?cwg291_301)
             case hwg291_301 => go_simp; refine ⟨?_, ?_⟩ <;> rfl
             case cwg291_301 =>
              have hT : Below _ _ w9 := hS
              refine (HCL.out w9).mono ?_
              rintro e w8 ⟨rfl, q8⟩
              exact ⟨rfl, bl_ca hT q8⟩
           · exact StepS.skip nP (by rfl)
          try simp only [Act.put, sA, sZ, sS]
          refine Pz 10 (some 90) (cond b9_5 (undef) (.bool (decide (lim < seq)))) rfl rfl (by cases b9_5; (exact StepS.pure nP rfl fun _ => rfl); exact StepS.skip nP rfl) ?_
          try simp only [Act.put, sA, sZ, sS]
          refine Pz 11 (some 91) (.bool (b9_5 || (decide (lim < seq)))) rfl rfl ?ywg291_303 ?rwg291_303
          case ywg291_303 =>
           refine StepS.pure nP (by rfl) (fun w9 => ?_)
           cases b9_5 <;> (first | rfl | (go_simp; done) | (go_simp; rfl))
          try simp only [Act.put, sA, sZ, sS]
          obtain ⟨b9_12, hb9⟩ : ∃ b : Bool, b = ((decide (seq ≤ next)) || (decide (lim < seq))) := ⟨_, rfl⟩
          have HEb9_12 := Lib.hid hb9
          clear hb9
          refine Pz 12 (some 92) (.bool (b9_12)) rfl rfl ?ywg291_304 ?rwg291_304
          case ywg291_304 =>
           refine StepS.pure nP (by rfl) (fun w9 => ?_)
           have e9 : (b9_5 || (decide (lim < seq))) = b9_12 := by rw [HEb9_12.out, HEb9_5.out]
           rw [← e9]
           clear e9
           first | rfl | (go_simp; done) | (go_simp; rfl)
          try simp only [Act.put, sA, sZ, sS]
          refine Pz 13 (some 93) (cond b9_12 (undef) (.int .i64 ((i : Int)))) rfl rfl (by cases b9_12; (exact StepS.pure nP rfl fun _ => rfl); exact StepS.skip nP rfl) ?_
          try simp only [Act.put, sA, sZ, sS]
          refine Pz 14 (some 94) (cond b9_12 (undef) (.bool (true))) rfl rfl ?ywg291_306 ?rwg291_306
          case ywg291_306 =>
           cases b9_12
           · skip
             refine StepS.pure nP (by rfl) (fun w9 => ?_)
             go_simp
             exact HZ.out
           · exact StepS.skip nP (by rfl)
          try simp only [Act.put, sA, sZ, sS]
          refine Pz 15 (some 95) (cond b9_12 (undef) (.bool (true))) rfl rfl (by cases b9_12; (exact StepS.pure nP rfl fun _ => rfl); exact StepS.skip nP rfl) ?_
          try simp only [Act.put, sA, sZ, sS]
          refine Pz 16 (some 96) (cond b9_12 (undef) (.pointer (some ⟨w.heap.size, 2, none⟩))) rfl rfl (by cases b9_12; (exact StepS.pure nP rfl fun _ => rfl); exact StepS.skip nP rfl) ?_
          try simp only [Act.put, sA, sZ, sS]
          refine Pz 17 (some 97) (cond b9_12 (undef) (.slice (some p) n c)) rfl rfl ?ywg291_309 ?rwg291_309
          case ywg291_309 =>
           cases b9_12
           · skip
             refine StepS.read [] (by kernel_rfl) nP (by rfl) (fun L9 m9 w9 hSh hAt hDn hS => ?_)
             have hT : Below _ _ w9 := hS
             have x0 : w9.cell? ⟨w.heap.size, 2, none⟩ = some (.slice (some p) n c) := (HB5.out.ca hT).cell 2
             clear hT hS
             go_simp
             try rfl
           · exact StepS.skip nP (by rfl)
          try simp only [Act.put, sA, sZ, sS]
          refine Pz 18 (some 98) (cond b9_12 (undef) (.int .i64 ((i : Int)))) rfl rfl (by cases b9_12; (exact StepS.pure nP rfl fun _ => rfl); exact StepS.skip nP rfl) ?_
          try simp only [Act.put, sA, sZ, sS]
          refine Pz 19 (some 99) (cond b9_12 (undef) (.int .i64 ((k : Int)))) rfl rfl ?ywg291_311 ?rwg291_311
          case ywg291_311 =>
           cases b9_12
           · skip
             refine StepS.pure nP (by rfl) (fun w9 => ?_)
             rw [← HWK.out]
             first | rfl | (go_simp; done) | (go_simp; rfl)
           · exact StepS.skip nP (by rfl)
          try simp only [Act.put, sA, sZ, sS]
          refine Pz 20 (some 100) (cond b9_12 (undef) (.pointer (some (p.add (k * 4))))) rfl rfl ?ywg291_312 ?rwg291_312
          case ywg291_312 =>
           cases b9_12
           · skip
             refine StepS.pure nP (by rfl) (fun w9 => ?_)
             have h8 := hk1
             first | rfl | (go_simp; done) | (go_simp; rfl)
           · exact StepS.skip nP (by rfl)
          try simp only [Act.put, sA, sZ, sS]
          refine Pz 21 (some 101) (cond b9_12 (undef) (.pointer (some (p.add (k * 4))))) rfl rfl (by cases b9_12; (exact StepS.pure nP rfl fun _ => rfl); exact StepS.skip nP rfl) ?_
          try simp only [Act.put, sA, sZ, sS]
          refine Pz 22 (some 102) (cond b9_12 (undef) (.int .u64 (hp.seq))) rfl rfl ?ywg291_314 ?rwg291_314
          case ywg291_314 =>
           cases b9_12
           · skip
             refine StepS.read [] (by kernel_rfl) nP (by rfl) (fun L9 m9 w9 hSh hAt hDn hS => ?_)
             have hT : Below _ _ w9 := hS
             have x0 : w9.cell? (p.add (k * 4)) = some (.int .u64 (hp.seq)) := HP0.out _ hT
             clear hT hS
             go_simp
             try rfl
           · exact StepS.skip nP (by rfl)
          try simp only [Act.put, sA, sZ, sS]
          refine Pz 23 (some 103) (cond b9_12 (undef) (.pointer (some ⟨wr.heap.size, 0, none⟩))) rfl rfl (by cases b9_12; (exact StepS.pure nP rfl fun _ => rfl); exact StepS.skip nP rfl) ?_
          try simp only [Act.put, sA, sZ, sS]
          refine Pz 24 (some 104) (cond b9_12 (undef) (.int .u64 (seq))) rfl rfl ?ywg291_316 ?rwg291_316
          case ywg291_316 =>
           cases b9_12
           · skip
             refine StepS.read [] (by kernel_rfl) nP (by rfl) (fun L9 m9 w9 hSh hAt hDn hS => ?_)
             have hT : Below _ _ w9 := hS
             have x0 : w9.cell? ⟨wr.heap.size, 0, none⟩ = some (.int .u64 (seq)) := (HF1.out.ca hT).cell 0
             clear hT hS
             go_simp
             try rfl
           · exact StepS.skip nP (by rfl)
          try simp only [Act.put, sA, sZ, sS]
          refine Pz 25 (some 105) (cond b9_12 (undef) (.bool (decide (seq ≤ hp.seq)))) rfl rfl (by cases b9_12; (exact StepS.pure nP rfl fun _ => rfl); exact StepS.skip nP rfl) ?_
          try simp only [Act.put, sA, sZ, sS]
          refine Pz 26 (some 106) (cond b9_12 (undef) (.bool (decide (seq ≤ hp.seq)))) rfl rfl (by cases b9_12; (exact StepS.pure nP rfl fun _ => rfl); exact StepS.skip nP rfl) ?_
          try simp only [Act.put, sA, sZ, sS]
          refine Pz 27 (some 107) (.bool (b9_12 || (decide (seq ≤ hp.seq)))) rfl rfl ?ywg291_319 ?rwg291_319
          case ywg291_319 =>
           refine StepS.pure nP (by rfl) (fun w9 => ?_)
           cases b9_12 <;> (first | rfl | (go_simp; done) | (go_simp; rfl))
          try simp only [Act.put, sA, sZ, sS]
          obtain ⟨b9_28, hb9⟩ : ∃ b : Bool, b = (((decide (seq ≤ next)) || (decide (lim < seq))) || (decide (seq ≤ hp.seq))) := ⟨_, rfl⟩
          have HEb9_28 := Lib.hid hb9
          clear hb9
          refine Pz 28 (some 108) (.bool (b9_28)) rfl rfl ?ywg291_320 ?rwg291_320
          case ywg291_320 =>
           refine StepS.pure nP (by rfl) (fun w9 => ?_)
           have e9 : (b9_12 || (decide (seq ≤ hp.seq))) = b9_28 := by rw [HEb9_28.out, HEb9_12.out]
           rw [← e9]
           clear e9
           first | rfl | (go_simp; done) | (go_simp; rfl)
          try simp only [Act.put, sA, sZ, sS]
          refine Pz 29 (some 109) (cond b9_28 (undef) (.pointer (some ⟨wr.heap.size, 1, none⟩))) rfl rfl (by cases b9_28; (exact StepS.pure nP rfl fun _ => rfl); exact StepS.skip nP rfl) ?_
          try simp only [Act.put, sA, sZ, sS]
          refine Pz 30 (some 110) (cond b9_28 (undef) (.agg #[.slice Bh kh dh, .bool (fin), .int .u64 (cnt)])) rfl rfl ?ywg291_322 ?rwg291_322
          case ywg291_322 =>
           cases b9_28
           · skip
             refine StepS.read [] (by kernel_rfl) nP (by rfl) (fun L9 m9 w9 hSh hAt hDn hS => ?_)
             have hT : Below _ _ w9 := hS
             have x0 : w9.cell? ⟨wr.heap.size, 1, none⟩ = some (.slice Bh kh dh) := (HF1.out.ca hT).cell 1
             have x1 : w9.cell? ⟨wr.heap.size, 2, none⟩ = some (.bool (fin)) := (HF1.out.ca hT).cell 2
             have x2 : w9.cell? ⟨wr.heap.size, 3, none⟩ = some (.int .u64 (cnt)) := (HF1.out.ca hT).cell 3
             clear hT hS
             go_simp
             try rfl
           · exact StepS.skip nP (by rfl)
          try simp only [Act.put, sA, sZ, sS]
          refine Pz 31 (some 111) (cond b9_28 (undef) (.pointer (some ⟨wr.heap.size, 0, none⟩))) rfl rfl (by cases b9_28; (exact StepS.pure nP rfl fun _ => rfl); exact StepS.skip nP rfl) ?_
          try simp only [Act.put, sA, sZ, sS]
          refine Pz 32 (some 112) (cond b9_28 (undef) (.int .u64 (seq))) rfl rfl ?ywg291_324 ?rwg291_324
          case ywg291_324 =>
           cases b9_28
           · skip
             refine StepS.read [] (by kernel_rfl) nP (by rfl) (fun L9 m9 w9 hSh hAt hDn hS => ?_)
             have hT : Below _ _ w9 := hS
             have x0 : w9.cell? ⟨wr.heap.size, 0, none⟩ = some (.int .u64 (seq)) := (HF1.out.ca hT).cell 0
             clear hT hS
             go_simp
             try rfl
           · exact StepS.skip nP (by rfl)
          try simp only [Act.put, sA, sZ, sS]
          refine Pz 33 (some 113) (cond b9_28 (undef) (.bool (batchB ⟨rows, fin, cnt⟩ seq))) rfl rfl ?ywg291_325 ?rwg291_325
          case ywg291_325 =>
           cases b9_28
           · skip
             refine StepS.call ?fwg291_325 ?awg291_325 [] (by kernel_rfl) (by rfl) (fun w9 => ?hwg291_325) (fun L9 m9 w9 hSh hAt hDn hS => ?cwg291_325)
             case hwg291_325 => go_simp; refine ⟨?_, ?_⟩ <;> rfl
             case cwg291_325 =>
              have hT : Below _ _ w9 := hS
              refine (HCB.out w9 hT).mono ?_
              rintro e w8 ⟨rfl, q8⟩
              exact ⟨rfl, bl_ca hT q8⟩
           · exact StepS.skip nP (by rfl)
          try simp only [Act.put, sA, sZ, sS]
          refine Pz 34 (some 114) (cond b9_28 (undef) (.bool (!(batchB ⟨rows, fin, cnt⟩ seq)))) rfl rfl (by cases b9_28; (exact StepS.pure nP rfl fun _ => rfl); exact StepS.skip nP rfl) ?_
          try simp only [Act.put, sA, sZ, sS]
          refine Pz 35 (some 115) (.bool (b9_28 || (!(batchB ⟨rows, fin, cnt⟩ seq)))) rfl rfl ?ywg291_327 ?rwg291_327
          case ywg291_327 =>
           refine StepS.pure nP (by rfl) (fun w9 => ?_)
           cases b9_28 <;> (first | rfl | (go_simp; done) | (go_simp; rfl))
          try simp only [Act.put, sA, sZ, sS]
          obtain ⟨b9_36, hb9⟩ : ∃ b : Bool, b = ((((decide (seq ≤ next)) || (decide (lim < seq))) || (decide (seq ≤ hp.seq))) || (!(batchB ⟨rows, fin, cnt⟩ seq))) := ⟨_, rfl⟩
          have HEb9_36 := Lib.hid hb9
          clear hb9
          refine Pz 36 (some 116) (.bool (b9_36)) rfl rfl ?ywg291_328 ?rwg291_328
          case ywg291_328 =>
           refine StepS.pure nP (by rfl) (fun w9 => ?_)
           have e9 : (b9_28 || (!(batchB ⟨rows, fin, cnt⟩ seq))) = b9_36 := by rw [HEb9_36.out, HEb9_28.out]
           rw [← e9]
           clear e9
           first | rfl | (go_simp; done) | (go_simp; rfl)
          try simp only [Act.put, sA, sZ, sS]
          refine Pz 37 (some 117) (cond b9_36 (undef) (.pointer (some ⟨wr.heap.size, 1, none⟩))) rfl rfl (by cases b9_36; (exact StepS.pure nP rfl fun _ => rfl); exact StepS.skip nP rfl) ?_
          try simp only [Act.put, sA, sZ, sS]
          refine Pz 38 (some 118) (cond b9_36 (undef) (.pointer (some ⟨wr.heap.size, 2, none⟩))) rfl rfl (by cases b9_36; (exact StepS.pure nP rfl fun _ => rfl); exact StepS.skip nP rfl) ?_
          try simp only [Act.put, sA, sZ, sS]
          refine Pz 39 (some 119) (cond b9_36 (undef) (.bool (fin))) rfl rfl ?ywg291_331 ?rwg291_331
          case ywg291_331 =>
           cases b9_36
           · skip
             refine StepS.read [] (by kernel_rfl) nP (by rfl) (fun L9 m9 w9 hSh hAt hDn hS => ?_)
             have hT : Below _ _ w9 := hS
             have x0 : w9.cell? ⟨wr.heap.size, 2, none⟩ = some (.bool (fin)) := (HF1.out.ca hT).cell 2
             clear hT hS
             go_simp
             try rfl
           · exact StepS.skip nP (by rfl)
          try simp only [Act.put, sA, sZ, sS]
          obtain ⟨b9_40, hb9⟩ : ∃ b : Bool, b = (fin) := ⟨_, rfl⟩
          have HEb9_40 := Lib.hid hb9
          clear hb9
          refine Pz 40 (some 120) (cond b9_36 (undef) (.bool (b9_40))) rfl rfl ?ywg291_332 ?rwg291_332
          case ywg291_332 =>
           cases b9_36
           · skip
             refine StepS.pure nP (by rfl) (fun w9 => ?_)
             have e9 : (fin) = b9_40 := by rw [HEb9_40.out]
             rw [← e9]
             clear e9
             first | rfl | (go_simp; done) | (go_simp; rfl)
           · exact StepS.skip nP (by rfl)
          try simp only [Act.put, sA, sZ, sS]
          refine Pz 41 (some 121) (cond b9_36 (undef) (cond b9_40 (.int .i64 ((i : Int))) (undef))) rfl rfl (by cases b9_36; (cases b9_40; exact StepS.skip nP rfl; exact StepS.pure nP rfl fun _ => rfl); exact StepS.skip nP rfl) ?_
          try simp only [Act.put, sA, sZ, sS]
          refine Pz 42 (some 122) (cond b9_36 (undef) (cond b9_40 (.pointer (some ⟨w.heap.size, 2, none⟩)) (undef))) rfl rfl (by cases b9_36; (cases b9_40; exact StepS.skip nP rfl; exact StepS.pure nP rfl fun _ => rfl); exact StepS.skip nP rfl) ?_
          try simp only [Act.put, sA, sZ, sS]
          refine Pz 43 (some 123) (cond b9_36 (undef) (cond b9_40 (.slice (some p) n c) (undef))) rfl rfl ?ywg291_335 ?rwg291_335
          case ywg291_335 =>
           cases b9_36
           · skip
             cases b9_40
             · exact StepS.skip nP (by rfl)
             · skip
               refine StepS.read [] (by kernel_rfl) nP (by rfl) (fun L9 m9 w9 hSh hAt hDn hS => ?_)
               have hT : Below _ _ w9 := hS
               have x0 : w9.cell? ⟨w.heap.size, 2, none⟩ = some (.slice (some p) n c) := (HB5.out.ca hT).cell 2
               clear hT hS
               go_simp
               try rfl
           · exact StepS.skip nP (by rfl)
          try simp only [Act.put, sA, sZ, sS]
          refine Pz 44 (some 124) (cond b9_36 (undef) (cond b9_40 (.int .i64 ((n : Int))) (undef))) rfl rfl (by cases b9_36; (cases b9_40; exact StepS.skip nP rfl; exact StepS.pure nP rfl fun _ => by first | rfl | (go_simp; done) | (go_simp; rfl)); exact StepS.skip nP rfl) ?_
          try simp only [Act.put, sA, sZ, sS]
          refine Pz 45 (some 125) (cond b9_36 (undef) (cond b9_40 (.int .i64 ((n : Int) - 1)) (undef))) rfl rfl ?ywg291_337 ?rwg291_337
          case ywg291_337 =>
           cases b9_36
           · skip
             cases b9_40
             · exact StepS.skip nP (by rfl)
             · skip
               refine StepS.pure nP (by rfl) (fun w9 => ?_)
               rw [← HWL.out]
               first | rfl | (go_simp; done) | (go_simp; rfl)
           · exact StepS.skip nP (by rfl)
          try simp only [Act.put, sA, sZ, sS]
          refine Pz 46 (some 126) (cond b9_36 (undef) (cond b9_40 (.bool (!decide ((i : Int) = ((n : Int) - 1)))) (undef))) rfl rfl (by cases b9_36; (cases b9_40; exact StepS.skip nP rfl; exact StepS.pure nP rfl fun _ => rfl); exact StepS.skip nP rfl) ?_
          try simp only [Act.put, sA, sZ, sS]
          refine Pz 47 (some 127) (cond b9_36 (undef) (.bool (b9_40 && (!decide ((i : Int) = ((n : Int) - 1)))))) rfl rfl ?ywg291_339 ?rwg291_339
          case ywg291_339 =>
           cases b9_36
           · skip
             refine StepS.pure nP (by rfl) (fun w9 => ?_)
             cases b9_40 <;> (first | rfl | (go_simp; done) | (go_simp; rfl))
           · exact StepS.skip nP (by rfl)
          try simp only [Act.put, sA, sZ, sS]
          obtain ⟨f9, hb9⟩ : ∃ b : Bool, b = (((((decide (seq ≤ next)) || (decide (lim < seq))) || (decide (seq ≤ hp.seq))) || (!(batchB ⟨rows, fin, cnt⟩ seq))) || ((fin) && (!decide ((i : Int) = ((n : Int) - 1))))) := ⟨_, rfl⟩
          have HEf9 := Lib.hid hb9
          clear hb9
          refine Pz 48 (some 128) (.bool (f9)) rfl rfl ?ywg291_340 ?rwg291_340
          case ywg291_340 =>
           refine StepS.pure nP (by rfl) (fun w9 => ?_)
           have e9 : (b9_36 || (b9_40 && (!decide ((i : Int) = ((n : Int) - 1))))) = f9 := by rw [HEf9.out, HEb9_36.out, HEb9_40.out]
           rw [← e9]
           clear e9
           cases b9_36 <;> (first | rfl | (go_simp; done) | (go_simp; rfl))
          try simp only [Act.put, sA, sZ, sS]
          refine Ps.done (by kernel_rfl) (fun wg291 hS => ?_) _
          try generalize (cond b9_5 (undef) (.agg #[.int .u32 (ses), .int .u64 (next), .slice (some p) n c, .slice B m d, .int .i64 (room), .bool (over)]) : Value) = zz341
          try generalize (cond b9_36 (undef) (cond b9_40 (.bool (!decide ((i : Int) = ((n : Int) - 1)))) (undef)) : Value) = zz342
          try generalize (cond b9_36 (undef) (cond b9_40 (.pointer (some ⟨w.heap.size, 2, none⟩)) (undef)) : Value) = zz343
          try generalize (cond b9_36 (undef) (.bool (b9_40 && (!decide ((i : Int) = ((n : Int) - 1))))) : Value) = zz344
          try generalize (cond b9_28 (undef) (.agg #[.slice Bh kh dh, .bool (fin), .int .u64 (cnt)]) : Value) = zz345
          try generalize (cond b9_36 (undef) (cond b9_40 (.int .i64 ((n : Int) - 1)) (undef)) : Value) = zz346
          try generalize (cond b9_36 (undef) (cond b9_40 (.int .i64 ((n : Int))) (undef)) : Value) = zz347
          try generalize (cond b9_36 (undef) (cond b9_40 (.int .i64 ((i : Int))) (undef)) : Value) = zz348
          try generalize (cond b9_36 (undef) (cond b9_40 (.slice (some p) n c) (undef)) : Value) = zz349
          try generalize (cond b9_36 (undef) (.pointer (some ⟨wr.heap.size, 1, none⟩)) : Value) = zz350
          try generalize (cond b9_28 (undef) (.pointer (some ⟨wr.heap.size, 0, none⟩)) : Value) = zz351
          try generalize (cond b9_36 (undef) (.pointer (some ⟨wr.heap.size, 2, none⟩)) : Value) = zz352
          try generalize (cond b9_28 (undef) (.pointer (some ⟨wr.heap.size, 1, none⟩)) : Value) = zz353
          try generalize (cond b9_12 (undef) (.pointer (some ⟨wr.heap.size, 0, none⟩)) : Value) = zz354
          try generalize (cond b9_12 (undef) (.pointer (some ⟨w.heap.size, 2, none⟩)) : Value) = zz355
          try generalize (cond b9_28 (undef) (.bool (!(batchB ⟨rows, fin, cnt⟩ seq))) : Value) = zz356
          try generalize (cond b9_5 (undef) (.pointer (some ⟨wr.heap.size, 0, none⟩)) : Value) = zz357
          try generalize (cond b9_28 (undef) (.bool (batchB ⟨rows, fin, cnt⟩ seq)) : Value) = zz358
          try generalize (cond b9_12 (undef) (.pointer (some (p.add (k * 4)))) : Value) = zz359
          try generalize (cond b9_12 (undef) (.bool (decide (seq ≤ hp.seq))) : Value) = zz360
          try generalize (.bool (b9_28 || (!(batchB ⟨rows, fin, cnt⟩ seq))) : Value) = zz361
          try generalize (cond b9_5 (undef) (.bool (decide (lim < seq))) : Value) = zz362
          try generalize (cond b9_12 (undef) (.int .i64 ((i : Int))) : Value) = zz363
          try generalize (cond b9_12 (undef) (.int .i64 ((k : Int))) : Value) = zz364
          try generalize (.bool (b9_12 || (decide (seq ≤ hp.seq))) : Value) = zz365
          try generalize (cond b9_12 (undef) (.slice (some p) n c) : Value) = zz366
          try generalize (cond b9_12 (undef) (.int .u64 (hp.seq)) : Value) = zz367
          try generalize (.bool (b9_5 || (decide (lim < seq))) : Value) = zz368
          try generalize (cond b9_12 (undef) (.int .u64 (seq)) : Value) = zz369
          try generalize (cond b9_28 (undef) (.int .u64 (seq)) : Value) = zz370
          try generalize (cond b9_5 (undef) (.int .u64 (seq)) : Value) = zz371
          try generalize (cond b9_5 (undef) (.int .u64 (lim)) : Value) = zz372
          try generalize (cond b9_36 (undef) (.bool (b9_40)) : Value) = zz373
          try generalize (cond b9_12 (undef) (.bool (true)) : Value) = zz374
          try generalize (cond b9_36 (undef) (.bool (fin)) : Value) = zz375
          have HW376 := Lib.hid (show Below w5.heap.size w5 wg291 from hS)
          clear hS
          obtain ⟨w477, rfl⟩ : ∃ x, x = wg291 := ⟨_, rfl⟩
          have HEQ := Lib.hid (show aheadB lim (pvA next ahead i) (ahead.drop i) = (!f9 && aheadB lim seq (ahead.drop (i + 1))) from by rw [HS.out, HEf9.out, HLA.out]; have hp := HPV.out; rw [HPE.out] at hp ⊢; dsimp only; cases aheadB lim seq (ahead.drop (i + 1)) <;> cases batchB ⟨rows, fin, cnt⟩ seq <;> cases fin <;> rw [Bool.eq_iff_iff] <;> simp <;> omega)
          have HQW := Lib.hid (bl_ca HBW5.out HW376.out)
          have HNX := Lib.hid (show pvA next ahead (i + 1) = seq from by show (match ahead[i]? with | some h => h.seq | none => next) = _; rw [HX.out])
          cases f9
          · have HLE := Lib.hid (show next ≤ seq from by have h9 := HEf9.out; simp at h9; omega)
            go_wp2
            go_roundg (gk - 1)
            · exact ⟨i + 1, by omega, by go_num, by rw [HI.out, HEQ.out, HNX.out]; rfl, by rw [HNX.out]; exact HLE.out, HQW.out⟩
            · omega
          · go_wp2
            go_ret
            exact ⟨ret_bool (by rw [HRL.out, HI.out, HEQ.out]; simp), bl_ca HBB.out HQW.out⟩
      · obtain rfl : i = n := by omega
        have hi1 : (i : Int) ≤ (i : Int) := by omega
        have HAE := Lib.hid (show aheadB lim next ahead = true from by rw [HI.out, List.drop_of_length_le (by rw [HLA.out]; exact Nat.le_refl _)]; rfl)
        clear bb
        go_upto_region 12 with fail
        refine wp_region_ps0 .text (S := fun _ _ w' => Below w1.heap.size w1 w') (by kernel_rfl) ?spswg378 ?ppswg378
        case spswg378 =>
         exact HBW.out
        refine Pz 0 (some 130) (.pointer (some ⟨w.heap.size, 5, none⟩)) rfl rfl (by exact StepS.pure nP rfl fun _ => rfl) ?_
        try simp only [Act.put, sA, sZ, sS]
        refine Pz 1 (some 131) (.bool (over)) rfl rfl ?ywg378_380 ?rwg378_380
        case ywg378_380 =>
         refine StepS.read [] (by kernel_rfl) nP (by rfl) (fun L9 m9 w9 hSh hAt hDn hS => ?_)
         have hT : Below _ _ w9 := hS
         have x0 : w9.cell? ⟨w.heap.size, 5, none⟩ = some (.bool (over)) := (HB.out.ca hT).cell 5
         clear hT hS
         go_simp
         try rfl
        try simp only [Act.put, sA, sZ, sS]
        refine Pz 2 (some 132) (.bool (!over)) rfl rfl (by exact StepS.pure nP rfl fun _ => rfl) ?_
        try simp only [Act.put, sA, sZ, sS]
        obtain ⟨b12_3, hb9⟩ : ∃ b : Bool, b = (!over) := ⟨_, rfl⟩
        have HEb12_3 := Lib.hid hb9
        clear hb9
        refine Pz 3 (some 133) (.bool (b12_3)) rfl rfl ?ywg378_382 ?rwg378_382
        case ywg378_382 =>
         refine StepS.pure nP (by rfl) (fun w9 => ?_)
         have e9 : (!over) = b12_3 := by rw [HEb12_3.out]
         rw [← e9]
         clear e9
         first | rfl | (go_simp; done) | (go_simp; rfl)
        try simp only [Act.put, sA, sZ, sS]
        refine Pz 4 (some 134) (cond b12_3 (undef) (.int .i64 ((m : Int)))) rfl rfl (by cases b12_3; (exact StepS.pure nP rfl fun _ => rfl); exact StepS.skip nP rfl) ?_
        try simp only [Act.put, sA, sZ, sS]
        refine Pz 5 (some 135) (cond b12_3 (undef) (.bool (decide ((m : Int) = 0)))) rfl rfl (by cases b12_3; (exact StepS.pure nP rfl fun _ => rfl); exact StepS.skip nP rfl) ?_
        try simp only [Act.put, sA, sZ, sS]
        obtain ⟨b12_6, hb9⟩ : ∃ b : Bool, b = (decide ((m : Int) = 0)) := ⟨_, rfl⟩
        have HEb12_6 := Lib.hid hb9
        clear hb9
        refine Pz 6 (some 136) (cond b12_3 (undef) (.bool (b12_6))) rfl rfl ?ywg378_385 ?rwg378_385
        case ywg378_385 =>
         cases b12_3
         · skip
           refine StepS.pure nP (by rfl) (fun w9 => ?_)
           have e9 : (decide ((m : Int) = 0)) = b12_6 := by rw [HEb12_6.out]
           rw [← e9]
           clear e9
           first | rfl | (go_simp; done) | (go_simp; rfl)
         · exact StepS.skip nP (by rfl)
        try simp only [Act.put, sA, sZ, sS]
        refine Pz 7 (some 137) (cond b12_3 (undef) (cond b12_6 (.pointer (some ⟨w.heap.size, 2, none⟩)) (undef))) rfl rfl (by cases b12_3; (cases b12_6; exact StepS.skip nP rfl; exact StepS.pure nP rfl fun _ => rfl); exact StepS.skip nP rfl) ?_
        try simp only [Act.put, sA, sZ, sS]
        refine Pz 8 (some 138) (cond b12_3 (undef) (cond b12_6 (.slice A i c) (undef))) rfl rfl ?ywg378_387 ?rwg378_387
        case ywg378_387 =>
         cases b12_3
         · skip
           cases b12_6
           · exact StepS.skip nP (by rfl)
           · skip
             refine StepS.read [] (by kernel_rfl) nP (by rfl) (fun L9 m9 w9 hSh hAt hDn hS => ?_)
             have hT : Below _ _ w9 := hS
             have x0 : w9.cell? ⟨w.heap.size, 2, none⟩ = some (.slice A i c) := (HB.out.ca hT).cell 2
             clear hT hS
             go_simp
             try rfl
         · exact StepS.skip nP (by rfl)
        try simp only [Act.put, sA, sZ, sS]
        refine Pz 9 (some 139) (cond b12_3 (undef) (cond b12_6 (.int .i64 ((i : Int))) (undef))) rfl rfl (by cases b12_3; (cases b12_6; exact StepS.skip nP rfl; exact StepS.pure nP rfl fun _ => by first | rfl | (go_simp; done) | (go_simp; rfl)); exact StepS.skip nP rfl) ?_
        try simp only [Act.put, sA, sZ, sS]
        refine Pz 10 (some 140) (cond b12_3 (undef) (cond b12_6 (.bool (decide ((i : Int) = 0))) (undef))) rfl rfl (by cases b12_3; (cases b12_6; exact StepS.skip nP rfl; exact StepS.pure nP rfl fun _ => rfl); exact StepS.skip nP rfl) ?_
        try simp only [Act.put, sA, sZ, sS]
        refine Pz 11 (some 141) (cond b12_3 (undef) (.bool (b12_6 && (decide ((i : Int) = 0))))) rfl rfl ?ywg378_390 ?rwg378_390
        case ywg378_390 =>
         cases b12_3
         · skip
           refine StepS.pure nP (by rfl) (fun w9 => ?_)
           cases b12_6 <;> (first | rfl | (go_simp; done) | (go_simp; rfl))
         · exact StepS.skip nP (by rfl)
        try simp only [Act.put, sA, sZ, sS]
        obtain ⟨b12_12, hb9⟩ : ∃ b : Bool, b = ((decide ((m : Int) = 0)) && (decide ((i : Int) = 0))) := ⟨_, rfl⟩
        have HEb12_12 := Lib.hid hb9
        clear hb9
        refine Pz 12 (some 142) (cond b12_3 (undef) (.bool (b12_12))) rfl rfl ?ywg378_391 ?rwg378_391
        case ywg378_391 =>
         cases b12_3
         · skip
           refine StepS.pure nP (by rfl) (fun w9 => ?_)
           have e9 : (b12_6 && (decide ((i : Int) = 0))) = b12_12 := by rw [HEb12_12.out, HEb12_6.out]
           rw [← e9]
           clear e9
           first | rfl | (go_simp; done) | (go_simp; rfl)
         · exact StepS.skip nP (by rfl)
        try simp only [Act.put, sA, sZ, sS]
        refine Pz 13 (some 143) (cond b12_3 (undef) (cond b12_12 (.pointer (some ⟨w.heap.size, 1, none⟩)) (undef))) rfl rfl (by cases b12_3; (cases b12_12; exact StepS.skip nP rfl; exact StepS.pure nP rfl fun _ => rfl); exact StepS.skip nP rfl) ?_
        try simp only [Act.put, sA, sZ, sS]
        refine Pz 14 (some 144) (cond b12_3 (undef) (cond b12_12 (.int .u64 (next)) (undef))) rfl rfl ?ywg378_393 ?rwg378_393
        case ywg378_393 =>
         cases b12_3
         · skip
           cases b12_12
           · exact StepS.skip nP (by rfl)
           · skip
             refine StepS.read [] (by kernel_rfl) nP (by rfl) (fun L9 m9 w9 hSh hAt hDn hS => ?_)
             have hT : Below _ _ w9 := hS
             have x0 : w9.cell? ⟨w.heap.size, 1, none⟩ = some (.int .u64 (next)) := (HB.out.ca hT).cell 1
             clear hT hS
             go_simp
             try rfl
         · exact StepS.skip nP (by rfl)
        try simp only [Act.put, sA, sZ, sS]
        refine Pz 15 (some 145) (cond b12_3 (undef) (cond b12_12 (.bool (decide ((2 : Int) ≤ next))) (undef))) rfl rfl (by cases b12_3; (cases b12_12; exact StepS.skip nP rfl; exact StepS.pure nP rfl fun _ => rfl); exact StepS.skip nP rfl) ?_
        try simp only [Act.put, sA, sZ, sS]
        refine Pz 16 (some 146) (cond b12_3 (undef) (.bool (b12_12 && (decide ((2 : Int) ≤ next))))) rfl rfl ?ywg378_395 ?rwg378_395
        case ywg378_395 =>
         cases b12_3
         · skip
           refine StepS.pure nP (by rfl) (fun w9 => ?_)
           cases b12_12 <;> (first | rfl | (go_simp; done) | (go_simp; rfl))
         · exact StepS.skip nP (by rfl)
        try simp only [Act.put, sA, sZ, sS]
        obtain ⟨f12, hb9⟩ : ∃ b : Bool, b = ((!over) || (((decide ((m : Int) = 0)) && (decide ((i : Int) = 0))) && (decide ((2 : Int) ≤ next)))) := ⟨_, rfl⟩
        have HEf12 := Lib.hid hb9
        clear hb9
        refine Pz 17 (some 147) (.bool (f12)) rfl rfl ?ywg378_396 ?rwg378_396
        case ywg378_396 =>
         refine StepS.pure nP (by rfl) (fun w9 => ?_)
         have e9 : (b12_3 || (b12_12 && (decide ((2 : Int) ≤ next)))) = f12 := by rw [HEf12.out, HEb12_3.out, HEb12_12.out]
         rw [← e9]
         clear e9
         cases b12_3 <;> (first | rfl | (go_simp; done) | (go_simp; rfl))
        try simp only [Act.put, sA, sZ, sS]
        refine Pz 18 (some 2) (.bool (f12)) rfl rfl (by exact StepS.pure nP rfl fun _ => rfl) ?_
        try simp only [Act.put, sA, sZ, sS]
        refine Ps.done (by kernel_rfl) (fun wg378 hS => ?_) _
        try generalize (cond b12_3 (undef) (cond b12_12 (.pointer (some ⟨w.heap.size, 1, none⟩)) (undef)) : Value) = zz398
        try generalize (cond b12_3 (undef) (cond b12_6 (.pointer (some ⟨w.heap.size, 2, none⟩)) (undef)) : Value) = zz399
        try generalize (cond b12_3 (undef) (cond b12_12 (.bool (decide ((2 : Int) ≤ next))) (undef)) : Value) = zz400
        try generalize (cond b12_3 (undef) (cond b12_6 (.bool (decide ((i : Int) = 0))) (undef)) : Value) = zz401
        try generalize (cond b12_3 (undef) (.bool (b12_12 && (decide ((2 : Int) ≤ next)))) : Value) = zz402
        try generalize (cond b12_3 (undef) (cond b12_6 (.int .i64 ((i : Int))) (undef)) : Value) = zz403
        try generalize (cond b12_3 (undef) (.bool (b12_6 && (decide ((i : Int) = 0)))) : Value) = zz404
        try generalize (cond b12_3 (undef) (cond b12_12 (.int .u64 (next)) (undef)) : Value) = zz405
        try generalize (cond b12_3 (undef) (cond b12_6 (.slice A i c) (undef)) : Value) = zz406
        try generalize (cond b12_3 (undef) (.bool (decide ((m : Int) = 0))) : Value) = zz407
        try generalize (cond b12_3 (undef) (.int .i64 ((m : Int))) : Value) = zz408
        try generalize (cond b12_3 (undef) (.bool (b12_12)) : Value) = zz409
        try generalize (cond b12_3 (undef) (.bool (b12_6)) : Value) = zz410
        have HW411 := Lib.hid (show Below w1.heap.size w1 wg378 from hS)
        clear hS
        obtain ⟨w512, rfl⟩ : ∃ x, x = wg378 := ⟨_, rfl⟩
        go_wp2
        go_ret
        exact ⟨ret_bool (by rw [HRR.out, ← HRR.out, HRL.out, HAE.out, HEf12.out]; unfold recT; dsimp only; rw [HLA.out, HLB.out, show decide ((m : Int) = 0) = decide (m = 0) from by rw [Bool.eq_iff_iff]; simp, show decide ((i : Int) = 0) = decide (i = 0) from by rw [Bool.eq_iff_iff]; simp]; simp [Bool.and_assoc]), bl_ca HBB.out HW411.out⟩
   · skip
     go_wp2
     go_ret
     exact ⟨ret_bool (by rw [HRR.out]; have h := HEf4.out; have hb := HBD.out.1; have hl := aheadB_len (lim := limR ⟨ses, next, ahead, buf, room, over⟩) (a := next) (l := ahead); unfold recB recM; dsimp only; rw [HLB.out]; rw [HLA.out] at hl; have hl2 := HLA.out; have hq : limR ⟨ses, next, ahead, buf, room, over⟩ ≤ next + 7 := (by unfold limR; dsimp only; rw [HLB.out]; split <;> omega); simp at h; simp; grind), bl_ca HBB.out HW210.out⟩
 · skip
   go_wp2
   go_ret
   exact ⟨ret_bool (by rw [HRR.out]; have h := HEf1.out; unfold recB recA; dsimp only; rw [HLB.out]; simp at h; simp; grind), bl_ca HBB.out HW167.out⟩
end Go.Proofs.Ytojghgbaiiajfaa
