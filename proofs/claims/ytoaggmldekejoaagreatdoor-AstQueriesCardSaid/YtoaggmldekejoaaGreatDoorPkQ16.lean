/- The program's Check. Conditions: the query reads so, and is no longer than memory is. -/
import Derived.Test.YtoaggmldekejoaaGreatDoorPkQ15
import Derived.BigQuiet
import Derived.Deep.QuietTactic
namespace Go.Proofs.YtoaggmldekejoaaGreatDoor
open Go.RowKit
theorem number_bl (n : Int) (w : World) : Calls Tryz.prog 39 #[.int .i64 n] w fun e w' => e = .returned (.bool (numB n)) ∧ Below w.heap.size w w' :=
 (number_any n w).mono (fun _ _ h => by obtain ⟨h1, rfl⟩ := h; exact ⟨h1, Below.refl _ _⟩)
set_option maxRecDepth 100000 in
set_option maxHeartbeats 16000000 in
theorem check1_any (F : Nat → Prop) (x : QS) (I0 : Option Addr) (i0 j0 : Nat) (J0 : Option Addr) (u0 v0 : Nat) (W0 : Option Addr) (a0 b0 : Nat) (H0 : Option Addr) (e0 f0 : Nat) (G0 : Option Addr) (p0 q0 : Nat) (w : World) (hR : RdS F w x I0 i0 j0 J0 u0 v0 W0 a0 b0 H0 e0 f0 G0 p0 q0) (hSp : QSp x) (hsm : i0 ≤ 1000 ∧ u0 ≤ 1000 ∧ p0 ≤ 1000) (hT : Tab w) :
 Calls Tryz.prog 42 #[.agg (x.cells I0 i0 j0 J0 u0 v0 W0 a0 b0 H0 e0 f0 G0 p0 q0)] w fun e w' => e = .returned (.bool (!selB x)) ∧ Below w.heap.size w w' := by
 have HQ1 := Lib.hid (bl_al (Below.refl w.heap.size w) (.cells (x.cells I0 i0 j0 J0 u0 v0 W0 a0 b0 H0 e0 f0 G0 p0 q0) 76))
 have HB1 := Lib.hid (Blk.new w 76 (x.cells I0 i0 j0 J0 u0 v0 W0 a0 b0 H0 e0 f0 G0 p0 q0))
 have x0 := HB1.out.cell 0
 have x1 := HB1.out.cell 1
 have x2 := HB1.out.cell 2
 have x3 := HB1.out.cell 3
 have x4 := HB1.out.cell 4
 have x5 := HB1.out.cell 5
 have x6 := HB1.out.cell 6
 have x7 := HB1.out.cell 7
 have x8 := HB1.out.cell 8
 have HC := Lib.hid (selects_any F x I0 i0 j0 J0 u0 v0 W0 a0 b0 H0 e0 f0 G0 p0 q0 _ (hR.below HQ1.out) hSp hsm (hT.below HQ1.out))
 clear hR hSp hsm hT
 generalize selB x = z at *
 go_enter Tryz.func42, Tryz.ntmps42
 go_wp2_with fail
 refine HC.out.mono ?_
 rintro e w2 ⟨rfl, q2⟩
 have HQ2 := Lib.hid (bl_ca HQ1.out q2)
 clear q2 HC
 go_wp2
 go_ret
 exact ⟨rfl, HQ2.out⟩
set_option maxRecDepth 100000 in
set_option maxHeartbeats 16000000 in
theorem Check_any (F : Nat → Prop) (q : QC) (A : Option Addr) (n c : Nat) (B : Option Addr) (m d : Nat) (w : World) (hS : LQS.rd w F A n q.sels) (hK : LQK.rd w F B m q.keys) (hp : QCp q) (hn : n ≤ 1000) (hm : m ≤ 1000) (hL : ∀ s ∈ q.sels, s.items.length ≤ 1000 ∧ s.joins.length ≤ 1000 ∧ s.grp.length ≤ 1000) (hT : Tab w) :
 Calls Tryz.prog 18 #[q.val A n c B m d] w fun e w' => e = .returned (.int .i64 (if qryB q then 0 else 180)) ∧ Below w.heap.size w w' := by
 have HQ1 := Lib.hid (bl_al (Below.refl w.heap.size w) (.cells #[.slice A n c, .slice B m d, .int .i64 q.lim] 43))
 have HB1 := Lib.hid (Blk.new w 43 #[.slice A n c, .slice B m d, .int .i64 q.lim])
 have HS1 := Lib.hid (Lay.rd_below hS HQ1.out)
 have HK1 := Lib.hid (Lay.rd_below hK HQ1.out)
 have HT1 := Lib.hid (hT.below HQ1.out)
 have HP := Lib.hid hp
 have HL := Lib.hid hL
 have HLN := Lib.hid (And.intro (Lay.rd_len hS) (Lay.rd_len hK))
 obtain ⟨rr, hrr⟩ : ∃ rr, rr = qryB q := ⟨_, rfl⟩
 rw [← hrr]
 have HRR := Lib.hid hrr
 obtain ⟨nn, hnn⟩ : ∃ nn : Int, nn = if rr then 0 else 180 := ⟨_, rfl⟩
 rw [← hnn]
 have HNN := Lib.hid hnn
 clear hnn
 clear hS hK hp hrr hL hT
 go_enter Tryz.func18, Tryz.ntmps18
 go_upto_region 1 with fail
 generalize w.alloc (.cells #[.slice A n c, .slice B m d, .int .i64 q.lim] 43) = w1 at *
 refine wp_region_ps0 .text (S := fun _ _ w' => Below w1.heap.size w1 w') (by kernel_rfl) ?spswg1 ?ppswg1
 case spswg1 =>
  exact (Below.refl w1.heap.size w1)
 refine Pz 0 (some 6) (.pointer (some ⟨w.heap.size, 0, none⟩)) rfl rfl (by exact StepS.pure nP rfl fun _ => rfl) ?_
 try simp only [Act.put, sA, sZ, sS]
 refine Pz 1 (some 7) (.slice A n c) rfl rfl ?ywg1_3 ?rwg1_3
 case ywg1_3 =>
  refine StepS.read [] (by kernel_rfl) nP (by rfl) (fun L9 m9 w9 hSh hAt hDn hS => ?_)
  have hT : Below _ _ w9 := hS
  have x0 : w9.cell? ⟨w.heap.size, 0, none⟩ = some (.slice A n c) := (HB1.out.ca hT).cell 0
  clear hT hS
  go_simp
  try rfl
 try simp only [Act.put, sA, sZ, sS]
 refine Pz 2 (some 8) (.int .i64 ((n : Int))) rfl rfl (by exact StepS.pure nP rfl fun _ => by first | rfl | (go_simp; done) | (go_simp; rfl)) ?_
 try simp only [Act.put, sA, sZ, sS]
 refine Pz 3 (some 9) (.bool (decide ((0 : Int) < (n : Int)))) rfl rfl (by exact StepS.pure nP rfl fun _ => rfl) ?_
 try simp only [Act.put, sA, sZ, sS]
 obtain ⟨ba1_4, hb9⟩ : ∃ zb : Bool, zb = (decide ((0 : Int) < (n : Int))) := ⟨_, rfl⟩
 have HEba1_4 := Lib.hid hb9
 clear hb9
 refine Pz 4 (some 10) (.bool (ba1_4)) rfl rfl ?ywg1_6 ?rwg1_6
 case ywg1_6 =>
  refine StepS.pure nP (by rfl) (fun w9 => ?_)
  have e9 : (decide ((0 : Int) < (n : Int))) = ba1_4 := by rw [HEba1_4.out]
  rw [← e9]
  clear e9
  first | rfl | (go_simp; done) | (go_simp; rfl)
 try simp only [Act.put, sA, sZ, sS]
 refine Pz 5 (some 11) (cond ba1_4 (.pointer (some ⟨w.heap.size, 0, none⟩)) (undef)) rfl rfl (by cases ba1_4; exact StepS.skip nP rfl; exact StepS.pure nP rfl fun _ => rfl) ?_
 try simp only [Act.put, sA, sZ, sS]
 refine Pz 6 (some 12) (cond ba1_4 (.slice A n c) (undef)) rfl rfl ?ywg1_8 ?rwg1_8
 case ywg1_8 =>
  cases ba1_4
  · exact StepS.skip nP (by rfl)
  · skip
    refine StepS.read [] (by kernel_rfl) nP (by rfl) (fun L9 m9 w9 hSh hAt hDn hS => ?_)
    have hT : Below _ _ w9 := hS
    have x0 : w9.cell? ⟨w.heap.size, 0, none⟩ = some (.slice A n c) := (HB1.out.ca hT).cell 0
    clear hT hS
    go_simp
    try rfl
 try simp only [Act.put, sA, sZ, sS]
 refine Pz 7 (some 13) (cond ba1_4 (.int .i64 ((n : Int))) (undef)) rfl rfl (by cases ba1_4; exact StepS.skip nP rfl; exact StepS.pure nP rfl fun _ => by first | rfl | (go_simp; done) | (go_simp; rfl)) ?_
 try simp only [Act.put, sA, sZ, sS]
 refine Pz 8 (some 14) (cond ba1_4 (.bool (decide ((n : Int) ≤ 3))) (undef)) rfl rfl (by cases ba1_4; exact StepS.skip nP rfl; exact StepS.pure nP rfl fun _ => rfl) ?_
 try simp only [Act.put, sA, sZ, sS]
 refine Pz 9 (some 15) (.bool (ba1_4 && (decide ((n : Int) ≤ 3)))) rfl rfl ?ywg1_11 ?rwg1_11
 case ywg1_11 =>
  refine StepS.pure nP (by rfl) (fun w9 => ?_)
  cases ba1_4 <;> (first | rfl | (go_simp; done) | (go_simp; rfl))
 try simp only [Act.put, sA, sZ, sS]
 obtain ⟨ba1_10, hb9⟩ : ∃ zb : Bool, zb = ((decide ((0 : Int) < (n : Int))) && (decide ((n : Int) ≤ 3))) := ⟨_, rfl⟩
 have HEba1_10 := Lib.hid hb9
 clear hb9
 refine Pz 10 (some 16) (.bool (ba1_10)) rfl rfl ?ywg1_12 ?rwg1_12
 case ywg1_12 =>
  refine StepS.pure nP (by rfl) (fun w9 => ?_)
  have e9 : (ba1_4 && (decide ((n : Int) ≤ 3))) = ba1_10 := by rw [HEba1_10.out, HEba1_4.out]
  rw [← e9]
  clear e9
  first | rfl | (go_simp; done) | (go_simp; rfl)
 try simp only [Act.put, sA, sZ, sS]
 refine Pz 11 (some 17) (cond ba1_10 (.pointer (some ⟨w.heap.size, 1, none⟩)) (undef)) rfl rfl (by cases ba1_10; exact StepS.skip nP rfl; exact StepS.pure nP rfl fun _ => rfl) ?_
 try simp only [Act.put, sA, sZ, sS]
 refine Pz 12 (some 18) (cond ba1_10 (.slice B m d) (undef)) rfl rfl ?ywg1_14 ?rwg1_14
 case ywg1_14 =>
  cases ba1_10
  · exact StepS.skip nP (by rfl)
  · skip
    refine StepS.read [] (by kernel_rfl) nP (by rfl) (fun L9 m9 w9 hSh hAt hDn hS => ?_)
    have hT : Below _ _ w9 := hS
    have x0 : w9.cell? ⟨w.heap.size, 1, none⟩ = some (.slice B m d) := (HB1.out.ca hT).cell 1
    clear hT hS
    go_simp
    try rfl
 try simp only [Act.put, sA, sZ, sS]
 refine Pz 13 (some 19) (cond ba1_10 (.int .i64 ((m : Int))) (undef)) rfl rfl (by cases ba1_10; exact StepS.skip nP rfl; exact StepS.pure nP rfl fun _ => by first | rfl | (go_simp; done) | (go_simp; rfl)) ?_
 try simp only [Act.put, sA, sZ, sS]
 refine Pz 14 (some 20) (cond ba1_10 (.bool (decide ((m : Int) ≤ 3))) (undef)) rfl rfl (by cases ba1_10; exact StepS.skip nP rfl; exact StepS.pure nP rfl fun _ => rfl) ?_
 try simp only [Act.put, sA, sZ, sS]
 refine Pz 15 (some 21) (.bool (ba1_10 && (decide ((m : Int) ≤ 3)))) rfl rfl ?ywg1_17 ?rwg1_17
 case ywg1_17 =>
  refine StepS.pure nP (by rfl) (fun w9 => ?_)
  cases ba1_10 <;> (first | rfl | (go_simp; done) | (go_simp; rfl))
 try simp only [Act.put, sA, sZ, sS]
 obtain ⟨ba1_16, hb9⟩ : ∃ zb : Bool, zb = (((decide ((0 : Int) < (n : Int))) && (decide ((n : Int) ≤ 3))) && (decide ((m : Int) ≤ 3))) := ⟨_, rfl⟩
 have HEba1_16 := Lib.hid hb9
 clear hb9
 refine Pz 16 (some 22) (.bool (ba1_16)) rfl rfl ?ywg1_18 ?rwg1_18
 case ywg1_18 =>
  refine StepS.pure nP (by rfl) (fun w9 => ?_)
  have e9 : (ba1_10 && (decide ((m : Int) ≤ 3))) = ba1_16 := by rw [HEba1_16.out, HEba1_10.out]
  rw [← e9]
  clear e9
  first | rfl | (go_simp; done) | (go_simp; rfl)
 try simp only [Act.put, sA, sZ, sS]
 refine Pz 17 (some 23) (cond ba1_16 (.pointer (some ⟨w.heap.size, 2, none⟩)) (undef)) rfl rfl (by cases ba1_16; exact StepS.skip nP rfl; exact StepS.pure nP rfl fun _ => rfl) ?_
 try simp only [Act.put, sA, sZ, sS]
 refine Pz 18 (some 24) (cond ba1_16 (.int .i64 (q.lim)) (undef)) rfl rfl ?ywg1_20 ?rwg1_20
 case ywg1_20 =>
  cases ba1_16
  · exact StepS.skip nP (by rfl)
  · skip
    refine StepS.read [] (by kernel_rfl) nP (by rfl) (fun L9 m9 w9 hSh hAt hDn hS => ?_)
    have hT : Below _ _ w9 := hS
    have x0 : w9.cell? ⟨w.heap.size, 2, none⟩ = some (.int .i64 (q.lim)) := (HB1.out.ca hT).cell 2
    clear hT hS
    go_simp
    try rfl
 try simp only [Act.put, sA, sZ, sS]
 refine Pz 19 (some 25) (cond ba1_16 (.bool (decide (q.lim = (-1 : Int)))) (undef)) rfl rfl (by cases ba1_16; exact StepS.skip nP rfl; exact StepS.pure nP rfl fun _ => rfl) ?_
 try simp only [Act.put, sA, sZ, sS]
 obtain ⟨ba1_20, hb9⟩ : ∃ zb : Bool, zb = (decide (q.lim = (-1 : Int))) := ⟨_, rfl⟩
 have HEba1_20 := Lib.hid hb9
 clear hb9
 refine Pz 20 (some 26) (cond ba1_16 (.bool (ba1_20)) (undef)) rfl rfl ?ywg1_22 ?rwg1_22
 case ywg1_22 =>
  cases ba1_16
  · exact StepS.skip nP (by rfl)
  · skip
    refine StepS.pure nP (by rfl) (fun w9 => ?_)
    have e9 : (decide (q.lim = (-1 : Int))) = ba1_20 := by rw [HEba1_20.out]
    rw [← e9]
    clear e9
    first | rfl | (go_simp; done) | (go_simp; rfl)
 try simp only [Act.put, sA, sZ, sS]
 refine Pz 21 (some 27) (cond ba1_16 (cond ba1_20 (undef) (.pointer (some ⟨w.heap.size, 2, none⟩))) (undef)) rfl rfl (by cases ba1_16; exact StepS.skip nP rfl; cases ba1_20; (exact StepS.pure nP rfl fun _ => rfl); exact StepS.skip nP rfl) ?_
 try simp only [Act.put, sA, sZ, sS]
 refine Pz 22 (some 28) (cond ba1_16 (cond ba1_20 (undef) (.int .i64 (q.lim))) (undef)) rfl rfl ?ywg1_24 ?rwg1_24
 case ywg1_24 =>
  cases ba1_16
  · exact StepS.skip nP (by rfl)
  · skip
    cases ba1_20
    · skip
      refine StepS.read [] (by kernel_rfl) nP (by rfl) (fun L9 m9 w9 hSh hAt hDn hS => ?_)
      have hT : Below _ _ w9 := hS
      have x0 : w9.cell? ⟨w.heap.size, 2, none⟩ = some (.int .i64 (q.lim)) := (HB1.out.ca hT).cell 2
      clear hT hS
      go_simp
      try rfl
    · exact StepS.skip nP (by rfl)
 try simp only [Act.put, sA, sZ, sS]
 refine Pz 23 (some 29) (cond ba1_16 (cond ba1_20 (undef) (.bool (numB q.lim))) (undef)) rfl rfl ?ywg1_25 ?rwg1_25
 case ywg1_25 =>
  cases ba1_16
  · exact StepS.skip nP (by rfl)
  · skip
    cases ba1_20
    · skip
      refine StepS.call ?fwg1_25 ?awg1_25 [] (by kernel_rfl) (by rfl) (fun w9 => ?hwg1_25) (fun L9 m9 w9 hSh hAt hDn hS => ?cwg1_25)
      case hwg1_25 => go_simp; refine ⟨?_, ?_⟩ <;> rfl
      case cwg1_25 =>
       have hT : Below _ _ w9 := hS
       refine (number_bl q.lim w9).mono ?_
       rintro e w8 ⟨rfl, q8⟩
       exact ⟨rfl, bl_ca hT q8⟩
    · exact StepS.skip nP (by rfl)
 try simp only [Act.put, sA, sZ, sS]
 refine Pz 24 (some 30) (cond ba1_16 (.bool (ba1_20 || (numB q.lim))) (undef)) rfl rfl ?ywg1_26 ?rwg1_26
 case ywg1_26 =>
  cases ba1_16
  · exact StepS.skip nP (by rfl)
  · skip
    refine StepS.pure nP (by rfl) (fun w9 => ?_)
    cases ba1_20 <;> (first | rfl | (go_simp; done) | (go_simp; rfl))
 try simp only [Act.put, sA, sZ, sS]
 obtain ⟨bS, hb9⟩ : ∃ zb : Bool, zb = ((((decide ((0 : Int) < (n : Int))) && (decide ((n : Int) ≤ 3))) && (decide ((m : Int) ≤ 3))) && ((decide (q.lim = (-1 : Int))) || (numB q.lim))) := ⟨_, rfl⟩
 have HEbS := Lib.hid hb9
 clear hb9
 refine Pz 25 (some 31) (.bool (bS)) rfl rfl ?ywg1_27 ?rwg1_27
 case ywg1_27 =>
  refine StepS.pure nP (by rfl) (fun w9 => ?_)
  have e9 : (ba1_16 && (ba1_20 || (numB q.lim))) = bS := by rw [HEbS.out, HEba1_16.out, HEba1_20.out]
  rw [← e9]
  clear e9
  cases ba1_16 <;> (first | rfl | (go_simp; done) | (go_simp; rfl))
 try simp only [Act.put, sA, sZ, sS]
 refine Pz 26 (some 3) (.bool (bS)) rfl rfl (by exact StepS.pure nP rfl fun _ => rfl) ?_
 try simp only [Act.put, sA, sZ, sS]
 refine Ps.done (by kernel_rfl) (fun wg1 hS => ?_) _
 try generalize (cond ba1_16 (cond ba1_20 (undef) (.pointer (some ⟨w.heap.size, 2, none⟩))) (undef) : Value) = zz29
 try generalize (cond ba1_16 (cond ba1_20 (undef) (.bool (numB q.lim))) (undef) : Value) = zz30
 try generalize (cond ba1_16 (cond ba1_20 (undef) (.int .i64 (q.lim))) (undef) : Value) = zz31
 try generalize (cond ba1_16 (.pointer (some ⟨w.heap.size, 2, none⟩)) (undef) : Value) = zz32
 try generalize (cond ba1_10 (.pointer (some ⟨w.heap.size, 1, none⟩)) (undef) : Value) = zz33
 try generalize (cond ba1_4 (.pointer (some ⟨w.heap.size, 0, none⟩)) (undef) : Value) = zz34
 try generalize (cond ba1_16 (.bool (decide (q.lim = (-1 : Int)))) (undef) : Value) = zz35
 try generalize (cond ba1_16 (.bool (ba1_20 || (numB q.lim))) (undef) : Value) = zz36
 try generalize (cond ba1_10 (.bool (decide ((m : Int) ≤ 3))) (undef) : Value) = zz37
 try generalize (cond ba1_4 (.bool (decide ((n : Int) ≤ 3))) (undef) : Value) = zz38
 try generalize (cond ba1_10 (.int .i64 ((m : Int))) (undef) : Value) = zz39
 try generalize (.bool (ba1_10 && (decide ((m : Int) ≤ 3))) : Value) = zz40
 try generalize (cond ba1_4 (.int .i64 ((n : Int))) (undef) : Value) = zz41
 try generalize (.bool (ba1_4 && (decide ((n : Int) ≤ 3))) : Value) = zz42
 try generalize (cond ba1_16 (.int .i64 (q.lim)) (undef) : Value) = zz43
 try generalize (cond ba1_16 (.bool (ba1_20)) (undef) : Value) = zz44
 try generalize (cond ba1_10 (.slice B m d) (undef) : Value) = zz45
 try generalize (cond ba1_4 (.slice A n c) (undef) : Value) = zz46
 try generalize (.bool (decide ((0 : Int) < (n : Int))) : Value) = zA1
 have HQ2 := Lib.hid (show Below w1.heap.size w1 wg1 from hS)
 clear hS
 obtain ⟨w2, rfl⟩ : ∃ x, x = wg1 := ⟨_, rfl⟩
 have HB2 := Lib.hid (HB1.out.ca HQ2.out)
 have HS2 := Lib.hid (Lay.rd_below HS1.out HQ2.out)
 have HK2 := Lib.hid (Lay.rd_below HK1.out HQ2.out)
 have HT2 := Lib.hid (HT1.out.below HQ2.out)
 have HQ02 := Lib.hid (bl_ca HQ1.out HQ2.out)
 clear HB1 HS1 HK1 HQ2 HQ1 HT1
 have yC := HB2.out.cell 1
 go_upto_block 0 with fail
 clear yC
 go_cut [3] (fun ok wx => ∃ b : Bool, ok = .bool b ∧ Hid (b = (bS && q.keys.all keyB)) ∧ Hid (Below w2.heap.size w2 wx))
 case first =>
  go_wp2_with fail
  go_loopg [35, 3] m (fun gk a ok wr => ∃ (i : Nat) (b : Bool), i + gk = m ∧ a = .int .i64 i ∧ ok = .bool b ∧ Hid (b = (bS && (q.keys.take i).all keyB)) ∧ Hid (Below w2.heap.size w2 wr))
  case atStart => exact ⟨0, bS, by omega, rfl, rfl, Lib.hid (by simp), Lib.hid (Below.refl _ _)⟩
  case round =>
   obtain ⟨i, b, hig, rfl, rfl, HBB, HQr⟩ := hrel
   by_cases hlt : i < m
   · have hi1 : (i : Int) < (m : Int) := by omega
     obtain ⟨ad, z, rfl, hax, sp⟩ := LQK_at (Lay.rd_below HK2.out HQr.out) hlt
     have x0 := sp.z0
     have x1 := sp.z1
     have x2 := sp.z2
     have HAX := Lib.hid (all_takeQ (p := keyB) hax)
     have HZM := Lib.hid (List.mem_of_getElem? hax)
     have HTP := Lib.hid (HP.out.2 z HZM.out)
     have HQz := Lib.hid (bl_al (Below.refl wr.heap.size wr) (.cells #[.string z.nm, .int .i64 z.num, .bool z.desc] 79))
     have HZ := Lib.hid (Blk.new wr 79 #[.string z.nm, .int .i64 z.num, .bool z.desc])
     clear sp hax
     go_upto_region 5 with fail
     clear x0 x1 x2
     generalize wr.alloc (.cells #[.string z.nm, .int .i64 z.num, .bool z.desc] 79) = wz at *
     have HQ0 := Lib.hid (bl_ca HQr.out HQz.out)
     have HTz := Lib.hid (HT2.out.below HQ0.out)
     refine wp_region_ps0 .text (S := fun _ _ w' => Below wz.heap.size wz w') (by kernel_rfl) ?spswg47 ?ppswg47
     case spswg47 =>
      exact (Below.refl wz.heap.size wz)
     refine Pz 0 (some 39) (.bool (b)) rfl rfl (by exact StepS.pure nP rfl fun _ => rfl) ?_
     try simp only [Act.put, sA, sZ, sS]
     obtain ⟨bq5_1, hb9⟩ : ∃ zb : Bool, zb = (b) := ⟨_, rfl⟩
     have HEbq5_1 := Lib.hid hb9
     clear hb9
     refine Pz 1 (some 40) (.bool (bq5_1)) rfl rfl ?ywg47_49 ?rwg47_49
     case ywg47_49 =>
      refine StepS.pure nP (by rfl) (fun w9 => ?_)
      have e9 : (b) = bq5_1 := by rw [HEbq5_1.out]
      rw [← e9]
      clear e9
      first | rfl | (go_simp; done) | (go_simp; rfl)
     try simp only [Act.put, sA, sZ, sS]
     refine Pz 2 (some 41) (cond bq5_1 (.pointer (some ⟨wr.heap.size, 0, none⟩)) (undef)) rfl rfl (by cases bq5_1; exact StepS.skip nP rfl; exact StepS.pure nP rfl fun _ => rfl) ?_
     try simp only [Act.put, sA, sZ, sS]
     refine Pz 3 (some 42) (cond bq5_1 (.string z.nm) (undef)) rfl rfl ?ywg47_51 ?rwg47_51
     case ywg47_51 =>
      cases bq5_1
      · exact StepS.skip nP (by rfl)
      · skip
        refine StepS.read [] (by kernel_rfl) nP (by rfl) (fun L9 m9 w9 hSh hAt hDn hS => ?_)
        have hT : Below _ _ w9 := hS
        have x0 : w9.cell? ⟨wr.heap.size, 0, none⟩ = some (.string z.nm) := (HZ.out.ca hT).cell 0
        clear hT hS
        go_simp
        try rfl
     try simp only [Act.put, sA, sZ, sS]
     refine Pz 4 (some 43) (cond bq5_1 (.bool ((z.nm.toList == (⟨#[]⟩ : ByteArray).toList))) (undef)) rfl rfl (by cases bq5_1; exact StepS.skip nP rfl; exact StepS.pure nP rfl fun _ => rfl) ?_
     try simp only [Act.put, sA, sZ, sS]
     obtain ⟨bq5_5, hb9⟩ : ∃ zb : Bool, zb = ((z.nm.toList == (⟨#[]⟩ : ByteArray).toList)) := ⟨_, rfl⟩
     have HEbq5_5 := Lib.hid hb9
     clear hb9
     refine Pz 5 (some 44) (cond bq5_1 (.bool (bq5_5)) (undef)) rfl rfl ?ywg47_53 ?rwg47_53
     case ywg47_53 =>
      cases bq5_1
      · exact StepS.skip nP (by rfl)
      · skip
        refine StepS.pure nP (by rfl) (fun w9 => ?_)
        have e9 : ((z.nm.toList == (⟨#[]⟩ : ByteArray).toList)) = bq5_5 := by rw [HEbq5_5.out]
        rw [← e9]
        clear e9
        first | rfl | (go_simp; done) | (go_simp; rfl)
     try simp only [Act.put, sA, sZ, sS]
     refine Pz 6 (some 45) (cond bq5_1 (cond bq5_5 (.pointer (some ⟨wr.heap.size, 1, none⟩)) (undef)) (undef)) rfl rfl (by cases bq5_1; exact StepS.skip nP rfl; cases bq5_5; exact StepS.skip nP rfl; exact StepS.pure nP rfl fun _ => rfl) ?_
     try simp only [Act.put, sA, sZ, sS]
     refine Pz 7 (some 46) (cond bq5_1 (cond bq5_5 (.int .i64 (z.num)) (undef)) (undef)) rfl rfl ?ywg47_55 ?rwg47_55
     case ywg47_55 =>
      cases bq5_1
      · exact StepS.skip nP (by rfl)
      · skip
        cases bq5_5
        · exact StepS.skip nP (by rfl)
        · skip
          refine StepS.read [] (by kernel_rfl) nP (by rfl) (fun L9 m9 w9 hSh hAt hDn hS => ?_)
          have hT : Below _ _ w9 := hS
          have x0 : w9.cell? ⟨wr.heap.size, 1, none⟩ = some (.int .i64 (z.num)) := (HZ.out.ca hT).cell 1
          clear hT hS
          go_simp
          try rfl
     try simp only [Act.put, sA, sZ, sS]
     refine Pz 8 (some 47) (cond bq5_1 (cond bq5_5 (.bool (numB z.num)) (undef)) (undef)) rfl rfl ?ywg47_56 ?rwg47_56
     case ywg47_56 =>
      cases bq5_1
      · exact StepS.skip nP (by rfl)
      · skip
        cases bq5_5
        · exact StepS.skip nP (by rfl)
        · skip
          refine StepS.call ?fwg47_56 ?awg47_56 [] (by kernel_rfl) (by rfl) (fun w9 => ?hwg47_56) (fun L9 m9 w9 hSh hAt hDn hS => ?cwg47_56)
          case hwg47_56 => go_simp; refine ⟨?_, ?_⟩ <;> rfl
          case cwg47_56 =>
           have hT : Below _ _ w9 := hS
           refine (number_bl z.num w9).mono ?_
           rintro e w8 ⟨rfl, q8⟩
           exact ⟨rfl, bl_ca hT q8⟩
     try simp only [Act.put, sA, sZ, sS]
     refine Pz 9 (some 48) (cond bq5_1 (.bool (bq5_5 && (numB z.num))) (undef)) rfl rfl ?ywg47_57 ?rwg47_57
     case ywg47_57 =>
      cases bq5_1
      · exact StepS.skip nP (by rfl)
      · skip
        refine StepS.pure nP (by rfl) (fun w9 => ?_)
        cases bq5_5 <;> (first | rfl | (go_simp; done) | (go_simp; rfl))
     try simp only [Act.put, sA, sZ, sS]
     obtain ⟨bq5_10, hb9⟩ : ∃ zb : Bool, zb = (((z.nm.toList == (⟨#[]⟩ : ByteArray).toList)) && (numB z.num)) := ⟨_, rfl⟩
     have HEbq5_10 := Lib.hid hb9
     clear hb9
     refine Pz 10 (some 49) (cond bq5_1 (.bool (bq5_10)) (undef)) rfl rfl ?ywg47_58 ?rwg47_58
     case ywg47_58 =>
      cases bq5_1
      · exact StepS.skip nP (by rfl)
      · skip
        refine StepS.pure nP (by rfl) (fun w9 => ?_)
        have e9 : (bq5_5 && (numB z.num)) = bq5_10 := by rw [HEbq5_10.out, HEbq5_5.out]
        rw [← e9]
        clear e9
        first | rfl | (go_simp; done) | (go_simp; rfl)
     try simp only [Act.put, sA, sZ, sS]
     refine Pz 11 (some 50) (cond bq5_1 (cond bq5_10 (undef) (.pointer (some ⟨wr.heap.size, 0, none⟩))) (undef)) rfl rfl (by cases bq5_1; exact StepS.skip nP rfl; cases bq5_10; (exact StepS.pure nP rfl fun _ => rfl); exact StepS.skip nP rfl) ?_
     try simp only [Act.put, sA, sZ, sS]
     refine Pz 12 (some 51) (cond bq5_1 (cond bq5_10 (undef) (.string z.nm)) (undef)) rfl rfl ?ywg47_60 ?rwg47_60
     case ywg47_60 =>
      cases bq5_1
      · exact StepS.skip nP (by rfl)
      · skip
        cases bq5_10
        · skip
          refine StepS.read [] (by kernel_rfl) nP (by rfl) (fun L9 m9 w9 hSh hAt hDn hS => ?_)
          have hT : Below _ _ w9 := hS
          have x0 : w9.cell? ⟨wr.heap.size, 0, none⟩ = some (.string z.nm) := (HZ.out.ca hT).cell 0
          clear hT hS
          go_simp
          try rfl
        · exact StepS.skip nP (by rfl)
     try simp only [Act.put, sA, sZ, sS]
     refine Pz 13 (some 52) (cond bq5_1 (cond bq5_10 (undef) (.bool (nameB z.nm))) (undef)) rfl rfl ?ywg47_61 ?rwg47_61
     case ywg47_61 =>
      cases bq5_1
      · exact StepS.skip nP (by rfl)
      · skip
        cases bq5_10
        · skip
          refine StepS.call ?fwg47_61 ?awg47_61 [] (by kernel_rfl) (by rfl) (fun w9 => ?hwg47_61) (fun L9 m9 w9 hSh hAt hDn hS => ?cwg47_61)
          case hwg47_61 => go_simp; refine ⟨?_, ?_⟩ <;> rfl
          case cwg47_61 =>
           have hT : Below _ _ w9 := hS
           refine (isname_any z.nm w9 (HTz.out.below hT) HTP.out).mono ?_
           rintro e w8 ⟨rfl, q8⟩
           exact ⟨rfl, bl_ca hT q8⟩
        · exact StepS.skip nP (by rfl)
     try simp only [Act.put, sA, sZ, sS]
     obtain ⟨bq5_14, hb9⟩ : ∃ zb : Bool, zb = (nameB z.nm) := ⟨_, rfl⟩
     have HEbq5_14 := Lib.hid hb9
     clear hb9
     refine Pz 14 (some 53) (cond bq5_1 (cond bq5_10 (undef) (.bool (bq5_14))) (undef)) rfl rfl ?ywg47_62 ?rwg47_62
     case ywg47_62 =>
      cases bq5_1
      · exact StepS.skip nP (by rfl)
      · skip
        cases bq5_10
        · skip
          refine StepS.pure nP (by rfl) (fun w9 => ?_)
          have e9 : (nameB z.nm) = bq5_14 := by rw [HEbq5_14.out]
          rw [← e9]
          clear e9
          first | rfl | (go_simp; done) | (go_simp; rfl)
        · exact StepS.skip nP (by rfl)
     try simp only [Act.put, sA, sZ, sS]
     refine Pz 15 (some 54) (cond bq5_1 (cond bq5_10 (undef) (cond bq5_14 (.pointer (some ⟨wr.heap.size, 1, none⟩)) (undef))) (undef)) rfl rfl (by cases bq5_1; exact StepS.skip nP rfl; cases bq5_10; (cases bq5_14; exact StepS.skip nP rfl; exact StepS.pure nP rfl fun _ => rfl); exact StepS.skip nP rfl) ?_
     try simp only [Act.put, sA, sZ, sS]
     refine Pz 16 (some 55) (cond bq5_1 (cond bq5_10 (undef) (cond bq5_14 (.int .i64 (z.num)) (undef))) (undef)) rfl rfl ?ywg47_64 ?rwg47_64
     case ywg47_64 =>
      cases bq5_1
      · exact StepS.skip nP (by rfl)
      · skip
        cases bq5_10
        · skip
          cases bq5_14
          · exact StepS.skip nP (by rfl)
          · skip
            refine StepS.read [] (by kernel_rfl) nP (by rfl) (fun L9 m9 w9 hSh hAt hDn hS => ?_)
            have hT : Below _ _ w9 := hS
            have x0 : w9.cell? ⟨wr.heap.size, 1, none⟩ = some (.int .i64 (z.num)) := (HZ.out.ca hT).cell 1
            clear hT hS
            go_simp
            try rfl
        · exact StepS.skip nP (by rfl)
     try simp only [Act.put, sA, sZ, sS]
     refine Pz 17 (some 56) (cond bq5_1 (cond bq5_10 (undef) (cond bq5_14 (.bool (decide (z.num = 0))) (undef))) (undef)) rfl rfl (by cases bq5_1; exact StepS.skip nP rfl; cases bq5_10; (cases bq5_14; exact StepS.skip nP rfl; exact StepS.pure nP rfl fun _ => rfl); exact StepS.skip nP rfl) ?_
     try simp only [Act.put, sA, sZ, sS]
     refine Pz 18 (some 57) (cond bq5_1 (cond bq5_10 (undef) (.bool (bq5_14 && (decide (z.num = 0))))) (undef)) rfl rfl ?ywg47_66 ?rwg47_66
     case ywg47_66 =>
      cases bq5_1
      · exact StepS.skip nP (by rfl)
      · skip
        cases bq5_10
        · skip
          refine StepS.pure nP (by rfl) (fun w9 => ?_)
          cases bq5_14 <;> (first | rfl | (go_simp; done) | (go_simp; rfl))
        · exact StepS.skip nP (by rfl)
     try simp only [Act.put, sA, sZ, sS]
     refine Pz 19 (some 58) (cond bq5_1 (.bool (bq5_10 || (bq5_14 && (decide (z.num = 0))))) (undef)) rfl rfl ?ywg47_67 ?rwg47_67
     case ywg47_67 =>
      cases bq5_1
      · exact StepS.skip nP (by rfl)
      · skip
        refine StepS.pure nP (by rfl) (fun w9 => ?_)
        cases bq5_10 <;> (first | rfl | (go_simp; done) | (go_simp; rfl))
     try simp only [Act.put, sA, sZ, sS]
     obtain ⟨bF, hb9⟩ : ∃ zb : Bool, zb = ((b) && ((((z.nm.toList == (⟨#[]⟩ : ByteArray).toList)) && (numB z.num)) || ((nameB z.nm) && (decide (z.num = 0))))) := ⟨_, rfl⟩
     have HEbF := Lib.hid hb9
     clear hb9
     refine Pz 20 (some 59) (.bool (bF)) rfl rfl ?ywg47_68 ?rwg47_68
     case ywg47_68 =>
      refine StepS.pure nP (by rfl) (fun w9 => ?_)
      have e9 : (bq5_1 && (bq5_10 || (bq5_14 && (decide (z.num = 0))))) = bF := by rw [HEbF.out, HEbq5_1.out, HEbq5_10.out, HEbq5_14.out]
      rw [← e9]
      clear e9
      cases bq5_1 <;> (first | rfl | (go_simp; done) | (go_simp; rfl))
     try simp only [Act.put, sA, sZ, sS]
     refine Pz 21 (some 3) (.bool (bF)) rfl rfl (by exact StepS.pure nP rfl fun _ => rfl) ?_
     try simp only [Act.put, sA, sZ, sS]
     refine Ps.done (by kernel_rfl) (fun wg47 hS => ?_) _
     try generalize (cond bq5_1 (cond bq5_10 (undef) (cond bq5_14 (.pointer (some ⟨wr.heap.size, 1, none⟩)) (undef))) (undef) : Value) = zz70
     try generalize (cond bq5_1 (cond bq5_10 (undef) (cond bq5_14 (.bool (decide (z.num = 0))) (undef))) (undef) : Value) = zz71
     try generalize (cond bq5_1 (cond bq5_10 (undef) (.pointer (some ⟨wr.heap.size, 0, none⟩))) (undef) : Value) = zz72
     try generalize (cond bq5_1 (cond bq5_10 (undef) (cond bq5_14 (.int .i64 (z.num)) (undef))) (undef) : Value) = zz73
     try generalize (cond bq5_1 (cond bq5_5 (.pointer (some ⟨wr.heap.size, 1, none⟩)) (undef)) (undef) : Value) = zz74
     try generalize (cond bq5_1 (cond bq5_10 (undef) (.bool (bq5_14 && (decide (z.num = 0))))) (undef) : Value) = zz75
     try generalize (cond bq5_1 (.bool ((z.nm.toList == (⟨#[]⟩ : ByteArray).toList))) (undef) : Value) = zz76
     try generalize (cond bq5_1 (.bool (bq5_10 || (bq5_14 && (decide (z.num = 0))))) (undef) : Value) = zz77
     try generalize (cond bq5_1 (cond bq5_10 (undef) (.bool (nameB z.nm))) (undef) : Value) = zz78
     try generalize (cond bq5_1 (cond bq5_5 (.bool (numB z.num)) (undef)) (undef) : Value) = zz79
     try generalize (cond bq5_1 (.pointer (some ⟨wr.heap.size, 0, none⟩)) (undef) : Value) = zz80
     try generalize (cond bq5_1 (cond bq5_5 (.int .i64 (z.num)) (undef)) (undef) : Value) = zz81
     try generalize (cond bq5_1 (cond bq5_10 (undef) (.bool (bq5_14))) (undef) : Value) = zz82
     try generalize (cond bq5_1 (cond bq5_10 (undef) (.string z.nm)) (undef) : Value) = zz83
     try generalize (cond bq5_1 (.bool (bq5_5 && (numB z.num))) (undef) : Value) = zz84
     try generalize (cond bq5_1 (.bool (bq5_10)) (undef) : Value) = zz85
     try generalize (cond bq5_1 (.bool (bq5_5)) (undef) : Value) = zz86
     try generalize (cond bq5_1 (.string z.nm) (undef) : Value) = zz87
     have HQf := Lib.hid (show Below wz.heap.size wz wg47 from hS)
     clear hS
     obtain ⟨wf, rfl⟩ : ∃ x, x = wg47 := ⟨_, rfl⟩
     have HST := Lib.hid (show bF = (bS && (q.keys.take (i + 1)).all keyB) from by
      rw [HAX.out, ← Bool.and_assoc, ← HBB.out]
      have h9 := HEbF.out
      rw [h9]
      unfold keyB
      rw [← empQ]
      rfl)
     go_wp2_with fail
     go_roundg (gk - 1)
     · exact ⟨i + 1, bF, by omega, by go_num, rfl, HST, Lib.hid (bl_ca HQ0.out HQf.out)⟩
     · omega
   · have hi1 : ¬ ((i : Int) < (m : Int)) := by omega
     have hie : i = m := by omega
     have HAe := Lib.hid (show b = (bS && q.keys.all keyB) from by have h9 := HBB.out; rw [List.take_of_length_le (by have := HLN.out.2; omega)] at h9; exact h9)
     clear hie HBB
     go_wp2_with fail
     go_meet
     exact ⟨b, rfl, HAe, HQr⟩
 case rest =>
 obtain ⟨oK, rfl, HoK, HQ3⟩ := hcut
 obtain ⟨w3, rfl⟩ : ∃ x, x = wc := ⟨_, rfl⟩
 have HB3 := Lib.hid (HB2.out.ca HQ3.out)
 have HS3 := Lib.hid (Lay.rd_below HS2.out HQ3.out)
 have HT3 := Lib.hid (HT2.out.below HQ3.out)
 have HQ03 := Lib.hid (bl_ca HQ02.out HQ3.out)
 clear HB2 HS2 HK2 HT2 HQ02 HQ3
 have HFF := Lib.hid (show rr = (oK && q.sels.all selB) from by
  rw [HRR.out, HoK.out, HEbS.out]
  unfold qryB numB
  rw [HLN.out.1, HLN.out.2, show decide ((0 : Int) < (n : Int)) = decide (0 < n) from decide_eq_decide.2 (by omega), show decide ((n : Int) ≤ 3) = decide (n ≤ 3) from decide_eq_decide.2 (by omega), show decide ((m : Int) ≤ 3) = decide (m ≤ 3) from decide_eq_decide.2 (by omega)]
  simp only [Bool.and_assoc])
 cases oK
 · have HRF := Lib.hid (show rr = false from by rw [HFF.out]; rfl)
   go_wp2_with fail
   go_ret
   exact ⟨ret_intQ (by rw [HNN.out, HRF.out]; rfl), HQ03.out⟩
 · have y0 := HB3.out.cell 0
   have HCS := Lib.hid (containsS F A n c q.sels 42 #[] (fun s => !selB s) w3 HS3.out (by omega) (fun s => QSp s ∧ s.items.length ≤ 1000 ∧ s.joins.length ≤ 1000 ∧ s.grp.length ≤ 1000) (fun s hs => ⟨HP.out.1 s hs, HL.out s hs⟩) (Go.Proofs.enters_of Tryz.func42 (by kernel_rfl) rfl)
    (fun s I0 i0 j0 J0 u0 v0 W0 a0 b0 H0 e0 f0 G0 p0 q0 W hW hp hr => check1_any F s I0 i0 j0 J0 u0 v0 W0 a0 b0 H0 e0 f0 G0 p0 q0 W hr hp.1 (by obtain ⟨_, h1, h2, h3⟩ := hp; have h4 := Lay.rd_len hr.1.1; have h5 := Lay.rd_len hr.2.1.1; have h6 := Lay.rd_len hr.2.2.2.2.1; omega) (HT3.out.below hW)))
   have HE := Lib.hid (show (q.sels.any fun s => !selB s) = !rr from by rw [HFF.out, Bool.true_and, List.not_all_eq_any_not])
   generalize (q.sels.any fun s => !selB s) = z at *
   go_wp2_with fail
   refine HCS.out.mono ?_
   rintro e w4 ⟨rfl, q4⟩
   have HQ4 := Lib.hid (bl_ca HQ03.out q4)
   clear q4 HCS
   cases z
   · have HRF := Lib.hid (show rr = true from by have := HE.out; revert this; cases rr <;> decide)
     go_wp2_with fail
     go_ret
     exact ⟨ret_intQ (by rw [HNN.out, HRF.out]; rfl), HQ4.out⟩
   · have HRF := Lib.hid (show rr = false from by have := HE.out; revert this; cases rr <;> decide)
     go_wp2_with fail
     go_ret
     exact ⟨ret_intQ (by rw [HNN.out, HRF.out]; rfl), HQ4.out⟩
end Go.Proofs.YtoaggmldekejoaaGreatDoor
/- When parts of queries are one: slices.Equal of keys and names, slices.EqualFunc of items, joins, selects. Conditions: the slices read so. -/
namespace Go.Proofs.YtoaggmldekejoaaGreatDoor
open Go.RowKit
def eqQK (a b : QK) : Bool := decide (a.nm.toList = b.nm.toList) && (decide (a.num = b.num) && decide (a.desc = b.desc))
theorem eqQK_dec (a b : QK) : eqQK a b = decide (a = b) := by
 obtain ⟨n, k, d⟩ := a
 obtain ⟨n', k', d'⟩ := b
 unfold eqQK
 rw [Bool.eq_iff_iff]
 simp only [Bool.and_eq_true, decide_eq_true_eq, ba_list, QK.mk.injEq]
theorem run_eqQK (a b : QK) : ∀ W, (Op.equalIn 10000 79 (.agg #[.string a.nm, .int .i64 a.num, .bool a.desc]) (.agg #[.string b.nm, .int .i64 b.num, .bool b.desc])).run Tryz.prog W = .ok (decide (a = b)) W := by
 intro W
 rw [← eqQK_dec]
 unfold eqQK
 rw [run_equalIn_agg W 9999 _ _ _ (by kernel_rfl) (by kernel_rfl)]
 go_simp
 by_cases h1 : a.nm.toList = b.nm.toList <;> by_cases h2 : a.num = b.num <;> by_cases h3 : a.desc = b.desc <;> simp [h1, h2, h3]
def eqQN (a b : QN) : Bool := decide (a.tb.toList = b.tb.toList) && decide (a.nm.toList = b.nm.toList)
theorem eqQN_dec (a b : QN) : eqQN a b = decide (a = b) := by
 obtain ⟨n, k⟩ := a
 obtain ⟨n', k'⟩ := b
 unfold eqQN
 rw [Bool.eq_iff_iff]
 simp only [Bool.and_eq_true, decide_eq_true_eq, ba_list, QN.mk.injEq]
theorem run_eqQN (a b : QN) : ∀ W, (Op.equalIn 10000 88 (.agg #[.string a.tb, .string a.nm]) (.agg #[.string b.tb, .string b.nm])).run Tryz.prog W = .ok (decide (a = b)) W := by
 intro W
 rw [← eqQN_dec]
 unfold eqQN
 rw [run_equalIn_agg W 9999 _ _ _ (by kernel_rfl) (by kernel_rfl)]
 go_simp
 by_cases h1 : a.tb.toList = b.tb.toList <;> by_cases h2 : a.nm.toList = b.nm.toList <;> simp [h1, h2]
set_option maxRecDepth 100000 in
set_option maxHeartbeats 8000000 in
theorem equalQK (F G : Nat → Prop) (A B : Option Addr) (m c n d : Nat) (xs ys : List QK) (w : World) (hx : LQK.rd w F A m xs) (hy : LQK.rd w G B n ys) (hm : m ≤ 9223372036854775807) :
 Calls Tryz.prog 46 #[.slice A m c, .slice B n d] w fun e w' => e = .returned (.bool (decide (xs = ys))) ∧ Below w.heap.size w w' := by
 have hxl := Lay.rd_len hx
 have hyl := Lay.rd_len hy
 by_cases hmn : m = n
 · subst hmn
   obtain ⟨r, hr⟩ : ∃ r, r = decide (xs = ys) := ⟨_, rfl⟩
   rw [← hr]
   have HR := Lib.hid hr
   have HXL := Lib.hid hxl
   have HYL := Lib.hid hyl
   skip
   clear hr hxl hyl
   go_enter Tryz.func46, Tryz.ntmps46
   go_wp2_with fail
   go_loopg [13] m (fun g s wr => ∃ i : Nat, i + g ≤ m ∧ m ≤ i + g ∧ s = .int .i64 i ∧ xs.take i = ys.take i ∧ Below w.heap.size w wr)
   case atStart => exact ⟨0, by omega, by omega, rfl, rfl, Below.refl _ _⟩
   case round =>
    obtain ⟨i, hi1, hi2, rfl, hp, bb⟩ := hrel
    have HBB := Lib.hid bb
    have HP := Lib.hid hp
    clear hp
    by_cases hi : i < m
    · have hil : (i : Int) < (m : Int) := by omega
      obtain ⟨p1, v, rfl, hv, s1⟩ := LQK_at (Lay.rd_below hx bb) hi
      obtain ⟨p2, u, rfl, hu, s2⟩ := LQK_at (Lay.rd_below hy bb) hi
      have e0 := s1.z0
      have e1 := s1.z1
      have e2 := s1.z2
      have f0 := s2.z0
      have f1 := s2.z1
      have f2 := s2.z2
      clear s1 s2
      have HVI := Lib.hid hv
      have HUI := Lib.hid hu
      clear hv hu hx hy bb
      by_cases hvu : v = u
      · have HP2 := Lib.hid (show xs.take (i + 1) = ys.take (i + 1) from by rw [List.take_add_one, List.take_add_one, HP.out, HVI.out, HUI.out, hvu])
        have HVU := Lib.hid hvu
        clear hvu
        have HQ : ∀ W, (Op.equalIn 10000 79 (.agg #[.string v.nm, .int .i64 v.num, .bool v.desc]) (.agg #[.string u.nm, .int .i64 u.num, .bool u.desc])).run Tryz.prog W = .ok true W := fun W => by rw [run_eqQK, show decide (v = u) = true from decide_eq_true HVU.out]
        go_wp2_with fail
        go_quiet (fail)
        go_wp2
        go_roundg (gk - 1)
        · exact ⟨i + 1, by omega, by omega, by go_num, HP2.out, bl_dr HBB.out _⟩
        · omega
      · have HF := Lib.hid (show r = false from by
         rw [HR.out]
         refine decide_eq_false fun e => hvu ?_
         have h1 := HVI.out
         rw [e, HUI.out] at h1
         injection h1 with h1
         exact h1.symm)
        have HVU := Lib.hid hvu
        clear hvu
        have HQ : ∀ W, (Op.equalIn 10000 79 (.agg #[.string v.nm, .int .i64 v.num, .bool v.desc]) (.agg #[.string u.nm, .int .i64 u.num, .bool u.desc])).run Tryz.prog W = .ok false W := fun W => by rw [run_eqQK, show decide (v = u) = false from decide_eq_false HVU.out]
        go_wp2_with fail
        go_quiet (fail)
        go_wp2
        go_ret
        exact ⟨ret_bool (by rw [HF.out]), bl_dr HBB.out _⟩
    · obtain rfl : i = m := by omega
      have hil : (i : Int) ≤ (i : Int) := by omega
      have HT := Lib.hid (show r = true from by
       have hp := HP.out
       rw [List.take_of_length_le (by rw [HXL.out]; omega), List.take_of_length_le (by rw [HYL.out]; omega)] at hp
       rw [HR.out]
       exact decide_eq_true hp)
      clear hx hy bb
      go_wp2
      go_ret
      exact ⟨ret_bool (by rw [HT.out]), HBB.out⟩
 · have e : decide (xs = ys) = false := decide_eq_false fun e => hmn (by rw [← hxl, ← hyl, e])
   rw [e]
   clear e hx hy hxl hyl
   go_enter Tryz.func46, Tryz.ntmps46
   go_wp2
   go_ret
   exact ⟨rfl, Below.refl _ _⟩
set_option maxRecDepth 100000 in
set_option maxHeartbeats 8000000 in
theorem equalQN (F G : Nat → Prop) (A B : Option Addr) (m c n d : Nat) (xs ys : List QN) (w : World) (hx : LQN.rd w F A m xs) (hy : LQN.rd w G B n ys) (hm : m ≤ 9223372036854775807) :
 Calls Tryz.prog 49 #[.slice A m c, .slice B n d] w fun e w' => e = .returned (.bool (decide (xs = ys))) ∧ Below w.heap.size w w' := by
 have hxl := Lay.rd_len hx
 have hyl := Lay.rd_len hy
 by_cases hmn : m = n
 · subst hmn
   obtain ⟨r, hr⟩ : ∃ r, r = decide (xs = ys) := ⟨_, rfl⟩
   rw [← hr]
   have HR := Lib.hid hr
   have HXL := Lib.hid hxl
   have HYL := Lib.hid hyl
   skip
   clear hr hxl hyl
   go_enter Tryz.func49, Tryz.ntmps49
   go_wp2_with fail
   go_loopg [13] m (fun g s wr => ∃ i : Nat, i + g ≤ m ∧ m ≤ i + g ∧ s = .int .i64 i ∧ xs.take i = ys.take i ∧ Below w.heap.size w wr)
   case atStart => exact ⟨0, by omega, by omega, rfl, rfl, Below.refl _ _⟩
   case round =>
    obtain ⟨i, hi1, hi2, rfl, hp, bb⟩ := hrel
    have HBB := Lib.hid bb
    have HP := Lib.hid hp
    clear hp
    by_cases hi : i < m
    · have hil : (i : Int) < (m : Int) := by omega
      obtain ⟨p1, v, rfl, hv, s1⟩ := LQN_at (Lay.rd_below hx bb) hi
      obtain ⟨p2, u, rfl, hu, s2⟩ := LQN_at (Lay.rd_below hy bb) hi
      have e0 := s1.z0
      have e1 := s1.z1
      have f0 := s2.z0
      have f1 := s2.z1
      clear s1 s2
      have HVI := Lib.hid hv
      have HUI := Lib.hid hu
      clear hv hu hx hy bb
      by_cases hvu : v = u
      · have HP2 := Lib.hid (show xs.take (i + 1) = ys.take (i + 1) from by rw [List.take_add_one, List.take_add_one, HP.out, HVI.out, HUI.out, hvu])
        have HVU := Lib.hid hvu
        clear hvu
        have HQ : ∀ W, (Op.equalIn 10000 88 (.agg #[.string v.tb, .string v.nm]) (.agg #[.string u.tb, .string u.nm])).run Tryz.prog W = .ok true W := fun W => by rw [run_eqQN, show decide (v = u) = true from decide_eq_true HVU.out]
        go_wp2_with fail
        go_quiet (fail)
        go_wp2
        go_roundg (gk - 1)
        · exact ⟨i + 1, by omega, by omega, by go_num, HP2.out, bl_dr HBB.out _⟩
        · omega
      · have HF := Lib.hid (show r = false from by
         rw [HR.out]
         refine decide_eq_false fun e => hvu ?_
         have h1 := HVI.out
         rw [e, HUI.out] at h1
         injection h1 with h1
         exact h1.symm)
        have HVU := Lib.hid hvu
        clear hvu
        have HQ : ∀ W, (Op.equalIn 10000 88 (.agg #[.string v.tb, .string v.nm]) (.agg #[.string u.tb, .string u.nm])).run Tryz.prog W = .ok false W := fun W => by rw [run_eqQN, show decide (v = u) = false from decide_eq_false HVU.out]
        go_wp2_with fail
        go_quiet (fail)
        go_wp2
        go_ret
        exact ⟨ret_bool (by rw [HF.out]), bl_dr HBB.out _⟩
    · obtain rfl : i = m := by omega
      have hil : (i : Int) ≤ (i : Int) := by omega
      have HT := Lib.hid (show r = true from by
       have hp := HP.out
       rw [List.take_of_length_le (by rw [HXL.out]; omega), List.take_of_length_le (by rw [HYL.out]; omega)] at hp
       rw [HR.out]
       exact decide_eq_true hp)
      clear hx hy bb
      go_wp2
      go_ret
      exact ⟨ret_bool (by rw [HT.out]), HBB.out⟩
 · have e : decide (xs = ys) = false := decide_eq_false fun e => hmn (by rw [← hxl, ← hyl, e])
   rw [e]
   clear e hx hy hxl hyl
   go_enter Tryz.func49, Tryz.ntmps49
   go_wp2
   go_ret
   exact ⟨rfl, Below.refl _ _⟩
set_option maxRecDepth 100000 in
set_option maxHeartbeats 8000000 in
theorem eqfQI (F G : Nat → Prop) (xs ys : List QI) (A : Option Addr) (m c : Nat) (B : Option Addr) (n d : Nat) (D : FuncId) (cap : Array Value) (w : World) (h : LQI.rd w F A m xs) (k : LQI.rd w G B n ys) (hm : m ≤ 9223372036854775807)
 (hent : ∀ (args : Array Value) (w : World), (callFunc D args).run Tryz.prog w = .ok (.enter D args) w)
 (hD : ∀ (x y : QI) (A0 : Option Addr) (n0 : Nat) (c0 : Nat) (A02 : Option Addr) (n02 : Nat) (c02 : Nat) (W : World), Below w.heap.size w W → (LN.rd W F A0 n0 x.t ∧ n0 ≤ 9223372036854775807) → (LN.rd W G A02 n02 y.t ∧ n02 ≤ 9223372036854775807) → Calls Tryz.prog D (#[.agg (x.cells A0 n0 c0), .agg (y.cells A02 n02 c02)] ++ cap) W fun e w' => e = .returned (.bool (decide (x = y))) ∧ Below W.heap.size W w') :
 Calls Tryz.prog 50 #[.slice A m c, .slice B n d, .func (.func D) #[] cap] w fun e w' => e = .returned (.bool (decide (xs = ys))) ∧ Below w.heap.size w w' := by
 have HL := Lib.hid (And.intro (Lay.rd_len h) (Lay.rd_len k))
 have HR := Lib.hid (show decide (xs = ys) = true ↔ xs = ys from decide_eq_true_iff)
 generalize decide (xs = ys) = r at *
 have HNO := Lib.hid (show ¬ xs = ys → r = false from fun h => by cases r; rfl; exact absurd (HR.out.1 rfl) h)
 have HEN := hent
 have HD := Lib.hid hD
 clear hent hD
 go_enter Tryz.func50, Tryz.ntmps50
 by_cases c4 : m = n
 case neg =>
  have e2 : ((m : Int) == (n : Int)) = false := by simp; omega
  have e3 : (m == n) = false := by simpa using c4
  have HQ := Lib.hid (HNO.out (fun h => c4 (by rw [← HL.out.1, ← HL.out.2, h])))
  clear c4
  go_wp2
  go_ret
  exact ⟨ret_bool HQ.out.symm, Below.refl _ _⟩
 subst c4
 go_wp2_with fail
 go_loopg [17] m (fun g a wr => ∃ i : Nat, i + g = m ∧ a = .int .i64 i ∧ (∀ (k : Nat) (x y : QI), k < i → xs[k]? = some x → ys[k]? = some y → x = y) ∧ Below w.heap.size w wr)
 case atStart => exact ⟨0, by omega, rfl, fun k x y hk => by omega, Below.refl _ _⟩
 case round =>
  obtain ⟨i, hig, rfl, heq, b1⟩ := hrel
  have HEQ := Lib.hid heq
  have HB1 := Lib.hid b1
  clear heq
  by_cases hlt : i < m
  · have hi1 : (i : Int) < (m : Int) := by omega
    obtain ⟨p, x, A0, n0, c0, rfl, hx, s1⟩ := LQI_at (Lay.rd_below h b1) hlt
    have q1 := bl_al (Below.refl wr.heap.size wr) (.cells (x.cells A0 n0 c0) 82)
    have hb := Blk.new wr 82 (x.cells A0 n0 c0)
    obtain ⟨p2, y, A02, n02, c02, rfl, hy, s2⟩ := LQI_at (Lay.rd_below (Lay.rd_below k b1) q1) hlt
    have HXI := Lib.hid hx
    have HYI := Lib.hid hy
    have HRX := Lib.hid (show (LN.rd wr F A0 n0 x.t ∧ n0 ≤ 9223372036854775807) from ⟨s1.r0, by have := s1.k0; omega⟩)
    have e0 := s1.z0
    have e1 := s1.z1
    have HQ1 := Lib.hid q1
    have HBX := Lib.hid hb
    have HS2 := Lib.hid s2
    clear hx hy s1 s2 q1 hb b1
    go_upto_region 6 with fail
    clear e0 e1
    generalize wr.alloc (.cells (x.cells A0 n0 c0) 82) = w1 at *
    have s2 := HS2.out
    have HRY := Lib.hid (show (LN.rd w1 G A02 n02 y.t ∧ n02 ≤ 9223372036854775807) from ⟨s2.r0, by have := s2.k0; omega⟩)
    have f0 := s2.z0
    have f1 := s2.z1
    have q2 := bl_al (Below.refl w1.heap.size w1) (.cells (y.cells A02 n02 c02) 82)
    have HY := Lib.hid (Blk.new w1 82 (y.cells A02 n02 c02))
    have HX := Lib.hid (HBX.out.ca q2)
    have HQ2 := Lib.hid q2
    clear s2 HS2 q2
    go_upto_region 7 with fail
    clear f0 f1
    generalize w1.alloc (.cells (y.cells A02 n02 c02) 82) = w2 at *
    have q1x := HQ1.out
    have q2x := HQ2.out
    have HBB := Lib.hid (bl_ca (bl_ca HB1.out q1x) q2x)
    have HC := Lib.hid (HD.out x y A0 n0 c0 A02 n02 c02 w2 HBB.out ⟨Lay.rd_below HRX.out.1 (bl_ca q1x q2x), HRX.out.2⟩ ⟨Lay.rd_below HRY.out.1 q2x, HRY.out.2⟩)
    clear q1x q2x
    have e0 := HX.out.cell 0
    have f0 := HY.out.cell 0
    have e1 := HX.out.cell 1
    have f1 := HY.out.cell 1
    by_cases hxy : x = y
    · rw [decide_eq_true hxy] at HC
      have HQ := Lib.hid (show ∀ (k : Nat) (u v : QI), k < i + 1 → xs[k]? = some u → ys[k]? = some v → u = v from fun k u v hk hu hv => by
       rcases Nat.lt_or_ge k i with h1 | h1
       · exact HEQ.out k u v h1 hu hv
       · obtain rfl : k = i := by omega
         rw [← at_eq HXI.out hu, ← at_eq HYI.out hv]; exact hxy)
      clear hxy
      go_wp2_with fail
      refine HC.out.mono ?_
      rintro e w3 ⟨rfl, q3⟩
      have HB3 := Lib.hid (bl_ca HBB.out q3)
      clear q3 e0 e1 f0 f1
      go_wp2
      go_roundg (gk - 1)
      · exact ⟨i + 1, by omega, by go_num, HQ.out, HB3.out⟩
      · omega
    · rw [decide_eq_false hxy] at HC
      have HQ := Lib.hid (HNO.out (fun h => hxy (at_eq (by rw [← h]; exact HXI.out) HYI.out)))
      clear hxy
      go_wp2_with fail
      refine HC.out.mono ?_
      rintro e w3 ⟨rfl, q3⟩
      have HB3 := Lib.hid (bl_ca HBB.out q3)
      clear q3 e0 e1 f0 f1
      go_wp2
      go_ret
      exact ⟨ret_bool HQ.out.symm, HB3.out⟩
  · obtain rfl : i = m := by omega
    have hi1 : (i : Int) ≤ (i : Int) := by omega
    have HQ := Lib.hid (HR.out.2 (list_ext_lt HL.out.1 HL.out.2 HEQ.out))
    clear b1
    go_wp2
    go_ret
    exact ⟨ret_bool HQ.out.symm, HB1.out⟩
set_option maxRecDepth 100000 in
set_option maxHeartbeats 8000000 in
theorem eqfQJ (F G : Nat → Prop) (xs ys : List QJ) (A : Option Addr) (m c : Nat) (B : Option Addr) (n d : Nat) (D : FuncId) (cap : Array Value) (w : World) (h : LQJ.rd w F A m xs) (k : LQJ.rd w G B n ys) (hm : m ≤ 9223372036854775807)
 (hent : ∀ (args : Array Value) (w : World), (callFunc D args).run Tryz.prog w = .ok (.enter D args) w)
 (hD : ∀ (x y : QJ) (A0 : Option Addr) (n0 : Nat) (c0 : Nat) (A02 : Option Addr) (n02 : Nat) (c02 : Nat) (W : World), Below w.heap.size w W → (LN.rd W F A0 n0 x.on ∧ n0 ≤ 9223372036854775807) → (LN.rd W G A02 n02 y.on ∧ n02 ≤ 9223372036854775807) → Calls Tryz.prog D (#[.agg (x.cells A0 n0 c0), .agg (y.cells A02 n02 c02)] ++ cap) W fun e w' => e = .returned (.bool (decide (x = y))) ∧ Below W.heap.size W w') :
 Calls Tryz.prog 51 #[.slice A m c, .slice B n d, .func (.func D) #[] cap] w fun e w' => e = .returned (.bool (decide (xs = ys))) ∧ Below w.heap.size w w' := by
 have HL := Lib.hid (And.intro (Lay.rd_len h) (Lay.rd_len k))
 have HR := Lib.hid (show decide (xs = ys) = true ↔ xs = ys from decide_eq_true_iff)
 generalize decide (xs = ys) = r at *
 have HNO := Lib.hid (show ¬ xs = ys → r = false from fun h => by cases r; rfl; exact absurd (HR.out.1 rfl) h)
 have HEN := hent
 have HD := Lib.hid hD
 clear hent hD
 go_enter Tryz.func51, Tryz.ntmps51
 by_cases c4 : m = n
 case neg =>
  have e2 : ((m : Int) == (n : Int)) = false := by simp; omega
  have e3 : (m == n) = false := by simpa using c4
  have HQ := Lib.hid (HNO.out (fun h => c4 (by rw [← HL.out.1, ← HL.out.2, h])))
  clear c4
  go_wp2
  go_ret
  exact ⟨ret_bool HQ.out.symm, Below.refl _ _⟩
 subst c4
 go_wp2_with fail
 go_loopg [17] m (fun g a wr => ∃ i : Nat, i + g = m ∧ a = .int .i64 i ∧ (∀ (k : Nat) (x y : QJ), k < i → xs[k]? = some x → ys[k]? = some y → x = y) ∧ Below w.heap.size w wr)
 case atStart => exact ⟨0, by omega, rfl, fun k x y hk => by omega, Below.refl _ _⟩
 case round =>
  obtain ⟨i, hig, rfl, heq, b1⟩ := hrel
  have HEQ := Lib.hid heq
  have HB1 := Lib.hid b1
  clear heq
  by_cases hlt : i < m
  · have hi1 : (i : Int) < (m : Int) := by omega
    obtain ⟨p, x, A0, n0, c0, rfl, hx, s1⟩ := LQJ_at (Lay.rd_below h b1) hlt
    have q1 := bl_al (Below.refl wr.heap.size wr) (.cells (x.cells A0 n0 c0) 85)
    have hb := Blk.new wr 85 (x.cells A0 n0 c0)
    obtain ⟨p2, y, A02, n02, c02, rfl, hy, s2⟩ := LQJ_at (Lay.rd_below (Lay.rd_below k b1) q1) hlt
    have HXI := Lib.hid hx
    have HYI := Lib.hid hy
    have HRX := Lib.hid (show (LN.rd wr F A0 n0 x.on ∧ n0 ≤ 9223372036854775807) from ⟨s1.r0, by have := s1.k0; omega⟩)
    have e0 := s1.z0
    have e1 := s1.z1
    have e2 := s1.z2
    have e3 := s1.z3
    have HQ1 := Lib.hid q1
    have HBX := Lib.hid hb
    have HS2 := Lib.hid s2
    clear hx hy s1 s2 q1 hb b1
    go_upto_region 6 with fail
    clear e0 e1 e2 e3
    generalize wr.alloc (.cells (x.cells A0 n0 c0) 85) = w1 at *
    have s2 := HS2.out
    have HRY := Lib.hid (show (LN.rd w1 G A02 n02 y.on ∧ n02 ≤ 9223372036854775807) from ⟨s2.r0, by have := s2.k0; omega⟩)
    have f0 := s2.z0
    have f1 := s2.z1
    have f2 := s2.z2
    have f3 := s2.z3
    have q2 := bl_al (Below.refl w1.heap.size w1) (.cells (y.cells A02 n02 c02) 85)
    have HY := Lib.hid (Blk.new w1 85 (y.cells A02 n02 c02))
    have HX := Lib.hid (HBX.out.ca q2)
    have HQ2 := Lib.hid q2
    clear s2 HS2 q2
    go_upto_region 7 with fail
    clear f0 f1 f2 f3
    generalize w1.alloc (.cells (y.cells A02 n02 c02) 85) = w2 at *
    have q1x := HQ1.out
    have q2x := HQ2.out
    have HBB := Lib.hid (bl_ca (bl_ca HB1.out q1x) q2x)
    have HC := Lib.hid (HD.out x y A0 n0 c0 A02 n02 c02 w2 HBB.out ⟨Lay.rd_below HRX.out.1 (bl_ca q1x q2x), HRX.out.2⟩ ⟨Lay.rd_below HRY.out.1 q2x, HRY.out.2⟩)
    clear q1x q2x
    have e0 := HX.out.cell 0
    have f0 := HY.out.cell 0
    have e1 := HX.out.cell 1
    have f1 := HY.out.cell 1
    have e2 := HX.out.cell 2
    have f2 := HY.out.cell 2
    have e3 := HX.out.cell 3
    have f3 := HY.out.cell 3
    by_cases hxy : x = y
    · rw [decide_eq_true hxy] at HC
      have HQ := Lib.hid (show ∀ (k : Nat) (u v : QJ), k < i + 1 → xs[k]? = some u → ys[k]? = some v → u = v from fun k u v hk hu hv => by
       rcases Nat.lt_or_ge k i with h1 | h1
       · exact HEQ.out k u v h1 hu hv
       · obtain rfl : k = i := by omega
         rw [← at_eq HXI.out hu, ← at_eq HYI.out hv]; exact hxy)
      clear hxy
      go_wp2_with fail
      refine HC.out.mono ?_
      rintro e w3 ⟨rfl, q3⟩
      have HB3 := Lib.hid (bl_ca HBB.out q3)
      clear q3 e0 e1 e2 e3 f0 f1 f2 f3
      go_wp2
      go_roundg (gk - 1)
      · exact ⟨i + 1, by omega, by go_num, HQ.out, HB3.out⟩
      · omega
    · rw [decide_eq_false hxy] at HC
      have HQ := Lib.hid (HNO.out (fun h => hxy (at_eq (by rw [← h]; exact HXI.out) HYI.out)))
      clear hxy
      go_wp2_with fail
      refine HC.out.mono ?_
      rintro e w3 ⟨rfl, q3⟩
      have HB3 := Lib.hid (bl_ca HBB.out q3)
      clear q3 e0 e1 e2 e3 f0 f1 f2 f3
      go_wp2
      go_ret
      exact ⟨ret_bool HQ.out.symm, HB3.out⟩
  · obtain rfl : i = m := by omega
    have hi1 : (i : Int) ≤ (i : Int) := by omega
    have HQ := Lib.hid (HR.out.2 (list_ext_lt HL.out.1 HL.out.2 HEQ.out))
    clear b1
    go_wp2
    go_ret
    exact ⟨ret_bool HQ.out.symm, HB1.out⟩
set_option maxRecDepth 100000 in
set_option maxHeartbeats 8000000 in
theorem eqfQS (F G : Nat → Prop) (xs ys : List QS) (A : Option Addr) (m c : Nat) (B : Option Addr) (n d : Nat) (D : FuncId) (cap : Array Value) (w : World) (h : LQS.rd w F A m xs) (k : LQS.rd w G B n ys) (hm : m ≤ 9223372036854775807)
 (hent : ∀ (args : Array Value) (w : World), (callFunc D args).run Tryz.prog w = .ok (.enter D args) w)
 (hD : ∀ (x y : QS) (I0 : Option Addr) (i0 : Nat) (j0 : Nat) (J0 : Option Addr) (u0 : Nat) (v0 : Nat) (W0 : Option Addr) (a0 : Nat) (b0 : Nat) (H0 : Option Addr) (e0 : Nat) (f0 : Nat) (G0 : Option Addr) (p0 : Nat) (q0 : Nat) (I02 : Option Addr) (i02 : Nat) (j02 : Nat) (J02 : Option Addr) (u02 : Nat) (v02 : Nat) (W02 : Option Addr) (a02 : Nat) (b02 : Nat) (H02 : Option Addr) (e02 : Nat) (f02 : Nat) (G02 : Option Addr) (p02 : Nat) (q02 : Nat) (W : World), Below w.heap.size w W → RdS F W x I0 i0 j0 J0 u0 v0 W0 a0 b0 H0 e0 f0 G0 p0 q0 → RdS G W y I02 i02 j02 J02 u02 v02 W02 a02 b02 H02 e02 f02 G02 p02 q02 → Calls Tryz.prog D (#[.agg (x.cells I0 i0 j0 J0 u0 v0 W0 a0 b0 H0 e0 f0 G0 p0 q0), .agg (y.cells I02 i02 j02 J02 u02 v02 W02 a02 b02 H02 e02 f02 G02 p02 q02)] ++ cap) W fun e w' => e = .returned (.bool (decide (x = y))) ∧ Below W.heap.size W w') :
 Calls Tryz.prog 47 #[.slice A m c, .slice B n d, .func (.func D) #[] cap] w fun e w' => e = .returned (.bool (decide (xs = ys))) ∧ Below w.heap.size w w' := by
 have HL := Lib.hid (And.intro (Lay.rd_len h) (Lay.rd_len k))
 have HR := Lib.hid (show decide (xs = ys) = true ↔ xs = ys from decide_eq_true_iff)
 generalize decide (xs = ys) = r at *
 have HNO := Lib.hid (show ¬ xs = ys → r = false from fun h => by cases r; rfl; exact absurd (HR.out.1 rfl) h)
 have HEN := hent
 have HD := Lib.hid hD
 clear hent hD
 go_enter Tryz.func47, Tryz.ntmps47
 by_cases c4 : m = n
 case neg =>
  have e2 : ((m : Int) == (n : Int)) = false := by simp; omega
  have e3 : (m == n) = false := by simpa using c4
  have HQ := Lib.hid (HNO.out (fun h => c4 (by rw [← HL.out.1, ← HL.out.2, h])))
  clear c4
  go_wp2
  go_ret
  exact ⟨ret_bool HQ.out.symm, Below.refl _ _⟩
 subst c4
 go_wp2_with fail
 go_loopg [17] m (fun g a wr => ∃ i : Nat, i + g = m ∧ a = .int .i64 i ∧ (∀ (k : Nat) (x y : QS), k < i → xs[k]? = some x → ys[k]? = some y → x = y) ∧ Below w.heap.size w wr)
 case atStart => exact ⟨0, by omega, rfl, fun k x y hk => by omega, Below.refl _ _⟩
 case round =>
  obtain ⟨i, hig, rfl, heq, b1⟩ := hrel
  have HEQ := Lib.hid heq
  have HB1 := Lib.hid b1
  clear heq
  by_cases hlt : i < m
  · have hi1 : (i : Int) < (m : Int) := by omega
    obtain ⟨p, x, I0, i0, j0, J0, u0, v0, W0, a0, b0, H0, e0, f0, G0, p0, q0, rfl, hx, s1⟩ := LQS_at (Lay.rd_below h b1) hlt
    have q1 := bl_al (Below.refl wr.heap.size wr) (.cells (x.cells I0 i0 j0 J0 u0 v0 W0 a0 b0 H0 e0 f0 G0 p0 q0) 76)
    have hb := Blk.new wr 76 (x.cells I0 i0 j0 J0 u0 v0 W0 a0 b0 H0 e0 f0 G0 p0 q0)
    obtain ⟨p2, y, I02, i02, j02, J02, u02, v02, W02, a02, b02, H02, e02, f02, G02, p02, q02, rfl, hy, s2⟩ := LQS_at (Lay.rd_below (Lay.rd_below k b1) q1) hlt
    have HXI := Lib.hid hx
    have HYI := Lib.hid hy
    have HRX := Lib.hid (show RdS F wr x I0 i0 j0 J0 u0 v0 W0 a0 b0 H0 e0 f0 G0 p0 q0 from RdS.of s1)
    have e0 := s1.z0
    have e1 := s1.z1
    have e2 := s1.z2
    have e3 := s1.z3
    have e4 := s1.z4
    have e5 := s1.z5
    have e6 := s1.z6
    have e7 := s1.z7
    have e8 := s1.z8
    have HQ1 := Lib.hid q1
    have HBX := Lib.hid hb
    have HS2 := Lib.hid s2
    clear hx hy s1 s2 q1 hb b1
    go_upto_region 6 with fail
    clear e0 e1 e2 e3 e4 e5 e6 e7 e8
    generalize wr.alloc (.cells (x.cells I0 i0 j0 J0 u0 v0 W0 a0 b0 H0 e0 f0 G0 p0 q0) 76) = w1 at *
    have s2 := HS2.out
    have HRY := Lib.hid (show RdS G w1 y I02 i02 j02 J02 u02 v02 W02 a02 b02 H02 e02 f02 G02 p02 q02 from RdS.of s2)
    have f0 := s2.z0
    have f1 := s2.z1
    have f2 := s2.z2
    have f3 := s2.z3
    have f4 := s2.z4
    have f5 := s2.z5
    have f6 := s2.z6
    have f7 := s2.z7
    have f8 := s2.z8
    have q2 := bl_al (Below.refl w1.heap.size w1) (.cells (y.cells I02 i02 j02 J02 u02 v02 W02 a02 b02 H02 e02 f02 G02 p02 q02) 76)
    have HY := Lib.hid (Blk.new w1 76 (y.cells I02 i02 j02 J02 u02 v02 W02 a02 b02 H02 e02 f02 G02 p02 q02))
    have HX := Lib.hid (HBX.out.ca q2)
    have HQ2 := Lib.hid q2
    clear s2 HS2 q2
    go_upto_region 7 with fail
    clear f0 f1 f2 f3 f4 f5 f6 f7 f8
    generalize w1.alloc (.cells (y.cells I02 i02 j02 J02 u02 v02 W02 a02 b02 H02 e02 f02 G02 p02 q02) 76) = w2 at *
    have q1x := HQ1.out
    have q2x := HQ2.out
    have HBB := Lib.hid (bl_ca (bl_ca HB1.out q1x) q2x)
    have HC := Lib.hid (HD.out x y I0 i0 j0 J0 u0 v0 W0 a0 b0 H0 e0 f0 G0 p0 q0 I02 i02 j02 J02 u02 v02 W02 a02 b02 H02 e02 f02 G02 p02 q02 w2 HBB.out (HRX.out.below (bl_ca q1x q2x)) (HRY.out.below q2x))
    clear q1x q2x
    have e0 := HX.out.cell 0
    have f0 := HY.out.cell 0
    have e1 := HX.out.cell 1
    have f1 := HY.out.cell 1
    have e2 := HX.out.cell 2
    have f2 := HY.out.cell 2
    have e3 := HX.out.cell 3
    have f3 := HY.out.cell 3
    have e4 := HX.out.cell 4
    have f4 := HY.out.cell 4
    have e5 := HX.out.cell 5
    have f5 := HY.out.cell 5
    have e6 := HX.out.cell 6
    have f6 := HY.out.cell 6
    have e7 := HX.out.cell 7
    have f7 := HY.out.cell 7
    have e8 := HX.out.cell 8
    have f8 := HY.out.cell 8
    by_cases hxy : x = y
    · rw [decide_eq_true hxy] at HC
      have HQ := Lib.hid (show ∀ (k : Nat) (u v : QS), k < i + 1 → xs[k]? = some u → ys[k]? = some v → u = v from fun k u v hk hu hv => by
       rcases Nat.lt_or_ge k i with h1 | h1
       · exact HEQ.out k u v h1 hu hv
       · obtain rfl : k = i := by omega
         rw [← at_eq HXI.out hu, ← at_eq HYI.out hv]; exact hxy)
      clear hxy
      go_wp2_with fail
      refine HC.out.mono ?_
      rintro e w3 ⟨rfl, q3⟩
      have HB3 := Lib.hid (bl_ca HBB.out q3)
      clear q3 e0 e1 e2 e3 e4 e5 e6 e7 e8 f0 f1 f2 f3 f4 f5 f6 f7 f8
      go_wp2
      go_roundg (gk - 1)
      · exact ⟨i + 1, by omega, by go_num, HQ.out, HB3.out⟩
      · omega
    · rw [decide_eq_false hxy] at HC
      have HQ := Lib.hid (HNO.out (fun h => hxy (at_eq (by rw [← h]; exact HXI.out) HYI.out)))
      clear hxy
      go_wp2_with fail
      refine HC.out.mono ?_
      rintro e w3 ⟨rfl, q3⟩
      have HB3 := Lib.hid (bl_ca HBB.out q3)
      clear q3 e0 e1 e2 e3 e4 e5 e6 e7 e8 f0 f1 f2 f3 f4 f5 f6 f7 f8
      go_wp2
      go_ret
      exact ⟨ret_bool HQ.out.symm, HB3.out⟩
  · obtain rfl : i = m := by omega
    have hi1 : (i : Int) ≤ (i : Int) := by omega
    have HQ := Lib.hid (HR.out.2 (list_ext_lt HL.out.1 HL.out.2 HEQ.out))
    clear b1
    go_wp2
    go_ret
    exact ⟨ret_bool HQ.out.symm, HB1.out⟩
end Go.Proofs.YtoaggmldekejoaaGreatDoor
