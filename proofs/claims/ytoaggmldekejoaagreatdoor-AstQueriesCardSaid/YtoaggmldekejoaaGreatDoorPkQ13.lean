/- The reference: which sources, selects and queries may be. Conditions: what is asked reads so, and is no longer than memory is. -/
import Derived.Test.YtoaggmldekejoaaGreatDoorPkQ12
namespace Go.Proofs.YtoaggmldekejoaaGreatDoor
open Go.RowKit
def Sz (s : ByteArray) : Prop := s.size ≤ 9223372036854775807
def TrP (t : List Nd) : Prop := (∀ y ∈ t, SmP y.p) ∧ t.length ≤ 301
def QIp (x : QI) : Prop := TrP x.t ∧ Sz x.as_
def QJp (x : QJ) : Prop := TrP x.on ∧ Sz x.tb ∧ Sz x.as_
def QNp (x : QN) : Prop := Sz x.tb ∧ Sz x.nm
def QSp (s : QS) : Prop := ((∀ x ∈ s.items, QIp x) ∧ (∀ x ∈ s.joins, QJp x) ∧ ∀ x ∈ s.grp, QNp x) ∧ (TrP s.wh ∧ TrP s.hv) ∧ Sz s.ftb ∧ Sz s.fas
def QCp (q : QC) : Prop := (∀ s ∈ q.sels, QSp s) ∧ ∀ k ∈ q.keys, Sz k.nm
theorem all_false {α : Type} {p : α → Bool} {l : List α} {i : Nat} {x : α} (h : l[i]? = some x) (hp : p x = false) : l.all p = false := by
 rw [List.all_eq_false]; exact ⟨x, List.mem_of_getElem? h, by rw [hp]; decide⟩
theorem all_stepQ {α : Type} {p : α → Bool} {l : List α} {i : Nat} {x : α} (h : l[i]? = some x) (ha : (l.take i).all p = true) (hp : p x = true) : (l.take (i + 1)).all p = true := by
 rw [List.take_add_one, h, List.all_append, ha]; simp [hp]
theorem sel_no1 {x : QS} (h : x.items.all itemB = false) : selB x = false := by unfold selB; rw [h]; simp
theorem sel_no2 {x : QS} (h : x.joins.all joinB = false) : selB x = false := by unfold selB; rw [h]; simp
theorem sel_no3 {x : QS} (h : x.grp.all nmB = false) : selB x = false := by unfold selB; rw [h]; simp
theorem sel_shape {x : QS} {i u p : Nat} (h : selB x = true) (h1 : x.items.length = i) (h2 : x.joins.length = u) (h3 : x.grp.length = p) : x.star = decide ((i : Int) = 0) ∧ i ≤ 6 ∧ u ≤ 2 ∧ p ≤ 3 := by
 unfold selB selShape at h
 simp only [Bool.and_eq_true, decide_eq_true_eq] at h
 obtain ⟨⟨a, b, c, d⟩, _⟩ := h
 refine ⟨?_, by omega, by omega, by omega⟩
 rw [a, h1]; simp
set_option maxRecDepth 100000 in
set_option maxHeartbeats 16000000 in
theorem rsource_any (tb as_ : ByteArray) (w : World) :
 Calls Tryz.prog 74 #[.agg #[.string tb, .string as_]] w fun e w' => e = .returned (.bool (nameB tb && mayB as_)) ∧ Below w.heap.size w w' := by
 have HQ1 := Lib.hid (bl_al (Below.refl w.heap.size w) (.cells #[.string tb, .string as_] 72))
 have HB1 := Lib.hid (Blk.new w 72 #[.string tb, .string as_])
 go_enter Tryz.func74, Tryz.ntmps74
 go_upto_region 1 with fail
 generalize w.alloc (.cells #[.string tb, .string as_] 72) = w1 at *
 refine wp_region_ps0 .text (S := fun _ _ w' => Below w1.heap.size w1 w') (by kernel_rfl) ?spswg1 ?ppswg1
 case spswg1 =>
  exact (Below.refl w1.heap.size w1)
 refine Pz 0 (some 3) (.pointer (some ⟨w.heap.size, 0, none⟩)) rfl rfl (by exact StepS.pure nP rfl fun _ => rfl) ?_
 try simp only [Act.put, sA, sZ, sS]
 refine Pz 1 (some 4) (.string tb) rfl rfl ?ywg1_3 ?rwg1_3
 case ywg1_3 =>
  refine StepS.read [] (by kernel_rfl) nP (by rfl) (fun L9 m9 w9 hSh hAt hDn hS => ?_)
  have hT : Below _ _ w9 := hS
  have x0 : w9.cell? ⟨w.heap.size, 0, none⟩ = some (.string tb) := (HB1.out.ca hT).cell 0
  clear hT hS
  go_simp
  try rfl
 try simp only [Act.put, sA, sZ, sS]
 refine Pz 2 (some 5) (.bool (nameB tb)) rfl rfl ?ywg1_4 ?rwg1_4
 case ywg1_4 =>
  refine StepS.call ?fwg1_4 ?awg1_4 [] (by kernel_rfl) (by rfl) (fun w9 => ?hwg1_4) (fun L9 m9 w9 hSh hAt hDn hS => ?cwg1_4)
  case hwg1_4 => go_simp; refine ⟨?_, ?_⟩ <;> rfl
  case cwg1_4 =>
   have hT : Below _ _ w9 := hS
   refine (risname_any tb w9).mono ?_
   rintro e w8 ⟨rfl, q8⟩
   exact ⟨rfl, bl_ca hT q8⟩
 try simp only [Act.put, sA, sZ, sS]
 obtain ⟨br1_3, hb9⟩ : ∃ zb : Bool, zb = (nameB tb) := ⟨_, rfl⟩
 have HEbr1_3 := Lib.hid hb9
 clear hb9
 refine Pz 3 (some 6) (.bool (br1_3)) rfl rfl ?ywg1_5 ?rwg1_5
 case ywg1_5 =>
  refine StepS.pure nP (by rfl) (fun w9 => ?_)
  have e9 : (nameB tb) = br1_3 := by rw [HEbr1_3.out]
  rw [← e9]
  clear e9
  first | rfl | (go_simp; done) | (go_simp; rfl)
 try simp only [Act.put, sA, sZ, sS]
 refine Pz 4 (some 7) (cond br1_3 (.pointer (some ⟨w.heap.size, 1, none⟩)) (undef)) rfl rfl (by cases br1_3; exact StepS.skip nP rfl; exact StepS.pure nP rfl fun _ => rfl) ?_
 try simp only [Act.put, sA, sZ, sS]
 refine Pz 5 (some 8) (cond br1_3 (.string as_) (undef)) rfl rfl ?ywg1_7 ?rwg1_7
 case ywg1_7 =>
  cases br1_3
  · exact StepS.skip nP (by rfl)
  · skip
    refine StepS.read [] (by kernel_rfl) nP (by rfl) (fun L9 m9 w9 hSh hAt hDn hS => ?_)
    have hT : Below _ _ w9 := hS
    have x0 : w9.cell? ⟨w.heap.size, 1, none⟩ = some (.string as_) := (HB1.out.ca hT).cell 1
    clear hT hS
    go_simp
    try rfl
 try simp only [Act.put, sA, sZ, sS]
 refine Pz 6 (some 9) (cond br1_3 (.bool (mayB as_)) (undef)) rfl rfl ?ywg1_8 ?rwg1_8
 case ywg1_8 =>
  cases br1_3
  · exact StepS.skip nP (by rfl)
  · skip
    refine StepS.call ?fwg1_8 ?awg1_8 [] (by kernel_rfl) (by rfl) (fun w9 => ?hwg1_8) (fun L9 m9 w9 hSh hAt hDn hS => ?cwg1_8)
    case hwg1_8 => go_simp; refine ⟨?_, ?_⟩ <;> rfl
    case cwg1_8 =>
     have hT : Below _ _ w9 := hS
     refine (rmaybe_any as_ w9).mono ?_
     rintro e w8 ⟨rfl, q8⟩
     exact ⟨rfl, bl_ca hT q8⟩
 try simp only [Act.put, sA, sZ, sS]
 obtain ⟨bF, hb9⟩ : ∃ zb : Bool, zb = ((nameB tb) && (mayB as_)) := ⟨_, rfl⟩
 have HEbF := Lib.hid hb9
 clear hb9
 refine Pz 7 (some 10) (.bool (bF)) rfl rfl ?ywg1_9 ?rwg1_9
 case ywg1_9 =>
  refine StepS.pure nP (by rfl) (fun w9 => ?_)
  have e9 : (br1_3 && (mayB as_)) = bF := by rw [HEbF.out, HEbr1_3.out]
  rw [← e9]
  clear e9
  cases br1_3 <;> (first | rfl | (go_simp; done) | (go_simp; rfl))
 try simp only [Act.put, sA, sZ, sS]
 refine Pz 8 (some 2) (.bool (bF)) rfl rfl (by exact StepS.pure nP rfl fun _ => rfl) ?_
 try simp only [Act.put, sA, sZ, sS]
 refine Ps.done (by kernel_rfl) (fun wg1 hS => ?_) _
 try generalize (cond br1_3 (.pointer (some ⟨w.heap.size, 1, none⟩)) (undef) : Value) = zz11
 try generalize (cond br1_3 (.bool (mayB as_)) (undef) : Value) = zz12
 try generalize (cond br1_3 (.string as_) (undef) : Value) = zz13
 have HQ2 := Lib.hid (show Below w1.heap.size w1 wg1 from hS)
 clear hS
 obtain ⟨w2, rfl⟩ : ∃ x, x = wg1 := ⟨_, rfl⟩
 go_wp2_with fail
 go_ret
 refine ⟨ret_bool ?_, bl_ca HQ1.out HQ2.out⟩
 rw [HEbF.out]
set_option maxRecDepth 100000 in
set_option maxHeartbeats 16000000 in
theorem rnone_any (F : Nat → Prop) (xs : List Nd) (A : Option Addr) (n c : Nat) (w : World) (h : LN.rd w F A n xs) (hS : TrP xs) :
 Calls Tryz.prog 75 #[.agg #[.slice A n c]] w fun e w' => e = .returned (.bool (noneB xs)) ∧ Below w.heap.size w w' := by
 have hn : n ≤ 301 := by have := Lay.rd_len h; have := hS.2; omega
 have HLN := Lib.hid (show decide ((n : Int) = 0) = decide (xs.length = 0) from by rw [Lay.rd_len h]; simp)
 have HQ1 := Lib.hid (bl_al (Below.refl w.heap.size w) (.cells #[.slice A n c] 26))
 have HB1 := Lib.hid (Blk.new w 26 #[.slice A n c])
 have HR1 := Lib.hid (Lay.rd_below h HQ1.out)
 have HS := Lib.hid hS.1
 clear h hS
 go_enter Tryz.func75, Tryz.ntmps75
 go_upto_region 1 with fail
 generalize w.alloc (.cells #[.slice A n c] 26) = w1 at *
 refine wp_region_ps0 .text (S := fun _ _ w' => Below w1.heap.size w1 w') (by kernel_rfl) ?spswg14 ?ppswg14
 case spswg14 =>
  exact (Below.refl w1.heap.size w1)
 refine Pz 0 (some 3) (.pointer (some ⟨w.heap.size, 0, none⟩)) rfl rfl (by exact StepS.pure nP rfl fun _ => rfl) ?_
 try simp only [Act.put, sA, sZ, sS]
 refine Pz 1 (some 4) (.slice A n c) rfl rfl ?ywg14_16 ?rwg14_16
 case ywg14_16 =>
  refine StepS.read [] (by kernel_rfl) nP (by rfl) (fun L9 m9 w9 hSh hAt hDn hS => ?_)
  have hT : Below _ _ w9 := hS
  have x0 : w9.cell? ⟨w.heap.size, 0, none⟩ = some (.slice A n c) := (HB1.out.ca hT).cell 0
  clear hT hS
  go_simp
  try rfl
 try simp only [Act.put, sA, sZ, sS]
 refine Pz 2 (some 5) (.int .i64 ((n : Int))) rfl rfl (by exact StepS.pure nP rfl fun _ => by first | rfl | (go_simp; done) | (go_simp; rfl)) ?_
 try simp only [Act.put, sA, sZ, sS]
 refine Pz 3 (some 6) (.bool (decide ((n : Int) = 0))) rfl rfl (by exact StepS.pure nP rfl fun _ => rfl) ?_
 try simp only [Act.put, sA, sZ, sS]
 obtain ⟨br1_4, hb9⟩ : ∃ zb : Bool, zb = (decide ((n : Int) = 0)) := ⟨_, rfl⟩
 have HEbr1_4 := Lib.hid hb9
 clear hb9
 refine Pz 4 (some 7) (.bool (br1_4)) rfl rfl ?ywg14_19 ?rwg14_19
 case ywg14_19 =>
  refine StepS.pure nP (by rfl) (fun w9 => ?_)
  have e9 : (decide ((n : Int) = 0)) = br1_4 := by rw [HEbr1_4.out]
  rw [← e9]
  clear e9
  first | rfl | (go_simp; done) | (go_simp; rfl)
 try simp only [Act.put, sA, sZ, sS]
 refine Pz 5 (some 8) (cond br1_4 (undef) (.agg #[.slice A n c])) rfl rfl ?ywg14_20 ?rwg14_20
 case ywg14_20 =>
  cases br1_4
  · skip
    refine StepS.read [] (by kernel_rfl) nP (by rfl) (fun L9 m9 w9 hSh hAt hDn hS => ?_)
    have hT : Below _ _ w9 := hS
    have x0 : w9.cell? ⟨w.heap.size, 0, none⟩ = some (.slice A n c) := (HB1.out.ca hT).cell 0
    clear hT hS
    go_simp
    try rfl
  · exact StepS.skip nP (by rfl)
 try simp only [Act.put, sA, sZ, sS]
 refine Pz 6 (some 9) (cond br1_4 (undef) (.bool (okF xs))) rfl rfl ?ywg14_21 ?rwg14_21
 case ywg14_21 =>
  cases br1_4
  · skip
    refine StepS.call ?fwg14_21 ?awg14_21 [] (by kernel_rfl) (by rfl) (fun w9 => ?hwg14_21) (fun L9 m9 w9 hSh hAt hDn hS => ?cwg14_21)
    case hwg14_21 => go_simp; refine ⟨?_, ?_⟩ <;> rfl
    case cwg14_21 =>
     have hT : Below _ _ w9 := hS
     refine (rright_any F xs A n c w9 (Lay.rd_below HR1.out hT) (by omega) HS.out).mono ?_
     rintro e w8 ⟨rfl, q8⟩
     exact ⟨rfl, bl_ca hT q8⟩
  · exact StepS.skip nP (by rfl)
 try simp only [Act.put, sA, sZ, sS]
 obtain ⟨bF, hb9⟩ : ∃ zb : Bool, zb = ((decide ((n : Int) = 0)) || (okF xs)) := ⟨_, rfl⟩
 have HEbF := Lib.hid hb9
 clear hb9
 refine Pz 7 (some 10) (.bool (bF)) rfl rfl ?ywg14_22 ?rwg14_22
 case ywg14_22 =>
  refine StepS.pure nP (by rfl) (fun w9 => ?_)
  have e9 : (br1_4 || (okF xs)) = bF := by rw [HEbF.out, HEbr1_4.out]
  rw [← e9]
  clear e9
  cases br1_4 <;> (first | rfl | (go_simp; done) | (go_simp; rfl))
 try simp only [Act.put, sA, sZ, sS]
 refine Pz 8 (some 2) (.bool (bF)) rfl rfl (by exact StepS.pure nP rfl fun _ => rfl) ?_
 try simp only [Act.put, sA, sZ, sS]
 refine Ps.done (by kernel_rfl) (fun wg14 hS => ?_) _
 try generalize (cond br1_4 (undef) (.agg #[.slice A n c]) : Value) = zz24
 try generalize (cond br1_4 (undef) (.bool (okF xs)) : Value) = zz25
 have HQ2 := Lib.hid (show Below w1.heap.size w1 wg14 from hS)
 clear hS
 obtain ⟨w2, rfl⟩ : ∃ x, x = wg14 := ⟨_, rfl⟩
 go_wp2_with fail
 go_ret
 refine ⟨ret_bool ?_, bl_ca HQ1.out HQ2.out⟩
 unfold noneB
 rw [← HLN.out, HEbF.out]
set_option maxRecDepth 100000 in
set_option maxHeartbeats 16000000 in
theorem rselects_any (F : Nat → Prop) (x : QS) (I0 : Option Addr) (i0 j0 : Nat) (J0 : Option Addr) (u0 v0 : Nat) (W0 : Option Addr) (a0 b0 : Nat) (H0 : Option Addr) (e0 f0 : Nat) (G0 : Option Addr) (p0 q0 : Nat) (w : World) (hI : LQI.rd w F I0 i0 x.items) (hJ : LQJ.rd w F J0 u0 x.joins) (hW : LN.rd w F W0 a0 x.wh) (hH : LN.rd w F H0 e0 x.hv) (hG : LQN.rd w F G0 p0 x.grp) (hSp : QSp x) (hsm : i0 ≤ 1000 ∧ u0 ≤ 1000 ∧ p0 ≤ 1000) :
 Calls Tryz.prog 37 #[.agg (x.cells I0 i0 j0 J0 u0 v0 W0 a0 b0 H0 e0 f0 G0 p0 q0)] w fun e w' => e = .returned (.bool (selB x)) ∧ Below w.heap.size w w' := by
 have HQ1 := Lib.hid (bl_al (Below.refl w.heap.size w) (.cells (x.cells I0 i0 j0 J0 u0 v0 W0 a0 b0 H0 e0 f0 G0 p0 q0) 76))
 have HB1 := Lib.hid (Blk.new w 76 (x.cells I0 i0 j0 J0 u0 v0 W0 a0 b0 H0 e0 f0 G0 p0 q0))
 have HI1 := Lib.hid (Lay.rd_below hI HQ1.out)
 have HJ1 := Lib.hid (Lay.rd_below hJ HQ1.out)
 have HW1 := Lib.hid (Lay.rd_below hW HQ1.out)
 have HH1 := Lib.hid (Lay.rd_below hH HQ1.out)
 have HG1 := Lib.hid (Lay.rd_below hG HQ1.out)
 have HSP := Lib.hid hSp
 have ha0 : a0 ≤ 301 := by have := Lay.rd_len hW; have := hSp.2.1.1.2; omega
 have he0 : e0 ≤ 301 := by have := Lay.rd_len hH; have := hSp.2.1.2.2; omega
 obtain ⟨hi9, hu9, hp9⟩ := hsm
 obtain ⟨rr, hrr⟩ : ∃ rr, rr = selB x := ⟨_, rfl⟩
 rw [← hrr]
 have HRR := Lib.hid hrr
 have HLN := Lib.hid (And.intro (Lay.rd_len hI) (And.intro (Lay.rd_len hJ) (Lay.rd_len hG)))
 clear hI hJ hW hH hG hSp hrr
 go_enter Tryz.func37, Tryz.ntmps37
 go_upto_region 1 with fail
 generalize w.alloc (.cells (x.cells I0 i0 j0 J0 u0 v0 W0 a0 b0 H0 e0 f0 G0 p0 q0) 76) = w1 at *
 refine wp_region_ps0 .text (S := fun _ _ w' => Below w1.heap.size w1 w') (by kernel_rfl) ?spswg26 ?ppswg26
 case spswg26 =>
  exact (Below.refl w1.heap.size w1)
 refine Pz 0 (some 9) (.pointer (some ⟨w.heap.size, 1, none⟩)) rfl rfl (by exact StepS.pure nP rfl fun _ => rfl) ?_
 try simp only [Act.put, sA, sZ, sS]
 refine Pz 1 (some 10) (.bool (x.star)) rfl rfl ?ywg26_28 ?rwg26_28
 case ywg26_28 =>
  refine StepS.read [] (by kernel_rfl) nP (by rfl) (fun L9 m9 w9 hSh hAt hDn hS => ?_)
  have hT : Below _ _ w9 := hS
  have x0 : w9.cell? ⟨w.heap.size, 1, none⟩ = some (.bool (x.star)) := (HB1.out.ca hT).cell 1
  clear hT hS
  go_simp
  try rfl
 try simp only [Act.put, sA, sZ, sS]
 refine Pz 2 (some 11) (.pointer (some ⟨w.heap.size, 2, none⟩)) rfl rfl (by exact StepS.pure nP rfl fun _ => rfl) ?_
 try simp only [Act.put, sA, sZ, sS]
 refine Pz 3 (some 12) (.slice I0 i0 j0) rfl rfl ?ywg26_30 ?rwg26_30
 case ywg26_30 =>
  refine StepS.read [] (by kernel_rfl) nP (by rfl) (fun L9 m9 w9 hSh hAt hDn hS => ?_)
  have hT : Below _ _ w9 := hS
  have x0 : w9.cell? ⟨w.heap.size, 2, none⟩ = some (.slice I0 i0 j0) := (HB1.out.ca hT).cell 2
  clear hT hS
  go_simp
  try rfl
 try simp only [Act.put, sA, sZ, sS]
 refine Pz 4 (some 13) (.int .i64 ((i0 : Int))) rfl rfl (by exact StepS.pure nP rfl fun _ => by first | rfl | (go_simp; done) | (go_simp; rfl)) ?_
 try simp only [Act.put, sA, sZ, sS]
 refine Pz 5 (some 14) (.bool (decide ((i0 : Int) = 0))) rfl rfl (by exact StepS.pure nP rfl fun _ => rfl) ?_
 try simp only [Act.put, sA, sZ, sS]
 refine Pz 6 (some 15) (.bool (!(x.star == decide ((i0 : Int) = 0)))) rfl rfl ?ywg26_33 ?rwg26_33
 case ywg26_33 =>
  refine StepS.pure nP (by rfl) (fun w9 => ?_)
  cases x.star <;> (first | rfl | (go_simp; done) | (go_simp; rfl))
 try simp only [Act.put, sA, sZ, sS]
 obtain ⟨ba1_7, hb9⟩ : ∃ zb : Bool, zb = (!(x.star == decide ((i0 : Int) = 0))) := ⟨_, rfl⟩
 have HEba1_7 := Lib.hid hb9
 clear hb9
 refine Pz 7 (some 16) (.bool (ba1_7)) rfl rfl ?ywg26_34 ?rwg26_34
 case ywg26_34 =>
  refine StepS.pure nP (by rfl) (fun w9 => ?_)
  have e9 : (!(x.star == decide ((i0 : Int) = 0))) = ba1_7 := by rw [HEba1_7.out]
  rw [← e9]
  clear e9
  first | rfl | (go_simp; done) | (go_simp; rfl)
 try simp only [Act.put, sA, sZ, sS]
 refine Pz 8 (some 17) (cond ba1_7 (undef) (.pointer (some ⟨w.heap.size, 2, none⟩))) rfl rfl (by cases ba1_7; (exact StepS.pure nP rfl fun _ => rfl); exact StepS.skip nP rfl) ?_
 try simp only [Act.put, sA, sZ, sS]
 refine Pz 9 (some 18) (cond ba1_7 (undef) (.slice I0 i0 j0)) rfl rfl ?ywg26_36 ?rwg26_36
 case ywg26_36 =>
  cases ba1_7
  · skip
    refine StepS.read [] (by kernel_rfl) nP (by rfl) (fun L9 m9 w9 hSh hAt hDn hS => ?_)
    have hT : Below _ _ w9 := hS
    have x0 : w9.cell? ⟨w.heap.size, 2, none⟩ = some (.slice I0 i0 j0) := (HB1.out.ca hT).cell 2
    clear hT hS
    go_simp
    try rfl
  · exact StepS.skip nP (by rfl)
 try simp only [Act.put, sA, sZ, sS]
 refine Pz 10 (some 19) (cond ba1_7 (undef) (.int .i64 ((i0 : Int)))) rfl rfl (by cases ba1_7; (exact StepS.pure nP rfl fun _ => by first | rfl | (go_simp; done) | (go_simp; rfl)); exact StepS.skip nP rfl) ?_
 try simp only [Act.put, sA, sZ, sS]
 refine Pz 11 (some 20) (cond ba1_7 (undef) (.bool (decide ((6 : Int) < (i0 : Int))))) rfl rfl (by cases ba1_7; (exact StepS.pure nP rfl fun _ => rfl); exact StepS.skip nP rfl) ?_
 try simp only [Act.put, sA, sZ, sS]
 refine Pz 12 (some 21) (.bool (ba1_7 || (decide ((6 : Int) < (i0 : Int))))) rfl rfl ?ywg26_39 ?rwg26_39
 case ywg26_39 =>
  refine StepS.pure nP (by rfl) (fun w9 => ?_)
  cases ba1_7 <;> (first | rfl | (go_simp; done) | (go_simp; rfl))
 try simp only [Act.put, sA, sZ, sS]
 obtain ⟨ba1_13, hb9⟩ : ∃ zb : Bool, zb = ((!(x.star == decide ((i0 : Int) = 0))) || (decide ((6 : Int) < (i0 : Int)))) := ⟨_, rfl⟩
 have HEba1_13 := Lib.hid hb9
 clear hb9
 refine Pz 13 (some 22) (.bool (ba1_13)) rfl rfl ?ywg26_40 ?rwg26_40
 case ywg26_40 =>
  refine StepS.pure nP (by rfl) (fun w9 => ?_)
  have e9 : (ba1_7 || (decide ((6 : Int) < (i0 : Int)))) = ba1_13 := by rw [HEba1_13.out, HEba1_7.out]
  rw [← e9]
  clear e9
  first | rfl | (go_simp; done) | (go_simp; rfl)
 try simp only [Act.put, sA, sZ, sS]
 refine Pz 14 (some 23) (cond ba1_13 (undef) (.pointer (some ⟨w.heap.size, 5, none⟩))) rfl rfl (by cases ba1_13; (exact StepS.pure nP rfl fun _ => rfl); exact StepS.skip nP rfl) ?_
 try simp only [Act.put, sA, sZ, sS]
 refine Pz 15 (some 24) (cond ba1_13 (undef) (.slice J0 u0 v0)) rfl rfl ?ywg26_42 ?rwg26_42
 case ywg26_42 =>
  cases ba1_13
  · skip
    refine StepS.read [] (by kernel_rfl) nP (by rfl) (fun L9 m9 w9 hSh hAt hDn hS => ?_)
    have hT : Below _ _ w9 := hS
    have x0 : w9.cell? ⟨w.heap.size, 5, none⟩ = some (.slice J0 u0 v0) := (HB1.out.ca hT).cell 5
    clear hT hS
    go_simp
    try rfl
  · exact StepS.skip nP (by rfl)
 try simp only [Act.put, sA, sZ, sS]
 refine Pz 16 (some 25) (cond ba1_13 (undef) (.int .i64 ((u0 : Int)))) rfl rfl (by cases ba1_13; (exact StepS.pure nP rfl fun _ => by first | rfl | (go_simp; done) | (go_simp; rfl)); exact StepS.skip nP rfl) ?_
 try simp only [Act.put, sA, sZ, sS]
 refine Pz 17 (some 26) (cond ba1_13 (undef) (.bool (decide ((2 : Int) < (u0 : Int))))) rfl rfl (by cases ba1_13; (exact StepS.pure nP rfl fun _ => rfl); exact StepS.skip nP rfl) ?_
 try simp only [Act.put, sA, sZ, sS]
 refine Pz 18 (some 27) (.bool (ba1_13 || (decide ((2 : Int) < (u0 : Int))))) rfl rfl ?ywg26_45 ?rwg26_45
 case ywg26_45 =>
  refine StepS.pure nP (by rfl) (fun w9 => ?_)
  cases ba1_13 <;> (first | rfl | (go_simp; done) | (go_simp; rfl))
 try simp only [Act.put, sA, sZ, sS]
 obtain ⟨ba1_19, hb9⟩ : ∃ zb : Bool, zb = (((!(x.star == decide ((i0 : Int) = 0))) || (decide ((6 : Int) < (i0 : Int)))) || (decide ((2 : Int) < (u0 : Int)))) := ⟨_, rfl⟩
 have HEba1_19 := Lib.hid hb9
 clear hb9
 refine Pz 19 (some 28) (.bool (ba1_19)) rfl rfl ?ywg26_46 ?rwg26_46
 case ywg26_46 =>
  refine StepS.pure nP (by rfl) (fun w9 => ?_)
  have e9 : (ba1_13 || (decide ((2 : Int) < (u0 : Int)))) = ba1_19 := by rw [HEba1_19.out, HEba1_13.out]
  rw [← e9]
  clear e9
  first | rfl | (go_simp; done) | (go_simp; rfl)
 try simp only [Act.put, sA, sZ, sS]
 refine Pz 20 (some 29) (cond ba1_19 (undef) (.pointer (some ⟨w.heap.size, 8, none⟩))) rfl rfl (by cases ba1_19; (exact StepS.pure nP rfl fun _ => rfl); exact StepS.skip nP rfl) ?_
 try simp only [Act.put, sA, sZ, sS]
 refine Pz 21 (some 30) (cond ba1_19 (undef) (.slice G0 p0 q0)) rfl rfl ?ywg26_48 ?rwg26_48
 case ywg26_48 =>
  cases ba1_19
  · skip
    refine StepS.read [] (by kernel_rfl) nP (by rfl) (fun L9 m9 w9 hSh hAt hDn hS => ?_)
    have hT : Below _ _ w9 := hS
    have x0 : w9.cell? ⟨w.heap.size, 8, none⟩ = some (.slice G0 p0 q0) := (HB1.out.ca hT).cell 8
    clear hT hS
    go_simp
    try rfl
  · exact StepS.skip nP (by rfl)
 try simp only [Act.put, sA, sZ, sS]
 refine Pz 22 (some 31) (cond ba1_19 (undef) (.int .i64 ((p0 : Int)))) rfl rfl (by cases ba1_19; (exact StepS.pure nP rfl fun _ => by first | rfl | (go_simp; done) | (go_simp; rfl)); exact StepS.skip nP rfl) ?_
 try simp only [Act.put, sA, sZ, sS]
 refine Pz 23 (some 32) (cond ba1_19 (undef) (.bool (decide ((3 : Int) < (p0 : Int))))) rfl rfl (by cases ba1_19; (exact StepS.pure nP rfl fun _ => rfl); exact StepS.skip nP rfl) ?_
 try simp only [Act.put, sA, sZ, sS]
 obtain ⟨bS, hb9⟩ : ∃ zb : Bool, zb = ((((!(x.star == decide ((i0 : Int) = 0))) || (decide ((6 : Int) < (i0 : Int)))) || (decide ((2 : Int) < (u0 : Int)))) || (decide ((3 : Int) < (p0 : Int)))) := ⟨_, rfl⟩
 have HEbS := Lib.hid hb9
 clear hb9
 refine Pz 24 (some 33) (.bool (bS)) rfl rfl ?ywg26_51 ?rwg26_51
 case ywg26_51 =>
  refine StepS.pure nP (by rfl) (fun w9 => ?_)
  have e9 : (ba1_19 || (decide ((3 : Int) < (p0 : Int)))) = bS := by rw [HEbS.out, HEba1_19.out]
  rw [← e9]
  clear e9
  cases ba1_19 <;> (first | rfl | (go_simp; done) | (go_simp; rfl))
 try simp only [Act.put, sA, sZ, sS]
 refine Ps.done (by kernel_rfl) (fun wg26 hS => ?_) _
 try generalize (cond ba1_13 (undef) (.bool (decide ((2 : Int) < (u0 : Int)))) : Value) = zz52
 try generalize (cond ba1_19 (undef) (.bool (decide ((3 : Int) < (p0 : Int)))) : Value) = zz53
 try generalize (cond ba1_19 (undef) (.pointer (some ⟨w.heap.size, 8, none⟩)) : Value) = zz54
 try generalize (cond ba1_13 (undef) (.pointer (some ⟨w.heap.size, 5, none⟩)) : Value) = zz55
 try generalize (cond ba1_7 (undef) (.bool (decide ((6 : Int) < (i0 : Int)))) : Value) = zz56
 try generalize (cond ba1_7 (undef) (.pointer (some ⟨w.heap.size, 2, none⟩)) : Value) = zz57
 try generalize (.bool (ba1_13 || (decide ((2 : Int) < (u0 : Int)))) : Value) = zz58
 try generalize (.bool (ba1_7 || (decide ((6 : Int) < (i0 : Int)))) : Value) = zz59
 try generalize (cond ba1_13 (undef) (.int .i64 ((u0 : Int))) : Value) = zz60
 try generalize (cond ba1_19 (undef) (.int .i64 ((p0 : Int))) : Value) = zz61
 try generalize (cond ba1_7 (undef) (.int .i64 ((i0 : Int))) : Value) = zz62
 try generalize (cond ba1_19 (undef) (.slice G0 p0 q0) : Value) = zz63
 try generalize (cond ba1_13 (undef) (.slice J0 u0 v0) : Value) = zz64
 try generalize (cond ba1_7 (undef) (.slice I0 i0 j0) : Value) = zz65
 try generalize (.bool (!(x.star == decide ((i0 : Int) = 0))) : Value) = zA1
 try generalize (.bool (decide ((i0 : Int) = 0)) : Value) = zA2
 have HQ2 := Lib.hid (show Below w1.heap.size w1 wg26 from hS)
 clear hS
 obtain ⟨w2, rfl⟩ : ∃ x, x = wg26 := ⟨_, rfl⟩
 cases bS
 case true =>
  have HRF := Lib.hid (show rr = false from by
   rw [HRR.out]
   cases hB : selB x
   · rfl
   · exfalso
     obtain ⟨h1, h2, h3, h4⟩ := sel_shape hB HLN.out.1 HLN.out.2.1 HLN.out.2.2
     have h9 := HEbS.out
     rw [h1] at h9
     simp at h9
     omega)
  go_wp2_with fail
  go_ret
  exact ⟨ret_bool HRF.out.symm, bl_ca HQ1.out HQ2.out⟩
 case false =>
 have HB2 := Lib.hid (HB1.out.ca HQ2.out)
 have HI2 := Lib.hid (Lay.rd_below HI1.out HQ2.out)
 have HJ2 := Lib.hid (Lay.rd_below HJ1.out HQ2.out)
 have HW2 := Lib.hid (Lay.rd_below HW1.out HQ2.out)
 have HH2 := Lib.hid (Lay.rd_below HH1.out HQ2.out)
 have HG2 := Lib.hid (Lay.rd_below HG1.out HQ2.out)
 have HQ02 := Lib.hid (bl_ca HQ1.out HQ2.out)
 clear HB1 HI1 HJ1 HW1 HH1 HG1 HQ2 HQ1
 have yC := HB2.out.cell 2
 go_upto_block 0 with fail
 clear yC
 go_cut [] (fun wx => Hid (Below w2.heap.size w2 wx) ∧ Hid (x.items.all itemB = true))
 case first =>
  go_wp2_with fail
  go_loopg [37] i0 (fun gk a wr => ∃ i : Nat, i + gk = i0 ∧ a = .int .i64 i ∧ Hid (Below w2.heap.size w2 wr) ∧ Hid ((x.items.take i).all itemB = true))
  case atStart => exact ⟨0, by omega, rfl, Lib.hid (Below.refl _ _), Lib.hid rfl⟩
  case round =>
   obtain ⟨i, hig, rfl, HQr, HAr⟩ := hrel
   by_cases hlt : i < i0
   · have hi1 : (i : Int) < (i0 : Int) := by omega
     obtain ⟨ad, z, T0, t0, u9, rfl, hax, sp⟩ := LQI_at (Lay.rd_below HI2.out HQr.out) hlt
     have x0 := sp.z0
     have x1 := sp.z1
     have HSPz := Lib.hid sp
     have HAX := Lib.hid hax
     have HTP := Lib.hid (HSP.out.1.1 z (List.mem_of_getElem? hax)).1
     have HZM := Lib.hid (List.mem_of_getElem? hax)
     have HQz := Lib.hid (bl_al (Below.refl wr.heap.size wr) (.cells #[.slice T0 t0 u9, .string z.as_] 82))
     have HZ := Lib.hid (Blk.new wr 82 #[.slice T0 t0 u9, .string z.as_])
     clear sp hax
     go_upto_region 6 with fail
     clear x0 x1
     generalize wr.alloc (.cells #[.slice T0 t0 u9, .string z.as_] 82) = wz at *
     refine wp_region_ps0 .text (S := fun _ _ w' => Below wz.heap.size wz w') (by kernel_rfl) ?spswg66 ?ppswg66
     case spswg66 =>
      exact (Below.refl wz.heap.size wz)
     refine Pz 0 (some 41) (.pointer (some ⟨wr.heap.size, 0, none⟩)) rfl rfl (by exact StepS.pure nP rfl fun _ => rfl) ?_
     try simp only [Act.put, sA, sZ, sS]
     refine Pz 1 (some 42) (.agg #[.slice T0 t0 u9]) rfl rfl ?ywg66_68 ?rwg66_68
     case ywg66_68 =>
      refine StepS.read [] (by kernel_rfl) nP (by rfl) (fun L9 m9 w9 hSh hAt hDn hS => ?_)
      have hT : Below _ _ w9 := hS
      have x0 : w9.cell? ⟨wr.heap.size, 0, none⟩ = some (.slice T0 t0 u9) := (HZ.out.ca hT).cell 0
      clear hT hS
      go_simp
      try rfl
     try simp only [Act.put, sA, sZ, sS]
     refine Pz 2 (some 43) (.bool (okF z.t)) rfl rfl ?ywg66_69 ?rwg66_69
     case ywg66_69 =>
      refine StepS.call ?fwg66_69 ?awg66_69 [] (by kernel_rfl) (by rfl) (fun w9 => ?hwg66_69) (fun L9 m9 w9 hSh hAt hDn hS => ?cwg66_69)
      case hwg66_69 => go_simp; refine ⟨?_, ?_⟩ <;> rfl
      case cwg66_69 =>
       have hT : Below _ _ w9 := hS
       refine (rright_any F z.t T0 t0 u9 w9 (Lay.rd_below (Lay.rd_below (Lay.rd_below HSPz.out.r0 HQz.out) hT) (Below.refl _ _)) (by have h1 := Lay.rd_len HSPz.out.r0; have h2 := HTP.out.2; omega) HTP.out.1).mono ?_
       rintro e w8 ⟨rfl, q8⟩
       exact ⟨rfl, bl_ca hT q8⟩
     try simp only [Act.put, sA, sZ, sS]
     refine Pz 3 (some 44) (.bool (!(okF z.t))) rfl rfl (by exact StepS.pure nP rfl fun _ => rfl) ?_
     try simp only [Act.put, sA, sZ, sS]
     obtain ⟨bq66_4, hb9⟩ : ∃ zb : Bool, zb = (!(okF z.t)) := ⟨_, rfl⟩
     have HEbq66_4 := Lib.hid hb9
     clear hb9
     refine Pz 4 (some 45) (.bool (bq66_4)) rfl rfl ?ywg66_71 ?rwg66_71
     case ywg66_71 =>
      refine StepS.pure nP (by rfl) (fun w9 => ?_)
      have e9 : (!(okF z.t)) = bq66_4 := by rw [HEbq66_4.out]
      rw [← e9]
      clear e9
      first | rfl | (go_simp; done) | (go_simp; rfl)
     try simp only [Act.put, sA, sZ, sS]
     refine Pz 5 (some 46) (cond bq66_4 (undef) (.pointer (some ⟨wr.heap.size, 1, none⟩))) rfl rfl (by cases bq66_4; (exact StepS.pure nP rfl fun _ => rfl); exact StepS.skip nP rfl) ?_
     try simp only [Act.put, sA, sZ, sS]
     refine Pz 6 (some 47) (cond bq66_4 (undef) (.string z.as_)) rfl rfl ?ywg66_73 ?rwg66_73
     case ywg66_73 =>
      cases bq66_4
      · skip
        refine StepS.read [] (by kernel_rfl) nP (by rfl) (fun L9 m9 w9 hSh hAt hDn hS => ?_)
        have hT : Below _ _ w9 := hS
        have x0 : w9.cell? ⟨wr.heap.size, 1, none⟩ = some (.string z.as_) := (HZ.out.ca hT).cell 1
        clear hT hS
        go_simp
        try rfl
      · exact StepS.skip nP (by rfl)
     try simp only [Act.put, sA, sZ, sS]
     refine Pz 7 (some 48) (cond bq66_4 (undef) (.bool (mayB z.as_))) rfl rfl ?ywg66_74 ?rwg66_74
     case ywg66_74 =>
      cases bq66_4
      · skip
        refine StepS.call ?fwg66_74 ?awg66_74 [] (by kernel_rfl) (by rfl) (fun w9 => ?hwg66_74) (fun L9 m9 w9 hSh hAt hDn hS => ?cwg66_74)
        case hwg66_74 => go_simp; refine ⟨?_, ?_⟩ <;> rfl
        case cwg66_74 =>
         have hT : Below _ _ w9 := hS
         refine (rmaybe_any z.as_ w9).mono ?_
         rintro e w8 ⟨rfl, q8⟩
         exact ⟨rfl, bl_ca hT q8⟩
      · exact StepS.skip nP (by rfl)
     try simp only [Act.put, sA, sZ, sS]
     refine Pz 8 (some 49) (cond bq66_4 (undef) (.bool (!(mayB z.as_)))) rfl rfl (by cases bq66_4; (exact StepS.pure nP rfl fun _ => rfl); exact StepS.skip nP rfl) ?_
     try simp only [Act.put, sA, sZ, sS]
     obtain ⟨bF, hb9⟩ : ∃ zb : Bool, zb = ((!(okF z.t)) || (!(mayB z.as_))) := ⟨_, rfl⟩
     have HEbF := Lib.hid hb9
     clear hb9
     refine Pz 9 (some 50) (.bool (bF)) rfl rfl ?ywg66_76 ?rwg66_76
     case ywg66_76 =>
      refine StepS.pure nP (by rfl) (fun w9 => ?_)
      have e9 : (bq66_4 || (!(mayB z.as_))) = bF := by rw [HEbF.out, HEbq66_4.out]
      rw [← e9]
      clear e9
      cases bq66_4 <;> (first | rfl | (go_simp; done) | (go_simp; rfl))
     try simp only [Act.put, sA, sZ, sS]
     refine Ps.done (by kernel_rfl) (fun wg66 hS => ?_) _
     try generalize (cond bq66_4 (undef) (.pointer (some ⟨wr.heap.size, 1, none⟩)) : Value) = zz77
     try generalize (cond bq66_4 (undef) (.bool (!(mayB z.as_))) : Value) = zz78
     try generalize (cond bq66_4 (undef) (.bool (mayB z.as_)) : Value) = zz79
     try generalize (cond bq66_4 (undef) (.string z.as_) : Value) = zz80
     have HQf := Lib.hid (show Below wz.heap.size wz wg66 from hS)
     clear hS
     obtain ⟨wf, rfl⟩ : ∃ x, x = wg66 := ⟨_, rfl⟩
     cases bF
     case true =>
      have HZF := Lib.hid (show itemB z = false from by unfold itemB; have h9 := HEbF.out; generalize okF z.t = v1 at *; generalize mayB z.as_ = v2 at *; revert h9; cases v1 <;> cases v2 <;> decide)
      have HRF := Lib.hid (show rr = false from by rw [HRR.out]; exact sel_no1 (all_false HAX.out HZF.out))
      go_wp2_with fail
      go_ret
      exact ⟨ret_bool HRF.out.symm, bl_ca HQ02.out (bl_ca HQr.out (bl_ca HQz.out HQf.out))⟩
     case false =>
      have HZT := Lib.hid (show itemB z = true from by unfold itemB; have h9 := HEbF.out; generalize okF z.t = v1 at *; generalize mayB z.as_ = v2 at *; revert h9; cases v1 <;> cases v2 <;> decide)
      go_wp2_with fail
      go_roundg (gk - 1)
      · exact ⟨i + 1, by omega, by go_num, Lib.hid (bl_ca HQr.out (bl_ca HQz.out HQf.out)), Lib.hid (all_stepQ HAX.out HAr.out HZT.out)⟩
      · omega
   · have hi1 : ¬ ((i : Int) < (i0 : Int)) := by omega
     have hie : i = i0 := by omega
     have HAe := Lib.hid (show x.items.all itemB = true from by have h9 := HAr.out; rw [List.take_of_length_le (by have := Lay.rd_len HI2.out; omega)] at h9; exact h9)
     clear hie HAr
     go_wp2_with fail
     go_meet
     exact ⟨HQr, HAe⟩
 case rest =>
 obtain ⟨HQ3, HA3⟩ := hcut
 obtain ⟨w3, rfl⟩ : ∃ x, x = wc := ⟨_, rfl⟩
 have HB3 := Lib.hid (HB2.out.ca HQ3.out)
 have HJ3 := Lib.hid (Lay.rd_below HJ2.out HQ3.out)
 have HQ03 := Lib.hid (bl_ca HQ02.out HQ3.out)
 have yC := HB3.out.cell 5
 go_upto_block 2 with fail
 clear yC
 go_cut [] (fun wx => Hid (Below w3.heap.size w3 wx) ∧ Hid (x.joins.all joinB = true))
 case first =>
  go_wp2_with fail
  go_loopg [55] u0 (fun gk a wr => ∃ i : Nat, i + gk = u0 ∧ a = .int .i64 i ∧ Hid (Below w3.heap.size w3 wr) ∧ Hid ((x.joins.take i).all joinB = true))
  case atStart => exact ⟨0, by omega, rfl, Lib.hid (Below.refl _ _), Lib.hid rfl⟩
  case round =>
   obtain ⟨i, hig, rfl, HQr, HAr⟩ := hrel
   by_cases hlt : i < u0
   · have hi1 : (i : Int) < (u0 : Int) := by omega
     obtain ⟨ad, z, T0, t0, u9, rfl, hax, sp⟩ := LQJ_at (Lay.rd_below HJ3.out HQr.out) hlt
     have x0 := sp.z0
     have x1 := sp.z1
     have x2 := sp.z2
     have x3 := sp.z3
     have HSPz := Lib.hid sp
     have HAX := Lib.hid hax
     have HTP := Lib.hid (HSP.out.1.2.1 z (List.mem_of_getElem? hax)).1
     have HZM := Lib.hid (List.mem_of_getElem? hax)
     have HQz := Lib.hid (bl_al (Below.refl wr.heap.size wr) (.cells #[.bool z.left, .string z.tb, .string z.as_, .slice T0 t0 u9] 85))
     have HZ := Lib.hid (Blk.new wr 85 #[.bool z.left, .string z.tb, .string z.as_, .slice T0 t0 u9])
     clear sp hax
     go_upto_region 12 with fail
     clear x0 x1 x2 x3
     generalize wr.alloc (.cells #[.bool z.left, .string z.tb, .string z.as_, .slice T0 t0 u9] 85) = wz at *
     refine wp_region_ps0 .text (S := fun _ _ w' => Below wz.heap.size wz w') (by kernel_rfl) ?spswg81 ?ppswg81
     case spswg81 =>
      exact (Below.refl wz.heap.size wz)
     refine Pz 0 (some 59) (.pointer (some ⟨wr.heap.size, 1, none⟩)) rfl rfl (by exact StepS.pure nP rfl fun _ => rfl) ?_
     try simp only [Act.put, sA, sZ, sS]
     refine Pz 1 (some 60) (.agg #[.string z.tb, .string z.as_]) rfl rfl ?ywg81_83 ?rwg81_83
     case ywg81_83 =>
      refine StepS.read [] (by kernel_rfl) nP (by rfl) (fun L9 m9 w9 hSh hAt hDn hS => ?_)
      have hT : Below _ _ w9 := hS
      have x0 : w9.cell? ⟨wr.heap.size, 1, none⟩ = some (.string z.tb) := (HZ.out.ca hT).cell 1
      have x1 : w9.cell? ⟨wr.heap.size, 2, none⟩ = some (.string z.as_) := (HZ.out.ca hT).cell 2
      clear hT hS
      go_simp
      try rfl
     try simp only [Act.put, sA, sZ, sS]
     refine Pz 2 (some 61) (.bool ((nameB z.tb && mayB z.as_))) rfl rfl ?ywg81_84 ?rwg81_84
     case ywg81_84 =>
      refine StepS.call ?fwg81_84 ?awg81_84 [] (by kernel_rfl) (by rfl) (fun w9 => ?hwg81_84) (fun L9 m9 w9 hSh hAt hDn hS => ?cwg81_84)
      case hwg81_84 => go_simp; refine ⟨?_, ?_⟩ <;> rfl
      case cwg81_84 =>
       have hT : Below _ _ w9 := hS
       refine (rsource_any z.tb z.as_ w9).mono ?_
       rintro e w8 ⟨rfl, q8⟩
       exact ⟨rfl, bl_ca hT q8⟩
     try simp only [Act.put, sA, sZ, sS]
     refine Pz 3 (some 62) (.bool (!((nameB z.tb && mayB z.as_)))) rfl rfl (by exact StepS.pure nP rfl fun _ => rfl) ?_
     try simp only [Act.put, sA, sZ, sS]
     obtain ⟨bq1212_4, hb9⟩ : ∃ zb : Bool, zb = (!((nameB z.tb && mayB z.as_))) := ⟨_, rfl⟩
     have HEbq1212_4 := Lib.hid hb9
     clear hb9
     refine Pz 4 (some 63) (.bool (bq1212_4)) rfl rfl ?ywg81_86 ?rwg81_86
     case ywg81_86 =>
      refine StepS.pure nP (by rfl) (fun w9 => ?_)
      have e9 : (!((nameB z.tb && mayB z.as_))) = bq1212_4 := by rw [HEbq1212_4.out]
      rw [← e9]
      clear e9
      first | rfl | (go_simp; done) | (go_simp; rfl)
     try simp only [Act.put, sA, sZ, sS]
     refine Pz 5 (some 64) (cond bq1212_4 (undef) (.pointer (some ⟨wr.heap.size, 3, none⟩))) rfl rfl (by cases bq1212_4; (exact StepS.pure nP rfl fun _ => rfl); exact StepS.skip nP rfl) ?_
     try simp only [Act.put, sA, sZ, sS]
     refine Pz 6 (some 65) (cond bq1212_4 (undef) (.agg #[.slice T0 t0 u9])) rfl rfl ?ywg81_88 ?rwg81_88
     case ywg81_88 =>
      cases bq1212_4
      · skip
        refine StepS.read [] (by kernel_rfl) nP (by rfl) (fun L9 m9 w9 hSh hAt hDn hS => ?_)
        have hT : Below _ _ w9 := hS
        have x0 : w9.cell? ⟨wr.heap.size, 3, none⟩ = some (.slice T0 t0 u9) := (HZ.out.ca hT).cell 3
        clear hT hS
        go_simp
        try rfl
      · exact StepS.skip nP (by rfl)
     try simp only [Act.put, sA, sZ, sS]
     refine Pz 7 (some 66) (cond bq1212_4 (undef) (.bool (okF z.on))) rfl rfl ?ywg81_89 ?rwg81_89
     case ywg81_89 =>
      cases bq1212_4
      · skip
        refine StepS.call ?fwg81_89 ?awg81_89 [] (by kernel_rfl) (by rfl) (fun w9 => ?hwg81_89) (fun L9 m9 w9 hSh hAt hDn hS => ?cwg81_89)
        case hwg81_89 => go_simp; refine ⟨?_, ?_⟩ <;> rfl
        case cwg81_89 =>
         have hT : Below _ _ w9 := hS
         refine (rright_any F z.on T0 t0 u9 w9 (Lay.rd_below (Lay.rd_below (Lay.rd_below HSPz.out.r0 HQz.out) hT) (Below.refl _ _)) (by have h1 := Lay.rd_len HSPz.out.r0; have h2 := HTP.out.2; omega) HTP.out.1).mono ?_
         rintro e w8 ⟨rfl, q8⟩
         exact ⟨rfl, bl_ca hT q8⟩
      · exact StepS.skip nP (by rfl)
     try simp only [Act.put, sA, sZ, sS]
     refine Pz 8 (some 67) (cond bq1212_4 (undef) (.bool (!(okF z.on)))) rfl rfl (by cases bq1212_4; (exact StepS.pure nP rfl fun _ => rfl); exact StepS.skip nP rfl) ?_
     try simp only [Act.put, sA, sZ, sS]
     obtain ⟨bF, hb9⟩ : ∃ zb : Bool, zb = ((!((nameB z.tb && mayB z.as_))) || (!(okF z.on))) := ⟨_, rfl⟩
     have HEbF := Lib.hid hb9
     clear hb9
     refine Pz 9 (some 68) (.bool (bF)) rfl rfl ?ywg81_91 ?rwg81_91
     case ywg81_91 =>
      refine StepS.pure nP (by rfl) (fun w9 => ?_)
      have e9 : (bq1212_4 || (!(okF z.on))) = bF := by rw [HEbF.out, HEbq1212_4.out]
      rw [← e9]
      clear e9
      cases bq1212_4 <;> (first | rfl | (go_simp; done) | (go_simp; rfl))
     try simp only [Act.put, sA, sZ, sS]
     refine Ps.done (by kernel_rfl) (fun wg81 hS => ?_) _
     try generalize (cond bq1212_4 (undef) (.pointer (some ⟨wr.heap.size, 3, none⟩)) : Value) = zz92
     try generalize (cond bq1212_4 (undef) (.agg #[.slice T0 t0 u9]) : Value) = zz93
     try generalize (cond bq1212_4 (undef) (.bool (!(okF z.on))) : Value) = zz94
     try generalize (cond bq1212_4 (undef) (.bool (okF z.on)) : Value) = zz95
     try generalize (.bool (!((nameB z.tb && mayB z.as_))) : Value) = zz96
     try generalize (.bool ((nameB z.tb && mayB z.as_)) : Value) = zz97
     have HQf := Lib.hid (show Below wz.heap.size wz wg81 from hS)
     clear hS
     obtain ⟨wf, rfl⟩ : ∃ x, x = wg81 := ⟨_, rfl⟩
     cases bF
     case true =>
      have HZF := Lib.hid (show joinB z = false from by unfold joinB; have h9 := HEbF.out; generalize okF z.on = v1 at *; generalize nameB z.tb = v2 at *; generalize mayB z.as_ = v3 at *; revert h9; cases v1 <;> cases v2 <;> cases v3 <;> decide)
      have HRF := Lib.hid (show rr = false from by rw [HRR.out]; exact sel_no2 (all_false HAX.out HZF.out))
      go_wp2_with fail
      go_ret
      exact ⟨ret_bool HRF.out.symm, bl_ca HQ03.out (bl_ca HQr.out (bl_ca HQz.out HQf.out))⟩
     case false =>
      have HZT := Lib.hid (show joinB z = true from by unfold joinB; have h9 := HEbF.out; generalize okF z.on = v1 at *; generalize nameB z.tb = v2 at *; generalize mayB z.as_ = v3 at *; revert h9; cases v1 <;> cases v2 <;> cases v3 <;> decide)
      go_wp2_with fail
      go_roundg (gk - 1)
      · exact ⟨i + 1, by omega, by go_num, Lib.hid (bl_ca HQr.out (bl_ca HQz.out HQf.out)), Lib.hid (all_stepQ HAX.out HAr.out HZT.out)⟩
      · omega
   · have hi1 : ¬ ((i : Int) < (u0 : Int)) := by omega
     have hie : i = u0 := by omega
     have HAe := Lib.hid (show x.joins.all joinB = true from by have h9 := HAr.out; rw [List.take_of_length_le (by have := Lay.rd_len HJ3.out; omega)] at h9; exact h9)
     clear hie HAr
     go_wp2_with fail
     go_meet
     exact ⟨HQr, HAe⟩
 case rest =>
 obtain ⟨HQ4, HA4⟩ := hcut
 obtain ⟨w4, rfl⟩ : ∃ x, x = wc := ⟨_, rfl⟩
 have HB4 := Lib.hid (HB3.out.ca HQ4.out)
 have HG4 := Lib.hid (Lay.rd_below (Lay.rd_below HG2.out HQ3.out) HQ4.out)
 have HQ04 := Lib.hid (bl_ca HQ03.out HQ4.out)
 have yC := HB4.out.cell 8
 go_upto_block 4 with fail
 clear yC
 go_cut [] (fun wx => Hid (Below w4.heap.size w4 wx) ∧ Hid (x.grp.all nmB = true))
 case first =>
  go_wp2_with fail
  go_loopg [73] p0 (fun gk a wr => ∃ i : Nat, i + gk = p0 ∧ a = .int .i64 i ∧ Hid (Below w4.heap.size w4 wr) ∧ Hid ((x.grp.take i).all nmB = true))
  case atStart => exact ⟨0, by omega, rfl, Lib.hid (Below.refl _ _), Lib.hid rfl⟩
  case round =>
   obtain ⟨i, hig, rfl, HQr, HAr⟩ := hrel
   by_cases hlt : i < p0
   · have hi1 : (i : Int) < (p0 : Int) := by omega
     obtain ⟨ad, z, rfl, hax, sp⟩ := LQN_at (Lay.rd_below HG4.out HQr.out) hlt
     have x0 := sp.z0
     have x1 := sp.z1
     have HSPz := Lib.hid sp
     have HAX := Lib.hid hax
     have HZM := Lib.hid (List.mem_of_getElem? hax)
     have HQz := Lib.hid (bl_al (Below.refl wr.heap.size wr) (.cells #[.string z.tb, .string z.nm] 88))
     have HZ := Lib.hid (Blk.new wr 88 #[.string z.tb, .string z.nm])
     clear sp hax
     go_upto_region 18 with fail
     clear x0 x1
     generalize wr.alloc (.cells #[.string z.tb, .string z.nm] 88) = wz at *
     refine wp_region_ps0 .text (S := fun _ _ w' => Below wz.heap.size wz w') (by kernel_rfl) ?spswg98 ?ppswg98
     case spswg98 =>
      exact (Below.refl wz.heap.size wz)
     refine Pz 0 (some 77) (.pointer (some ⟨wr.heap.size, 1, none⟩)) rfl rfl (by exact StepS.pure nP rfl fun _ => rfl) ?_
     try simp only [Act.put, sA, sZ, sS]
     refine Pz 1 (some 78) (.string z.nm) rfl rfl ?ywg98_100 ?rwg98_100
     case ywg98_100 =>
      refine StepS.read [] (by kernel_rfl) nP (by rfl) (fun L9 m9 w9 hSh hAt hDn hS => ?_)
      have hT : Below _ _ w9 := hS
      have x0 : w9.cell? ⟨wr.heap.size, 1, none⟩ = some (.string z.nm) := (HZ.out.ca hT).cell 1
      clear hT hS
      go_simp
      try rfl
     try simp only [Act.put, sA, sZ, sS]
     refine Pz 2 (some 79) (.bool (nameB z.nm)) rfl rfl ?ywg98_101 ?rwg98_101
     case ywg98_101 =>
      refine StepS.call ?fwg98_101 ?awg98_101 [] (by kernel_rfl) (by rfl) (fun w9 => ?hwg98_101) (fun L9 m9 w9 hSh hAt hDn hS => ?cwg98_101)
      case hwg98_101 => go_simp; refine ⟨?_, ?_⟩ <;> rfl
      case cwg98_101 =>
       have hT : Below _ _ w9 := hS
       refine (risname_any z.nm w9).mono ?_
       rintro e w8 ⟨rfl, q8⟩
       exact ⟨rfl, bl_ca hT q8⟩
     try simp only [Act.put, sA, sZ, sS]
     refine Pz 3 (some 80) (.bool (!(nameB z.nm))) rfl rfl (by exact StepS.pure nP rfl fun _ => rfl) ?_
     try simp only [Act.put, sA, sZ, sS]
     obtain ⟨bq1818_4, hb9⟩ : ∃ zb : Bool, zb = (!(nameB z.nm)) := ⟨_, rfl⟩
     have HEbq1818_4 := Lib.hid hb9
     clear hb9
     refine Pz 4 (some 81) (.bool (bq1818_4)) rfl rfl ?ywg98_103 ?rwg98_103
     case ywg98_103 =>
      refine StepS.pure nP (by rfl) (fun w9 => ?_)
      have e9 : (!(nameB z.nm)) = bq1818_4 := by rw [HEbq1818_4.out]
      rw [← e9]
      clear e9
      first | rfl | (go_simp; done) | (go_simp; rfl)
     try simp only [Act.put, sA, sZ, sS]
     refine Pz 5 (some 82) (cond bq1818_4 (undef) (.pointer (some ⟨wr.heap.size, 0, none⟩))) rfl rfl (by cases bq1818_4; (exact StepS.pure nP rfl fun _ => rfl); exact StepS.skip nP rfl) ?_
     try simp only [Act.put, sA, sZ, sS]
     refine Pz 6 (some 83) (cond bq1818_4 (undef) (.string z.tb)) rfl rfl ?ywg98_105 ?rwg98_105
     case ywg98_105 =>
      cases bq1818_4
      · skip
        refine StepS.read [] (by kernel_rfl) nP (by rfl) (fun L9 m9 w9 hSh hAt hDn hS => ?_)
        have hT : Below _ _ w9 := hS
        have x0 : w9.cell? ⟨wr.heap.size, 0, none⟩ = some (.string z.tb) := (HZ.out.ca hT).cell 0
        clear hT hS
        go_simp
        try rfl
      · exact StepS.skip nP (by rfl)
     try simp only [Act.put, sA, sZ, sS]
     refine Pz 7 (some 84) (cond bq1818_4 (undef) (.bool (mayB z.tb))) rfl rfl ?ywg98_106 ?rwg98_106
     case ywg98_106 =>
      cases bq1818_4
      · skip
        refine StepS.call ?fwg98_106 ?awg98_106 [] (by kernel_rfl) (by rfl) (fun w9 => ?hwg98_106) (fun L9 m9 w9 hSh hAt hDn hS => ?cwg98_106)
        case hwg98_106 => go_simp; refine ⟨?_, ?_⟩ <;> rfl
        case cwg98_106 =>
         have hT : Below _ _ w9 := hS
         refine (rmaybe_any z.tb w9).mono ?_
         rintro e w8 ⟨rfl, q8⟩
         exact ⟨rfl, bl_ca hT q8⟩
      · exact StepS.skip nP (by rfl)
     try simp only [Act.put, sA, sZ, sS]
     refine Pz 8 (some 85) (cond bq1818_4 (undef) (.bool (!(mayB z.tb)))) rfl rfl (by cases bq1818_4; (exact StepS.pure nP rfl fun _ => rfl); exact StepS.skip nP rfl) ?_
     try simp only [Act.put, sA, sZ, sS]
     obtain ⟨bF, hb9⟩ : ∃ zb : Bool, zb = ((!(nameB z.nm)) || (!(mayB z.tb))) := ⟨_, rfl⟩
     have HEbF := Lib.hid hb9
     clear hb9
     refine Pz 9 (some 86) (.bool (bF)) rfl rfl ?ywg98_108 ?rwg98_108
     case ywg98_108 =>
      refine StepS.pure nP (by rfl) (fun w9 => ?_)
      have e9 : (bq1818_4 || (!(mayB z.tb))) = bF := by rw [HEbF.out, HEbq1818_4.out]
      rw [← e9]
      clear e9
      cases bq1818_4 <;> (first | rfl | (go_simp; done) | (go_simp; rfl))
     try simp only [Act.put, sA, sZ, sS]
     refine Ps.done (by kernel_rfl) (fun wg98 hS => ?_) _
     try generalize (cond bq1818_4 (undef) (.pointer (some ⟨wr.heap.size, 0, none⟩)) : Value) = zz109
     try generalize (cond bq1818_4 (undef) (.bool (!(mayB z.tb))) : Value) = zz110
     try generalize (cond bq1818_4 (undef) (.bool (mayB z.tb)) : Value) = zz111
     try generalize (cond bq1818_4 (undef) (.string z.tb) : Value) = zz112
     have HQf := Lib.hid (show Below wz.heap.size wz wg98 from hS)
     clear hS
     obtain ⟨wf, rfl⟩ : ∃ x, x = wg98 := ⟨_, rfl⟩
     cases bF
     case true =>
      have HZF := Lib.hid (show nmB z = false from by unfold nmB; have h9 := HEbF.out; generalize nameB z.nm = v1 at *; generalize mayB z.tb = v2 at *; revert h9; cases v1 <;> cases v2 <;> decide)
      have HRF := Lib.hid (show rr = false from by rw [HRR.out]; exact sel_no3 (all_false HAX.out HZF.out))
      go_wp2_with fail
      go_ret
      exact ⟨ret_bool HRF.out.symm, bl_ca HQ04.out (bl_ca HQr.out (bl_ca HQz.out HQf.out))⟩
     case false =>
      have HZT := Lib.hid (show nmB z = true from by unfold nmB; have h9 := HEbF.out; generalize nameB z.nm = v1 at *; generalize mayB z.tb = v2 at *; revert h9; cases v1 <;> cases v2 <;> decide)
      go_wp2_with fail
      go_roundg (gk - 1)
      · exact ⟨i + 1, by omega, by go_num, Lib.hid (bl_ca HQr.out (bl_ca HQz.out HQf.out)), Lib.hid (all_stepQ HAX.out HAr.out HZT.out)⟩
      · omega
   · have hi1 : ¬ ((i : Int) < (p0 : Int)) := by omega
     have hie : i = p0 := by omega
     have HAe := Lib.hid (show x.grp.all nmB = true from by have h9 := HAr.out; rw [List.take_of_length_le (by have := Lay.rd_len HG4.out; omega)] at h9; exact h9)
     clear hie HAr
     go_wp2_with fail
     go_meet
     exact ⟨HQr, HAe⟩
 case rest =>
 obtain ⟨HQ5, HA5⟩ := hcut
 obtain ⟨w5, rfl⟩ : ∃ x, x = wc := ⟨_, rfl⟩
 have HB5 := Lib.hid (HB4.out.ca HQ5.out)
 have HW5 := Lib.hid (Lay.rd_below (Lay.rd_below (Lay.rd_below HW2.out HQ3.out) HQ4.out) HQ5.out)
 have HH5 := Lib.hid (Lay.rd_below (Lay.rd_below (Lay.rd_below HH2.out HQ3.out) HQ4.out) HQ5.out)
 have HQ05 := Lib.hid (bl_ca HQ04.out HQ5.out)
 go_upto_region 21 with fail
 refine wp_region_ps0 .text (S := fun _ _ w' => Below w5.heap.size w5 w') (by kernel_rfl) ?spswg113 ?ppswg113
 case spswg113 =>
  exact (Below.refl w5.heap.size w5)
 refine Pz 0 (some 88) (.pointer (some ⟨w.heap.size, 3, none⟩)) rfl rfl (by exact StepS.pure nP rfl fun _ => rfl) ?_
 try simp only [Act.put, sA, sZ, sS]
 refine Pz 1 (some 89) (.agg #[.string x.ftb, .string x.fas]) rfl rfl ?ywg113_115 ?rwg113_115
 case ywg113_115 =>
  refine StepS.read [] (by kernel_rfl) nP (by rfl) (fun L9 m9 w9 hSh hAt hDn hS => ?_)
  have hT : Below _ _ w9 := hS
  have x0 : w9.cell? ⟨w.heap.size, 3, none⟩ = some (.string x.ftb) := (HB5.out.ca hT).cell 3
  have x1 : w9.cell? ⟨w.heap.size, 4, none⟩ = some (.string x.fas) := (HB5.out.ca hT).cell 4
  clear hT hS
  go_simp
  try rfl
 try simp only [Act.put, sA, sZ, sS]
 refine Pz 2 (some 90) (.bool ((nameB x.ftb && mayB x.fas))) rfl rfl ?ywg113_116 ?rwg113_116
 case ywg113_116 =>
  refine StepS.call ?fwg113_116 ?awg113_116 [] (by kernel_rfl) (by rfl) (fun w9 => ?hwg113_116) (fun L9 m9 w9 hSh hAt hDn hS => ?cwg113_116)
  case hwg113_116 => go_simp; refine ⟨?_, ?_⟩ <;> rfl
  case cwg113_116 =>
   have hT : Below _ _ w9 := hS
   refine (rsource_any x.ftb x.fas w9).mono ?_
   rintro e w8 ⟨rfl, q8⟩
   exact ⟨rfl, bl_ca hT q8⟩
 try simp only [Act.put, sA, sZ, sS]
 obtain ⟨bz21_3, hb9⟩ : ∃ zb : Bool, zb = ((nameB x.ftb && mayB x.fas)) := ⟨_, rfl⟩
 have HEbz21_3 := Lib.hid hb9
 clear hb9
 refine Pz 3 (some 91) (.bool (bz21_3)) rfl rfl ?ywg113_117 ?rwg113_117
 case ywg113_117 =>
  refine StepS.pure nP (by rfl) (fun w9 => ?_)
  have e9 : ((nameB x.ftb && mayB x.fas)) = bz21_3 := by rw [HEbz21_3.out]
  rw [← e9]
  clear e9
  first | rfl | (go_simp; done) | (go_simp; rfl)
 try simp only [Act.put, sA, sZ, sS]
 refine Pz 4 (some 92) (cond bz21_3 (.pointer (some ⟨w.heap.size, 6, none⟩)) (undef)) rfl rfl (by cases bz21_3; exact StepS.skip nP rfl; exact StepS.pure nP rfl fun _ => rfl) ?_
 try simp only [Act.put, sA, sZ, sS]
 refine Pz 5 (some 93) (cond bz21_3 (.agg #[.slice W0 a0 b0]) (undef)) rfl rfl ?ywg113_119 ?rwg113_119
 case ywg113_119 =>
  cases bz21_3
  · exact StepS.skip nP (by rfl)
  · skip
    refine StepS.read [] (by kernel_rfl) nP (by rfl) (fun L9 m9 w9 hSh hAt hDn hS => ?_)
    have hT : Below _ _ w9 := hS
    have x0 : w9.cell? ⟨w.heap.size, 6, none⟩ = some (.slice W0 a0 b0) := (HB5.out.ca hT).cell 6
    clear hT hS
    go_simp
    try rfl
 try simp only [Act.put, sA, sZ, sS]
 refine Pz 6 (some 94) (cond bz21_3 (.bool (noneB x.wh)) (undef)) rfl rfl ?ywg113_120 ?rwg113_120
 case ywg113_120 =>
  cases bz21_3
  · exact StepS.skip nP (by rfl)
  · skip
    refine StepS.call ?fwg113_120 ?awg113_120 [] (by kernel_rfl) (by rfl) (fun w9 => ?hwg113_120) (fun L9 m9 w9 hSh hAt hDn hS => ?cwg113_120)
    case hwg113_120 => go_simp; refine ⟨?_, ?_⟩ <;> rfl
    case cwg113_120 =>
     have hT : Below _ _ w9 := hS
     refine (rnone_any F x.wh W0 a0 b0 w9 (Lay.rd_below HW5.out hT) HSP.out.2.1.1).mono ?_
     rintro e w8 ⟨rfl, q8⟩
     exact ⟨rfl, bl_ca hT q8⟩
 try simp only [Act.put, sA, sZ, sS]
 refine Pz 7 (some 95) (.bool (bz21_3 && (noneB x.wh))) rfl rfl ?ywg113_121 ?rwg113_121
 case ywg113_121 =>
  refine StepS.pure nP (by rfl) (fun w9 => ?_)
  cases bz21_3 <;> (first | rfl | (go_simp; done) | (go_simp; rfl))
 try simp only [Act.put, sA, sZ, sS]
 obtain ⟨bz21_8, hb9⟩ : ∃ zb : Bool, zb = (((nameB x.ftb && mayB x.fas)) && (noneB x.wh)) := ⟨_, rfl⟩
 have HEbz21_8 := Lib.hid hb9
 clear hb9
 refine Pz 8 (some 96) (.bool (bz21_8)) rfl rfl ?ywg113_122 ?rwg113_122
 case ywg113_122 =>
  refine StepS.pure nP (by rfl) (fun w9 => ?_)
  have e9 : (bz21_3 && (noneB x.wh)) = bz21_8 := by rw [HEbz21_8.out, HEbz21_3.out]
  rw [← e9]
  clear e9
  first | rfl | (go_simp; done) | (go_simp; rfl)
 try simp only [Act.put, sA, sZ, sS]
 refine Pz 9 (some 97) (cond bz21_8 (.pointer (some ⟨w.heap.size, 7, none⟩)) (undef)) rfl rfl (by cases bz21_8; exact StepS.skip nP rfl; exact StepS.pure nP rfl fun _ => rfl) ?_
 try simp only [Act.put, sA, sZ, sS]
 refine Pz 10 (some 98) (cond bz21_8 (.agg #[.slice H0 e0 f0]) (undef)) rfl rfl ?ywg113_124 ?rwg113_124
 case ywg113_124 =>
  cases bz21_8
  · exact StepS.skip nP (by rfl)
  · skip
    refine StepS.read [] (by kernel_rfl) nP (by rfl) (fun L9 m9 w9 hSh hAt hDn hS => ?_)
    have hT : Below _ _ w9 := hS
    have x0 : w9.cell? ⟨w.heap.size, 7, none⟩ = some (.slice H0 e0 f0) := (HB5.out.ca hT).cell 7
    clear hT hS
    go_simp
    try rfl
 try simp only [Act.put, sA, sZ, sS]
 refine Pz 11 (some 99) (cond bz21_8 (.bool (noneB x.hv)) (undef)) rfl rfl ?ywg113_125 ?rwg113_125
 case ywg113_125 =>
  cases bz21_8
  · exact StepS.skip nP (by rfl)
  · skip
    refine StepS.call ?fwg113_125 ?awg113_125 [] (by kernel_rfl) (by rfl) (fun w9 => ?hwg113_125) (fun L9 m9 w9 hSh hAt hDn hS => ?cwg113_125)
    case hwg113_125 => go_simp; refine ⟨?_, ?_⟩ <;> rfl
    case cwg113_125 =>
     have hT : Below _ _ w9 := hS
     refine (rnone_any F x.hv H0 e0 f0 w9 (Lay.rd_below HH5.out hT) HSP.out.2.1.2).mono ?_
     rintro e w8 ⟨rfl, q8⟩
     exact ⟨rfl, bl_ca hT q8⟩
 try simp only [Act.put, sA, sZ, sS]
 obtain ⟨bF, hb9⟩ : ∃ zb : Bool, zb = ((((nameB x.ftb && mayB x.fas)) && (noneB x.wh)) && (noneB x.hv)) := ⟨_, rfl⟩
 have HEbF := Lib.hid hb9
 clear hb9
 refine Pz 12 (some 100) (.bool (bF)) rfl rfl ?ywg113_126 ?rwg113_126
 case ywg113_126 =>
  refine StepS.pure nP (by rfl) (fun w9 => ?_)
  have e9 : (bz21_8 && (noneB x.hv)) = bF := by rw [HEbF.out, HEbz21_8.out]
  rw [← e9]
  clear e9
  cases bz21_8 <;> (first | rfl | (go_simp; done) | (go_simp; rfl))
 try simp only [Act.put, sA, sZ, sS]
 refine Pz 13 (some 2) (.bool (bF)) rfl rfl (by exact StepS.pure nP rfl fun _ => rfl) ?_
 try simp only [Act.put, sA, sZ, sS]
 refine Ps.done (by kernel_rfl) (fun wg113 hS => ?_) _
 try generalize (cond bz21_3 (.pointer (some ⟨w.heap.size, 6, none⟩)) (undef) : Value) = zz128
 try generalize (cond bz21_8 (.pointer (some ⟨w.heap.size, 7, none⟩)) (undef) : Value) = zz129
 try generalize (cond bz21_8 (.agg #[.slice H0 e0 f0]) (undef) : Value) = zz130
 try generalize (cond bz21_3 (.agg #[.slice W0 a0 b0]) (undef) : Value) = zz131
 try generalize (cond bz21_8 (.bool (noneB x.hv)) (undef) : Value) = zz132
 try generalize (cond bz21_3 (.bool (noneB x.wh)) (undef) : Value) = zz133
 try generalize (.bool ((nameB x.ftb && mayB x.fas)) : Value) = zz134
 try generalize (.bool (bz21_3 && (noneB x.wh)) : Value) = zz135
 have HQ6 := Lib.hid (show Below w5.heap.size w5 wg113 from hS)
 clear hS
 obtain ⟨w6, rfl⟩ : ∃ x, x = wg113 := ⟨_, rfl⟩
 have HFF := Lib.hid (show bF = rr from by
  rw [HEbF.out, HRR.out]
  have h1 := HEbS.out
  have hl := HLN.out
  unfold selB
  rw [HA3.out, HA4.out, HA5.out]
  have hsh : selShape x = true := by
   unfold selShape
   rw [hl.1, hl.2.1, hl.2.2]
   simp at h1
   simp only [Bool.and_eq_true, decide_eq_true_eq]
   refine ⟨?_, by omega, by omega, by omega⟩
   obtain ⟨⟨⟨h2, _⟩, _⟩, _⟩ := h1
   rw [h2]
  rw [hsh]
  simp only [Bool.true_and, Bool.and_assoc])
 go_wp2_with fail
 go_ret
 exact ⟨ret_bool HFF.out, bl_ca HQ05.out HQ6.out⟩
end Go.Proofs.YtoaggmldekejoaaGreatDoor
