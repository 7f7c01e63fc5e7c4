/- The layer's CheckTable, Check. Conditions: the slices read so; what the tables hold; the names are short. -/
import Derived.Test.YthgcdilkkldgjaaGreatDoorPkC8
namespace Go.Proofs.YthgcdilkkldgjaaGreatDoor
open Go.RowKit
def eT (b : Bool) : Int := if b then 0 else 211
def eC (b : Bool) : Int := if b then 0 else 210
theorem tabB_eq (t : TC) : tabB t = ((nameB t.name && (decide (1 ≤ t.cols.length) && (decide (t.cols.length ≤ 4) && onceB (t.cols.map CO.name)))) && (t.cols.all (fun c => kindB c.kind) && strictB t.cols.length (-1) t.keys)) := by
  rw [Bool.eq_iff_iff, tabB_iff]
  simp only [Bool.and_eq_true, decide_eq_true_eq, onceB_iff, List.all_eq_true]
  constructor
  · rintro ⟨h1, h2, h3, h4, h5, h6⟩
    refine ⟨⟨h1, h2, h3, fun i x hx => ?_⟩, fun c hc => ?_, h6⟩
    · rw [List.getElem?_map] at hx
      cases e : t.cols[i]? with
      | none => rw [e] at hx; cases hx
      | some c =>
        rw [e] at hx
        injection hx with hx
        subst hx
        have h9 := h4 i c e
        unfold colB at h9
        rw [Bool.and_eq_true] at h9
        refine ⟨h9.1, fun j y hj hy => ?_⟩
        rw [List.getElem?_map] at hy
        cases e2 : t.cols[j]? with
        | none => rw [e2] at hy; cases hy
        | some d =>
          rw [e2] at hy
          injection hy with hy
          subst hy
          exact h5 j i d c hj e2 e
    · obtain ⟨k, hk, e⟩ := List.getElem_of_mem hc
      have h9 := h4 k c (by rw [← e]; exact List.getElem?_eq_getElem hk)
      unfold colB at h9
      rw [Bool.and_eq_true] at h9
      exact h9.2
  · rintro ⟨⟨h1, h2, h3, h4⟩, h5, h6⟩
    refine ⟨h1, h2, h3, fun k c hc => ?_, fun i k a b hik ha hb => ?_, h6⟩
    · unfold colB
      rw [Bool.and_eq_true]
      exact ⟨(h4 k c.name (by rw [List.getElem?_map, hc]; rfl)).1, h5 c (List.mem_of_getElem? hc)⟩
    · exact (h4 k b.name (by rw [List.getElem?_map, hb]; rfl)).2 i a.name hik (by rw [List.getElem?_map, ha]; rfl)
set_option maxRecDepth 100000 in
set_option maxHeartbeats 8000000 in
theorem checkt_any (F F2 : Nat → Prop) (t : TC) (A : Option Addr) (m c : Nat) (B : Option Addr) (n d : Nat) (w : World) (h : LCO.rd w F A m t.cols) (h2 : LK.rd w F2 B n t.keys) (hm : m ≤ 9223372036854775807) (hn : n ≤ 9223372036854775807) (hT : Tab w) (hs : Sz t) :
    Calls Tryz.prog 30 #[.agg (t.cells A m c B n d)] w fun e w' => e = .returned (.int .i64 (eT (tabB t))) ∧ Below w.heap.size w w' := by
  have HL := Lib.hid (Lay.rd_len h)
  have HL2 := Lib.hid (Lay.rd_len h2)
  have HSZ := Lib.hid hs
  have HR := Lib.hid (tabB_eq t)
  rw [HL.out] at HR
  generalize tabB t = r at *
  have q1 := bl_al (Below.refl w.heap.size w) (.cells (t.cells A m c B n d) 41)
  have h1 := Lay.rd_below h q1
  have k1 := Lay.rd_below h2 q1
  have HT := Lib.hid (hT.below q1)
  have HB := Lib.hid (Blk.new w 41 (t.cells A m c B n d))
  have HQ := Lib.hid q1
  clear q1 h h2 hT hs
  go_enter Tryz.func30, Tryz.ntmps30
  go_upto_region 1 with fail
  generalize w.alloc (.cells (t.cells A m c B n d) 41) = w1 at *
  obtain ⟨qn, hqn⟩ : ∃ qn, qn = nameB t.name := ⟨_, rfl⟩
  obtain ⟨on, hon⟩ : ∃ on, on = onceB (t.cols.map CO.name) := ⟨_, rfl⟩
  have HQN := Lib.hid hqn
  have HON := Lib.hid hon
  rw [← hqn, ← hon] at HR
  clear hqn hon
  refine wp_region_ps0 .text (S := fun _ _ w' => Below w1.heap.size w1 w') (by kernel_rfl) ?spswg1 ?ppswg1
  case spswg1 =>
    exact (Below.refl w1.heap.size w1)
  refine Ps.st (i := 0) (d := some 8) (u := (.pointer (some ⟨w.heap.size, 0, none⟩))) rfl rfl (by exact StepS.pure nP rfl fun _ => rfl) ?_
  try simp only [Act.put, sA, sZ, sS]
  refine Ps.st (i := 1) (d := some 9) (u := (.string t.name)) rfl rfl ?ywg1_3 ?rwg1_3
  case ywg1_3 =>
    refine StepS.read [] (by kernel_rfl) nP (by rfl) (fun L9 m9 w9 hSh hAt hDn hS => ?_)
    have hT : Below _ _ w9 := hS
    have x0 : w9.cell? ⟨w.heap.size, 0, none⟩ = some (.string t.name) := (HB.out.ca hT).cell 0
    clear hT hS
    go_simp
    try rfl
  try simp only [Act.put, sA, sZ, sS]
  refine Ps.st (i := 2) (d := some 10) (u := (.bool (qn))) rfl rfl ?ywg1_4 ?rwg1_4
  case ywg1_4 =>
    refine StepS.call ?fwg1_4 ?awg1_4 [] (by kernel_rfl) (by rfl) (fun w9 => ?hwg1_4) (fun L9 m9 w9 hSh hAt hDn hS => ?cwg1_4)
    case hwg1_4 => go_simp; refine ⟨?_, ?_⟩ <;> rfl
    case cwg1_4 =>
      have hT : Below _ _ w9 := hS
      refine (isname_any t.name w9 (HT.out.below hT) (by have := HSZ.out.1; omega)).mono ?_
      rintro e w8 ⟨rfl, q8⟩
      exact ⟨by rw [HQN.out], bl_ca hT q8⟩
  try simp only [Act.put, sA, sZ, sS]
  obtain ⟨b1_3, hb9⟩ : ∃ zb : Bool, zb = (qn) := ⟨_, rfl⟩
  have HEb1_3 := Lib.hid hb9
  clear hb9
  refine Ps.st (i := 3) (d := some 11) (u := (.bool (b1_3))) rfl rfl ?ywg1_5 ?rwg1_5
  case ywg1_5 =>
    refine StepS.pure nP (by rfl) (fun w9 => ?_)
    have e9 : (qn) = b1_3 := by rw [HEb1_3.out]
    rw [← e9]
    clear e9
    first | rfl | (go_simp; done) | (go_simp; rfl)
  try simp only [Act.put, sA, sZ, sS]
  refine Ps.st (i := 4) (d := some 12) (u := (cond b1_3 (.pointer (some ⟨w.heap.size, 1, none⟩)) (undef))) rfl rfl (by cases b1_3; exact StepS.skip nP rfl; exact StepS.pure nP rfl fun _ => rfl) ?_
  try simp only [Act.put, sA, sZ, sS]
  refine Ps.st (i := 5) (d := some 13) (u := (cond b1_3 (.slice A m c) (undef))) rfl rfl ?ywg1_7 ?rwg1_7
  case ywg1_7 =>
    cases b1_3
    · exact StepS.skip nP (by rfl)
    · skip
      refine StepS.read [] (by kernel_rfl) nP (by rfl) (fun L9 m9 w9 hSh hAt hDn hS => ?_)
      have hT : Below _ _ w9 := hS
      have x0 : w9.cell? ⟨w.heap.size, 1, none⟩ = some (.slice A m c) := (HB.out.ca hT).cell 1
      clear hT hS
      go_simp
      try rfl
  try simp only [Act.put, sA, sZ, sS]
  refine Ps.st (i := 6) (d := some 14) (u := (cond b1_3 (.int .i64 ((m : Int))) (undef))) rfl rfl (by cases b1_3; exact StepS.skip nP rfl; exact StepS.pure nP rfl fun _ => by first | rfl | (go_simp; done) | (go_simp; rfl)) ?_
  try simp only [Act.put, sA, sZ, sS]
  refine Ps.st (i := 7) (d := some 15) (u := (cond b1_3 (.bool (decide ((1 : Int) ≤ (m : Int)))) (undef))) rfl rfl (by cases b1_3; exact StepS.skip nP rfl; exact StepS.pure nP rfl fun _ => rfl) ?_
  try simp only [Act.put, sA, sZ, sS]
  refine Ps.st (i := 8) (d := some 16) (u := (.bool (b1_3 && (decide ((1 : Int) ≤ (m : Int)))))) rfl rfl ?ywg1_10 ?rwg1_10
  case ywg1_10 =>
    refine StepS.pure nP (by rfl) (fun w9 => ?_)
    cases b1_3 <;> (first | rfl | (go_simp; done) | (go_simp; rfl))
  try simp only [Act.put, sA, sZ, sS]
  obtain ⟨b1_9, hb9⟩ : ∃ zb : Bool, zb = ((qn) && (decide ((1 : Int) ≤ (m : Int)))) := ⟨_, rfl⟩
  have HEb1_9 := Lib.hid hb9
  clear hb9
  refine Ps.st (i := 9) (d := some 17) (u := (.bool (b1_9))) rfl rfl ?ywg1_11 ?rwg1_11
  case ywg1_11 =>
    refine StepS.pure nP (by rfl) (fun w9 => ?_)
    have e9 : (b1_3 && (decide ((1 : Int) ≤ (m : Int)))) = b1_9 := by rw [HEb1_9.out, HEb1_3.out]
    rw [← e9]
    clear e9
    first | rfl | (go_simp; done) | (go_simp; rfl)
  try simp only [Act.put, sA, sZ, sS]
  refine Ps.st (i := 10) (d := some 18) (u := (cond b1_9 (.pointer (some ⟨w.heap.size, 1, none⟩)) (undef))) rfl rfl (by cases b1_9; exact StepS.skip nP rfl; exact StepS.pure nP rfl fun _ => rfl) ?_
  try simp only [Act.put, sA, sZ, sS]
  refine Ps.st (i := 11) (d := some 19) (u := (cond b1_9 (.slice A m c) (undef))) rfl rfl ?ywg1_13 ?rwg1_13
  case ywg1_13 =>
    cases b1_9
    · exact StepS.skip nP (by rfl)
    · skip
      refine StepS.read [] (by kernel_rfl) nP (by rfl) (fun L9 m9 w9 hSh hAt hDn hS => ?_)
      have hT : Below _ _ w9 := hS
      have x0 : w9.cell? ⟨w.heap.size, 1, none⟩ = some (.slice A m c) := (HB.out.ca hT).cell 1
      clear hT hS
      go_simp
      try rfl
  try simp only [Act.put, sA, sZ, sS]
  refine Ps.st (i := 12) (d := some 20) (u := (cond b1_9 (.int .i64 ((m : Int))) (undef))) rfl rfl (by cases b1_9; exact StepS.skip nP rfl; exact StepS.pure nP rfl fun _ => by first | rfl | (go_simp; done) | (go_simp; rfl)) ?_
  try simp only [Act.put, sA, sZ, sS]
  refine Ps.st (i := 13) (d := some 21) (u := (cond b1_9 (.bool (decide ((m : Int) ≤ 4))) (undef))) rfl rfl (by cases b1_9; exact StepS.skip nP rfl; exact StepS.pure nP rfl fun _ => rfl) ?_
  try simp only [Act.put, sA, sZ, sS]
  refine Ps.st (i := 14) (d := some 22) (u := (.bool (b1_9 && (decide ((m : Int) ≤ 4))))) rfl rfl ?ywg1_16 ?rwg1_16
  case ywg1_16 =>
    refine StepS.pure nP (by rfl) (fun w9 => ?_)
    cases b1_9 <;> (first | rfl | (go_simp; done) | (go_simp; rfl))
  try simp only [Act.put, sA, sZ, sS]
  obtain ⟨b1_15, hb9⟩ : ∃ zb : Bool, zb = (((qn) && (decide ((1 : Int) ≤ (m : Int)))) && (decide ((m : Int) ≤ 4))) := ⟨_, rfl⟩
  have HEb1_15 := Lib.hid hb9
  clear hb9
  refine Ps.st (i := 15) (d := some 23) (u := (.bool (b1_15))) rfl rfl ?ywg1_17 ?rwg1_17
  case ywg1_17 =>
    refine StepS.pure nP (by rfl) (fun w9 => ?_)
    have e9 : (b1_9 && (decide ((m : Int) ≤ 4))) = b1_15 := by rw [HEb1_15.out, HEb1_9.out]
    rw [← e9]
    clear e9
    first | rfl | (go_simp; done) | (go_simp; rfl)
  try simp only [Act.put, sA, sZ, sS]
  refine Ps.st (i := 16) (d := some 24) (u := (cond b1_15 (.pointer (some ⟨w.heap.size, 1, none⟩)) (undef))) rfl rfl (by cases b1_15; exact StepS.skip nP rfl; exact StepS.pure nP rfl fun _ => rfl) ?_
  try simp only [Act.put, sA, sZ, sS]
  refine Ps.st (i := 17) (d := some 25) (u := (cond b1_15 (.slice A m c) (undef))) rfl rfl ?ywg1_19 ?rwg1_19
  case ywg1_19 =>
    cases b1_15
    · exact StepS.skip nP (by rfl)
    · skip
      refine StepS.read [] (by kernel_rfl) nP (by rfl) (fun L9 m9 w9 hSh hAt hDn hS => ?_)
      have hT : Below _ _ w9 := hS
      have x0 : w9.cell? ⟨w.heap.size, 1, none⟩ = some (.slice A m c) := (HB.out.ca hT).cell 1
      clear hT hS
      go_simp
      try rfl
  try simp only [Act.put, sA, sZ, sS]
  refine Ps.st (i := 18) (d := some 26) (u := (cond b1_15 (.bool (on)) (undef))) rfl rfl ?ywg1_20 ?rwg1_20
  case ywg1_20 =>
    cases b1_15
    · exact StepS.skip nP (by rfl)
    · skip
      refine StepS.call ?fwg1_20 ?awg1_20 [] (by kernel_rfl) (by rfl) (fun w9 => ?hwg1_20) (fun L9 m9 w9 hSh hAt hDn hS => ?cwg1_20)
      case hwg1_20 => go_simp; refine ⟨?_, ?_⟩ <;> rfl
      case cwg1_20 =>
        have hT : Below _ _ w9 := hS
        refine (onceO_any F t.cols A m c w9 (Lay.rd_below h1 hT) hm (HT.out.below hT) (fun k c h9 => by have := HSZ.out.2 k c h9; omega)).mono ?_
        rintro e w8 ⟨rfl, q8⟩
        exact ⟨by rw [HON.out]; first | done | rfl, bl_ca hT q8⟩
  try simp only [Act.put, sA, sZ, sS]
  refine Ps.st (i := 19) (d := some 27) (u := (.bool (b1_15 && on))) rfl rfl ?ywg1_21 ?rwg1_21
  case ywg1_21 =>
    refine StepS.pure nP (by rfl) (fun w9 => ?_)
    cases b1_15 <;> (first | rfl | (go_simp; done) | (go_simp; rfl))
  try simp only [Act.put, sA, sZ, sS]
  obtain ⟨ok0, hb9⟩ : ∃ zb : Bool, zb = ((((qn) && (decide ((1 : Int) ≤ (m : Int)))) && (decide ((m : Int) ≤ 4))) && on) := ⟨_, rfl⟩
  have HEok0 := Lib.hid hb9
  clear hb9
  refine Ps.st (i := 20) (d := some 3) (u := (.bool (ok0))) rfl rfl ?ywg1_22 ?rwg1_22
  case ywg1_22 =>
    refine StepS.pure nP (by rfl) (fun w9 => ?_)
    have e9 : (b1_15 && on) = ok0 := by rw [HEok0.out, HEb1_15.out]
    rw [← e9]
    clear e9
    first | rfl | (go_simp; done) | (go_simp; rfl)
  try simp only [Act.put, sA, sZ, sS]
  refine Ps.done (by kernel_rfl) (fun wg1 hS => ?_) _
  try generalize (cond b1_15 (.pointer (some ⟨w.heap.size, 1, none⟩)) (undef) : Value) = zz23
  try generalize (cond b1_3 (.pointer (some ⟨w.heap.size, 1, none⟩)) (undef) : Value) = zz24
  try generalize (cond b1_9 (.pointer (some ⟨w.heap.size, 1, none⟩)) (undef) : Value) = zz25
  try generalize (cond b1_3 (.bool (decide ((1 : Int) ≤ (m : Int)))) (undef) : Value) = zz26
  try generalize (cond b1_9 (.bool (decide ((m : Int) ≤ 4))) (undef) : Value) = zz27
  try generalize (.bool (b1_3 && (decide ((1 : Int) ≤ (m : Int)))) : Value) = zz28
  try generalize (cond b1_9 (.int .i64 ((m : Int))) (undef) : Value) = zz29
  try generalize (cond b1_3 (.int .i64 ((m : Int))) (undef) : Value) = zz30
  try generalize (.bool (b1_9 && (decide ((m : Int) ≤ 4))) : Value) = zz31
  try generalize (cond b1_15 (.slice A m c) (undef) : Value) = zz32
  try generalize (cond b1_3 (.slice A m c) (undef) : Value) = zz33
  try generalize (cond b1_9 (.slice A m c) (undef) : Value) = zz34
  try generalize (cond b1_15 (.bool (on)) (undef) : Value) = zz35
  try generalize (.bool (b1_15 && on) : Value) = zz36
  have HT2 := Lib.hid (show Below w1.heap.size w1 wg1 from hS)
  clear hS
  obtain ⟨w2, rfl⟩ : ∃ x, x = wg1 := ⟨_, rfl⟩
  have HK := Lib.hid (show ok0 = (qn && (decide (1 ≤ m) && (decide (m ≤ 4) && on))) from by
    rw [HEok0.out]
    rw [show decide (1 ≤ (m : Int)) = decide (1 ≤ m) from by rw [Bool.eq_iff_iff]; simp <;> omega, show decide ((m : Int) ≤ 4) = decide (m ≤ 4) from by rw [Bool.eq_iff_iff]; simp <;> omega]
    cases qn <;> cases decide (1 ≤ m) <;> cases decide (m ≤ 4) <;> cases on <;> rfl)
  rw [← HK.out] at HR
  have HB2 := Lib.hid (HB.out.ca HT2.out)
  have h2 := Lay.rd_below h1 HT2.out
  have k2 := Lay.rd_below k1 HT2.out
  have HTB := Lib.hid (HT.out.below HT2.out)
  have HQ2 := Lib.hid (bl_ca HQ.out HT2.out)
  clear HB h1 k1 HT HQ HT2 HQN HON HK
  have y1 := HB2.out.cell 1
  go_wp2_with fail
  clear y1
  go_loopg [3, 31] m (fun g a b wr => ∃ (i : Nat) (bb : Bool), i + g = m ∧ a = .bool bb ∧ b = .int .i64 i ∧ r = ((bb && (t.cols.drop i).all (fun c => kindB c.kind)) && strictB (m : Int) (-1) t.keys) ∧ Below w2.heap.size w2 wr)
  case atStart => exact ⟨0, ok0, by omega, rfl, rfl, by rw [HR.out]; simp [Bool.and_assoc], Below.refl _ _⟩
  case round =>
    obtain ⟨i, bb, hig, rfl, rfl, hri, b1⟩ := hrel
    have HRI := Lib.hid hri
    have HB1 := Lib.hid b1
    have h3 := Lay.rd_below h2 b1
    have HT3 := Lib.hid (HTB.out.below b1)
    clear hri b1
    by_cases hlt : i < m
    · have hi1 : (i : Int) < (m : Int) := by omega
      obtain ⟨p, x, hAe, hx, s1⟩ := LCO_at h3 hlt
      obtain rfl : A = some p := hAe
      have HA := Lib.hid (all_drop (f := fun c : CO => kindB c.kind) hx)
      have e0 := s1.c0
      have e1 := s1.c1
      obtain ⟨xn, xk⟩ := x
      dsimp only at e0 e1 HA
      have q5 := bl_al (Below.refl wr.heap.size wr) (.cells #[.string xn, .int .i64 xk] 71)
      have HX5 := Lib.hid (Blk.new wr 71 #[.string xn, .int .i64 xk])
      have HT5 := Lib.hid (HT3.out.below q5)
      have HQ5 := Lib.hid (bl_ca HB1.out q5)
      clear hx s1 q5 h3
      go_upto_region 5 with fail
      generalize wr.alloc (.cells #[.string xn, .int .i64 xk] 71) = w5 at *
      clear e0 e1
      refine wp_region_ps0 .text (S := fun _ _ w' => Below w5.heap.size w5 w') (by kernel_rfl) ?spswg37 ?ppswg37
      case spswg37 =>
        exact (Below.refl w5.heap.size w5)
      refine Ps.st (i := 0) (d := some 35) (u := (.bool (bb))) rfl rfl (by exact StepS.pure nP rfl fun _ => rfl) ?_
      try simp only [Act.put, sA, sZ, sS]
      obtain ⟨b5_1, hb9⟩ : ∃ zb : Bool, zb = (bb) := ⟨_, rfl⟩
      have HEb5_1 := Lib.hid hb9
      clear hb9
      refine Ps.st (i := 1) (d := some 36) (u := (.bool (b5_1))) rfl rfl ?ywg37_39 ?rwg37_39
      case ywg37_39 =>
        refine StepS.pure nP (by rfl) (fun w9 => ?_)
        have e9 : (bb) = b5_1 := by rw [HEb5_1.out]
        rw [← e9]
        clear e9
        first | rfl | (go_simp; done) | (go_simp; rfl)
      try simp only [Act.put, sA, sZ, sS]
      refine Ps.st (i := 2) (d := some 37) (u := (cond b5_1 (.pointer (some ⟨wr.heap.size, 1, none⟩)) (undef))) rfl rfl (by cases b5_1; exact StepS.skip nP rfl; exact StepS.pure nP rfl fun _ => rfl) ?_
      try simp only [Act.put, sA, sZ, sS]
      refine Ps.st (i := 3) (d := some 38) (u := (cond b5_1 (.int .i64 (xk)) (undef))) rfl rfl ?ywg37_41 ?rwg37_41
      case ywg37_41 =>
        cases b5_1
        · exact StepS.skip nP (by rfl)
        · skip
          refine StepS.read [] (by kernel_rfl) nP (by rfl) (fun L9 m9 w9 hSh hAt hDn hS => ?_)
          have hT : Below _ _ w9 := hS
          have x0 : w9.cell? ⟨wr.heap.size, 1, none⟩ = some (.int .i64 (xk)) := (HX5.out.ca hT).cell 1
          clear hT hS
          go_simp
          try rfl
      try simp only [Act.put, sA, sZ, sS]
      refine Ps.st (i := 4) (d := some 39) (u := (cond b5_1 (.string ((wordS xk))) (undef))) rfl rfl ?ywg37_42 ?rwg37_42
      case ywg37_42 =>
        cases b5_1
        · exact StepS.skip nP (by rfl)
        · skip
          refine StepS.call ?fwg37_42 ?awg37_42 [] (by kernel_rfl) (by rfl) (fun w9 => ?hwg37_42) (fun L9 m9 w9 hSh hAt hDn hS => ?cwg37_42)
          case hwg37_42 => go_simp; refine ⟨?_, ?_⟩ <;> rfl
          case cwg37_42 =>
            have hT : Below _ _ w9 := hS
            refine (word_any xk w9 (HT5.out.below hT)).mono ?_
            rintro e w8 ⟨rfl, q8⟩
            exact ⟨rfl, bl_ca hT q8⟩
      try simp only [Act.put, sA, sZ, sS]
      refine Ps.st (i := 5) (d := some 40) (u := (cond b5_1 (.bool (!((wordS xk).toList == (⟨#[]⟩ : ByteArray).toList))) (undef))) rfl rfl (by cases b5_1; exact StepS.skip nP rfl; exact StepS.pure nP rfl fun _ => rfl) ?_
      try simp only [Act.put, sA, sZ, sS]
      refine Ps.st (i := 6) (d := some 41) (u := (.bool (b5_1 && (!((wordS xk).toList == (⟨#[]⟩ : ByteArray).toList))))) rfl rfl ?ywg37_44 ?rwg37_44
      case ywg37_44 =>
        refine StepS.pure nP (by rfl) (fun w9 => ?_)
        cases b5_1 <;> (first | rfl | (go_simp; done) | (go_simp; rfl))
      try simp only [Act.put, sA, sZ, sS]
      obtain ⟨b5, hb9⟩ : ∃ zb : Bool, zb = ((bb) && (!((wordS xk).toList == (⟨#[]⟩ : ByteArray).toList))) := ⟨_, rfl⟩
      have HEb5 := Lib.hid hb9
      clear hb9
      refine Ps.st (i := 7) (d := some 3) (u := (.bool (b5))) rfl rfl ?ywg37_45 ?rwg37_45
      case ywg37_45 =>
        refine StepS.pure nP (by rfl) (fun w9 => ?_)
        have e9 : (b5_1 && (!((wordS xk).toList == (⟨#[]⟩ : ByteArray).toList))) = b5 := by rw [HEb5.out, HEb5_1.out]
        rw [← e9]
        clear e9
        first | rfl | (go_simp; done) | (go_simp; rfl)
      try simp only [Act.put, sA, sZ, sS]
      refine Ps.done (by kernel_rfl) (fun wg37 hS => ?_) _
      try generalize (cond b5_1 (.bool (!((wordS xk).toList == (⟨#[]⟩ : ByteArray).toList))) (undef) : Value) = zz46
      try generalize (.bool (b5_1 && (!((wordS xk).toList == (⟨#[]⟩ : ByteArray).toList))) : Value) = zz47
      try generalize (cond b5_1 (.pointer (some ⟨wr.heap.size, 1, none⟩)) (undef) : Value) = zz48
      try generalize (cond b5_1 (.string ((wordS xk))) (undef) : Value) = zz49
      try generalize (cond b5_1 (.int .i64 (xk)) (undef) : Value) = zz50
      have HT6 := Lib.hid (show Below w5.heap.size w5 wg37 from hS)
      clear hS
      obtain ⟨w6, rfl⟩ : ∃ x, x = wg37 := ⟨_, rfl⟩
      have HK := Lib.hid (show b5 = (bb && kindB xk) from by
        rw [HEb5.out]
        have h9 := wordS_none xk
        rw [show ((wordS xk).toList == (⟨#[]⟩ : ByteArray).toList) = (wordS xk).toList.isEmpty from by
          rw [ByteArray.toList_eq (⟨#[]⟩ : ByteArray)]
          cases (wordS xk).toList <;> rfl, h9]
        cases bb <;> cases kindB xk <;> rfl)
      have HQ6 := Lib.hid (bl_ca HQ5.out HT6.out)
      clear HX5 HT5 HQ5 HT6
      go_wp2_with fail
      go_roundg (gk - 1)
      · exact ⟨i + 1, b5, by omega, rfl, by go_num, by rw [HRI.out, HA.out, HK.out]; simp [Bool.and_assoc], HQ6.out⟩
      · omega
    · obtain rfl : i = m := by omega
      have hi1 : (i : Int) ≤ (i : Int) := by omega
      have HR3 := Lib.hid (show r = (bb && strictB (i : Int) (-1) t.keys) from by rw [HRI.out, List.drop_of_length_le (by rw [HL.out]; exact Nat.le_refl _)]; simp)
      have HB3 := Lib.hid (HB2.out.ca HB1.out)
      have k3 := Lay.rd_below k2 HB1.out
      have HQ3 := Lib.hid (bl_ca HQ2.out HB1.out)
      have y2 := HB3.out.cell 2
      clear HRI HB2 h2 h3 k2 HQ2 HB1
      go_wp2_with fail
      clear y2 hi1
      obtain ⟨w7, rfl⟩ : ∃ x, x = wr := ⟨_, rfl⟩
      go_loopg [3, 46] n (fun g a b wr => ∃ (k : Nat) (cc : Bool), k + g = n ∧ a = .bool cc ∧ b = .int .i64 k ∧ r = (cc && strictB (i : Int) (prevK t.keys k) (t.keys.drop k)) ∧ (cc = true → -1 ≤ prevK t.keys k) ∧ Below w7.heap.size w7 wr)
      case atStart => exact ⟨0, bb, by omega, rfl, rfl, by rw [HR3.out]; rfl, fun _ => by unfold prevK; simp, Below.refl _ _⟩
      case round =>
        obtain ⟨k, cc, hkg, rfl, rfl, hri, hpv, b7⟩ := hrel
        have HRI := Lib.hid hri
        have HPV := Lib.hid hpv
        have HB7 := Lib.hid b7
        have HB8 := Lib.hid (HB3.out.ca b7)
        have k8 := Lay.rd_below k3 b7
        clear hri hpv b7
        by_cases hlt2 : k < n
        · have hk1 : (k : Int) < (n : Int) := by omega
          obtain ⟨p, x, hAe, hx, e0⟩ := LK_at k8 hlt2
          obtain rfl : B = some p := hAe
          have HSA := Lib.hid (strict_at (n := (i : Int)) (p := prevK t.keys k) hx)
          have HPN := Lib.hid (prevK_next hx)
          clear hx
          go_upto_region 10 with fail
          by_cases h0 : k = 0
          · have e9 : decide ((k : Int) = 0) = true := by simp; omega
            refine wp_region_ps0 .text (S := fun _ _ w' => Below wr.heap.size wr w') (by kernel_rfl) ?spswg51 ?ppswg51
            case spswg51 =>
              exact (Below.refl wr.heap.size wr)
            refine Ps.st (i := 0) (d := some 51) (u := (.bool (cc))) rfl rfl (by exact StepS.pure nP rfl fun _ => rfl) ?_
            try simp only [Act.put, sA, sZ, sS]
            obtain ⟨b10_1, hb9⟩ : ∃ zb : Bool, zb = (cc) := ⟨_, rfl⟩
            have HEb10_1 := Lib.hid hb9
            clear hb9
            refine Ps.st (i := 1) (d := some 52) (u := (.bool (b10_1))) rfl rfl ?ywg51_53 ?rwg51_53
            case ywg51_53 =>
              refine StepS.pure nP (by rfl) (fun w9 => ?_)
              have e9 : (cc) = b10_1 := by rw [HEb10_1.out]
              rw [← e9]
              clear e9
              first | rfl | (go_simp; done) | (go_simp; rfl)
            try simp only [Act.put, sA, sZ, sS]
            refine Ps.st (i := 2) (d := some 53) (u := (cond b10_1 (.int .i64 (x)) (undef))) rfl rfl (by cases b10_1; exact StepS.skip nP rfl; exact StepS.pure nP rfl fun _ => rfl) ?_
            try simp only [Act.put, sA, sZ, sS]
            refine Ps.st (i := 3) (d := some 54) (u := (cond b10_1 (.bool (decide ((0 : Int) ≤ x))) (undef))) rfl rfl (by cases b10_1; exact StepS.skip nP rfl; exact StepS.pure nP rfl fun _ => rfl) ?_
            try simp only [Act.put, sA, sZ, sS]
            refine Ps.st (i := 4) (d := some 55) (u := (.bool (b10_1 && (decide ((0 : Int) ≤ x))))) rfl rfl ?ywg51_56 ?rwg51_56
            case ywg51_56 =>
              refine StepS.pure nP (by rfl) (fun w9 => ?_)
              cases b10_1 <;> (first | rfl | (go_simp; done) | (go_simp; rfl))
            try simp only [Act.put, sA, sZ, sS]
            obtain ⟨b10_5, hb9⟩ : ∃ zb : Bool, zb = ((cc) && (decide ((0 : Int) ≤ x))) := ⟨_, rfl⟩
            have HEb10_5 := Lib.hid hb9
            clear hb9
            refine Ps.st (i := 5) (d := some 56) (u := (.bool (b10_5))) rfl rfl ?ywg51_57 ?rwg51_57
            case ywg51_57 =>
              refine StepS.pure nP (by rfl) (fun w9 => ?_)
              have e9 : (b10_1 && (decide ((0 : Int) ≤ x))) = b10_5 := by rw [HEb10_5.out, HEb10_1.out]
              rw [← e9]
              clear e9
              first | rfl | (go_simp; done) | (go_simp; rfl)
            try simp only [Act.put, sA, sZ, sS]
            refine Ps.st (i := 6) (d := some 57) (u := (cond b10_5 (.int .i64 (x)) (undef))) rfl rfl (by cases b10_5; exact StepS.skip nP rfl; exact StepS.pure nP rfl fun _ => rfl) ?_
            try simp only [Act.put, sA, sZ, sS]
            refine Ps.st (i := 7) (d := some 58) (u := (cond b10_5 (.pointer (some ⟨w.heap.size, 1, none⟩)) (undef))) rfl rfl (by cases b10_5; exact StepS.skip nP rfl; exact StepS.pure nP rfl fun _ => rfl) ?_
            try simp only [Act.put, sA, sZ, sS]
            refine Ps.st (i := 8) (d := some 59) (u := (cond b10_5 (.slice A i c) (undef))) rfl rfl ?ywg51_60 ?rwg51_60
            case ywg51_60 =>
              cases b10_5
              · exact StepS.skip nP (by rfl)
              · skip
                refine StepS.read [] (by kernel_rfl) nP (by rfl) (fun L9 m9 w9 hSh hAt hDn hS => ?_)
                have hT : Below _ _ w9 := hS
                have x0 : w9.cell? ⟨w.heap.size, 1, none⟩ = some (.slice A i c) := (HB8.out.ca hT).cell 1
                clear hT hS
                go_simp
                try rfl
            try simp only [Act.put, sA, sZ, sS]
            refine Ps.st (i := 9) (d := some 60) (u := (cond b10_5 (.int .i64 ((i : Int))) (undef))) rfl rfl (by cases b10_5; exact StepS.skip nP rfl; exact StepS.pure nP rfl fun _ => by first | rfl | (go_simp; done) | (go_simp; rfl)) ?_
            try simp only [Act.put, sA, sZ, sS]
            refine Ps.st (i := 10) (d := some 61) (u := (cond b10_5 (.bool (decide (x < (i : Int)))) (undef))) rfl rfl (by cases b10_5; exact StepS.skip nP rfl; exact StepS.pure nP rfl fun _ => rfl) ?_
            try simp only [Act.put, sA, sZ, sS]
            refine Ps.st (i := 11) (d := some 62) (u := (.bool (b10_5 && (decide (x < (i : Int)))))) rfl rfl ?ywg51_63 ?rwg51_63
            case ywg51_63 =>
              refine StepS.pure nP (by rfl) (fun w9 => ?_)
              cases b10_5 <;> (first | rfl | (go_simp; done) | (go_simp; rfl))
            try simp only [Act.put, sA, sZ, sS]
            obtain ⟨b10_12, hb9⟩ : ∃ zb : Bool, zb = (((cc) && (decide ((0 : Int) ≤ x))) && (decide (x < (i : Int)))) := ⟨_, rfl⟩
            have HEb10_12 := Lib.hid hb9
            clear hb9
            refine Ps.st (i := 12) (d := some 63) (u := (.bool (b10_12))) rfl rfl ?ywg51_64 ?rwg51_64
            case ywg51_64 =>
              refine StepS.pure nP (by rfl) (fun w9 => ?_)
              have e9 : (b10_5 && (decide (x < (i : Int)))) = b10_12 := by rw [HEb10_12.out, HEb10_5.out]
              rw [← e9]
              clear e9
              first | rfl | (go_simp; done) | (go_simp; rfl)
            try simp only [Act.put, sA, sZ, sS]
            refine Ps.st (i := 13) (d := some 64) (u := (cond b10_12 (.int .i64 ((k : Int))) (undef))) rfl rfl (by cases b10_12; exact StepS.skip nP rfl; exact StepS.pure nP rfl fun _ => rfl) ?_
            try simp only [Act.put, sA, sZ, sS]
            refine Ps.st (i := 14) (d := some 65) (u := (cond b10_12 (.bool (true)) (undef))) rfl rfl ?ywg51_66 ?rwg51_66
            case ywg51_66 =>
              cases b10_12
              · exact StepS.skip nP (by rfl)
              · skip
                refine StepS.pure nP (by rfl) (fun w9 => ?_)
                refine Eq.trans ?_ (congrArg (fun b => Result.ok (Next.value (Value.bool b)) w9) e9)
                first | rfl | (go_simp; done) | (go_simp; rfl)
            try simp only [Act.put, sA, sZ, sS]
            refine Ps.st (i := 15) (d := some 66) (u := (cond b10_12 (.bool (true)) (undef))) rfl rfl (by cases b10_12; exact StepS.skip nP rfl; exact StepS.pure nP rfl fun _ => rfl) ?_
            try simp only [Act.put, sA, sZ, sS]
            refine Ps.st (i := 16) (d := some 67) (u := undef) rfl rfl (by cases b10_12 <;> exact StepS.skip nP rfl) ?_
            try simp only [Act.put, sA, sZ, sS]
            refine Ps.st (i := 17) (d := some 68) (u := undef) rfl rfl (by cases b10_12 <;> exact StepS.skip nP rfl) ?_
            try simp only [Act.put, sA, sZ, sS]
            refine Ps.st (i := 18) (d := some 69) (u := undef) rfl rfl (by cases b10_12 <;> exact StepS.skip nP rfl) ?_
            try simp only [Act.put, sA, sZ, sS]
            refine Ps.st (i := 19) (d := some 70) (u := undef) rfl rfl (by cases b10_12 <;> exact StepS.skip nP rfl) ?_
            try simp only [Act.put, sA, sZ, sS]
            refine Ps.st (i := 20) (d := some 71) (u := undef) rfl rfl (by cases b10_12 <;> exact StepS.skip nP rfl) ?_
            try simp only [Act.put, sA, sZ, sS]
            refine Ps.st (i := 21) (d := some 72) (u := undef) rfl rfl (by cases b10_12 <;> exact StepS.skip nP rfl) ?_
            try simp only [Act.put, sA, sZ, sS]
            refine Ps.st (i := 22) (d := some 73) (u := undef) rfl rfl (by cases b10_12 <;> exact StepS.skip nP rfl) ?_
            try simp only [Act.put, sA, sZ, sS]
            refine Ps.st (i := 23) (d := some 74) (u := undef) rfl rfl (by cases b10_12 <;> exact StepS.skip nP rfl) ?_
            try simp only [Act.put, sA, sZ, sS]
            refine Ps.st (i := 24) (d := some 75) (u := (cond b10_12 (.bool (true)) (undef))) rfl rfl (by cases b10_12; exact StepS.skip nP rfl; exact StepS.pure nP rfl fun _ => rfl) ?_
            try simp only [Act.put, sA, sZ, sS]
            refine Ps.st (i := 25) (d := some 76) (u := (.bool (b10_12 && true))) rfl rfl ?ywg51_77 ?rwg51_77
            case ywg51_77 =>
              refine StepS.pure nP (by rfl) (fun w9 => ?_)
              cases b10_12 <;> (first | rfl | (go_simp; done) | (go_simp; rfl))
            try simp only [Act.put, sA, sZ, sS]
            obtain ⟨b10, hb9⟩ : ∃ zb : Bool, zb = ((((cc) && (decide ((0 : Int) ≤ x))) && (decide (x < (i : Int)))) && true) := ⟨_, rfl⟩
            have HEb10 := Lib.hid hb9
            clear hb9
            refine Ps.st (i := 26) (d := some 3) (u := (.bool (b10))) rfl rfl ?ywg51_78 ?rwg51_78
            case ywg51_78 =>
              refine StepS.pure nP (by rfl) (fun w9 => ?_)
              have e9 : (b10_12 && true) = b10 := by rw [HEb10.out, HEb10_12.out]
              rw [← e9]
              clear e9
              first | rfl | (go_simp; done) | (go_simp; rfl)
            try simp only [Act.put, sA, sZ, sS]
            refine Ps.done (by kernel_rfl) (fun wg51 hS => ?_) _
            try generalize (cond b10_5 (.pointer (some ⟨w.heap.size, 1, none⟩)) (undef) : Value) = zz79
            try generalize (cond b10_1 (.bool (decide ((0 : Int) ≤ x))) (undef) : Value) = zz80
            try generalize (cond b10_5 (.bool (decide (x < (i : Int)))) (undef) : Value) = zz81
            try generalize (cond b10_12 (.int .i64 ((k : Int))) (undef) : Value) = zz82
            try generalize (cond b10_5 (.int .i64 ((i : Int))) (undef) : Value) = zz83
            try generalize (.bool (b10_1 && (decide ((0 : Int) ≤ x))) : Value) = zz84
            try generalize (.bool (b10_5 && (decide (x < (i : Int)))) : Value) = zz85
            try generalize (cond b10_12 (.bool (true)) (undef) : Value) = zz86
            try generalize (cond b10_5 (.int .i64 (x)) (undef) : Value) = zz87
            try generalize (cond b10_1 (.int .i64 (x)) (undef) : Value) = zz88
            try generalize (cond b10_5 (.slice A i c) (undef) : Value) = zz89
            try generalize (.bool (b10_12 && true) : Value) = zz90
            have HT11 := Lib.hid (show Below wr.heap.size wr wg51 from hS)
            clear hS
            obtain ⟨w11, rfl⟩ : ∃ x, x = wg51 := ⟨_, rfl⟩
            have HK := Lib.hid (show b10 = (cc && (decide (prevK t.keys k < x) && decide (x < (i : Int)))) from by
              rw [HEb10.out]
              rw [show decide ((0 : Int) ≤ x) = decide (prevK t.keys k < x) from by rw [h0]; unfold prevK; rw [Bool.eq_iff_iff]; simp <;> omega]
              cases cc <;> cases decide (prevK t.keys k < x) <;> cases decide (x < (i : Int)) <;> rfl)
            have HP2 := Lib.hid (show b10 = true → -1 ≤ prevK t.keys (k + 1) from fun e => by
              rw [HPN.out]
              rw [HK.out, Bool.and_eq_true, Bool.and_eq_true, decide_eq_true_eq] at e
              have h9 := e.2.1
              rw [h0] at h9
              unfold prevK at h9
              simp at h9
              omega)
            clear e9 h0
            go_wp2_with fail
            go_roundg (gk - 1)
            · exact ⟨k + 1, b10, by omega, rfl, by go_num, by rw [HRI.out, HSA.out, HPN.out, HK.out]; simp [Bool.and_assoc], HP2.out, bl_ca HB7.out HT11.out⟩
            · omega
          · have e9 : decide ((k : Int) = 0) = false := by simp; omega
            obtain ⟨j, hjk⟩ : ∃ j, k = j + 1 := ⟨k - 1, by omega⟩
            obtain ⟨p', z, hAe, hz, f0⟩ := LK_at k8 (show j < n by omega)
            obtain rfl : p = p' := by injection hAe
            have HZ := Lib.hid (show prevK t.keys k = z from by rw [hjk]; exact prevK_next hz)
            have hj1 : (k : Int) - 1 = (j : Int) := by omega
            have hj2 : (j : Int) < (n : Int) := by omega
            have hj3 : IntKind.i64.wrap ((k : Int) - 1) = (j : Int) := by rw [hj1, IntKind.wrap_i64]; omega
            clear hjk hz hAe
            refine wp_region_ps0 .text (S := fun _ _ w' => Below wr.heap.size wr w') (by kernel_rfl) ?spswg91 ?ppswg91
            case spswg91 =>
              exact (Below.refl wr.heap.size wr)
            refine Ps.st (i := 0) (d := some 51) (u := (.bool (cc))) rfl rfl (by exact StepS.pure nP rfl fun _ => rfl) ?_
            try simp only [Act.put, sA, sZ, sS]
            obtain ⟨b10_1, hb9⟩ : ∃ zb : Bool, zb = (cc) := ⟨_, rfl⟩
            have HEb10_1 := Lib.hid hb9
            clear hb9
            refine Ps.st (i := 1) (d := some 52) (u := (.bool (b10_1))) rfl rfl ?ywg91_93 ?rwg91_93
            case ywg91_93 =>
              refine StepS.pure nP (by rfl) (fun w9 => ?_)
              have e9 : (cc) = b10_1 := by rw [HEb10_1.out]
              rw [← e9]
              clear e9
              first | rfl | (go_simp; done) | (go_simp; rfl)
            try simp only [Act.put, sA, sZ, sS]
            refine Ps.st (i := 2) (d := some 53) (u := (cond b10_1 (.int .i64 (x)) (undef))) rfl rfl (by cases b10_1; exact StepS.skip nP rfl; exact StepS.pure nP rfl fun _ => rfl) ?_
            try simp only [Act.put, sA, sZ, sS]
            refine Ps.st (i := 3) (d := some 54) (u := (cond b10_1 (.bool (decide ((0 : Int) ≤ x))) (undef))) rfl rfl (by cases b10_1; exact StepS.skip nP rfl; exact StepS.pure nP rfl fun _ => rfl) ?_
            try simp only [Act.put, sA, sZ, sS]
            refine Ps.st (i := 4) (d := some 55) (u := (.bool (b10_1 && (decide ((0 : Int) ≤ x))))) rfl rfl ?ywg91_96 ?rwg91_96
            case ywg91_96 =>
              refine StepS.pure nP (by rfl) (fun w9 => ?_)
              cases b10_1 <;> (first | rfl | (go_simp; done) | (go_simp; rfl))
            try simp only [Act.put, sA, sZ, sS]
            obtain ⟨b10_5, hb9⟩ : ∃ zb : Bool, zb = ((cc) && (decide ((0 : Int) ≤ x))) := ⟨_, rfl⟩
            have HEb10_5 := Lib.hid hb9
            clear hb9
            refine Ps.st (i := 5) (d := some 56) (u := (.bool (b10_5))) rfl rfl ?ywg91_97 ?rwg91_97
            case ywg91_97 =>
              refine StepS.pure nP (by rfl) (fun w9 => ?_)
              have e9 : (b10_1 && (decide ((0 : Int) ≤ x))) = b10_5 := by rw [HEb10_5.out, HEb10_1.out]
              rw [← e9]
              clear e9
              first | rfl | (go_simp; done) | (go_simp; rfl)
            try simp only [Act.put, sA, sZ, sS]
            refine Ps.st (i := 6) (d := some 57) (u := (cond b10_5 (.int .i64 (x)) (undef))) rfl rfl (by cases b10_5; exact StepS.skip nP rfl; exact StepS.pure nP rfl fun _ => rfl) ?_
            try simp only [Act.put, sA, sZ, sS]
            refine Ps.st (i := 7) (d := some 58) (u := (cond b10_5 (.pointer (some ⟨w.heap.size, 1, none⟩)) (undef))) rfl rfl (by cases b10_5; exact StepS.skip nP rfl; exact StepS.pure nP rfl fun _ => rfl) ?_
            try simp only [Act.put, sA, sZ, sS]
            refine Ps.st (i := 8) (d := some 59) (u := (cond b10_5 (.slice A i c) (undef))) rfl rfl ?ywg91_100 ?rwg91_100
            case ywg91_100 =>
              cases b10_5
              · exact StepS.skip nP (by rfl)
              · skip
                refine StepS.read [] (by kernel_rfl) nP (by rfl) (fun L9 m9 w9 hSh hAt hDn hS => ?_)
                have hT : Below _ _ w9 := hS
                have x0 : w9.cell? ⟨w.heap.size, 1, none⟩ = some (.slice A i c) := (HB8.out.ca hT).cell 1
                clear hT hS
                go_simp
                try rfl
            try simp only [Act.put, sA, sZ, sS]
            refine Ps.st (i := 9) (d := some 60) (u := (cond b10_5 (.int .i64 ((i : Int))) (undef))) rfl rfl (by cases b10_5; exact StepS.skip nP rfl; exact StepS.pure nP rfl fun _ => by first | rfl | (go_simp; done) | (go_simp; rfl)) ?_
            try simp only [Act.put, sA, sZ, sS]
            refine Ps.st (i := 10) (d := some 61) (u := (cond b10_5 (.bool (decide (x < (i : Int)))) (undef))) rfl rfl (by cases b10_5; exact StepS.skip nP rfl; exact StepS.pure nP rfl fun _ => rfl) ?_
            try simp only [Act.put, sA, sZ, sS]
            refine Ps.st (i := 11) (d := some 62) (u := (.bool (b10_5 && (decide (x < (i : Int)))))) rfl rfl ?ywg91_103 ?rwg91_103
            case ywg91_103 =>
              refine StepS.pure nP (by rfl) (fun w9 => ?_)
              cases b10_5 <;> (first | rfl | (go_simp; done) | (go_simp; rfl))
            try simp only [Act.put, sA, sZ, sS]
            obtain ⟨b10_12, hb9⟩ : ∃ zb : Bool, zb = (((cc) && (decide ((0 : Int) ≤ x))) && (decide (x < (i : Int)))) := ⟨_, rfl⟩
            have HEb10_12 := Lib.hid hb9
            clear hb9
            refine Ps.st (i := 12) (d := some 63) (u := (.bool (b10_12))) rfl rfl ?ywg91_104 ?rwg91_104
            case ywg91_104 =>
              refine StepS.pure nP (by rfl) (fun w9 => ?_)
              have e9 : (b10_5 && (decide (x < (i : Int)))) = b10_12 := by rw [HEb10_12.out, HEb10_5.out]
              rw [← e9]
              clear e9
              first | rfl | (go_simp; done) | (go_simp; rfl)
            try simp only [Act.put, sA, sZ, sS]
            refine Ps.st (i := 13) (d := some 64) (u := (cond b10_12 (.int .i64 ((k : Int))) (undef))) rfl rfl (by cases b10_12; exact StepS.skip nP rfl; exact StepS.pure nP rfl fun _ => rfl) ?_
            try simp only [Act.put, sA, sZ, sS]
            refine Ps.st (i := 14) (d := some 65) (u := (cond b10_12 (.bool (false)) (undef))) rfl rfl ?ywg91_106 ?rwg91_106
            case ywg91_106 =>
              cases b10_12
              · exact StepS.skip nP (by rfl)
              · skip
                refine StepS.pure nP (by rfl) (fun w9 => ?_)
                refine Eq.trans ?_ (congrArg (fun b => Result.ok (Next.value (Value.bool b)) w9) e9)
                first | rfl | (go_simp; done) | (go_simp; rfl)
            try simp only [Act.put, sA, sZ, sS]
            refine Ps.st (i := 15) (d := some 66) (u := (cond b10_12 (.bool (false)) (undef))) rfl rfl (by cases b10_12; exact StepS.skip nP rfl; exact StepS.pure nP rfl fun _ => rfl) ?_
            try simp only [Act.put, sA, sZ, sS]
            refine Ps.st (i := 16) (d := some 67) (u := (cond b10_12 (.pointer (some ⟨w.heap.size, 2, none⟩)) (undef))) rfl rfl (by cases b10_12; exact StepS.skip nP rfl; exact StepS.pure nP rfl fun _ => rfl) ?_
            try simp only [Act.put, sA, sZ, sS]
            refine Ps.st (i := 17) (d := some 68) (u := (cond b10_12 (.slice (some p) n d) (undef))) rfl rfl ?ywg91_109 ?rwg91_109
            case ywg91_109 =>
              cases b10_12
              · exact StepS.skip nP (by rfl)
              · skip
                refine StepS.read [] (by kernel_rfl) nP (by rfl) (fun L9 m9 w9 hSh hAt hDn hS => ?_)
                have hT : Below _ _ w9 := hS
                have x0 : w9.cell? ⟨w.heap.size, 2, none⟩ = some (.slice (some p) n d) := (HB8.out.ca hT).cell 2
                clear hT hS
                go_simp
                try rfl
            try simp only [Act.put, sA, sZ, sS]
            refine Ps.st (i := 18) (d := some 69) (u := (cond b10_12 (.int .i64 ((k : Int))) (undef))) rfl rfl (by cases b10_12; exact StepS.skip nP rfl; exact StepS.pure nP rfl fun _ => rfl) ?_
            try simp only [Act.put, sA, sZ, sS]
            refine Ps.st (i := 19) (d := some 70) (u := (cond b10_12 (.int .i64 (IntKind.i64.wrap ((k : Int) - 1))) (undef))) rfl rfl (by cases b10_12; exact StepS.skip nP rfl; exact StepS.pure nP rfl fun _ => rfl) ?_
            try simp only [Act.put, sA, sZ, sS]
            refine Ps.st (i := 20) (d := some 71) (u := (cond b10_12 (.pointer (some (p.add j))) (undef))) rfl rfl ?ywg91_112 ?rwg91_112
            case ywg91_112 =>
              cases b10_12
              · exact StepS.skip nP (by rfl)
              · skip
                refine StepS.pure nP (by rfl) (fun w9 => ?_)
                rw [hj3]
                go_simp
            try simp only [Act.put, sA, sZ, sS]
            refine Ps.st (i := 21) (d := some 72) (u := (cond b10_12 (.int .i64 (z)) (undef))) rfl rfl ?ywg91_113 ?rwg91_113
            case ywg91_113 =>
              cases b10_12
              · exact StepS.skip nP (by rfl)
              · skip
                refine StepS.read [] (by kernel_rfl) nP (by rfl) (fun L9 m9 w9 hSh hAt hDn hS => ?_)
                have hT : Below _ _ w9 := hS
                have x0 : w9.cell? (p.add j) = some (.int .i64 (z)) := ce f0 hT
                clear hT hS
                go_simp
                try rfl
            try simp only [Act.put, sA, sZ, sS]
            refine Ps.st (i := 22) (d := some 73) (u := (cond b10_12 (.int .i64 (x)) (undef))) rfl rfl (by cases b10_12; exact StepS.skip nP rfl; exact StepS.pure nP rfl fun _ => rfl) ?_
            try simp only [Act.put, sA, sZ, sS]
            refine Ps.st (i := 23) (d := some 74) (u := (cond b10_12 (.bool (decide (z < x))) (undef))) rfl rfl (by cases b10_12; exact StepS.skip nP rfl; exact StepS.pure nP rfl fun _ => rfl) ?_
            try simp only [Act.put, sA, sZ, sS]
            refine Ps.st (i := 24) (d := some 75) (u := (cond b10_12 (.bool (decide (z < x))) (undef))) rfl rfl (by cases b10_12; exact StepS.skip nP rfl; exact StepS.pure nP rfl fun _ => rfl) ?_
            try simp only [Act.put, sA, sZ, sS]
            refine Ps.st (i := 25) (d := some 76) (u := (.bool (b10_12 && (decide (z < x))))) rfl rfl ?ywg91_117 ?rwg91_117
            case ywg91_117 =>
              refine StepS.pure nP (by rfl) (fun w9 => ?_)
              cases b10_12 <;> (first | rfl | (go_simp; done) | (go_simp; rfl))
            try simp only [Act.put, sA, sZ, sS]
            obtain ⟨b10, hb9⟩ : ∃ zb : Bool, zb = ((((cc) && (decide ((0 : Int) ≤ x))) && (decide (x < (i : Int)))) && (decide (z < x))) := ⟨_, rfl⟩
            have HEb10 := Lib.hid hb9
            clear hb9
            refine Ps.st (i := 26) (d := some 3) (u := (.bool (b10))) rfl rfl ?ywg91_118 ?rwg91_118
            case ywg91_118 =>
              refine StepS.pure nP (by rfl) (fun w9 => ?_)
              have e9 : (b10_12 && (decide (z < x))) = b10 := by rw [HEb10.out, HEb10_12.out]
              rw [← e9]
              clear e9
              first | rfl | (go_simp; done) | (go_simp; rfl)
            try simp only [Act.put, sA, sZ, sS]
            refine Ps.done (by kernel_rfl) (fun wg91 hS => ?_) _
            try generalize (cond b10_12 (.int .i64 (IntKind.i64.wrap ((k : Int) - 1))) (undef) : Value) = zz119
            try generalize (cond b10_12 (.pointer (some ⟨w.heap.size, 2, none⟩)) (undef) : Value) = zz120
            try generalize (cond b10_5 (.pointer (some ⟨w.heap.size, 1, none⟩)) (undef) : Value) = zz121
            try generalize (cond b10_1 (.bool (decide ((0 : Int) ≤ x))) (undef) : Value) = zz122
            try generalize (cond b10_5 (.bool (decide (x < (i : Int)))) (undef) : Value) = zz123
            try generalize (cond b10_12 (.pointer (some (p.add j))) (undef) : Value) = zz124
            try generalize (cond b10_12 (.bool (decide (z < x))) (undef) : Value) = zz125
            try generalize (cond b10_12 (.int .i64 ((k : Int))) (undef) : Value) = zz126
            try generalize (cond b10_5 (.int .i64 ((i : Int))) (undef) : Value) = zz127
            try generalize (.bool (b10_1 && (decide ((0 : Int) ≤ x))) : Value) = zz128
            try generalize (cond b10_12 (.slice (some p) n d) (undef) : Value) = zz129
            try generalize (.bool (b10_5 && (decide (x < (i : Int)))) : Value) = zz130
            try generalize (cond b10_12 (.bool (false)) (undef) : Value) = zz131
            try generalize (cond b10_12 (.int .i64 (x)) (undef) : Value) = zz132
            try generalize (cond b10_12 (.int .i64 (z)) (undef) : Value) = zz133
            try generalize (.bool (b10_12 && (decide (z < x))) : Value) = zz134
            try generalize (cond b10_5 (.int .i64 (x)) (undef) : Value) = zz135
            try generalize (cond b10_1 (.int .i64 (x)) (undef) : Value) = zz136
            try generalize (cond b10_5 (.slice A i c) (undef) : Value) = zz137
            have HT11 := Lib.hid (show Below wr.heap.size wr wg91 from hS)
            clear hS
            obtain ⟨w11, rfl⟩ : ∃ x, x = wg91 := ⟨_, rfl⟩
            have HK := Lib.hid (show b10 = (cc && (decide (prevK t.keys k < x) && decide (x < (i : Int)))) from by
              rw [HEb10.out, HZ.out]
              cases hcc : cc
              · rfl
              · have h9 := HPV.out hcc
                rw [HZ.out] at h9
                by_cases c1 : z < x
                · rw [decide_eq_true c1, decide_eq_true (show (0 : Int) ≤ x by omega)]
                  cases decide (x < (i : Int)) <;> rfl
                · rw [decide_eq_false c1]
                  cases decide ((0 : Int) ≤ x) <;> cases decide (x < (i : Int)) <;> rfl)
            have HP2 := Lib.hid (show b10 = true → -1 ≤ prevK t.keys (k + 1) from fun e => by
              rw [HPN.out]
              rw [HK.out, Bool.and_eq_true, Bool.and_eq_true, decide_eq_true_eq] at e
              have h9 := HPV.out e.1
              have h8 := e.2.1
              omega)
            clear e9 h0 hj1 hj2 hj3
            go_wp2_with fail
            go_roundg (gk - 1)
            · exact ⟨k + 1, b10, by omega, rfl, by go_num, by rw [HRI.out, HSA.out, HPN.out, HK.out]; simp [Bool.and_assoc], HP2.out, bl_ca HB7.out HT11.out⟩
            · omega
        · obtain rfl : k = n := by omega
          have hk1 : (k : Int) ≤ (k : Int) := by omega
          have HF := Lib.hid (show r = cc from by rw [HRI.out, List.drop_of_length_le (by rw [HL2.out]; exact Nat.le_refl _)]; simp [strictB])
          have HQF := Lib.hid (bl_ca HQ3.out HB7.out)
          clear HRI HPV HB7 HB8 k8 HB3 k3 HQ3
          cases cc
          · go_wp2
            go_ret
            exact ⟨by rw [HF.out]; rfl, HQF.out⟩
          · go_wp2
            go_ret
            exact ⟨by rw [HF.out]; rfl, HQF.out⟩
end Go.Proofs.YthgcdilkkldgjaaGreatDoor
