/- The law CatalogTells. Conditions: the slices read so; what the tables hold. -/
import Derived.Test.YthgcdilkkldgjaaDoorCWakes
import Derived.Test.YthgcdilkkldgjaaDoorCEq
import Derived.Test.YthgcdilkkldgjaaDoorCSame
namespace Go.Proofs.YthgcdilkkldgjaaDoor
open Go.RowKit
theorem large_no {t : TC} (h : largeB t = false) : Sz t ∧ Ln t := by
  unfold largeB at h
  simp only [Bool.or_eq_false_iff, decide_eq_false_iff_not, List.any_eq_false, decide_eq_true_eq] at h
  obtain ⟨h1, h2, h3, h4⟩ := h
  refine ⟨⟨by omega, fun k c hk => ?_⟩, by omega, by omega⟩
  obtain ⟨hlt, e⟩ := List.getElem?_eq_some_iff.1 hk
  have := h4 c (by rw [← e]; exact List.getElem_mem hlt)
  omega
theorem over_no {l : List TC} (h : overB l = false) : l.length ≤ 20 ∧ ∀ (k : Nat) (t : TC), l[k]? = some t → Sz t ∧ Ln t := by
  unfold overB at h
  simp only [Bool.or_eq_false_iff, decide_eq_false_iff_not, List.any_eq_false] at h
  refine ⟨by omega, fun k t hk => large_no ?_⟩
  obtain ⟨hlt, e⟩ := List.getElem?_eq_some_iff.1 hk
  have := h.2 t (by rw [← e]; exact List.getElem_mem hlt)
  simpa using this
set_option maxRecDepth 100000 in
set_option maxHeartbeats 16000000 in
theorem tells_law (xs ys : List TC) (A : Option Addr) (m c : Nat) (B : Option Addr) (n d : Nat) (s : ByteArray) (w : World) (hx : LT3.rd w AllB A m xs) (hy : LT3.rd w AllB B n ys) (hm : m ≤ 9223372036854775807) (hn : n ≤ 9223372036854775807) (hT : Tab w) :
    Calls Tryd.prog 4 #[.agg #[.slice A m c], .agg #[.slice B n d], .string s] w fun e w' => e = .returned (.bool true) ∧ Below w.heap.size w w' := by
  have q1 := bl_al (bl_al (Below.refl w.heap.size w) (.cells #[.slice A m c] 24)) (.cells #[.slice B n d] 24)
  have HX1 := Lib.hid (Lay.rd_below hx q1)
  have HY1 := Lib.hid (Lay.rd_below hy q1)
  have HT1 := Lib.hid (hT.below q1)
  have HBX1 := Lib.hid ((Blk.new w 24 #[.slice A m c]).alloc (.cells #[.slice B n d] 24))
  have HBY1 := Lib.hid (Blk.new (w.alloc (.cells #[.slice A m c] 24)) 24 #[.slice B n d])
  rw [World.size_alloc] at HBY1
  have HQ1 := Lib.hid q1
  have HLX := Lib.hid (Lay.rd_len hx)
  clear q1 hx hy hT
  go_enter Tryd.func4, Tryd.ntmps4
  go_wp2_with fail
  generalize (w.alloc (.cells #[.slice A m c] 24)).alloc (.cells #[.slice B n d] 24) = w1 at *
  refine (wakes_any w1 HT1.out).mono ?_
  rintro e w2 ⟨rfl, q2⟩
  have HX2 := Lib.hid (Lay.rd_below HX1.out q2)
  have HY2 := Lib.hid (Lay.rd_below HY1.out q2)
  have HT2 := Lib.hid (HT1.out.below q2)
  have HBX2 := Lib.hid (HBX1.out.ca q2)
  have HBY2 := Lib.hid (HBY1.out.ca q2)
  have HQ2 := Lib.hid (bl_ca HQ1.out q2)
  clear q2 HX1 HY1 HT1 HBX1 HBY1 HQ1
  go_upto_region 3 with fail
  refine wp_region_ps0 .text (S := fun _ _ w' => Below w2.heap.size w2 w') (by kernel_rfl) ?spswg1 ?ppswg1
  case spswg1 =>
    exact (Below.refl w2.heap.size w2)
  refine Ps.st (i := 0) (d := some 21) (u := (.agg #[.slice A m c])) rfl rfl ?ywg1_2 ?rwg1_2
  case ywg1_2 =>
    refine StepS.read [] (by kernel_rfl) nP (by rfl) (fun L9 m9 w9 hSh hAt hDn hS => ?_)
    have hT : Below w2.heap.size w2 w9 := hS
    have x0 : w9.cell? ⟨w.heap.size, 0, none⟩ = some (.slice A m c) := (HBX2.out.ca hT).cell 0
    clear hT hS
    go_simp
    try rfl
  try simp only [Act.put, sA, sZ, sS]
  refine Ps.st (i := 1) (d := some 22) (u := (.bool (overB xs))) rfl rfl ?ywg1_3 ?rwg1_3
  case ywg1_3 =>
    refine StepS.call ?fwg1_3 ?awg1_3 [] (by kernel_rfl) (by rfl) (fun w9 => ?hwg1_3) (fun L9 m9 w9 hSh hAt hDn hS => ?cwg1_3)
    case hwg1_3 => go_simp; refine ⟨?_, ?_⟩ <;> rfl
    case cwg1_3 =>
      have hT : Below w2.heap.size w2 w9 := hS
      refine (over_any AllB xs A m c w9 (Lay.rd_below HX2.out hT) hm).mono ?_
      rintro e w8 ⟨rfl, q8⟩
      exact ⟨rfl, bl_ca hT q8⟩
  try simp only [Act.put, sA, sZ, sS]
  obtain ⟨b3_2, hb9⟩ : ∃ zb : Bool, zb = (overB xs) := ⟨_, rfl⟩
  have HEb3_2 := Lib.hid hb9
  clear hb9
  refine Ps.st (i := 2) (d := some 23) (u := (.bool (b3_2))) rfl rfl ?ywg1_4 ?rwg1_4
  case ywg1_4 =>
    refine StepS.pure nP (by rfl) (fun w9 => ?_)
    have e9 : (overB xs) = b3_2 := by rw [HEb3_2.out]
    rw [← e9]
    clear e9
    first | rfl | (go_simp; done) | (go_simp; rfl)
  try simp only [Act.put, sA, sZ, sS]
  refine Ps.st (i := 3) (d := some 24) (u := (cond b3_2 (undef) (.agg #[.slice B n d]))) rfl rfl ?ywg1_5 ?rwg1_5
  case ywg1_5 =>
    cases b3_2
    · skip
      refine StepS.read [] (by kernel_rfl) nP (by rfl) (fun L9 m9 w9 hSh hAt hDn hS => ?_)
      have hT : Below w2.heap.size w2 w9 := hS
      have x0 : w9.cell? ⟨w.heap.size + 1, 0, none⟩ = some (.slice B n d) := (HBY2.out.ca hT).cell 0
      clear hT hS
      go_simp
      try rfl
    · exact StepS.skip nP (by rfl)
  try simp only [Act.put, sA, sZ, sS]
  refine Ps.st (i := 4) (d := some 25) (u := (cond b3_2 (undef) (.bool (overB ys)))) rfl rfl ?ywg1_6 ?rwg1_6
  case ywg1_6 =>
    cases b3_2
    · skip
      refine StepS.call ?fwg1_6 ?awg1_6 [] (by kernel_rfl) (by rfl) (fun w9 => ?hwg1_6) (fun L9 m9 w9 hSh hAt hDn hS => ?cwg1_6)
      case hwg1_6 => go_simp; refine ⟨?_, ?_⟩ <;> rfl
      case cwg1_6 =>
        have hT : Below w2.heap.size w2 w9 := hS
        refine (over_any AllB ys B n d w9 (Lay.rd_below HY2.out hT) hn).mono ?_
        rintro e w8 ⟨rfl, q8⟩
        exact ⟨rfl, bl_ca hT q8⟩
    · exact StepS.skip nP (by rfl)
  try simp only [Act.put, sA, sZ, sS]
  refine Ps.st (i := 5) (d := some 26) (u := (.bool (b3_2 || (overB ys)))) rfl rfl ?ywg1_7 ?rwg1_7
  case ywg1_7 =>
    refine StepS.pure nP (by rfl) (fun w9 => ?_)
    cases b3_2 <;> (first | rfl | (go_simp; done) | (go_simp; rfl))
  try simp only [Act.put, sA, sZ, sS]
  obtain ⟨b3_6, hb9⟩ : ∃ zb : Bool, zb = ((overB xs) || (overB ys)) := ⟨_, rfl⟩
  have HEb3_6 := Lib.hid hb9
  clear hb9
  refine Ps.st (i := 6) (d := some 27) (u := (.bool (b3_6))) rfl rfl ?ywg1_8 ?rwg1_8
  case ywg1_8 =>
    refine StepS.pure nP (by rfl) (fun w9 => ?_)
    have e9 : (b3_2 || (overB ys)) = b3_6 := by rw [HEb3_6.out, HEb3_2.out]
    rw [← e9]
    clear e9
    first | rfl | (go_simp; done) | (go_simp; rfl)
  try simp only [Act.put, sA, sZ, sS]
  refine Ps.st (i := 7) (d := some 28) (u := (cond b3_6 (undef) (.string s))) rfl rfl (by cases b3_6; (exact StepS.pure nP rfl fun _ => rfl); exact StepS.skip nP rfl) ?_
  try simp only [Act.put, sA, sZ, sS]
  refine Ps.st (i := 8) (d := some 29) (u := (cond b3_6 (undef) (.int .i64 ((s.size : Int))))) rfl rfl (by cases b3_6; (exact StepS.pure nP rfl fun _ => by first | rfl | (go_simp; done) | (go_simp; rfl)); exact StepS.skip nP rfl) ?_
  try simp only [Act.put, sA, sZ, sS]
  refine Ps.st (i := 9) (d := some 30) (u := (cond b3_6 (undef) (.bool (decide ((100 : Int) < (s.size : Int)))))) rfl rfl (by cases b3_6; (exact StepS.pure nP rfl fun _ => rfl); exact StepS.skip nP rfl) ?_
  try simp only [Act.put, sA, sZ, sS]
  obtain ⟨q3, hb9⟩ : ∃ zb : Bool, zb = (((overB xs) || (overB ys)) || (decide ((100 : Int) < (s.size : Int)))) := ⟨_, rfl⟩
  have HEq3 := Lib.hid hb9
  clear hb9
  refine Ps.st (i := 10) (d := some 31) (u := (.bool (q3))) rfl rfl ?ywg1_12 ?rwg1_12
  case ywg1_12 =>
    refine StepS.pure nP (by rfl) (fun w9 => ?_)
    have e9 : (b3_6 || (decide ((100 : Int) < (s.size : Int)))) = q3 := by rw [HEq3.out, HEb3_6.out]
    rw [← e9]
    clear e9
    cases b3_6 <;> (first | rfl | (go_simp; done) | (go_simp; rfl))
  try simp only [Act.put, sA, sZ, sS]
  refine Ps.done (by kernel_rfl) (fun wg1 hS => ?_) _
  try generalize (cond b3_6 (undef) (.bool (decide ((100 : Int) < (s.size : Int)))) : Value) = zz13
  try generalize (cond b3_6 (undef) (.int .i64 ((s.size : Int))) : Value) = zz14
  try generalize (cond b3_2 (undef) (.agg #[.slice B n d]) : Value) = zz15
  try generalize (cond b3_2 (undef) (.bool (overB ys)) : Value) = zz16
  try generalize (cond b3_6 (undef) (.string s) : Value) = zz17
  try generalize (.bool (b3_2 || (overB ys)) : Value) = zz18
  have q3 : Below w2.heap.size w2 wg1 := hS
  clear hS
  obtain ⟨w3, rfl⟩ : ∃ x, x = wg1 := ⟨_, rfl⟩
  have HX3 := Lib.hid (Lay.rd_below HX2.out q3)
  have HY3 := Lib.hid (Lay.rd_below HY2.out q3)
  have HT3 := Lib.hid (HT2.out.below q3)
  have HBX3 := Lib.hid (HBX2.out.ca q3)
  have HBY3 := Lib.hid (HBY2.out.ca q3)
  have HQ3 := Lib.hid (bl_ca HQ2.out q3)
  clear q3 HX2 HY2 HT2 HBX2 HBY2 HQ2
  cases q3
  case true =>
    go_wp2
    go_ret
    exact ⟨rfl, HQ3.out⟩
  obtain ⟨hox, hoy⟩ : overB xs = false ∧ overB ys = false := by
    have h9 := HEq3.out
    have h8 := h9.symm
    simp only [Bool.or_eq_false_iff] at h8
    exact h8.1
  have HSX := Lib.hid (over_no hox)
  have HXL := Lib.hid (show xs.length ≤ 20 from (over_no hox).1)
  have hm20 : m ≤ 20 := by have := HXL.out; rw [HLX.out] at this; exact this
  clear hox hoy HEq3
  have y0 := HBX3.out.cell 0
  go_wp2_with fail
  refine (rcat_any AllB xs A m c w3 HX3.out hm (fun k t hk => (HSX.out.2 k t hk).1)).mono ?_
  rintro e w4 ⟨rfl, q4⟩
  clear y0
  have HX4 := Lib.hid (Lay.rd_below HX3.out q4)
  have HY4 := Lib.hid (Lay.rd_below HY3.out q4)
  have HT4 := Lib.hid (HT3.out.below q4)
  have HBX4 := Lib.hid (HBX3.out.ca q4)
  have HBY4 := Lib.hid (HBY3.out.ca q4)
  have HQ4 := Lib.hid (bl_ca HQ3.out q4)
  clear q4 HX3 HY3 HT3 HBX3 HBY3 HQ3
  obtain ⟨cb, hcb⟩ : ∃ cb, cb = catB xs := ⟨_, rfl⟩
  have HCB := Lib.hid hcb
  rw [← hcb]
  clear hcb
  have y0 := HBX4.out.cell 0
  go_wp2_with fail
  refine (copied_any AllB xs A m c w4 HX4.out (by omega) (fun k t hk => (HSX.out.2 k t hk).2)).mono ?_
  rintro e w5 ⟨A2, n2, c2, rfl, hr2, hn2, hc2, q5⟩
  clear y0
  have HX5 := Lib.hid (Lay.rd_below HX4.out q5)
  have HY5 := Lib.hid (Lay.rd_below HY4.out q5)
  have HT5 := Lib.hid (HT4.out.below q5)
  have HBX5 := Lib.hid (HBX4.out.ca q5)
  have HBY5 := Lib.hid (HBY4.out.ca q5)
  have HQ5 := Lib.hid (bl_ca HQ4.out q5)
  clear q5 HX4 HY4 HT4 HBX4 HBY4 HQ4
  have HRC := Lib.hid hr2
  have hl2 := Lay.rd_len hr2
  have HN2 := Lib.hid (show n2 ≤ 9223372036854775807 from by omega)
  clear hr2 hn2 hl2
  go_wp2_with fail
  refine (check_any _ xs A2 n2 c2 w5 HRC.out HN2.out HT5.out (fun k t hk => (HSX.out.2 k t hk).1)).mono ?_
  rintro e w6 ⟨rfl, q6⟩
  have HX6 := Lib.hid (Lay.rd_below HX5.out q6)
  have HY6 := Lib.hid (Lay.rd_below HY5.out q6)
  have HT6 := Lib.hid (HT5.out.below q6)
  have HBX6 := Lib.hid (HBX5.out.ca q6)
  have HBY6 := Lib.hid (HBY5.out.ca q6)
  have HQ6 := Lib.hid (bl_ca HQ5.out q6)
  clear q6 HX5 HY5 HT5 HBX5 HBY5 HQ5
  rw [← HCB.out]
  clear HRC hc2
  obtain ⟨dd, hdd⟩ : ∃ dd, dd = decide (xs = ys) := ⟨_, rfl⟩
  have HDD := Lib.hid hdd
  clear hdd
  go_upto_region 7 with fail
  refine wp_region_ps (S := SeqN [15, 18, 24, 25] (fun z mm w' => match z with | 3 => Below w6.heap.size w6 w' ∧ ∃ A2 n2 c2, mm 24 = .agg #[.slice A2 n2 c2] ∧ LT3.rd w' AllB A2 n2 xs | _ => Below w6.heap.size w6 w')) (by kernel_rfl) ?spswg19 ?ppswg19
  case spswg19 =>
    exact SeqN.start (by decide) (Below.refl _ _).drew
  refine Ps.st (i := 0) (d := some 37) (u := (.bool (cb))) rfl rfl (by exact StepS.pure (SeqN.pass (by decide)) rfl fun _ => rfl) ?_
  try simp only [Act.put, sA, sZ, sS]
  refine Ps.st (i := 1) (d := some 38) (u := (.int .i64 (eC cb))) rfl rfl (by exact StepS.pure (SeqN.pass (by decide)) rfl fun _ => rfl) ?_
  try simp only [Act.put, sA, sZ, sS]
  refine Ps.st (i := 2) (d := some 39) (u := (.bool (decide ((eC cb) = 0)))) rfl rfl (by exact StepS.pure (SeqN.pass (by decide)) rfl fun _ => rfl) ?_
  try simp only [Act.put, sA, sZ, sS]
  refine Ps.st (i := 3) (d := some 40) (u := (.bool (false))) rfl rfl ?ywg19_23 ?rwg19_23
  case ywg19_23 =>
    refine StepS.pure (SeqN.pass (by decide)) (by rfl) (fun w9 => ?_)
    cases cb
    · first | rfl | (go_simp; done) | (go_simp; rfl)
    · first | rfl | (go_simp; done) | (go_simp; rfl)
  try simp only [Act.put, sA, sZ, sS]
  refine Ps.st (i := 4) (d := some 41) (u := (.bool (false))) rfl rfl (by exact StepS.pure (SeqN.pass (by decide)) rfl fun _ => rfl) ?_
  try simp only [Act.put, sA, sZ, sS]
  refine Ps.st (i := 5) (d := some 42) (u := (.bool (cb))) rfl rfl (by exact StepS.pure (SeqN.pass (by decide)) rfl fun _ => rfl) ?_
  try simp only [Act.put, sA, sZ, sS]
  refine Ps.st (i := 6) (d := some 43) (u := (.bool (!cb))) rfl rfl (by exact StepS.pure (SeqN.pass (by decide)) rfl fun _ => rfl) ?_
  try simp only [Act.put, sA, sZ, sS]
  obtain ⟨bq, hb9⟩ : ∃ zb : Bool, zb = (!cb) := ⟨_, rfl⟩
  have HEbq := Lib.hid hb9
  clear hb9
  refine Ps.st (i := 7) (d := some 44) (u := (.bool (bq))) rfl rfl ?ywg19_27 ?rwg19_27
  case ywg19_27 =>
    refine StepS.pure (SeqN.pass (by decide)) (by rfl) (fun w9 => ?_)
    have e9 : (!cb) = bq := by rw [HEbq.out]
    rw [← e9]
    clear e9
    first | rfl | (go_simp; done) | (go_simp; rfl)
  try simp only [Act.put, sA, sZ, sS]
  refine Ps.st (i := 8) (d := some 45) (u := (cond bq (.int .i64 (eC cb)) (undef))) rfl rfl (by cases bq; exact StepS.skip (SeqN.pass (by decide)) rfl; exact StepS.pure (SeqN.pass (by decide)) rfl fun _ => rfl) ?_
  try simp only [Act.put, sA, sZ, sS]
  refine Ps.st (i := 9) (d := some 46) (u := (cond bq (.bool (!decide ((eC cb) = 210))) (undef))) rfl rfl (by cases bq; exact StepS.skip (SeqN.pass (by decide)) rfl; exact StepS.pure (SeqN.pass (by decide)) rfl fun _ => rfl) ?_
  try simp only [Act.put, sA, sZ, sS]
  refine Ps.st (i := 10) (d := some 47) (u := (.bool (bq && (!decide ((eC cb) = 210))))) rfl rfl ?ywg19_30 ?rwg19_30
  case ywg19_30 =>
    refine StepS.pure (SeqN.pass (by decide)) (by rfl) (fun w9 => ?_)
    cases bq <;> (first | rfl | (go_simp; done) | (go_simp; rfl))
  try simp only [Act.put, sA, sZ, sS]
  refine Ps.st (i := 11) (d := some 48) (u := (.bool (false))) rfl rfl ?ywg19_31 ?rwg19_31
  case ywg19_31 =>
    refine StepS.pure (SeqN.pass (by decide)) (by rfl) (fun w9 => ?_)
    have e9 : (bq && !decide (eC cb = 210)) = false := by rw [HEbq.out]; cases cb <;> rfl
    rw [e9]
    first | rfl | (go_simp; done) | (go_simp; rfl)
  try simp only [Act.put, sA, sZ, sS]
  refine Ps.st (i := 12) (d := some 49) (u := (.bool (false))) rfl rfl (by exact StepS.pure (SeqN.pass (by decide)) rfl fun _ => rfl) ?_
  try simp only [Act.put, sA, sZ, sS]
  refine Ps.st (i := 13) (d := some 50) (u := (.agg #[.slice A m c])) rfl rfl ?ywg19_33 ?rwg19_33
  case ywg19_33 =>
    refine StepS.read [] (by kernel_rfl) (SeqN.pass (by decide)) (by rfl) (fun L9 m9 w9 hSh hAt hDn hS => ?_)
    have hT : Below w6.heap.size w6 w9 := SeqN.lt (ks := [15, 18, 24, 25]) (k := 25) (by simp) (reach_no hSh (f := 28) (j := 25) (by kernel_rfl) hDn) (fun z _ _ hz h => by match z, hz, h with | 0, _, h => exact h | 1, _, h => exact h | 2, _, h => exact h | 3, _, h => exact h.1 | _ + 4, hz, _ => exact absurd hz (by simp)) hS
    have x0 : w9.cell? ⟨w.heap.size, 0, none⟩ = some (.slice A m c) := (HBX6.out.ca hT).cell 0
    clear hT hS
    go_simp
    try rfl
  try simp only [Act.put, sA, sZ, sS]
  refine Ps.st (i := 14) (d := some 51) (u := (.agg #[.slice B n d])) rfl rfl ?ywg19_34 ?rwg19_34
  case ywg19_34 =>
    refine StepS.read [] (by kernel_rfl) (SeqN.pass (by decide)) (by rfl) (fun L9 m9 w9 hSh hAt hDn hS => ?_)
    have hT : Below w6.heap.size w6 w9 := SeqN.lt (ks := [15, 18, 24, 25]) (k := 25) (by simp) (reach_no hSh (f := 28) (j := 25) (by kernel_rfl) hDn) (fun z _ _ hz h => by match z, hz, h with | 0, _, h => exact h | 1, _, h => exact h | 2, _, h => exact h | 3, _, h => exact h.1 | _ + 4, hz, _ => exact absurd hz (by simp)) hS
    have x0 : w9.cell? ⟨w.heap.size + 1, 0, none⟩ = some (.slice B n d) := (HBY6.out.ca hT).cell 0
    clear hT hS
    go_simp
    try rfl
  try simp only [Act.put, sA, sZ, sS]
  refine Ps.st (i := 16) (d := some 53) (u := (.agg #[.slice A m c])) rfl rfl ?ywg19_35 ?rwg19_35
  case ywg19_35 =>
    refine StepS.read [] (by kernel_rfl) (SeqN.pass (by decide)) (by rfl) (fun L9 m9 w9 hSh hAt hDn hS => ?_)
    have hT : Below w6.heap.size w6 w9 := SeqN.lt (ks := [15, 18, 24, 25]) (k := 25) (by simp) (reach_no hSh (f := 28) (j := 25) (by kernel_rfl) hDn) (fun z _ _ hz h => by match z, hz, h with | 0, _, h => exact h | 1, _, h => exact h | 2, _, h => exact h | 3, _, h => exact h.1 | _ + 4, hz, _ => exact absurd hz (by simp)) hS
    have x0 : w9.cell? ⟨w.heap.size, 0, none⟩ = some (.slice A m c) := (HBX6.out.ca hT).cell 0
    clear hT hS
    go_simp
    try rfl
  try simp only [Act.put, sA, sZ, sS]
  refine Ps.st (i := 17) (d := some 54) (u := (.agg #[.slice B n d])) rfl rfl ?ywg19_36 ?rwg19_36
  case ywg19_36 =>
    refine StepS.read [] (by kernel_rfl) (SeqN.pass (by decide)) (by rfl) (fun L9 m9 w9 hSh hAt hDn hS => ?_)
    have hT : Below w6.heap.size w6 w9 := SeqN.lt (ks := [15, 18, 24, 25]) (k := 25) (by simp) (reach_no hSh (f := 28) (j := 25) (by kernel_rfl) hDn) (fun z _ _ hz h => by match z, hz, h with | 0, _, h => exact h | 1, _, h => exact h | 2, _, h => exact h | 3, _, h => exact h.1 | _ + 4, hz, _ => exact absurd hz (by simp)) hS
    have x0 : w9.cell? ⟨w.heap.size + 1, 0, none⟩ = some (.slice B n d) := (HBY6.out.ca hT).cell 0
    clear hT hS
    go_simp
    try rfl
  try simp only [Act.put, sA, sZ, sS]
  refine Ps.one (k := 15) (d := some 52) rfl rfl (by kernel_rfl) (TurnS.call (V := fun v => v = .bool dd) ?fwg19_37 ?awg19_37 [] (by kernel_rfl) (by rfl) (fun w9 => ?hwg19_37) (fun L9 m9 w9 hSh hAt hDn hS => ?cwg19_37)) (fun v15 hVv15 => ?rwg19_37)
  case hwg19_37 => go_simp; refine ⟨?_, ?_⟩ <;> rfl
  case cwg19_37 =>
    have hT := SeqN.at_ (m0 := m9) (m1 := m9) [] [18, 24, 25] hSh (fun d hd => by cases hd) hDn (by kernel_rfl) hS
    refine (same_any AllB AllB xs ys A m c B n d w9 (Lay.rd_below HX6.out hT) (Lay.rd_below HY6.out hT) hm).mono ?_
    rintro e w8 ⟨rfl, q8⟩
    exact ⟨_, rfl, by rw [HDD.out], SeqN.set_ (m0 := m9) (m1 := m9) [] [18, 24, 25] hSh (fun d hd => by cases hd) hDn (by kernel_rfl) (by decide) (by decide) (bl_ca hT q8)⟩
  try simp only [Act.put, sA, sZ, sS]
  subst hVv15
  refine Ps.one (k := 18) (d := some 55) rfl rfl (by kernel_rfl) (TurnS.call (V := fun v => v = .bool dd) ?fwg19_38 ?awg19_38 [15] (by kernel_rfl) (by rfl) (fun w9 => ?hwg19_38) (fun L9 m9 w9 hSh hAt hDn hS => ?cwg19_38)) (fun v18 hVv18 => ?rwg19_38)
  case hwg19_38 => go_simp; refine ⟨?_, ?_⟩ <;> rfl
  case cwg19_38 =>
    have hT := SeqN.at_ [15] [24, 25] hSh hAt hDn (by kernel_rfl) hS
    refine (rsame_any AllB AllB xs ys A m c B n d w9 (Lay.rd_below HX6.out hT) (Lay.rd_below HY6.out hT) hm).mono ?_
    rintro e w8 ⟨rfl, q8⟩
    exact ⟨_, rfl, by rw [HDD.out], SeqN.set_ [15] [24, 25] hSh hAt hDn (by kernel_rfl) (by decide) (by decide) (bl_ca hT q8)⟩
  try simp only [Act.put, sA, sZ, sS]
  subst hVv18
  refine Ps.st (i := 19) (d := some 56) (u := (.bool (false))) rfl rfl ?ywg19_39 ?rwg19_39
  case ywg19_39 =>
    refine StepS.pure (SeqN.pass (by decide)) (by rfl) (fun w9 => ?_)
    cases dd
    · first | rfl | (go_simp; done) | (go_simp; rfl)
    · first | rfl | (go_simp; done) | (go_simp; rfl)
  try simp only [Act.put, sA, sZ, sS]
  refine Ps.st (i := 20) (d := some 57) (u := (.bool (false))) rfl rfl (by exact StepS.pure (SeqN.pass (by decide)) rfl fun _ => rfl) ?_
  try simp only [Act.put, sA, sZ, sS]
  refine Ps.st (i := 21) (d := some 58) (u := (.bool (false))) rfl rfl (by exact StepS.pure (SeqN.pass (by decide)) rfl fun _ => rfl) ?_
  try simp only [Act.put, sA, sZ, sS]
  refine Ps.st (i := 22) (d := some 59) (u := (.agg #[.slice A m c])) rfl rfl ?ywg19_42 ?rwg19_42
  case ywg19_42 =>
    refine StepS.read [] (by kernel_rfl) (SeqN.pass (by decide)) (by rfl) (fun L9 m9 w9 hSh hAt hDn hS => ?_)
    have hT : Below w6.heap.size w6 w9 := SeqN.lt (ks := [15, 18, 24, 25]) (k := 25) (by simp) (reach_no hSh (f := 28) (j := 25) (by kernel_rfl) hDn) (fun z _ _ hz h => by match z, hz, h with | 0, _, h => exact h | 1, _, h => exact h | 2, _, h => exact h | 3, _, h => exact h.1 | _ + 4, hz, _ => exact absurd hz (by simp)) hS
    have x0 : w9.cell? ⟨w.heap.size, 0, none⟩ = some (.slice A m c) := (HBX6.out.ca hT).cell 0
    clear hT hS
    go_simp
    try rfl
  try simp only [Act.put, sA, sZ, sS]
  refine Ps.st (i := 23) (d := some 60) (u := (.agg #[.slice A m c])) rfl rfl ?ywg19_43 ?rwg19_43
  case ywg19_43 =>
    refine StepS.read [] (by kernel_rfl) (SeqN.pass (by decide)) (by rfl) (fun L9 m9 w9 hSh hAt hDn hS => ?_)
    have hT : Below w6.heap.size w6 w9 := SeqN.lt (ks := [15, 18, 24, 25]) (k := 25) (by simp) (reach_no hSh (f := 28) (j := 25) (by kernel_rfl) hDn) (fun z _ _ hz h => by match z, hz, h with | 0, _, h => exact h | 1, _, h => exact h | 2, _, h => exact h | 3, _, h => exact h.1 | _ + 4, hz, _ => exact absurd hz (by simp)) hS
    have x0 : w9.cell? ⟨w.heap.size, 0, none⟩ = some (.slice A m c) := (HBX6.out.ca hT).cell 0
    clear hT hS
    go_simp
    try rfl
  try simp only [Act.put, sA, sZ, sS]
  refine Ps.one (k := 24) (d := some 61) rfl rfl (by kernel_rfl) (TurnS.call (V := fun v => ∃ A2 n2 c2, v = .agg #[.slice A2 n2 c2]) ?fwg19_44 ?awg19_44 [15, 18] (by kernel_rfl) (by rfl) (fun w9 => ?hwg19_44) (fun L9 m9 w9 hSh hAt hDn hS => ?cwg19_44)) (fun v24 hVv24 => ?rwg19_44)
  case hwg19_44 => go_simp; refine ⟨?_, ?_⟩ <;> rfl
  case cwg19_44 =>
    have hT := SeqN.at_ [15, 18] [25] hSh hAt hDn (by kernel_rfl) hS
    refine (copied_any AllB xs A m c w9 (Lay.rd_below HX6.out hT) (by omega) (fun k t hk => (HSX.out.2 k t hk).2)).mono ?_
    rintro e w8 ⟨A2, n2, c2, rfl, hr, hnc, hcm, q8⟩
    exact ⟨_, rfl, ⟨A2, n2, c2, rfl⟩, SeqN.set_ [15, 18] [25] hSh hAt hDn (by kernel_rfl) (by decide) (by decide) ⟨bl_ca hT q8, A2, n2, c2, upd_same _ _ _, Lay.rd_weak (fun b hb _ => trivial) hr⟩⟩
  try simp only [Act.put, sA, sZ, sS]
  obtain ⟨A2, n2, c2, rfl⟩ := hVv24
  refine Ps.one (k := 25) (d := some 62) rfl rfl (by kernel_rfl) (TurnS.call (V := fun v => v = .bool true) ?fwg19_45 ?awg19_45 [15, 18, 24] (by kernel_rfl) (by rfl) (fun w9 => ?hwg19_45) (fun L9 m9 w9 hSh hAt hDn hS => ?cwg19_45)) (fun v25 hVv25 => ?rwg19_45)
  case hwg19_45 => go_simp; refine ⟨?_, ?_⟩ <;> rfl
  case cwg19_45 =>
    obtain ⟨hT, A3, n3, c3, hv, hr⟩ := SeqN.at_ [15, 18, 24] [] hSh hAt hDn (by kernel_rfl) hS
    obtain ⟨rfl, rfl, rfl⟩ : A2 = A3 ∧ n2 = n3 ∧ c2 = c3 := by have h9 : Value.agg #[.slice A2 n2 c2] = .agg #[.slice A3 n3 c3] := (hAt 24 (by simp)).2.symm.trans hv; simpa [and_assoc] using h9
    refine (same_any AllB AllB xs xs A m c A2 n2 c2 w9 (Lay.rd_below HX6.out hT) hr hm).mono ?_
    rintro e w8 ⟨rfl, q8⟩
    exact ⟨_, rfl, by rw [decide_eq_true rfl], SeqN.set_ [15, 18, 24] [] hSh hAt hDn (by kernel_rfl) (by decide) (by decide) (bl_ca hT q8)⟩
  try simp only [Act.put, sA, sZ, sS]
  subst hVv25
  refine Ps.st (i := 26) (d := some 63) (u := (.bool (false))) rfl rfl (by exact StepS.pure (SeqN.pass (by decide)) rfl fun _ => rfl) ?_
  try simp only [Act.put, sA, sZ, sS]
  refine Ps.st (i := 27) (d := some 64) (u := (.bool (false))) rfl rfl (by exact StepS.pure (SeqN.pass (by decide)) rfl fun _ => rfl) ?_
  try simp only [Act.put, sA, sZ, sS]
  refine Ps.done (by kernel_rfl) (fun wg19 hS => ?_) _
  try generalize (cond bq (.bool (!decide ((eC cb) = 210))) (undef) : Value) = zz48
  try generalize (.bool (bq && (!decide ((eC cb) = 210))) : Value) = zz49
  try generalize (cond bq (.int .i64 (eC cb)) (undef) : Value) = zz50
  have q7 : Below w6.heap.size w6 wg19 := SeqN.fin (by rfl) hS
  clear hS
  obtain ⟨w7, rfl⟩ : ∃ x, x = wg19 := ⟨_, rfl⟩
  have HX7 := Lib.hid (Lay.rd_below HX6.out q7)
  have HY7 := Lib.hid (Lay.rd_below HY6.out q7)
  have HT7 := Lib.hid (HT6.out.below q7)
  have HBX7 := Lib.hid (HBX6.out.ca q7)
  have HBY7 := Lib.hid (HBY6.out.ca q7)
  have HQ7 := Lib.hid (bl_ca HQ6.out q7)
  clear q7 HX6 HY6 HT6 HBX6 HBY6 HQ6
  have y0 := HBX7.out.cell 0
  go_wp2_with fail
  refine (find_any AllB xs A m c s w7 HX7.out hm).mono ?_
  rintro e w8 ⟨rfl, q8⟩
  clear y0
  have HX8 := Lib.hid (Lay.rd_below HX7.out q8)
  have HY8 := Lib.hid (Lay.rd_below HY7.out q8)
  have HT8 := Lib.hid (HT7.out.below q8)
  have HBX8 := Lib.hid (HBX7.out.ca q8)
  have HBY8 := Lib.hid (HBY7.out.ca q8)
  have HQ8 := Lib.hid (bl_ca HQ7.out q8)
  clear q8 HX7 HY7 HT7 HBX7 HBY7 HQ7
  obtain ⟨z, hz⟩ : ∃ z, z = idxL (fun t : TC => decide (t.name = s)) xs := ⟨_, rfl⟩
  rw [← hz]
  have HZ := Lib.hid hz
  clear hz
  rw [show fnd z = max z 0 from rfl]
  have y0 := HBX8.out.cell 0
  go_wp2_with fail
  refine (rfind_any AllB A m c xs s w8 HX8.out hm).mono ?_
  rintro e w9 ⟨rfl, q9⟩
  rw [← HZ.out]
  clear y0
  have HX9 := Lib.hid (Lay.rd_below HX8.out q9)
  have HY9 := Lib.hid (Lay.rd_below HY8.out q9)
  have HT9 := Lib.hid (HT8.out.below q9)
  have HBX9 := Lib.hid (HBX8.out.ca q9)
  have HBY9 := Lib.hid (HBY8.out.ca q9)
  have HQ9 := Lib.hid (bl_ca HQ8.out q9)
  clear q9 HX8 HY8 HT8 HBX8 HBY8 HQ8
  have y0 := HBX9.out.cell 0
  go_wp2_with fail
  clear y0
  go_loopg [87] m (fun g b wr => ∃ (i : Nat), i + g = m ∧ b = .int .i64 i ∧ Below w9.heap.size w9 wr)
  case atStart => exact ⟨0, by omega, rfl, Below.refl _ _⟩
  case round =>
    obtain ⟨i, hig, rfl, hbel⟩ := hrel
    have HBL := Lib.hid hbel
    clear hbel
    by_cases hlt : i < m
    · have hi1 : (i : Int) < (m : Int) := by omega
      obtain ⟨p, t, A1, n1, c1, B1, m1, d1, hAe, hx, s1⟩ := LT3_at (Lay.rd_below HX9.out HBL.out) hlt
      obtain rfl : A = some p := hAe
      have HSZ := Lib.hid (HSX.out.2 i t hx).1
      have hn1 : n1 ≤ 9223372036854775807 := Nat.le_trans s1.nc s1.cm
      have hm1 : m1 ≤ 9223372036854775807 := Nat.le_trans s1.md s1.dm
      have HNN := Lib.hid (And.intro hn1 hm1)
      have e0 := s1.c0
      have e1 := s1.c1
      have e2 := s1.c2
      have q10 := bl_al (Below.refl wr.heap.size wr) (.cells (t.cells A1 n1 c1 B1 m1 d1) 28)
      have HR10 := Lib.hid (Lay.rd_below s1.rd q10)
      have HK10 := Lib.hid (Lay.rd_below s1.rk q10)
      have HB10 := Lib.hid (Blk.new wr 28 (t.cells A1 n1 c1 B1 m1 d1))
      have HT10 := Lib.hid ((HT9.out.below HBL.out).below q10)
      have HQ10 := Lib.hid (bl_ca HBL.out q10)
      have t0 := HB10.out.cell 0
      have t1 := HB10.out.cell 1
      have t2 := HB10.out.cell 2
      clear hx s1 q10 hn1 hm1 HBL
      go_wp2_with fail
      generalize wr.alloc (.cells (t.cells A1 n1 c1 B1 m1 d1) 28) = w10 at *
      refine (checkt_any AllB AllB t A1 n1 c1 B1 m1 d1 w10 HR10.out HK10.out HNN.out.1 HNN.out.2 HT10.out HSZ.out).mono ?_
      rintro e w11 ⟨rfl, q11⟩
      clear e0 e1 e2 t0 t1 t2
      have HR11 := Lib.hid (Lay.rd_below HR10.out q11)
      have HK11 := Lib.hid (Lay.rd_below HK10.out q11)
      have HB11 := Lib.hid (HB10.out.ca q11)
      have HT11 := Lib.hid (HT10.out.below q11)
      have HQ11 := Lib.hid (bl_ca HQ10.out q11)
      clear q11 HR10 HK10 HB10 HT10 HQ10
      obtain ⟨tb, htb⟩ : ∃ tb, tb = tabB t := ⟨_, rfl⟩
      have HTBB := Lib.hid htb
      rw [← htb]
      clear htb
      have t0 := HB11.out.cell 0
      have t1 := HB11.out.cell 1
      have t2 := HB11.out.cell 2
      go_wp2_with fail
      refine (rtable_any AllB AllB t A1 n1 c1 B1 m1 d1 w11 HR11.out HK11.out HNN.out.1 HNN.out.2 (by have := HSZ.out.1; omega) (fun k x hk => by have := HSZ.out.2 k x hk; omega)).mono ?_
      rintro e w12 ⟨rfl, q12⟩
      clear t0 t1 t2
      have HR12 := Lib.hid (Lay.rd_below HR11.out q12)
      have HK12 := Lib.hid (Lay.rd_below HK11.out q12)
      have HB12 := Lib.hid (HB11.out.ca q12)
      have HT12 := Lib.hid (HT11.out.below q12)
      have HQ12 := Lib.hid (bl_ca HQ11.out q12)
      clear q12 HR11 HK11 HB11 HT11 HQ11
      rw [← HTBB.out]
      go_upto_region 18 with fail
      refine wp_region_ps0 .text (S := fun _ _ w' => Below w12.heap.size w12 w') (by kernel_rfl) ?spswg51 ?ppswg51
      case spswg51 =>
        exact (Below.refl w12.heap.size w12)
      refine Ps.st (i := 0) (d := some 95) (u := (.bool (tb))) rfl rfl (by exact StepS.pure nP rfl fun _ => rfl) ?_
      try simp only [Act.put, sA, sZ, sS]
      refine Ps.st (i := 1) (d := some 96) (u := (.int .i64 (eT tb))) rfl rfl (by exact StepS.pure nP rfl fun _ => rfl) ?_
      try simp only [Act.put, sA, sZ, sS]
      refine Ps.st (i := 2) (d := some 97) (u := (.bool (decide ((eT tb) = 0)))) rfl rfl (by exact StepS.pure nP rfl fun _ => rfl) ?_
      try simp only [Act.put, sA, sZ, sS]
      refine Ps.st (i := 3) (d := some 98) (u := (.bool (false))) rfl rfl ?ywg51_55 ?rwg51_55
      case ywg51_55 =>
        refine StepS.pure nP (by rfl) (fun w9 => ?_)
        cases tb
        · first | rfl | (go_simp; done) | (go_simp; rfl)
        · first | rfl | (go_simp; done) | (go_simp; rfl)
      try simp only [Act.put, sA, sZ, sS]
      refine Ps.st (i := 4) (d := some 99) (u := (.bool (false))) rfl rfl (by exact StepS.pure nP rfl fun _ => rfl) ?_
      try simp only [Act.put, sA, sZ, sS]
      refine Ps.st (i := 5) (d := some 100) (u := (.bool (tb))) rfl rfl (by exact StepS.pure nP rfl fun _ => rfl) ?_
      try simp only [Act.put, sA, sZ, sS]
      refine Ps.st (i := 6) (d := some 101) (u := (.bool (!tb))) rfl rfl (by exact StepS.pure nP rfl fun _ => rfl) ?_
      try simp only [Act.put, sA, sZ, sS]
      obtain ⟨bp, hb9⟩ : ∃ zb : Bool, zb = (!tb) := ⟨_, rfl⟩
      have HEbp := Lib.hid hb9
      clear hb9
      refine Ps.st (i := 7) (d := some 102) (u := (.bool (bp))) rfl rfl ?ywg51_59 ?rwg51_59
      case ywg51_59 =>
        refine StepS.pure nP (by rfl) (fun w9 => ?_)
        have e9 : (!tb) = bp := by rw [HEbp.out]
        rw [← e9]
        clear e9
        first | rfl | (go_simp; done) | (go_simp; rfl)
      try simp only [Act.put, sA, sZ, sS]
      refine Ps.st (i := 8) (d := some 103) (u := (cond bp (.int .i64 (eT tb)) (undef))) rfl rfl (by cases bp; exact StepS.skip nP rfl; exact StepS.pure nP rfl fun _ => rfl) ?_
      try simp only [Act.put, sA, sZ, sS]
      refine Ps.st (i := 9) (d := some 104) (u := (cond bp (.bool (!decide ((eT tb) = 211))) (undef))) rfl rfl (by cases bp; exact StepS.skip nP rfl; exact StepS.pure nP rfl fun _ => rfl) ?_
      try simp only [Act.put, sA, sZ, sS]
      refine Ps.st (i := 10) (d := some 105) (u := (.bool (bp && (!decide ((eT tb) = 211))))) rfl rfl ?ywg51_62 ?rwg51_62
      case ywg51_62 =>
        refine StepS.pure nP (by rfl) (fun w9 => ?_)
        cases bp <;> (first | rfl | (go_simp; done) | (go_simp; rfl))
      try simp only [Act.put, sA, sZ, sS]
      refine Ps.st (i := 11) (d := some 106) (u := (.bool (false))) rfl rfl ?ywg51_63 ?rwg51_63
      case ywg51_63 =>
        refine StepS.pure nP (by rfl) (fun w9 => ?_)
        have e9 : (bp && !decide (eT tb = 211)) = false := by rw [HEbp.out]; cases tb <;> rfl
        rw [e9]
        first | rfl | (go_simp; done) | (go_simp; rfl)
      try simp only [Act.put, sA, sZ, sS]
      refine Ps.done (by kernel_rfl) (fun wg51 hS => ?_) _
      try generalize (cond bp (.bool (!decide ((eT tb) = 211))) (undef) : Value) = zz64
      try generalize (.bool (bp && (!decide ((eT tb) = 211))) : Value) = zz65
      try generalize (cond bp (.int .i64 (eT tb)) (undef) : Value) = zz66
      have q13 : Below w12.heap.size w12 wg51 := hS
      clear hS
      obtain ⟨w13, rfl⟩ : ∃ x, x = wg51 := ⟨_, rfl⟩
      have HR13 := Lib.hid (Lay.rd_below HR12.out q13)
      have HK13 := Lib.hid (Lay.rd_below HK12.out q13)
      have HB13 := Lib.hid (HB12.out.ca q13)
      have HT13 := Lib.hid (HT12.out.below q13)
      have HQ13 := Lib.hid (bl_ca HQ12.out q13)
      clear q13 HR12 HK12 HB12 HT12 HQ12
      have t0 := HB13.out.cell 0
      have t1 := HB13.out.cell 1
      have t2 := HB13.out.cell 2
      go_wp2_with fail
      refine (column_any AllB t A1 n1 c1 B1 m1 d1 s w13 HR13.out HNN.out.1).mono ?_
      rintro e w14 ⟨rfl, q14⟩
      clear t0 t1 t2
      have HR14 := Lib.hid (Lay.rd_below HR13.out q14)
      have HK14 := Lib.hid (Lay.rd_below HK13.out q14)
      have HB14 := Lib.hid (HB13.out.ca q14)
      have HT14 := Lib.hid (HT13.out.below q14)
      have HQ14 := Lib.hid (bl_ca HQ13.out q14)
      clear q14 HR13 HK13 HB13 HT13 HQ13
      obtain ⟨y, hy⟩ : ∃ y, y = idxL (fun t : CO => decide (t.name = s)) t.cols := ⟨_, rfl⟩
      rw [← hy]
      have HY := Lib.hid hy
      clear hy
      rw [show fnd y = max y 0 from rfl]
      have t0 := HB14.out.cell 0
      have t1 := HB14.out.cell 1
      have t2 := HB14.out.cell 2
      go_wp2_with fail
      refine (rcolumn_any AllB t A1 n1 c1 B1 m1 d1 s w14 HR14.out HNN.out.1).mono ?_
      rintro e w15 ⟨rfl, q15⟩
      clear t0 t1 t2
      have HQ15 := Lib.hid (bl_ca HQ14.out q15)
      rw [← HY.out]
      clear q15
      go_wp2_with fail
      go_roundg (gk - 1)
      · exact ⟨i + 1, by omega, by go_num, HQ15.out⟩
      · omega
    · obtain rfl : i = m := by omega
      have hi1 : (i : Int) ≤ (i : Int) := by omega
      go_wp2
      go_ret
      exact ⟨rfl, bl_ca HQ9.out HBL.out⟩
theorem tells_walk (xs : List TC) (A : Option Addr) (m c : Nat) (ys : List TC) (B : Option Addr) (n d : Nat) (s : ByteArray) (W : World) (r0 : LT3.rd W AllB A m xs) (h0 : m ≤ c) (k0 : c ≤ 9223372036854775807) (r1 : LT3.rd W AllB B n ys) (h1 : n ≤ d) (k1 : d ≤ 9223372036854775807) (_ : s.size ≤ maxLen) (hT : Tab W) :
    Calls Tryd.prog 4 #[.agg #[.slice A m c], .agg #[.slice B n d], .string s] W fun e w' => e = .returned (.bool true) ∧ Below W.heap.size W w' := tells_law xs ys A m c B n d s W r0 r1 (Nat.le_trans h0 k0) (Nat.le_trans h1 k1) hT
end Go.Proofs.YthgcdilkkldgjaaDoor
