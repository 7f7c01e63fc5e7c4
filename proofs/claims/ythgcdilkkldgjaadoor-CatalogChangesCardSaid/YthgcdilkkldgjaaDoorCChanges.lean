/- The law CatalogChanges. Conditions: the slices read so; what the tables hold. -/
import Derived.Test.YthgcdilkkldgjaaDoorCTells
import Derived.Test.YthgcdilkkldgjaaDoorCWith2
import Derived.Deep.CutBlock
namespace Go.Proofs.YthgcdilkkldgjaaDoor
open Go.RowKit
theorem woF_past (at_ : Int) : ∀ (l : List TC) (i : Nat), at_ < (i : Int) → woF at_ i l = l
  | [], _, _ => rfl
  | x :: l, i, h => by rw [woF, if_neg (by omega), woF_past at_ l (i + 1) (by omega)]
theorem woF_erase : ∀ (l : List TC) (i k : Nat), woF ((i + k : Nat) : Int) i l = l.eraseIdx k
  | [], i, k => by simp [woF]
  | x :: l, i, 0 => by rw [woF, if_pos (by simp), woF_past _ l (i + 1) (by omega)]; rfl
  | x :: l, i, k + 1 => by rw [woF, if_neg (by omega), show i + (k + 1) = (i + 1) + k by omega, woF_erase l (i + 1) k]; rfl
theorem dropR_len (l : List TC) (s : ByteArray) : (dropR l s).length ≤ l.length := by
  unfold dropR
  split
  · rw [List.length_eraseIdx]; split <;> omega
  · exact Nat.zero_le _
set_option maxRecDepth 100000 in
set_option maxHeartbeats 16000000 in
theorem changes_law (xs : List TC) (A : Option Addr) (m c : Nat) (t : TC) (A1 : Option Addr) (n1 c1 : Nat) (B1 : Option Addr) (m1 d1 : Nat) (s : ByteArray) (w : World) (hx : LT3.rd w AllB A m xs) (hr1 : LCO.rd w AllB A1 n1 t.cols) (hk1 : LK.rd w AllB B1 m1 t.keys) (hm : m ≤ 9223372036854775807) (hnc : n1 ≤ c1) (hcm : c1 ≤ 9223372036854775807) (hmd : m1 ≤ d1) (hdm : d1 ≤ 9223372036854775807) (hT : Tab w) :
    Calls Tryd.prog 3 #[.agg #[.slice A m c], .agg (t.cells A1 n1 c1 B1 m1 d1), .string s] w fun e w' => e = .returned (.bool true) ∧ Below w.heap.size w w' := by
  have q1 := bl_al (bl_al (Below.refl w.heap.size w) (.cells #[.slice A m c] 24)) (.cells (t.cells A1 n1 c1 B1 m1 d1) 28)
  have HX1 := Lib.hid (Lay.rd_below hx q1)
  have HR1 := Lib.hid (Lay.rd_below hr1 q1)
  have HK1 := Lib.hid (Lay.rd_below hk1 q1)
  have HT1 := Lib.hid (hT.below q1)
  have HBX1 := Lib.hid ((Blk.new w 24 #[.slice A m c]).alloc (.cells (t.cells A1 n1 c1 B1 m1 d1) 28))
  have HBT1 := Lib.hid (Blk.new (w.alloc (.cells #[.slice A m c] 24)) 28 (t.cells A1 n1 c1 B1 m1 d1))
  rw [World.size_alloc] at HBT1
  have HQ1 := Lib.hid q1
  have HLX := Lib.hid (Lay.rd_len hx)
  have HNN := Lib.hid (And.intro (Nat.le_trans hnc hcm) (Nat.le_trans hmd hdm))
  have HCD := Lib.hid (And.intro (And.intro hnc hcm) (And.intro hmd hdm))
  have hs1 : ((w.alloc (.cells #[.slice A m c] 24)).alloc (.cells (t.cells A1 n1 c1 B1 m1 d1) 28)).heap.size = w.heap.size + 2 := by simp only [World.size_alloc]
  clear q1 hx hT hr1 hk1 hnc hcm hmd hdm
  go_enter Tryd.func3, Tryd.ntmps3
  go_wp2_with fail
  generalize (w.alloc (.cells #[.slice A m c] 24)).alloc (.cells (t.cells A1 n1 c1 B1 m1 d1) 28) = w1 at *
  refine (wakes_any w1 HT1.out).mono ?_
  rintro e w2 ⟨rfl, q2⟩
  have hs2 := q2.size
  have HX2 := Lib.hid (Lay.rd_below HX1.out q2)
  have HR2 := Lib.hid (Lay.rd_below HR1.out q2)
  have HK2 := Lib.hid (Lay.rd_below HK1.out q2)
  have HT2 := Lib.hid (HT1.out.below q2)
  have HBX2 := Lib.hid (HBX1.out.ca q2)
  have HBT2 := Lib.hid (HBT1.out.ca q2)
  have HQ2 := Lib.hid (bl_ca HQ1.out q2)
  clear q2 HX1 HR1 HK1 HT1 HBX1 HBT1 HQ1
  go_upto_region 3 with fail
  refine wp_region_ps0 .text (S := fun _ _ w' => Below w2.heap.size w2 w') (by kernel_rfl) ?spswg1 ?ppswg1
  case spswg1 =>
    exact (Below.refl w2.heap.size w2)
  refine Ps.st (i := 0) (d := some 17) (u := (.agg #[.slice A m c])) rfl rfl ?ywg1_2 ?rwg1_2
  case ywg1_2 =>
    refine StepS.read [] (by kernel_rfl) nP (by rfl) (fun L9 m9 w9 hSh hAt hDn hS => ?_)
    have hT : Below w2.heap.size w2 w9 := hS
    have x0 : w9.cell? ⟨w.heap.size, 0, none⟩ = some (.slice A m c) := (HBX2.out.ca hT).cell 0
    clear hT hS
    go_simp
    try rfl
  try simp only [Act.put, sA, sZ, sS]
  refine Ps.st (i := 1) (d := some 18) (u := (.bool (overB xs))) rfl rfl ?ywg1_3 ?rwg1_3
  case ywg1_3 =>
    refine StepS.call ?fwg1_3 ?awg1_3 [] (by kernel_rfl) (by rfl) (fun w9 => ?hwg1_3) (fun L9 m9 w9 hSh hAt hDn hS => ?cwg1_3)
    case hwg1_3 => go_simp; refine ⟨?_, ?_⟩ <;> rfl
    case cwg1_3 =>
      have hT : Below w2.heap.size w2 w9 := hS
      refine (over_any AllB xs A m c w9 (Lay.rd_below HX2.out hT) hm).mono ?_
      rintro e w8 ⟨rfl, q8⟩
      exact ⟨rfl, bl_ca hT q8⟩
  try simp only [Act.put, sA, sZ, sS]
  obtain ⟨b3_2, hb9⟩ : ∃ zb : Bool, zb = (overB xs) := ⟨_, rfl⟩
  have HEb3_2 := Lib.hid hb9
  clear hb9
  refine Ps.st (i := 2) (d := some 19) (u := (.bool (b3_2))) rfl rfl ?ywg1_4 ?rwg1_4
  case ywg1_4 =>
    refine StepS.pure nP (by rfl) (fun w9 => ?_)
    have e9 : (overB xs) = b3_2 := by rw [HEb3_2.out]
    rw [← e9]
    clear e9
    first | rfl | (go_simp; done) | (go_simp; rfl)
  try simp only [Act.put, sA, sZ, sS]
  refine Ps.st (i := 3) (d := some 20) (u := (cond b3_2 (undef) (.agg #[.string t.name, .slice A1 n1 c1, .slice B1 m1 d1]))) rfl rfl ?ywg1_5 ?rwg1_5
  case ywg1_5 =>
    cases b3_2
    · skip
      refine StepS.read [] (by kernel_rfl) nP (by rfl) (fun L9 m9 w9 hSh hAt hDn hS => ?_)
      have hT : Below w2.heap.size w2 w9 := hS
      have x0 : w9.cell? ⟨w.heap.size + 1, 0, none⟩ = some (.string t.name) := (HBT2.out.ca hT).cell 0
      have x1 : w9.cell? ⟨w.heap.size + 1, 1, none⟩ = some (.slice A1 n1 c1) := (HBT2.out.ca hT).cell 1
      have x2 : w9.cell? ⟨w.heap.size + 1, 2, none⟩ = some (.slice B1 m1 d1) := (HBT2.out.ca hT).cell 2
      clear hT hS
      go_simp
      try rfl
    · exact StepS.skip nP (by rfl)
  try simp only [Act.put, sA, sZ, sS]
  refine Ps.st (i := 4) (d := some 21) (u := (cond b3_2 (undef) (.bool (largeB t)))) rfl rfl ?ywg1_6 ?rwg1_6
  case ywg1_6 =>
    cases b3_2
    · skip
      refine StepS.call ?fwg1_6 ?awg1_6 [] (by kernel_rfl) (by rfl) (fun w9 => ?hwg1_6) (fun L9 m9 w9 hSh hAt hDn hS => ?cwg1_6)
      case hwg1_6 => go_simp; refine ⟨?_, ?_⟩ <;> rfl
      case cwg1_6 =>
        have hT : Below w2.heap.size w2 w9 := hS
        refine (large_any AllB AllB t A1 n1 c1 B1 m1 d1 w9 (Lay.rd_below HR2.out hT) (Lay.rd_below HK2.out hT) HNN.out.1).mono ?_
        rintro e w8 ⟨rfl, q8⟩
        exact ⟨rfl, bl_ca hT q8⟩
    · exact StepS.skip nP (by rfl)
  try simp only [Act.put, sA, sZ, sS]
  refine Ps.st (i := 5) (d := some 22) (u := (.bool (b3_2 || (largeB t)))) rfl rfl ?ywg1_7 ?rwg1_7
  case ywg1_7 =>
    refine StepS.pure nP (by rfl) (fun w9 => ?_)
    cases b3_2 <;> (first | rfl | (go_simp; done) | (go_simp; rfl))
  try simp only [Act.put, sA, sZ, sS]
  obtain ⟨b3_6, hb9⟩ : ∃ zb : Bool, zb = ((overB xs) || (largeB t)) := ⟨_, rfl⟩
  have HEb3_6 := Lib.hid hb9
  clear hb9
  refine Ps.st (i := 6) (d := some 23) (u := (.bool (b3_6))) rfl rfl ?ywg1_8 ?rwg1_8
  case ywg1_8 =>
    refine StepS.pure nP (by rfl) (fun w9 => ?_)
    have e9 : (b3_2 || (largeB t)) = b3_6 := by rw [HEb3_6.out, HEb3_2.out]
    rw [← e9]
    clear e9
    first | rfl | (go_simp; done) | (go_simp; rfl)
  try simp only [Act.put, sA, sZ, sS]
  refine Ps.st (i := 7) (d := some 24) (u := (cond b3_6 (undef) (.string s))) rfl rfl (by cases b3_6; (exact StepS.pure nP rfl fun _ => rfl); exact StepS.skip nP rfl) ?_
  try simp only [Act.put, sA, sZ, sS]
  refine Ps.st (i := 8) (d := some 25) (u := (cond b3_6 (undef) (.int .i64 ((s.size : Int))))) rfl rfl (by cases b3_6; (exact StepS.pure nP rfl fun _ => by first | rfl | (go_simp; done) | (go_simp; rfl)); exact StepS.skip nP rfl) ?_
  try simp only [Act.put, sA, sZ, sS]
  refine Ps.st (i := 9) (d := some 26) (u := (cond b3_6 (undef) (.bool (decide ((100 : Int) < (s.size : Int)))))) rfl rfl (by cases b3_6; (exact StepS.pure nP rfl fun _ => rfl); exact StepS.skip nP rfl) ?_
  try simp only [Act.put, sA, sZ, sS]
  obtain ⟨q3, hb9⟩ : ∃ zb : Bool, zb = (((overB xs) || (largeB t)) || (decide ((100 : Int) < (s.size : Int)))) := ⟨_, rfl⟩
  have HEq3 := Lib.hid hb9
  clear hb9
  refine Ps.st (i := 10) (d := some 27) (u := (.bool (q3))) rfl rfl ?ywg1_12 ?rwg1_12
  case ywg1_12 =>
    refine StepS.pure nP (by rfl) (fun w9 => ?_)
    have e9 : (b3_6 || (decide ((100 : Int) < (s.size : Int)))) = q3 := by rw [HEq3.out, HEb3_6.out]
    rw [← e9]
    clear e9
    cases b3_6 <;> (first | rfl | (go_simp; done) | (go_simp; rfl))
  try simp only [Act.put, sA, sZ, sS]
  refine Ps.done (by kernel_rfl) (fun wg1 hS => ?_) _
  try generalize (cond b3_2 (undef) (.agg #[.string t.name, .slice A1 n1 c1, .slice B1 m1 d1]) : Value) = zz13
  try generalize (cond b3_6 (undef) (.bool (decide ((100 : Int) < (s.size : Int)))) : Value) = zz14
  try generalize (cond b3_6 (undef) (.int .i64 ((s.size : Int))) : Value) = zz15
  try generalize (cond b3_2 (undef) (.bool (largeB t)) : Value) = zz16
  try generalize (cond b3_6 (undef) (.string s) : Value) = zz17
  try generalize (.bool (b3_2 || (largeB t)) : Value) = zz18
  have q3 : Below w2.heap.size w2 wg1 := hS
  clear hS
  obtain ⟨w3, rfl⟩ : ∃ x, x = wg1 := ⟨_, rfl⟩
  have hs3 := q3.size
  have HX3 := Lib.hid (Lay.rd_below HX2.out q3)
  have HR3 := Lib.hid (Lay.rd_below HR2.out q3)
  have HK3 := Lib.hid (Lay.rd_below HK2.out q3)
  have HT3 := Lib.hid (HT2.out.below q3)
  have HBX3 := Lib.hid (HBX2.out.ca q3)
  have HBT3 := Lib.hid (HBT2.out.ca q3)
  have HQ3 := Lib.hid (bl_ca HQ2.out q3)
  clear q3 HX2 HR2 HK2 HT2 HBX2 HBT2 HQ2
  cases q3
  case true =>
    go_wp2
    go_ret
    exact ⟨rfl, HQ3.out⟩
  obtain ⟨hox, hot⟩ : overB xs = false ∧ largeB t = false := by
    have h9 := HEq3.out
    have h8 := h9.symm
    simp only [Bool.or_eq_false_iff] at h8
    exact h8.1
  have HSX := Lib.hid (over_no hox)
  have HST := Lib.hid (large_no hot)
  have HXL := Lib.hid (show xs.length ≤ 20 from (over_no hox).1)
  have hm20 : m ≤ 20 := by have := HXL.out; rw [HLX.out] at this; exact this
  clear hox hot HEq3
  have y0 := HBX3.out.cell 0
  go_wp2_with fail
  refine (copied_any AllB xs A m c w3 HX3.out (by omega) (fun k t hk => (HSX.out.2 k t hk).2)).mono ?_
  rintro e w4 ⟨A2, n2, c2, rfl, hr2, hn2, hc2, q4⟩
  have hs4 := q4.size
  clear y0
  have HX4 := Lib.hid (Lay.rd_below HX3.out q4)
  have HR4 := Lib.hid (Lay.rd_below HR3.out q4)
  have HK4 := Lib.hid (Lay.rd_below HK3.out q4)
  have HT4 := Lib.hid (HT3.out.below q4)
  have HBX4 := Lib.hid (HBX3.out.ca q4)
  have HBT4 := Lib.hid (HBT3.out.ca q4)
  have HQ4 := Lib.hid (bl_ca HQ3.out q4)
  clear q4 HX3 HR3 HK3 HT3 HBX3 HBT3 HQ3
  obtain rfl : n2 = m := by rw [← Lay.rd_len hr2]; exact HLX.out
  have HC4 := Lib.hid (Lay.rd_weak (G := AllB) (fun b _ _ => trivial) hr2)
  have q5 := bl_al (Below.refl w4.heap.size w4) (.cells #[.slice A2 n2 c2] 24)
  have HC5 := Lib.hid (Lay.rd_below HC4.out q5)
  have HBC5 := Lib.hid (Blk.new w4 24 #[.slice A2 n2 c2])
  have HX5 := Lib.hid (Lay.rd_below HX4.out q5)
  have HR5 := Lib.hid (Lay.rd_below HR4.out q5)
  have HK5 := Lib.hid (Lay.rd_below HK4.out q5)
  have HT5 := Lib.hid (HT4.out.below q5)
  have HBX5 := Lib.hid (HBX4.out.ca q5)
  have HBT5 := Lib.hid (HBT4.out.ca q5)
  have HQ5 := Lib.hid (bl_ca HQ4.out q5)
  clear q5 HX4 HR4 HK4 HT4 HBX4 HBT4 HQ4
  have hs5 : (w4.alloc (.cells #[.slice A2 n2 c2] 24)).heap.size = w4.heap.size + 1 := by simp only [World.size_alloc]
  clear hr2 HC4 hn2 hc2
  have y0 := HBC5.out.cell 0
  have t0 := HBT5.out.cell 0
  have t1 := HBT5.out.cell 1
  have t2 := HBT5.out.cell 2
  go_wp2_with fail
  generalize w4.alloc (.cells #[.slice A2 n2 c2] 24) = w5 at *
  refine (add_any AllB xs A2 n2 c2 t A1 n1 c1 B1 m1 d1 w5 HC5.out (by omega) HT5.out HSX.out.2 HR5.out HK5.out HST.out.1 HST.out.2).mono ?_
  rintro e w6 ⟨A3, n3, c3, rfl, hr3, _, _, q6⟩
  have hs6 := q6.size
  clear y0 t0 t1 t2
  have HX6 := Lib.hid (Lay.rd_below HX5.out q6)
  have HR6 := Lib.hid (Lay.rd_below HR5.out q6)
  have HK6 := Lib.hid (Lay.rd_below HK5.out q6)
  have HT6 := Lib.hid (HT5.out.below q6)
  have HBX6 := Lib.hid (HBX5.out.ca q6)
  have HBT6 := Lib.hid (HBT5.out.ca q6)
  have HQ6 := Lib.hid (bl_ca HQ5.out q6)
  have q6k := q6
  clear q6 HX5 HR5 HK5 HT5 HBX5 HBT5 HQ5
  obtain ⟨E, hE⟩ : ∃ E, E = addE xs t := ⟨_, rfl⟩
  rw [← hE]
  have HE := Lib.hid hE
  have HA6 := Lib.hid (Lay.rd_weak (G := AllB) (fun b _ _ => trivial) hr3)
  have HC6 := Lib.hid (Lay.rd_below HC5.out q6k)
  have HBC6 := Lib.hid (HBC5.out.ca q6k)
  have HN3 := Lib.hid (Lay.rd_len hr3)
  clear hE hr3 HC5 HBC5 q6k
  have q7 := bl_al (Below.refl w6.heap.size w6) (.cells #[.slice A3 n3 c3] 24)
  have HA7 := Lib.hid (Lay.rd_below HA6.out q7)
  have HC7 := Lib.hid (Lay.rd_below HC6.out q7)
  have HBC7 := Lib.hid (HBC6.out.ca q7)
  have HBA7 := Lib.hid (Blk.new w6 24 #[.slice A3 n3 c3])
  have HX7 := Lib.hid (Lay.rd_below HX6.out q7)
  have HR7 := Lib.hid (Lay.rd_below HR6.out q7)
  have HK7 := Lib.hid (Lay.rd_below HK6.out q7)
  have HT7 := Lib.hid (HT6.out.below q7)
  have HBX7 := Lib.hid (HBX6.out.ca q7)
  have HBT7 := Lib.hid (HBT6.out.ca q7)
  have HQ7 := Lib.hid (bl_ca HQ6.out q7)
  clear q7 HX6 HR6 HK6 HT6 HBX6 HBT6 HQ6
  have hs7 : (w6.alloc (.cells #[.slice A3 n3 c3] 24)).heap.size = w6.heap.size + 1 := by simp only [World.size_alloc]
  clear HA6 HC6 HBC6
  have y0 := HBC7.out.cell 0
  go_wp2_with fail
  generalize w6.alloc (.cells #[.slice A3 n3 c3] 24) = w7 at *
  refine (drop_any AllB xs A2 n2 c2 s w7 HC7.out (by omega) HT7.out HSX.out.2).mono ?_
  rintro e w8 ⟨A4, n4, c4, rfl, hr4, _, _, q8⟩
  have hs8 := q8.size
  clear y0
  have HX8 := Lib.hid (Lay.rd_below HX7.out q8)
  have HR8 := Lib.hid (Lay.rd_below HR7.out q8)
  have HK8 := Lib.hid (Lay.rd_below HK7.out q8)
  have HT8 := Lib.hid (HT7.out.below q8)
  have HBX8 := Lib.hid (HBX7.out.ca q8)
  have HBT8 := Lib.hid (HBT7.out.ca q8)
  have HQ8 := Lib.hid (bl_ca HQ7.out q8)
  have q8k := q8
  clear q8 HX7 HR7 HK7 HT7 HBX7 HBT7 HQ7
  obtain ⟨D, hD⟩ : ∃ D, D = dropE xs s := ⟨_, rfl⟩
  rw [← hD]
  have HD := Lib.hid hD
  have HA8 := Lib.hid (Lay.rd_below HA7.out q8k)
  have HC8 := Lib.hid (Lay.rd_below HC7.out q8k)
  have HBC8 := Lib.hid (HBC7.out.ca q8k)
  have HBA8 := Lib.hid (HBA7.out.ca q8k)
  have HD8 := Lib.hid (Lay.rd_weak (G := AllB) (fun b _ _ => trivial) hr4)
  have HN4 := Lib.hid (Lay.rd_len hr4)
  clear hD hr4 HA7 HC7 HBC7 HBA7 q8k
  have q9 := bl_al (Below.refl w8.heap.size w8) (.cells #[.slice A4 n4 c4] 24)
  have HA9 := Lib.hid (Lay.rd_below HA8.out q9)
  have HC9 := Lib.hid (Lay.rd_below HC8.out q9)
  have HD9 := Lib.hid (Lay.rd_below HD8.out q9)
  have HBC9 := Lib.hid (HBC8.out.ca q9)
  have HBA9 := Lib.hid (HBA8.out.ca q9)
  have HBD9 := Lib.hid (Blk.new w8 24 #[.slice A4 n4 c4])
  have HX9 := Lib.hid (Lay.rd_below HX8.out q9)
  have HR9 := Lib.hid (Lay.rd_below HR8.out q9)
  have HK9 := Lib.hid (Lay.rd_below HK8.out q9)
  have HT9 := Lib.hid (HT8.out.below q9)
  have HBX9 := Lib.hid (HBX8.out.ca q9)
  have HBT9 := Lib.hid (HBT8.out.ca q9)
  have HQ9 := Lib.hid (bl_ca HQ8.out q9)
  clear q9 HX8 HR8 HK8 HT8 HBX8 HBT8 HQ8
  have hs9 : (w8.alloc (.cells #[.slice A4 n4 c4] 24)).heap.size = w8.heap.size + 1 := by simp only [World.size_alloc]
  clear HA8 HC8 HD8 HBC8 HBA8
  have y0 := HBC9.out.cell 0
  have x0 := HBX9.out.cell 0
  go_wp2_with fail
  generalize w8.alloc (.cells #[.slice A4 n4 c4] 24) = w9 at *
  refine (rsame_any AllB AllB xs xs A2 n2 c2 A n2 c w9 HC9.out HX9.out hm).mono ?_
  rintro e w10 ⟨rfl, q10⟩
  rw [show decide (xs = xs) = true from decide_eq_true rfl]
  clear y0 x0
  have HX10 := Lib.hid (Lay.rd_below HX9.out q10)
  have HR10 := Lib.hid (Lay.rd_below HR9.out q10)
  have HK10 := Lib.hid (Lay.rd_below HK9.out q10)
  have HT10 := Lib.hid (HT9.out.below q10)
  have HBX10 := Lib.hid (HBX9.out.ca q10)
  have HBT10 := Lib.hid (HBT9.out.ca q10)
  have HQ10 := Lib.hid (bl_ca HQ9.out q10)
  have q10k := q10
  clear q10 HX9 HR9 HK9 HT9 HBX9 HBT9 HQ9
  have HA10 := Lib.hid (Lay.rd_below HA9.out q10k)
  have HD10 := Lib.hid (Lay.rd_below HD9.out q10k)
  have HBA10 := Lib.hid (HBA9.out.ca q10k)
  have HBD10 := Lib.hid (HBD9.out.ca q10k)
  have hs10 := q10k.size
  clear HA9 HD9 HBA9 HBD9 HC9 HBC9 q10k
  obtain ⟨cb, hcb⟩ : ∃ cb, cb = catB xs := ⟨_, rfl⟩
  have HCB := Lib.hid hcb
  clear hcb
  go_upto_block 0 with fail
  go_cut [12] (fun no wx => no = .int .i64 E ∧ Below w10.heap.size w10 wx)
  case first =>
    have x0 := HBX10.out.cell 0
    go_wp2_with fail
    refine (rcat_any AllB xs A n2 c w10 HX10.out hm (fun k t hk => (HSX.out.2 k t hk).1)).mono ?_
    rintro e w11 ⟨rfl, q11⟩
    clear x0
    have HR11 := Lib.hid (Lay.rd_below HR10.out q11)
    have HK11 := Lib.hid (Lay.rd_below HK10.out q11)
    have HX11 := Lib.hid (Lay.rd_below HX10.out q11)
    have HBX11 := Lib.hid (HBX10.out.ca q11)
    have HBT11 := Lib.hid (HBT10.out.ca q11)
    have HQX := Lib.hid q11
    clear q11
    rw [← HCB.out]
    cases cb
    · have HF := Lib.hid (show E = 210 from by rw [HE.out]; unfold addE; rw [if_pos HCB.out.symm])
      go_wp2_with fail
      go_meet
      exact ⟨by rw [HF.out], HQX.out⟩
    have t0 := HBT11.out.cell 0
    have t1 := HBT11.out.cell 1
    have t2 := HBT11.out.cell 2
    go_wp2_with fail
    refine (rtable_any AllB AllB t A1 n1 c1 B1 m1 d1 w11 HR11.out HK11.out HNN.out.1 HNN.out.2 (by have := HST.out.1.1; omega) (fun k x hk => by have := HST.out.1.2 k x hk; omega)).mono ?_
    rintro e w12 ⟨rfl, q12⟩
    clear t0 t1 t2
    obtain ⟨tb, htb⟩ : ∃ tb, tb = tabB t := ⟨_, rfl⟩
    rw [← htb]
    have HTB := Lib.hid htb
    clear htb
    cases tb
    · have HF := Lib.hid (show E = 211 from by rw [HE.out]; unfold addE; rw [if_neg (by rw [← HCB.out]; simp), if_pos HTB.out.symm])
      go_wp2_with fail
      go_meet
      exact ⟨by rw [HF.out], bl_ca HQX.out q12⟩
    have HX12 := Lib.hid (Lay.rd_below HX11.out q12)
    have t0 := (HBT11.out.ca q12).cell 0
    have x0 := (HBX11.out.ca q12).cell 0
    have HB12 := Lib.hid (HBX11.out.ca q12)
    have HQ12 := Lib.hid q12
    clear q12
    go_wp2_with fail
    refine (rfind_any AllB A n2 c xs t.name w12 HX12.out hm).mono ?_
    rintro e w13 ⟨rfl, q13⟩
    clear t0 x0
    obtain ⟨z, hz⟩ : ∃ z, z = idxL (fun x : TC => decide (x.name = t.name)) xs := ⟨_, rfl⟩
    rw [← hz]
    have HZ := Lib.hid hz
    clear hz
    have HQ13 := Lib.hid (bl_ca HQ12.out q13)
    have x0 := (HB12.out.ca q13).cell 0
    clear q13
    by_cases hz0 : 0 ≤ z
    · have HF := Lib.hid (show E = 5 from by rw [HE.out]; unfold addE; rw [if_neg (by rw [← HCB.out]; simp), if_neg (by rw [← HTB.out]; simp), if_pos (by rw [← HZ.out]; exact hz0)])
      have hz1 : decide (0 ≤ z) = true := decide_eq_true hz0
      clear hz0
      go_wp2_with fail
      go_meet
      exact ⟨by rw [HF.out], bl_ca HQX.out HQ13.out⟩
    have hz1 : decide (0 ≤ z) = false := decide_eq_false hz0
    by_cases h4 : n2 = 4
    · have HF := Lib.hid (show E = 6 from by rw [HE.out]; unfold addE; rw [if_neg (by rw [← HCB.out]; simp), if_neg (by rw [← HTB.out]; simp), if_neg (by rw [← HZ.out]; exact hz0), if_pos (by rw [HLX.out]; exact h4)])
      have h5 : decide ((4 : Int) ≤ (n2 : Int)) = true := decide_eq_true (by omega)
      have h6 : (4 : Int) ≤ (n2 : Int) := by omega
      clear hz0 h4
      go_wp2_with fail
      go_meet
      exact ⟨by rw [HF.out], bl_ca HQX.out HQ13.out⟩
    have HF := Lib.hid (show E = 0 from by rw [HE.out]; unfold addE; rw [if_neg (by rw [← HCB.out]; simp), if_neg (by rw [← HTB.out]; simp), if_neg (by rw [← HZ.out]; exact hz0), if_neg (by rw [HLX.out]; exact h4)])
    have h44 : n2 ≤ 4 := by have h9 := ((catB_iff xs).1 HCB.out.symm).hi; rw [HLX.out] at h9; exact h9
    have h5 : decide ((4 : Int) ≤ (n2 : Int)) = false := decide_eq_false (by omega)
    have h6 : ¬ ((4 : Int) ≤ (n2 : Int)) := by omega
    clear hz0 h4 h44
    go_wp2_with fail
    go_meet
    exact ⟨by rw [HF.out], bl_ca HQX.out HQ13.out⟩
  case rest =>
    obtain ⟨rfl, q12⟩ := hcut
    obtain ⟨w12, rfl⟩ : ∃ x, x = wc := ⟨_, rfl⟩
    have hs12 := q12.size
    have HX12 := Lib.hid (Lay.rd_below HX10.out q12)
    have HR12 := Lib.hid (Lay.rd_below HR10.out q12)
    have HK12 := Lib.hid (Lay.rd_below HK10.out q12)
    have HT12 := Lib.hid (HT10.out.below q12)
    have HBX12 := Lib.hid (HBX10.out.ca q12)
    have HBT12 := Lib.hid (HBT10.out.ca q12)
    have HQ12 := Lib.hid (bl_ca HQ10.out q12)
    have HA12 := Lib.hid (Lay.rd_below HA10.out q12)
    have HD12 := Lib.hid (Lay.rd_below HD10.out q12)
    have HBA12 := Lib.hid (HBA10.out.ca q12)
    have HBD12 := Lib.hid (HBD10.out.ca q12)
    clear q12 HX10 HR10 HK10 HT10 HBX10 HBT10 HQ10 HA10 HD10 HBA10 HBD10
    have x0 := HBX12.out.cell 0
    go_wp2_with fail
    refine (rfind_any AllB A n2 c xs s w12 HX12.out hm).mono ?_
    rintro e w13 ⟨rfl, q13⟩
    have hs13 := q13.size
    clear x0
    have HX13 := Lib.hid (Lay.rd_below HX12.out q13)
    have HR13 := Lib.hid (Lay.rd_below HR12.out q13)
    have HK13 := Lib.hid (Lay.rd_below HK12.out q13)
    have HT13 := Lib.hid (HT12.out.below q13)
    have HBX13 := Lib.hid (HBX12.out.ca q13)
    have HBT13 := Lib.hid (HBT12.out.ca q13)
    have HQ13 := Lib.hid (bl_ca HQ12.out q13)
    have HA13 := Lib.hid (Lay.rd_below HA12.out q13)
    have HD13 := Lib.hid (Lay.rd_below HD12.out q13)
    have HBA13 := Lib.hid (HBA12.out.ca q13)
    have HBD13 := Lib.hid (HBD12.out.ca q13)
    clear q13 HX12 HR12 HK12 HT12 HBX12 HBT12 HQ12 HA12 HD12 HBA12 HBD12
    obtain ⟨z, hz⟩ : ∃ z, z = idxL (fun x : TC => decide (x.name = s)) xs := ⟨_, rfl⟩
    rw [← hz]
    have HZ := Lib.hid hz
    clear hz
    go_upto_block 1 with fail
    go_cut [13] (fun nt wx => nt = .int .i64 D ∧ Below w13.heap.size w13 wx)
    case first =>
      have x0 := HBX13.out.cell 0
      go_wp2_with fail
      refine (rcat_any AllB xs A n2 c w13 HX13.out hm (fun k t hk => (HSX.out.2 k t hk).1)).mono ?_
      rintro e w14 ⟨rfl, q14⟩
      have HQX := Lib.hid q14
      clear x0 q14
      rw [← HCB.out]
      cases cb
      · have HF := Lib.hid (show D = 210 from by rw [HD.out]; unfold dropE; rw [if_pos HCB.out.symm])
        go_wp2_with fail
        go_meet
        exact ⟨by rw [HF.out], HQX.out⟩
      by_cases hz0 : z < 0
      · have HF := Lib.hid (show D = 4 from by rw [HD.out]; unfold dropE; rw [if_neg (by rw [← HCB.out]; simp), if_neg (by rw [← HZ.out]; omega)])
        have hz1 : decide (z < 0) = true := decide_eq_true hz0
        go_wp2_with fail
        go_meet
        exact ⟨by rw [HF.out], HQX.out⟩
      have HF := Lib.hid (show D = 0 from by rw [HD.out]; unfold dropE; rw [if_neg (by rw [← HCB.out]; simp), if_pos (by rw [← HZ.out]; omega)])
      have hz1 : decide (z < 0) = false := decide_eq_false hz0
      go_wp2_with fail
      go_meet
      exact ⟨by rw [HF.out], HQX.out⟩
    case rest =>
      obtain ⟨rfl, q15⟩ := hcut
      obtain ⟨w15, rfl⟩ : ∃ x, x = wc := ⟨_, rfl⟩
      have hs15 := q15.size
      have HX15 := Lib.hid (Lay.rd_below HX13.out q15)
      have HR15 := Lib.hid (Lay.rd_below HR13.out q15)
      have HK15 := Lib.hid (Lay.rd_below HK13.out q15)
      have HT15 := Lib.hid (HT13.out.below q15)
      have HBX15 := Lib.hid (HBX13.out.ca q15)
      have HBT15 := Lib.hid (HBT13.out.ca q15)
      have HQ15 := Lib.hid (bl_ca HQ13.out q15)
      have HA15 := Lib.hid (Lay.rd_below HA13.out q15)
      have HD15 := Lib.hid (Lay.rd_below HD13.out q15)
      have HBA15 := Lib.hid (HBA13.out.ca q15)
      have HBD15 := Lib.hid (HBD13.out.ca q15)
      clear q15 HX13 HR13 HK13 HT13 HBX13 HBT13 HQ13 HA13 HD13 HBA13 HBD13
      go_upto_region 26 with fail
      go_cut [102] (fun b wx => b = .bool false ∧ Below w15.heap.size w15 wx)
      case first =>
        by_cases hE0 : E = 0
        · subst hE0
          have HAR := Lib.hid (show addR xs t = xs ++ [t] from by unfold addR; rw [if_pos HE.out.symm])
          refine wp_region_ps (S := SeqN [15, 16] (fun z mm w' => match z with | 1 => Below w15.heap.size w15 w' ∧ ∃ A5 n5 c5, mm 15 = .agg #[.slice A5 n5 c5] ∧ LT3.rd w' AllB A5 n5 (xs ++ [t]) | _ => Below w15.heap.size w15 w')) (by kernel_rfl) ?spswg19 ?ppswg19
          case spswg19 =>
            exact SeqN.start (by decide) (Below.refl _ _).drew
          refine Ps.st (i := 0) (d := some 83) (u := (.int .i64 (0))) rfl rfl (by exact StepS.pure (SeqN.pass (by decide)) rfl fun _ => rfl) ?_
          try simp only [Act.put, sA, sZ, sS]
          refine Ps.st (i := 1) (d := some 84) (u := (.bool (false))) rfl rfl ?ywg19_21 ?rwg19_21
          case ywg19_21 =>
            refine StepS.pure (SeqN.pass (by decide)) (by rfl) (fun w9 => ?_)
            first | rfl | (go_simp; done) | (go_simp; rfl)
          try simp only [Act.put, sA, sZ, sS]
          refine Ps.st (i := 2) (d := some 85) (u := (.bool (false))) rfl rfl (by exact StepS.pure (SeqN.pass (by decide)) rfl fun _ => rfl) ?_
          try simp only [Act.put, sA, sZ, sS]
          refine Ps.st (i := 3) (d := some 86) (u := undef) rfl rfl (by  exact StepS.skip (SeqN.pass (by decide)) rfl) ?_
          try simp only [Act.put, sA, sZ, sS]
          refine Ps.st (i := 4) (d := some 87) (u := undef) rfl rfl (by  exact StepS.skip (SeqN.pass (by decide)) rfl) ?_
          try simp only [Act.put, sA, sZ, sS]
          refine Ps.st (i := 5) (d := some 88) (u := undef) rfl rfl (by  exact StepS.skip (SeqN.pass (by decide)) rfl) ?_
          try simp only [Act.put, sA, sZ, sS]
          refine Ps.st (i := 6) (d := some 89) (u := undef) rfl rfl (by  exact StepS.skip (SeqN.pass (by decide)) rfl) ?_
          try simp only [Act.put, sA, sZ, sS]
          refine Ps.st (i := 7) (d := some 90) (u := (.bool (false))) rfl rfl (by exact StepS.pure (SeqN.pass (by decide)) rfl fun _ => rfl) ?_
          try simp only [Act.put, sA, sZ, sS]
          refine Ps.st (i := 8) (d := some 91) (u := (.bool (false))) rfl rfl (by exact StepS.pure (SeqN.pass (by decide)) rfl fun _ => rfl) ?_
          try simp only [Act.put, sA, sZ, sS]
          refine Ps.st (i := 9) (d := some 92) (u := (.int .i64 (0))) rfl rfl (by exact StepS.pure (SeqN.pass (by decide)) rfl fun _ => rfl) ?_
          try simp only [Act.put, sA, sZ, sS]
          refine Ps.st (i := 10) (d := some 93) (u := (.bool (true))) rfl rfl ?ywg19_30 ?rwg19_30
          case ywg19_30 =>
            refine StepS.pure (SeqN.pass (by decide)) (by rfl) (fun w9 => ?_)
            first | rfl | (go_simp; done) | (go_simp; rfl)
          try simp only [Act.put, sA, sZ, sS]
          refine Ps.st (i := 11) (d := some 94) (u := (.bool (true))) rfl rfl (by exact StepS.pure (SeqN.pass (by decide)) rfl fun _ => rfl) ?_
          try simp only [Act.put, sA, sZ, sS]
          refine Ps.st (i := 12) (d := some 95) (u := (.agg #[.slice A3 n3 c3])) rfl rfl ?ywg19_32 ?rwg19_32
          case ywg19_32 =>
            refine StepS.read [] (by kernel_rfl) (SeqN.pass (by decide)) (by rfl) (fun L9 m9 w9 hSh hAt hDn hS => ?_)
            have hT : Below w15.heap.size w15 w9 := SeqN.lt (ks := [15, 16]) (k := 16) (by simp) (reach_no hSh (f := 20) (j := 16) (by kernel_rfl) hDn) (fun k _ _ hz h => by match k, hz, h with | 0, _, h => exact h | 1, _, h => exact h.1 | _ + 2, hz, _ => exact absurd hz (by simp)) hS
            have x0 : w9.cell? ⟨w6.heap.size, 0, none⟩ = some (.slice A3 n3 c3) := (HBA15.out.ca hT).cell 0
            clear hT hS
            go_simp
            try rfl
          try simp only [Act.put, sA, sZ, sS]
          refine Ps.st (i := 13) (d := some 96) (u := (.agg #[.slice A n2 c])) rfl rfl ?ywg19_33 ?rwg19_33
          case ywg19_33 =>
            refine StepS.read [] (by kernel_rfl) (SeqN.pass (by decide)) (by rfl) (fun L9 m9 w9 hSh hAt hDn hS => ?_)
            have hT : Below w15.heap.size w15 w9 := SeqN.lt (ks := [15, 16]) (k := 16) (by simp) (reach_no hSh (f := 20) (j := 16) (by kernel_rfl) hDn) (fun k _ _ hz h => by match k, hz, h with | 0, _, h => exact h | 1, _, h => exact h.1 | _ + 2, hz, _ => exact absurd hz (by simp)) hS
            have x0 : w9.cell? ⟨w.heap.size, 0, none⟩ = some (.slice A n2 c) := (HBX15.out.ca hT).cell 0
            clear hT hS
            go_simp
            try rfl
          try simp only [Act.put, sA, sZ, sS]
          refine Ps.st (i := 14) (d := some 97) (u := (.agg #[.string t.name, .slice A1 n1 c1, .slice B1 m1 d1])) rfl rfl ?ywg19_34 ?rwg19_34
          case ywg19_34 =>
            refine StepS.read [] (by kernel_rfl) (SeqN.pass (by decide)) (by rfl) (fun L9 m9 w9 hSh hAt hDn hS => ?_)
            have hT : Below w15.heap.size w15 w9 := SeqN.lt (ks := [15, 16]) (k := 16) (by simp) (reach_no hSh (f := 20) (j := 16) (by kernel_rfl) hDn) (fun k _ _ hz h => by match k, hz, h with | 0, _, h => exact h | 1, _, h => exact h.1 | _ + 2, hz, _ => exact absurd hz (by simp)) hS
            have x0 : w9.cell? ⟨w.heap.size + 1, 0, none⟩ = some (.string t.name) := (HBT15.out.ca hT).cell 0
            have x1 : w9.cell? ⟨w.heap.size + 1, 1, none⟩ = some (.slice A1 n1 c1) := (HBT15.out.ca hT).cell 1
            have x2 : w9.cell? ⟨w.heap.size + 1, 2, none⟩ = some (.slice B1 m1 d1) := (HBT15.out.ca hT).cell 2
            clear hT hS
            go_simp
            try rfl
          try simp only [Act.put, sA, sZ, sS]
          refine Ps.one (k := 15) (d := some 98) rfl rfl (by kernel_rfl) (TurnS.call (V := fun v => ∃ A5 n5 c5, v = .agg #[.slice A5 n5 c5]) ?fwg19_35 ?awg19_35 [] (by kernel_rfl) (by rfl) (fun w9 => ?hwg19_35) (fun L9 m9 w9 hSh hAt hDn hS => ?cwg19_35)) (fun v15 hVv15 => ?rwg19_35)
          case hwg19_35 => go_simp; refine ⟨?_, ?_⟩ <;> rfl
          case cwg19_35 =>
            have hT := SeqN.at_ (m0 := m9) (m1 := m9) [] [16] hSh (fun d hd => by cases hd) hDn (by kernel_rfl) hS
            refine (with_any AllB xs A n2 c t A1 n1 c1 B1 m1 d1 w9 (Lay.rd_below HX15.out hT) (by omega) (Lay.rd_below HR15.out hT) HCD.out.1.1 HCD.out.1.2 (Lay.rd_below HK15.out hT) HCD.out.2.1 HCD.out.2.2).mono ?_
            rintro e w8 ⟨A5, n5, c5, rfl, hr, q8⟩
            exact ⟨_, rfl, ⟨A5, n5, c5, rfl⟩, SeqN.set_ (m0 := m9) (m1 := m9) [] [16] hSh (fun d hd => by cases hd) hDn (by kernel_rfl) (by decide) (by decide) ⟨bl_ca hT q8, A5, n5, c5, upd_same _ _ _, Lay.rd_weak (fun b hb _ => trivial) hr⟩⟩
          try simp only [Act.put, sA, sZ, sS]
          obtain ⟨A5, n5, c5, rfl⟩ := hVv15
          refine Ps.one (k := 16) (d := some 99) rfl rfl (by kernel_rfl) (TurnS.call (V := fun v => v = .bool true) ?fwg19_36 ?awg19_36 [15] (by kernel_rfl) (by rfl) (fun w9 => ?hwg19_36) (fun L9 m9 w9 hSh hAt hDn hS => ?cwg19_36)) (fun v16 hVv16 => ?rwg19_36)
          case hwg19_36 => go_simp; refine ⟨?_, ?_⟩ <;> rfl
          case cwg19_36 =>
            obtain ⟨hT, A6, n6, c6, hv, hr⟩ := SeqN.at_ [15] [] hSh hAt hDn (by kernel_rfl) hS
            obtain ⟨rfl, rfl, rfl⟩ : A5 = A6 ∧ n5 = n6 ∧ c5 = c6 := by have h9 : Value.agg #[.slice A5 n5 c5] = .agg #[.slice A6 n6 c6] := (hAt 15 (by simp)).2.symm.trans hv; simpa [and_assoc] using h9
            refine (rsame_any AllB AllB (addR xs t) (xs ++ [t]) A3 n3 c3 A5 n5 c5 w9 (Lay.rd_below HA15.out hT) hr (by have := HN3.out; rw [HAR.out, List.length_append, HLX.out] at this; have h9 : n2 + 1 = n3 := this; omega)).mono ?_
            rintro e w8 ⟨rfl, q8⟩
            exact ⟨_, rfl, by rw [decide_eq_true HAR.out], SeqN.set_ [15] [] hSh hAt hDn (by kernel_rfl) (by decide) (by decide) (bl_ca hT q8)⟩
          try simp only [Act.put, sA, sZ, sS]
          subst hVv16
          refine Ps.st (i := 17) (d := some 100) (u := (.bool (false))) rfl rfl (by exact StepS.pure (SeqN.pass (by decide)) rfl fun _ => rfl) ?_
          try simp only [Act.put, sA, sZ, sS]
          refine Ps.st (i := 18) (d := some 101) (u := (.bool (false))) rfl rfl (by exact StepS.pure (SeqN.pass (by decide)) rfl fun _ => rfl) ?_
          try simp only [Act.put, sA, sZ, sS]
          refine Ps.st (i := 19) (d := some 102) (u := (.bool (false))) rfl rfl (by exact StepS.pure (SeqN.pass (by decide)) rfl fun _ => rfl) ?_
          try simp only [Act.put, sA, sZ, sS]
          refine Ps.done (by kernel_rfl) (fun wg19 hS => ?_) _
          have qe : Below w15.heap.size w15 wg19 := SeqN.fin (by rfl) hS
          clear hS
          go_wp2_with fail
          go_meet
          exact ⟨rfl, qe⟩
        · have HAR := Lib.hid (show addR xs t = [] from by unfold addR; rw [if_neg (by rw [← HE.out]; exact hE0)])
          obtain rfl : n3 = 0 := by have h9 := HN3.out; rw [HAR.out] at h9; exact h9.symm
          have HEN := Lib.hid (show decide (E = 0) = false from decide_eq_false hE0)
          refine wp_region_ps (S := fun _ _ w' => Below w15.heap.size w15 w') (by kernel_rfl) ?spswg40 ?ppswg40
          case spswg40 =>
            exact (Below.refl w15.heap.size w15).drew
          refine Ps.st (i := 0) (d := some 83) (u := (.int .i64 (E))) rfl rfl (by exact StepS.pure nP rfl fun _ => rfl) ?_
          try simp only [Act.put, sA, sZ, sS]
          refine Ps.st (i := 1) (d := some 84) (u := (.bool (true))) rfl rfl ?ywg40_42 ?rwg40_42
          case ywg40_42 =>
            refine StepS.pure nP (by rfl) (fun w9 => ?_)
            have e9 := HEN.out
            first | rfl | (go_simp; done) | (go_simp; rfl) | (simp only [e9]; rfl)
          try simp only [Act.put, sA, sZ, sS]
          refine Ps.st (i := 2) (d := some 85) (u := (.bool (true))) rfl rfl (by exact StepS.pure nP rfl fun _ => rfl) ?_
          try simp only [Act.put, sA, sZ, sS]
          refine Ps.st (i := 3) (d := some 86) (u := (.pointer (some ⟨w6.heap.size, 0, none⟩))) rfl rfl (by exact StepS.pure nP rfl fun _ => rfl) ?_
          try simp only [Act.put, sA, sZ, sS]
          refine Ps.st (i := 4) (d := some 87) (u := (.slice A3 0 c3)) rfl rfl ?ywg40_45 ?rwg40_45
          case ywg40_45 =>
            refine StepS.read [] (by kernel_rfl) nP (by rfl) (fun L9 m9 w9 hSh hAt hDn hS => ?_)
            have hT : Below w15.heap.size w15 w9 := hS
            have x0 : w9.cell? ⟨w6.heap.size, 0, none⟩ = some (.slice A3 0 c3) := (HBA15.out.ca hT).cell 0
            clear hT hS
            go_simp
            try rfl
          try simp only [Act.put, sA, sZ, sS]
          refine Ps.st (i := 5) (d := some 88) (u := (.int .i64 ((0 : Int)))) rfl rfl (by exact StepS.pure nP rfl fun _ => by first | rfl | (go_simp; done) | (go_simp; rfl)) ?_
          try simp only [Act.put, sA, sZ, sS]
          refine Ps.st (i := 6) (d := some 89) (u := (.bool (false))) rfl rfl ?ywg40_47 ?rwg40_47
          case ywg40_47 =>
            refine StepS.pure nP (by rfl) (fun w9 => ?_)
            first | rfl | (go_simp; done) | (go_simp; rfl)
          try simp only [Act.put, sA, sZ, sS]
          refine Ps.st (i := 7) (d := some 90) (u := (.bool (false))) rfl rfl (by exact StepS.pure nP rfl fun _ => rfl) ?_
          try simp only [Act.put, sA, sZ, sS]
          refine Ps.st (i := 8) (d := some 91) (u := (.bool (false))) rfl rfl (by exact StepS.pure nP rfl fun _ => rfl) ?_
          try simp only [Act.put, sA, sZ, sS]
          refine Ps.st (i := 9) (d := some 92) (u := (.int .i64 (E))) rfl rfl (by exact StepS.pure nP rfl fun _ => rfl) ?_
          try simp only [Act.put, sA, sZ, sS]
          refine Ps.st (i := 10) (d := some 93) (u := (.bool (false))) rfl rfl ?ywg40_51 ?rwg40_51
          case ywg40_51 =>
            refine StepS.pure nP (by rfl) (fun w9 => ?_)
            have e9 := HEN.out
            first | rfl | (go_simp; done) | (go_simp; rfl) | (simp only [e9]; rfl)
          try simp only [Act.put, sA, sZ, sS]
          refine Ps.st (i := 11) (d := some 94) (u := (.bool (false))) rfl rfl (by exact StepS.pure nP rfl fun _ => rfl) ?_
          try simp only [Act.put, sA, sZ, sS]
          refine Ps.st (i := 12) (d := some 95) (u := undef) rfl rfl (by  exact StepS.skip nP rfl) ?_
          try simp only [Act.put, sA, sZ, sS]
          refine Ps.st (i := 13) (d := some 96) (u := undef) rfl rfl (by  exact StepS.skip nP rfl) ?_
          try simp only [Act.put, sA, sZ, sS]
          refine Ps.st (i := 14) (d := some 97) (u := undef) rfl rfl (by  exact StepS.skip nP rfl) ?_
          try simp only [Act.put, sA, sZ, sS]
          refine Ps.st (i := 15) (d := some 98) (u := undef) rfl rfl (by  exact StepS.skip nP rfl) ?_
          try simp only [Act.put, sA, sZ, sS]
          refine Ps.st (i := 16) (d := some 99) (u := undef) rfl rfl (by  exact StepS.skip nP rfl) ?_
          try simp only [Act.put, sA, sZ, sS]
          refine Ps.st (i := 17) (d := some 100) (u := undef) rfl rfl (by  exact StepS.skip nP rfl) ?_
          try simp only [Act.put, sA, sZ, sS]
          refine Ps.st (i := 18) (d := some 101) (u := (.bool (false))) rfl rfl (by exact StepS.pure nP rfl fun _ => rfl) ?_
          try simp only [Act.put, sA, sZ, sS]
          refine Ps.st (i := 19) (d := some 102) (u := (.bool (false))) rfl rfl (by exact StepS.pure nP rfl fun _ => rfl) ?_
          try simp only [Act.put, sA, sZ, sS]
          refine Ps.done (by kernel_rfl) (fun wg40 hS => ?_) _
          have qe : Below w15.heap.size w15 wg40 := hS
          clear hS
          go_wp2_with fail
          go_meet
          exact ⟨rfl, qe⟩
      case rest =>
        obtain ⟨rfl, q16⟩ := hcut
        obtain ⟨w16, rfl⟩ : ∃ x, x = wc := ⟨_, rfl⟩
        have hs16 := q16.size
        have HX16 := Lib.hid (Lay.rd_below HX15.out q16)
        have HR16 := Lib.hid (Lay.rd_below HR15.out q16)
        have HK16 := Lib.hid (Lay.rd_below HK15.out q16)
        have HT16 := Lib.hid (HT15.out.below q16)
        have HBX16 := Lib.hid (HBX15.out.ca q16)
        have HBT16 := Lib.hid (HBT15.out.ca q16)
        have HQ16 := Lib.hid (bl_ca HQ15.out q16)
        have HA16 := Lib.hid (Lay.rd_below HA15.out q16)
        have HD16 := Lib.hid (Lay.rd_below HD15.out q16)
        have HBA16 := Lib.hid (HBA15.out.ca q16)
        have HBD16 := Lib.hid (HBD15.out.ca q16)
        clear q16 HX15 HR15 HK15 HT15 HBX15 HBT15 HQ15 HA15 HD15 HBA15 HBD15
        go_upto_region 28 with fail
        by_cases hD0 : D = 0
        · subst hD0
          have hz0 : 0 ≤ z := by
            have h9 := HD.out
            unfold dropE at h9
            rw [← HZ.out] at h9
            split at h9
            · cases h9
            · split at h9
              · assumption
              · cases h9
          have HDR := Lib.hid (show dropR xs s = woF z 0 xs from by
            unfold dropR
            rw [if_pos HD.out.symm, ← HZ.out, ← woF_erase xs 0 z.toNat, show ((0 + z.toNat : Nat) : Int) = z from by omega])
          clear hz0
          refine wp_region_ps (S := SeqN [15, 16] (fun k mm w' => match k with | 1 => Below w16.heap.size w16 w' ∧ ∃ A5 n5 c5, mm 15 = .agg #[.slice A5 n5 c5] ∧ LT3.rd w' AllB A5 n5 (woF z 0 xs) | _ => Below w16.heap.size w16 w')) (by kernel_rfl) ?spswg61 ?ppswg61
          case spswg61 =>
            exact SeqN.start (by decide) (Below.refl _ _).drew
          refine Ps.st (i := 0) (d := some 103) (u := (.int .i64 (0))) rfl rfl (by exact StepS.pure (SeqN.pass (by decide)) rfl fun _ => rfl) ?_
          try simp only [Act.put, sA, sZ, sS]
          refine Ps.st (i := 1) (d := some 104) (u := (.bool (false))) rfl rfl ?ywg61_63 ?rwg61_63
          case ywg61_63 =>
            refine StepS.pure (SeqN.pass (by decide)) (by rfl) (fun w9 => ?_)
            first | rfl | (go_simp; done) | (go_simp; rfl)
          try simp only [Act.put, sA, sZ, sS]
          refine Ps.st (i := 2) (d := some 105) (u := (.bool (false))) rfl rfl (by exact StepS.pure (SeqN.pass (by decide)) rfl fun _ => rfl) ?_
          try simp only [Act.put, sA, sZ, sS]
          refine Ps.st (i := 3) (d := some 106) (u := undef) rfl rfl (by  exact StepS.skip (SeqN.pass (by decide)) rfl) ?_
          try simp only [Act.put, sA, sZ, sS]
          refine Ps.st (i := 4) (d := some 107) (u := undef) rfl rfl (by  exact StepS.skip (SeqN.pass (by decide)) rfl) ?_
          try simp only [Act.put, sA, sZ, sS]
          refine Ps.st (i := 5) (d := some 108) (u := undef) rfl rfl (by  exact StepS.skip (SeqN.pass (by decide)) rfl) ?_
          try simp only [Act.put, sA, sZ, sS]
          refine Ps.st (i := 6) (d := some 109) (u := undef) rfl rfl (by  exact StepS.skip (SeqN.pass (by decide)) rfl) ?_
          try simp only [Act.put, sA, sZ, sS]
          refine Ps.st (i := 7) (d := some 110) (u := (.bool (false))) rfl rfl (by exact StepS.pure (SeqN.pass (by decide)) rfl fun _ => rfl) ?_
          try simp only [Act.put, sA, sZ, sS]
          refine Ps.st (i := 8) (d := some 111) (u := (.bool (false))) rfl rfl (by exact StepS.pure (SeqN.pass (by decide)) rfl fun _ => rfl) ?_
          try simp only [Act.put, sA, sZ, sS]
          refine Ps.st (i := 9) (d := some 112) (u := (.int .i64 (0))) rfl rfl (by exact StepS.pure (SeqN.pass (by decide)) rfl fun _ => rfl) ?_
          try simp only [Act.put, sA, sZ, sS]
          refine Ps.st (i := 10) (d := some 113) (u := (.bool (true))) rfl rfl ?ywg61_72 ?rwg61_72
          case ywg61_72 =>
            refine StepS.pure (SeqN.pass (by decide)) (by rfl) (fun w9 => ?_)
            first | rfl | (go_simp; done) | (go_simp; rfl)
          try simp only [Act.put, sA, sZ, sS]
          refine Ps.st (i := 11) (d := some 114) (u := (.bool (true))) rfl rfl (by exact StepS.pure (SeqN.pass (by decide)) rfl fun _ => rfl) ?_
          try simp only [Act.put, sA, sZ, sS]
          refine Ps.st (i := 12) (d := some 115) (u := (.agg #[.slice A4 n4 c4])) rfl rfl ?ywg61_74 ?rwg61_74
          case ywg61_74 =>
            refine StepS.read [] (by kernel_rfl) (SeqN.pass (by decide)) (by rfl) (fun L9 m9 w9 hSh hAt hDn hS => ?_)
            have hT : Below w16.heap.size w16 w9 := SeqN.lt (ks := [15, 16]) (k := 16) (by simp) (reach_no hSh (f := 20) (j := 16) (by kernel_rfl) hDn) (fun k _ _ hz h => by match k, hz, h with | 0, _, h => exact h | 1, _, h => exact h.1 | _ + 2, hz, _ => exact absurd hz (by simp)) hS
            have x0 : w9.cell? ⟨w8.heap.size, 0, none⟩ = some (.slice A4 n4 c4) := (HBD16.out.ca hT).cell 0
            clear hT hS
            go_simp
            try rfl
          try simp only [Act.put, sA, sZ, sS]
          refine Ps.st (i := 13) (d := some 116) (u := (.agg #[.slice A n2 c])) rfl rfl ?ywg61_75 ?rwg61_75
          case ywg61_75 =>
            refine StepS.read [] (by kernel_rfl) (SeqN.pass (by decide)) (by rfl) (fun L9 m9 w9 hSh hAt hDn hS => ?_)
            have hT : Below w16.heap.size w16 w9 := SeqN.lt (ks := [15, 16]) (k := 16) (by simp) (reach_no hSh (f := 20) (j := 16) (by kernel_rfl) hDn) (fun k _ _ hz h => by match k, hz, h with | 0, _, h => exact h | 1, _, h => exact h.1 | _ + 2, hz, _ => exact absurd hz (by simp)) hS
            have x0 : w9.cell? ⟨w.heap.size, 0, none⟩ = some (.slice A n2 c) := (HBX16.out.ca hT).cell 0
            clear hT hS
            go_simp
            try rfl
          try simp only [Act.put, sA, sZ, sS]
          refine Ps.st (i := 14) (d := some 117) (u := (.int .i64 (z))) rfl rfl (by exact StepS.pure (SeqN.pass (by decide)) rfl fun _ => rfl) ?_
          try simp only [Act.put, sA, sZ, sS]
          refine Ps.one (k := 15) (d := some 118) rfl rfl (by kernel_rfl) (TurnS.call (V := fun v => ∃ A5 n5 c5, v = .agg #[.slice A5 n5 c5]) ?fwg61_77 ?awg61_77 [] (by kernel_rfl) (by rfl) (fun w9 => ?hwg61_77) (fun L9 m9 w9 hSh hAt hDn hS => ?cwg61_77)) (fun v15 hVv15 => ?rwg61_77)
          case hwg61_77 => go_simp; refine ⟨?_, ?_⟩ <;> rfl
          case cwg61_77 =>
            have hT := SeqN.at_ (m0 := m9) (m1 := m9) [] [16] hSh (fun d hd => by cases hd) hDn (by kernel_rfl) hS
            refine (without_any AllB xs A n2 c z w9 (Lay.rd_below HX16.out hT) (by omega)).mono ?_
            rintro e w8 ⟨A5, n5, c5, rfl, hown, q8, _⟩
            exact ⟨_, rfl, ⟨A5, n5, c5, rfl⟩, SeqN.set_ (m0 := m9) (m1 := m9) [] [16] hSh (fun d hd => by cases hd) hDn (by kernel_rfl) (by decide) (by decide) ⟨bl_ca hT q8, A5, n5, c5, upd_same _ _ _, Lay.own_rd2 hown (fun _ _ => trivial) (fun _ _ _ => trivial)⟩⟩
          try simp only [Act.put, sA, sZ, sS]
          obtain ⟨A5, n5, c5, rfl⟩ := hVv15
          refine Ps.one (k := 16) (d := some 119) rfl rfl (by kernel_rfl) (TurnS.call (V := fun v => v = .bool true) ?fwg61_78 ?awg61_78 [15] (by kernel_rfl) (by rfl) (fun w9 => ?hwg61_78) (fun L9 m9 w9 hSh hAt hDn hS => ?cwg61_78)) (fun v16 hVv16 => ?rwg61_78)
          case hwg61_78 => go_simp; refine ⟨?_, ?_⟩ <;> rfl
          case cwg61_78 =>
            obtain ⟨hT, A6, n6, c6, hv, hr⟩ := SeqN.at_ [15] [] hSh hAt hDn (by kernel_rfl) hS
            obtain ⟨rfl, rfl, rfl⟩ : A5 = A6 ∧ n5 = n6 ∧ c5 = c6 := by have h9 : Value.agg #[.slice A5 n5 c5] = .agg #[.slice A6 n6 c6] := (hAt 15 (by simp)).2.symm.trans hv; simpa [and_assoc] using h9
            refine (rsame_any AllB AllB (dropR xs s) (woF z 0 xs) A4 n4 c4 A5 n5 c5 w9 (Lay.rd_below HD16.out hT) hr (by have h9 := HN4.out; have h8 := dropR_len xs s; rw [HLX.out] at h8; omega)).mono ?_
            rintro e w8 ⟨rfl, q8⟩
            exact ⟨_, rfl, by rw [decide_eq_true HDR.out], SeqN.set_ [15] [] hSh hAt hDn (by kernel_rfl) (by decide) (by decide) (bl_ca hT q8)⟩
          try simp only [Act.put, sA, sZ, sS]
          subst hVv16
          refine Ps.st (i := 17) (d := some 120) (u := (.bool (true))) rfl rfl (by exact StepS.pure (SeqN.pass (by decide)) rfl fun _ => rfl) ?_
          try simp only [Act.put, sA, sZ, sS]
          refine Ps.st (i := 18) (d := some 121) (u := (.bool (true))) rfl rfl (by exact StepS.pure (SeqN.pass (by decide)) rfl fun _ => rfl) ?_
          try simp only [Act.put, sA, sZ, sS]
          refine Ps.st (i := 19) (d := some 6) (u := (.bool (true))) rfl rfl (by exact StepS.pure (SeqN.pass (by decide)) rfl fun _ => rfl) ?_
          try simp only [Act.put, sA, sZ, sS]
          refine Ps.done (by kernel_rfl) (fun wg61 hS => ?_) _
          have qe : Below w16.heap.size w16 wg61 := SeqN.fin (by rfl) hS
          clear hS
          go_wp2
          go_ret
          exact ⟨rfl, bl_ca HQ16.out qe⟩
        · have HDR := Lib.hid (show dropR xs s = [] from by unfold dropR; rw [if_neg (by rw [← HD.out]; exact hD0)])
          obtain rfl : n4 = 0 := by have h9 := HN4.out; rw [HDR.out] at h9; exact h9.symm
          have HEN := Lib.hid (show decide (D = 0) = false from decide_eq_false hD0)
          refine wp_region_ps (S := fun _ _ w' => Below w16.heap.size w16 w') (by kernel_rfl) ?spswg82 ?ppswg82
          case spswg82 =>
            exact (Below.refl w16.heap.size w16).drew
          refine Ps.st (i := 0) (d := some 103) (u := (.int .i64 (D))) rfl rfl (by exact StepS.pure nP rfl fun _ => rfl) ?_
          try simp only [Act.put, sA, sZ, sS]
          refine Ps.st (i := 1) (d := some 104) (u := (.bool (true))) rfl rfl ?ywg82_84 ?rwg82_84
          case ywg82_84 =>
            refine StepS.pure nP (by rfl) (fun w9 => ?_)
            have e9 := HEN.out
            first | rfl | (go_simp; done) | (go_simp; rfl) | (simp only [e9]; rfl)
          try simp only [Act.put, sA, sZ, sS]
          refine Ps.st (i := 2) (d := some 105) (u := (.bool (true))) rfl rfl (by exact StepS.pure nP rfl fun _ => rfl) ?_
          try simp only [Act.put, sA, sZ, sS]
          refine Ps.st (i := 3) (d := some 106) (u := (.pointer (some ⟨w8.heap.size, 0, none⟩))) rfl rfl (by exact StepS.pure nP rfl fun _ => rfl) ?_
          try simp only [Act.put, sA, sZ, sS]
          refine Ps.st (i := 4) (d := some 107) (u := (.slice A4 0 c4)) rfl rfl ?ywg82_87 ?rwg82_87
          case ywg82_87 =>
            refine StepS.read [] (by kernel_rfl) nP (by rfl) (fun L9 m9 w9 hSh hAt hDn hS => ?_)
            have hT : Below w16.heap.size w16 w9 := hS
            have x0 : w9.cell? ⟨w8.heap.size, 0, none⟩ = some (.slice A4 0 c4) := (HBD16.out.ca hT).cell 0
            clear hT hS
            go_simp
            try rfl
          try simp only [Act.put, sA, sZ, sS]
          refine Ps.st (i := 5) (d := some 108) (u := (.int .i64 ((0 : Int)))) rfl rfl (by exact StepS.pure nP rfl fun _ => by first | rfl | (go_simp; done) | (go_simp; rfl)) ?_
          try simp only [Act.put, sA, sZ, sS]
          refine Ps.st (i := 6) (d := some 109) (u := (.bool (true))) rfl rfl ?ywg82_89 ?rwg82_89
          case ywg82_89 =>
            refine StepS.pure nP (by rfl) (fun w9 => ?_)
            first | rfl | (go_simp; done) | (go_simp; rfl)
          try simp only [Act.put, sA, sZ, sS]
          refine Ps.st (i := 7) (d := some 110) (u := (.bool (true))) rfl rfl (by exact StepS.pure nP rfl fun _ => rfl) ?_
          try simp only [Act.put, sA, sZ, sS]
          refine Ps.st (i := 8) (d := some 111) (u := (.bool (true))) rfl rfl (by exact StepS.pure nP rfl fun _ => rfl) ?_
          try simp only [Act.put, sA, sZ, sS]
          refine Ps.st (i := 9) (d := some 112) (u := undef) rfl rfl (by  exact StepS.skip nP rfl) ?_
          try simp only [Act.put, sA, sZ, sS]
          refine Ps.st (i := 10) (d := some 113) (u := undef) rfl rfl (by  exact StepS.skip nP rfl) ?_
          try simp only [Act.put, sA, sZ, sS]
          refine Ps.st (i := 11) (d := some 114) (u := undef) rfl rfl (by  exact StepS.skip nP rfl) ?_
          try simp only [Act.put, sA, sZ, sS]
          refine Ps.st (i := 12) (d := some 115) (u := undef) rfl rfl (by  exact StepS.skip nP rfl) ?_
          try simp only [Act.put, sA, sZ, sS]
          refine Ps.st (i := 13) (d := some 116) (u := undef) rfl rfl (by  exact StepS.skip nP rfl) ?_
          try simp only [Act.put, sA, sZ, sS]
          refine Ps.st (i := 14) (d := some 117) (u := undef) rfl rfl (by  exact StepS.skip nP rfl) ?_
          try simp only [Act.put, sA, sZ, sS]
          refine Ps.st (i := 15) (d := some 118) (u := undef) rfl rfl (by  exact StepS.skip nP rfl) ?_
          try simp only [Act.put, sA, sZ, sS]
          refine Ps.st (i := 16) (d := some 119) (u := undef) rfl rfl (by  exact StepS.skip nP rfl) ?_
          try simp only [Act.put, sA, sZ, sS]
          refine Ps.st (i := 17) (d := some 120) (u := undef) rfl rfl (by  exact StepS.skip nP rfl) ?_
          try simp only [Act.put, sA, sZ, sS]
          refine Ps.st (i := 18) (d := some 121) (u := (.bool (true))) rfl rfl (by exact StepS.pure nP rfl fun _ => rfl) ?_
          try simp only [Act.put, sA, sZ, sS]
          refine Ps.st (i := 19) (d := some 6) (u := (.bool (true))) rfl rfl (by exact StepS.pure nP rfl fun _ => rfl) ?_
          try simp only [Act.put, sA, sZ, sS]
          refine Ps.done (by kernel_rfl) (fun wg82 hS => ?_) _
          have qe : Below w16.heap.size w16 wg82 := hS
          clear hS
          go_wp2
          go_ret
          exact ⟨rfl, bl_ca HQ16.out qe⟩
theorem changes_walk (xs : List TC) (A : Option Addr) (m c : Nat) (t : TC) (A1 : Option Addr) (n1 c1 : Nat) (B1 : Option Addr) (m1 d1 : Nat) (s : ByteArray) (w : World) (hx : LT3.rd w AllB A m xs) (h0 : m ≤ c) (k0 : c ≤ 9223372036854775807) (hr1 : LCO.rd w AllB A1 n1 t.cols) (hnc : n1 ≤ c1) (hcm : c1 ≤ 9223372036854775807) (hk1 : LK.rd w AllB B1 m1 t.keys) (hmd : m1 ≤ d1) (hdm : d1 ≤ 9223372036854775807) (_ : s.size ≤ maxLen) (hT : Tab w) :
    Calls Tryd.prog 3 #[.agg #[.slice A m c], .agg (t.cells A1 n1 c1 B1 m1 d1), .string s] w fun e w' => e = .returned (.bool true) ∧ Below w.heap.size w w' := changes_law xs A m c t A1 n1 c1 B1 m1 d1 s w hx hr1 hk1 (Nat.le_trans h0 k0) hnc hcm hmd hdm hT
end Go.Proofs.YthgcdilkkldgjaaDoor
