/- The layer's find over tables and columns. Conditions: the slice reads so. -/
import Derived.Test.YthgcdilkkldgjaaDoorCIdx
namespace Go.Proofs.YthgcdilkkldgjaaDoor
open Go.RowKit
set_option maxRecDepth 100000 in
set_option maxHeartbeats 4000000 in
theorem findcT_any (t : TC) (A : Option Addr) (n c : Nat) (B : Option Addr) (m d : Nat) (ga gb : Nat) (s : ByteArray) (w : World) (ha : w.cell? ⟨ga, 0, none⟩ = some (.func (.func 39) #[] #[])) (hb : w.cell? ⟨gb, 0, none⟩ = some (.string s)) :
    Calls Tryd.prog 63 #[.agg #[.string t.name, .slice A n c, .slice B m d], .pointer (some ⟨ga, 0, none⟩), .pointer (some ⟨gb, 0, none⟩)] w fun e w' => e = .returned (.bool (decide (t.name = s))) ∧ Below w.heap.size w w' := by
  have HR := Lib.hid (seq_iff t.name s)
  have q1 := bl_al (Below.refl w.heap.size w) (.cells #[.string t.name, .slice A n c, .slice B m d] 28)
  have a1 := ce ha q1
  have b1 := ce hb q1
  have HX := Lib.hid (Blk.new w 28 #[.string t.name, .slice A n c, .slice B m d])
  have HQ := Lib.hid q1
  clear ha hb q1
  go_enter Tryd.func63, Tryd.ntmps63
  go_wp2_with fail
  generalize w.alloc (.cells #[.string t.name, .slice A n c, .slice B m d] 28) = w1 at *
  obtain ⟨nm, hnm⟩ : ∃ nm, nm = t.name := ⟨_, rfl⟩
  have HN := Lib.hid hnm
  refine wp_region_ps (S := fun _ _ w' => Below w1.heap.size w1 w') (by kernel_rfl) ?spswg1 ?ppswg1
  case spswg1 =>
    exact (Below.refl w1.heap.size w1).drew
  refine Ps.st (i := 0) (d := some 5) (u := (.func (.func 39) #[] #[])) rfl rfl ?ywg1_2 ?rwg1_2
  case ywg1_2 =>
    refine StepS.read [] (by kernel_rfl) nP (by rfl) (fun L9 m9 w9 hSh hAt hDn hS => ?_)
    have hT : Below _ _ w9 := hS
    have x0 : w9.cell? ⟨ga, 0, none⟩ = some (.func (.func 39) #[] #[]) := ce a1 hT
    clear hT hS
    go_simp
    try rfl
  try simp only [Act.put, sA, sZ, sS]
  refine Ps.st (i := 1) (d := some 6) (u := (.agg #[.string t.name, .slice A n c, .slice B m d])) rfl rfl ?ywg1_3 ?rwg1_3
  case ywg1_3 =>
    refine StepS.read [] (by kernel_rfl) nP (by rfl) (fun L9 m9 w9 hSh hAt hDn hS => ?_)
    have hT : Below _ _ w9 := hS
    have x0 : w9.cell? ⟨w.heap.size, 0, none⟩ = some (.string t.name) := (HX.out.ca hT).cell 0
    have x1 : w9.cell? ⟨w.heap.size, 1, none⟩ = some (.slice A n c) := (HX.out.ca hT).cell 1
    have x2 : w9.cell? ⟨w.heap.size, 2, none⟩ = some (.slice B m d) := (HX.out.ca hT).cell 2
    clear hT hS
    go_simp
    try rfl
  try simp only [Act.put, sA, sZ, sS]
  refine Ps.st (i := 2) (d := some 7) (u := (.string t.name)) rfl rfl ?ywg1_4 ?rwg1_4
  case ywg1_4 =>
    refine StepS.call ?fwg1_4 ?awg1_4 [] (by kernel_rfl) (by rfl) (fun w9 => ?hwg1_4) (fun L9 m9 w9 hSh hAt hDn hS => ?cwg1_4)
    case hwg1_4 => go_simp; refine ⟨?_, ?_⟩ <;> rfl
    case cwg1_4 =>
      have hT : Below _ _ w9 := hS
      refine (tname_any t A n c B m d w9).mono ?_
      rintro e w8 ⟨rfl, q8⟩
      exact ⟨rfl, bl_ca hT q8⟩
  try simp only [Act.put, sA, sZ, sS]
  refine Ps.st (i := 3) (d := some 8) (u := (.string s)) rfl rfl ?ywg1_5 ?rwg1_5
  case ywg1_5 =>
    refine StepS.read [] (by kernel_rfl) nP (by rfl) (fun L9 m9 w9 hSh hAt hDn hS => ?_)
    have hT : Below _ _ w9 := hS
    have x0 : w9.cell? ⟨gb, 0, none⟩ = some (.string s) := ce b1 hT
    clear hT hS
    go_simp
    try rfl
  try simp only [Act.put, sA, sZ, sS]
  refine Ps.st (i := 4) (d := some 9) (u := (.bool ((t.name.toList == s.toList)))) rfl rfl (by exact StepS.pure nP rfl fun _ => rfl) ?_
  try simp only [Act.put, sA, sZ, sS]
  refine Ps.st (i := 5) (d := some 4) (u := (.bool ((t.name.toList == s.toList)))) rfl rfl (by exact StepS.pure nP rfl fun _ => rfl) ?_
  try simp only [Act.put, sA, sZ, sS]
  refine Ps.done (by kernel_rfl) (fun wg1 hS => ?_) _
  have HT1 := Lib.hid (show Below w1.heap.size w1 wg1 from hS)
  clear hS
  obtain ⟨w2, rfl⟩ : ∃ x, x = wg1 := ⟨_, rfl⟩
  clear a1 b1
  go_wp2
  go_ret
  exact ⟨ret_bool HR.out, bl_ca HQ.out HT1.out⟩
set_option maxRecDepth 100000 in
set_option maxHeartbeats 4000000 in
theorem findcO_any (t : CO) (ga gb : Nat) (s : ByteArray) (w : World) (ha : w.cell? ⟨ga, 0, none⟩ = some (.func (.func 45) #[] #[])) (hb : w.cell? ⟨gb, 0, none⟩ = some (.string s)) :
    Calls Tryd.prog 69 #[.agg #[.string t.name, .int .i64 t.kind], .pointer (some ⟨ga, 0, none⟩), .pointer (some ⟨gb, 0, none⟩)] w fun e w' => e = .returned (.bool (decide (t.name = s))) ∧ Below w.heap.size w w' := by
  have HR := Lib.hid (seq_iff t.name s)
  have q1 := bl_al (Below.refl w.heap.size w) (.cells #[.string t.name, .int .i64 t.kind] 59)
  have a1 := ce ha q1
  have b1 := ce hb q1
  have HX := Lib.hid (Blk.new w 59 #[.string t.name, .int .i64 t.kind])
  have HQ := Lib.hid q1
  clear ha hb q1
  go_enter Tryd.func69, Tryd.ntmps69
  go_wp2_with fail
  generalize w.alloc (.cells #[.string t.name, .int .i64 t.kind] 59) = w1 at *
  refine wp_region_ps (S := fun _ _ w' => Below w1.heap.size w1 w') (by kernel_rfl) ?spswg8 ?ppswg8
  case spswg8 =>
    exact (Below.refl w1.heap.size w1).drew
  refine Ps.st (i := 0) (d := some 5) (u := (.func (.func 45) #[] #[])) rfl rfl ?ywg8_9 ?rwg8_9
  case ywg8_9 =>
    refine StepS.read [] (by kernel_rfl) nP (by rfl) (fun L9 m9 w9 hSh hAt hDn hS => ?_)
    have hT : Below _ _ w9 := hS
    have x0 : w9.cell? ⟨ga, 0, none⟩ = some (.func (.func 45) #[] #[]) := ce a1 hT
    clear hT hS
    go_simp
    try rfl
  try simp only [Act.put, sA, sZ, sS]
  refine Ps.st (i := 1) (d := some 6) (u := (.agg #[.string t.name, .int .i64 (t.kind)])) rfl rfl ?ywg8_10 ?rwg8_10
  case ywg8_10 =>
    refine StepS.read [] (by kernel_rfl) nP (by rfl) (fun L9 m9 w9 hSh hAt hDn hS => ?_)
    have hT : Below _ _ w9 := hS
    have x0 : w9.cell? ⟨w.heap.size, 0, none⟩ = some (.string t.name) := (HX.out.ca hT).cell 0
    have x1 : w9.cell? ⟨w.heap.size, 1, none⟩ = some (.int .i64 (t.kind)) := (HX.out.ca hT).cell 1
    clear hT hS
    go_simp
    try rfl
  try simp only [Act.put, sA, sZ, sS]
  refine Ps.st (i := 2) (d := some 7) (u := (.string t.name)) rfl rfl ?ywg8_11 ?rwg8_11
  case ywg8_11 =>
    refine StepS.call ?fwg8_11 ?awg8_11 [] (by kernel_rfl) (by rfl) (fun w9 => ?hwg8_11) (fun L9 m9 w9 hSh hAt hDn hS => ?cwg8_11)
    case hwg8_11 => go_simp; refine ⟨?_, ?_⟩ <;> rfl
    case cwg8_11 =>
      have hT : Below _ _ w9 := hS
      refine (cname_any t w9).mono ?_
      rintro e w8 ⟨rfl, q8⟩
      exact ⟨rfl, bl_ca hT q8⟩
  try simp only [Act.put, sA, sZ, sS]
  refine Ps.st (i := 3) (d := some 8) (u := (.string s)) rfl rfl ?ywg8_12 ?rwg8_12
  case ywg8_12 =>
    refine StepS.read [] (by kernel_rfl) nP (by rfl) (fun L9 m9 w9 hSh hAt hDn hS => ?_)
    have hT : Below _ _ w9 := hS
    have x0 : w9.cell? ⟨gb, 0, none⟩ = some (.string s) := ce b1 hT
    clear hT hS
    go_simp
    try rfl
  try simp only [Act.put, sA, sZ, sS]
  refine Ps.st (i := 4) (d := some 9) (u := (.bool ((t.name.toList == s.toList)))) rfl rfl (by exact StepS.pure nP rfl fun _ => rfl) ?_
  try simp only [Act.put, sA, sZ, sS]
  refine Ps.st (i := 5) (d := some 4) (u := (.bool ((t.name.toList == s.toList)))) rfl rfl (by exact StepS.pure nP rfl fun _ => rfl) ?_
  try simp only [Act.put, sA, sZ, sS]
  refine Ps.done (by kernel_rfl) (fun wg8 hS => ?_) _
  have HT1 := Lib.hid (show Below w1.heap.size w1 wg8 from hS)
  clear hS
  obtain ⟨w2, rfl⟩ : ∃ x, x = wg8 := ⟨_, rfl⟩
  clear a1 b1
  go_wp2
  go_ret
  exact ⟨ret_bool HR.out, bl_ca HQ.out HT1.out⟩
/-- the answer of a look-up -/
def fnd (i : Int) : Int := max i 0
set_option maxRecDepth 100000 in
set_option maxHeartbeats 4000000 in
theorem findT_any (F : Nat → Prop) (l : List TC) (A : Option Addr) (m c : Nat) (s : ByteArray) (w : World) (h : LT3.rd w F A m l) (hm : m ≤ 9223372036854775807) :
    Calls Tryd.prog 42 #[.slice A m c, .func (.func 39) #[] #[], .string s] w fun e w' => e = .returned (.tuple #[.int .i64 (fnd (idxL (fun t => decide (t.name = s)) l)), .bool (decide (0 ≤ idxL (fun t : TC => decide (t.name = s)) l))]) ∧ Below w.heap.size w w' := by
  have q2 := bl_al (bl_al (Below.refl w.heap.size w) (.cells #[.func (.func 39) #[] #[]] 68)) (.cells #[.string s] 9)
  have h2 := Lay.rd_below h q2
  have a1 := ((Blk.new w 68 #[.func (.func 39) #[] #[]]).alloc (.cells #[.string s] 9)).cell 0
  have b1 := (Blk.new (w.alloc (.cells #[.func (.func 39) #[] #[]] 68)) 9 #[.string s]).cell 0
  rw [World.size_alloc] at b1
  have HQ := Lib.hid q2
  have HA := Lib.hid a1
  have HB := Lib.hid b1
  clear q2 h a1 b1
  go_enter Tryd.func42, Tryd.ntmps42
  go_wp2_with fail
  generalize (w.alloc (.cells #[.func (.func 39) #[] #[]] 68)).alloc (.cells #[.string s] 9) = w1 at *
  refine (indexT F A m c l 63 #[.pointer (some ⟨w.heap.size, 0, none⟩), .pointer (some ⟨w.heap.size + 1, 0, none⟩)] (fun t => decide (t.name = s)) w1 h2 hm (fun args w => enters_of Tryd.func63 (by kernel_rfl) rfl args w) (fun i t A n c B m d W b _ _ _ _ _ _ _ => findcT_any t A n c B m d _ _ s W (ce HA.out b) (ce HB.out b))).mono ?_
  rintro e w2 ⟨rfl, q2⟩
  have HQ2 := Lib.hid (bl_ca HQ.out q2)
  clear q2 HA HB HQ h2
  obtain ⟨z, hz⟩ : ∃ z, z = idxL (fun t : TC => decide (t.name = s)) l := ⟨_, rfl⟩
  rw [← hz]
  have HZ := Lib.hid hz
  clear hz
  go_wp2
  exact bodyPost_ret (results_tmp2 Tryd.results42 _ _ _) rfl ⟨by rw [← HZ.out]; rfl, HQ2.out⟩
set_option maxRecDepth 100000 in
set_option maxHeartbeats 4000000 in
theorem findO_any (F : Nat → Prop) (l : List CO) (A : Option Addr) (m c : Nat) (s : ByteArray) (w : World) (h : LCO.rd w F A m l) (hm : m ≤ 9223372036854775807) :
    Calls Tryd.prog 47 #[.slice A m c, .func (.func 45) #[] #[], .string s] w fun e w' => e = .returned (.tuple #[.int .i64 (fnd (idxL (fun t => decide (t.name = s)) l)), .bool (decide (0 ≤ idxL (fun t : CO => decide (t.name = s)) l))]) ∧ Below w.heap.size w w' := by
  have q2 := bl_al (bl_al (Below.refl w.heap.size w) (.cells #[.func (.func 45) #[] #[]] 72)) (.cells #[.string s] 9)
  have h2 := Lay.rd_below h q2
  have a1 := ((Blk.new w 72 #[.func (.func 45) #[] #[]]).alloc (.cells #[.string s] 9)).cell 0
  have b1 := (Blk.new (w.alloc (.cells #[.func (.func 45) #[] #[]] 72)) 9 #[.string s]).cell 0
  rw [World.size_alloc] at b1
  have HQ := Lib.hid q2
  have HA := Lib.hid a1
  have HB := Lib.hid b1
  clear q2 h a1 b1
  go_enter Tryd.func47, Tryd.ntmps47
  go_wp2_with fail
  generalize (w.alloc (.cells #[.func (.func 45) #[] #[]] 72)).alloc (.cells #[.string s] 9) = w1 at *
  refine (indexO F A m c l 69 #[.pointer (some ⟨w.heap.size, 0, none⟩), .pointer (some ⟨w.heap.size + 1, 0, none⟩)] (fun t => decide (t.name = s)) w1 h2 hm (fun args w => enters_of Tryd.func69 (by kernel_rfl) rfl args w) (fun i t W b _ => findcO_any t _ _ s W (ce HA.out b) (ce HB.out b))).mono ?_
  rintro e w2 ⟨rfl, q2⟩
  have HQ2 := Lib.hid (bl_ca HQ.out q2)
  clear q2 HA HB HQ h2
  obtain ⟨z, hz⟩ : ∃ z, z = idxL (fun t : CO => decide (t.name = s)) l := ⟨_, rfl⟩
  rw [← hz]
  have HZ := Lib.hid hz
  clear hz
  go_wp2
  exact bodyPost_ret (results_tmp2 Tryd.results47 _ _ _) rfl ⟨by rw [← HZ.out]; rfl, HQ2.out⟩
end Go.Proofs.YthgcdilkkldgjaaDoor
