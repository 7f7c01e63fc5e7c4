/- link.SameReceiver. Conditions: the slices read so. -/
import Derived.Test.YtojghgbaiiajfaaPkT19
import Derived.ProofKit
import Derived.OpenShut
import Derived.ShutString
import Derived.ChangeOld
import Derived.Deep.Slices
import Derived.Deep.Fields
import Derived.ChangeSame
namespace Go.Proofs.Ytojghgbaiiajfaa
open Go.RowKit
set_option maxRecDepth 100000 in
set_option maxHeartbeats 8000000 in
theorem held_any (F G : Nat → Prop) (a b : HC) (A B : Option Addr) (m c n d : Nat) (w : World) (hx : LR.rd w F A m a.b.rows) (hy : LR.rd w G B n b.b.rows) (hm : m ≤ 9223372036854775807) :
    Calls Try.prog 72 #[.agg #[.int .u64 a.seq, .slice A m c, .bool a.b.fin, .int .u64 a.b.cnt], .agg #[.int .u64 b.seq, .slice B n d, .bool b.b.fin, .int .u64 b.b.cnt]] w fun e w' => e = .returned (.bool (eqHC a b)) ∧ Below w.heap.size w w' := by
  obtain ⟨r, hr⟩ : ∃ r, r = eqHC a b := ⟨_, rfl⟩
  rw [← hr]
  have HRR := Lib.hid hr
  clear hr
  obtain ⟨s1, r1, f1, c1⟩ := a
  obtain ⟨s2, r2, f2, c2⟩ := b
  dsimp only at hx hy
  have q1 := bl_al (Below.refl w.heap.size w) (.cells #[.int .u64 s1, .slice A m c, .bool f1, .int .u64 c1] 81)
  have q2 := bl_al q1 (.cells #[.int .u64 s2, .slice B n d, .bool f2, .int .u64 c2] 81)
  have HX := Lib.hid (Lay.rd_below hx q2)
  have HY := Lib.hid (Lay.rd_below hy q2)
  have HB1 := Lib.hid ((Blk.new w 81 #[.int .u64 s1, .slice A m c, .bool f1, .int .u64 c1]).alloc (.cells #[.int .u64 s2, .slice B n d, .bool f2, .int .u64 c2] 81))
  have HB2 := Lib.hid (show Blk ((w.alloc (.cells #[.int .u64 s1, .slice A m c, .bool f1, .int .u64 c1] 81)).alloc (.cells #[.int .u64 s2, .slice B n d, .bool f2, .int .u64 c2] 81)) (w.heap.size + 1) 81 #[.int .u64 s2, .slice B n d, .bool f2, .int .u64 c2] from by have := Blk.new (w.alloc (.cells #[.int .u64 s1, .slice A m c, .bool f1, .int .u64 c1] 81)) 81 #[.int .u64 s2, .slice B n d, .bool f2, .int .u64 c2]; simp only [World.size_alloc] at this; exact this)
  have HQ := Lib.hid q2
  clear hx hy q1 q2
  go_enter Try.func72, Try.ntmps72
  go_upto_region 1 with fail
  generalize ((w.alloc (.cells #[.int .u64 s1, .slice A m c, .bool f1, .int .u64 c1] 81)).alloc (.cells #[.int .u64 s2, .slice B n d, .bool f2, .int .u64 c2] 81)) = w1 at *
  refine wp_region_ps0 .text (S := fun _ _ w' => Below w1.heap.size w1 w') (by kernel_rfl) ?spswg1 ?ppswg1
  case spswg1 =>
    exact (Below.refl w1.heap.size w1)
  refine Ps.st (i := 0) (d := some 5) (u := (.pointer (some ⟨w.heap.size, 0, none⟩))) rfl rfl (by exact StepS.pure nP rfl fun _ => rfl) ?_
  try simp only [Act.put, sA, sZ, sS]
  refine Ps.st (i := 1) (d := some 6) (u := (.int .u64 (s1))) rfl rfl ?ywg1_3 ?rwg1_3
  case ywg1_3 =>
    refine StepS.read [] (by kernel_rfl) nP (by rfl) (fun L9 m9 w9 hSh hAt hDn hS => ?_)
    have hT : Below _ _ w9 := hS
    have x0 : w9.cell? ⟨w.heap.size, 0, none⟩ = some (.int .u64 (s1)) := (HB1.out.ca hT).cell 0
    clear hT hS
    go_simp
    try rfl
  try simp only [Act.put, sA, sZ, sS]
  refine Ps.st (i := 2) (d := some 7) (u := (.pointer (some ⟨w.heap.size + 1, 0, none⟩))) rfl rfl (by exact StepS.pure nP rfl fun _ => rfl) ?_
  try simp only [Act.put, sA, sZ, sS]
  refine Ps.st (i := 3) (d := some 8) (u := (.int .u64 (s2))) rfl rfl ?ywg1_5 ?rwg1_5
  case ywg1_5 =>
    refine StepS.read [] (by kernel_rfl) nP (by rfl) (fun L9 m9 w9 hSh hAt hDn hS => ?_)
    have hT : Below _ _ w9 := hS
    have x0 : w9.cell? ⟨w.heap.size + 1, 0, none⟩ = some (.int .u64 (s2)) := (HB2.out.ca hT).cell 0
    clear hT hS
    go_simp
    try rfl
  try simp only [Act.put, sA, sZ, sS]
  refine Ps.st (i := 4) (d := some 9) (u := (.bool (decide (s1 = s2)))) rfl rfl (by exact StepS.pure nP rfl fun _ => rfl) ?_
  try simp only [Act.put, sA, sZ, sS]
  obtain ⟨b1_5, hb9⟩ : ∃ b : Bool, b = (decide (s1 = s2)) := ⟨_, rfl⟩
  have HEb1_5 := Lib.hid hb9
  clear hb9
  refine Ps.st (i := 5) (d := some 10) (u := (.bool (b1_5))) rfl rfl ?ywg1_7 ?rwg1_7
  case ywg1_7 =>
    refine StepS.pure nP (by rfl) (fun w9 => ?_)
    have e9 : (decide (s1 = s2)) = b1_5 := by rw [HEb1_5.out]
    rw [← e9]
    clear e9
    first | rfl | (go_simp; done) | (go_simp; rfl)
  try simp only [Act.put, sA, sZ, sS]
  refine Ps.st (i := 6) (d := some 11) (u := (cond b1_5 (.pointer (some ⟨w.heap.size, 1, none⟩)) (undef))) rfl rfl (by cases b1_5; exact StepS.skip nP rfl; exact StepS.pure nP rfl fun _ => rfl) ?_
  try simp only [Act.put, sA, sZ, sS]
  refine Ps.st (i := 7) (d := some 12) (u := (cond b1_5 (.agg #[.slice A m c, .bool (f1), .int .u64 (c1)]) (undef))) rfl rfl ?ywg1_9 ?rwg1_9
  case ywg1_9 =>
    cases b1_5
    · exact StepS.skip nP (by rfl)
    · skip
      refine StepS.read [] (by kernel_rfl) nP (by rfl) (fun L9 m9 w9 hSh hAt hDn hS => ?_)
      have hT : Below _ _ w9 := hS
      have x0 : w9.cell? ⟨w.heap.size, 1, none⟩ = some (.slice A m c) := (HB1.out.ca hT).cell 1
      have x1 : w9.cell? ⟨w.heap.size, 2, none⟩ = some (.bool (f1)) := (HB1.out.ca hT).cell 2
      have x2 : w9.cell? ⟨w.heap.size, 3, none⟩ = some (.int .u64 (c1)) := (HB1.out.ca hT).cell 3
      clear hT hS
      go_simp
      try rfl
  try simp only [Act.put, sA, sZ, sS]
  refine Ps.st (i := 8) (d := some 13) (u := (cond b1_5 (.pointer (some ⟨w.heap.size + 1, 1, none⟩)) (undef))) rfl rfl (by cases b1_5; exact StepS.skip nP rfl; exact StepS.pure nP rfl fun _ => rfl) ?_
  try simp only [Act.put, sA, sZ, sS]
  refine Ps.st (i := 9) (d := some 14) (u := (cond b1_5 (.agg #[.slice B n d, .bool (f2), .int .u64 (c2)]) (undef))) rfl rfl ?ywg1_11 ?rwg1_11
  case ywg1_11 =>
    cases b1_5
    · exact StepS.skip nP (by rfl)
    · skip
      refine StepS.read [] (by kernel_rfl) nP (by rfl) (fun L9 m9 w9 hSh hAt hDn hS => ?_)
      have hT : Below _ _ w9 := hS
      have x0 : w9.cell? ⟨w.heap.size + 1, 1, none⟩ = some (.slice B n d) := (HB2.out.ca hT).cell 1
      have x1 : w9.cell? ⟨w.heap.size + 1, 2, none⟩ = some (.bool (f2)) := (HB2.out.ca hT).cell 2
      have x2 : w9.cell? ⟨w.heap.size + 1, 3, none⟩ = some (.int .u64 (c2)) := (HB2.out.ca hT).cell 3
      clear hT hS
      go_simp
      try rfl
  try simp only [Act.put, sA, sZ, sS]
  refine Ps.st (i := 10) (d := some 15) (u := (cond b1_5 (.bool (eqBC ⟨r1, f1, c1⟩ ⟨r2, f2, c2⟩)) (undef))) rfl rfl ?ywg1_12 ?rwg1_12
  case ywg1_12 =>
    cases b1_5
    · exact StepS.skip nP (by rfl)
    · skip
      refine StepS.call ?fwg1_12 ?awg1_12 [] (by kernel_rfl) (by rfl) (fun w9 => ?hwg1_12) (fun L9 m9 w9 hSh hAt hDn hS => ?cwg1_12)
      case hwg1_12 => go_simp; refine ⟨?_, ?_⟩ <;> rfl
      case cwg1_12 =>
        have hT : Below _ _ w9 := hS
        refine (lsame_any F G ⟨r1, f1, c1⟩ ⟨r2, f2, c2⟩ A B m c n d w9 (Lay.rd_below HX.out hT) (Lay.rd_below HY.out hT) hm).mono ?_
        rintro e w8 ⟨rfl, q8⟩
        exact ⟨rfl, bl_ca hT q8⟩
  try simp only [Act.put, sA, sZ, sS]
  obtain ⟨f1x, hb9⟩ : ∃ b : Bool, b = ((decide (s1 = s2)) && (eqBC ⟨r1, f1, c1⟩ ⟨r2, f2, c2⟩)) := ⟨_, rfl⟩
  have HEf1x := Lib.hid hb9
  clear hb9
  refine Ps.st (i := 11) (d := some 16) (u := (.bool (f1x))) rfl rfl ?ywg1_13 ?rwg1_13
  case ywg1_13 =>
    refine StepS.pure nP (by rfl) (fun w9 => ?_)
    have e9 : (b1_5 && (eqBC ⟨r1, f1, c1⟩ ⟨r2, f2, c2⟩)) = f1x := by rw [HEf1x.out, HEb1_5.out]
    rw [← e9]
    clear e9
    cases b1_5 <;> (first | rfl | (go_simp; done) | (go_simp; rfl))
  try simp only [Act.put, sA, sZ, sS]
  refine Ps.st (i := 12) (d := some 4) (u := (.bool (f1x))) rfl rfl (by exact StepS.pure nP rfl fun _ => rfl) ?_
  try simp only [Act.put, sA, sZ, sS]
  refine Ps.done (by kernel_rfl) (fun wg1 hS => ?_) _
  try generalize (cond b1_5 (.agg #[.slice A m c, .bool (f1), .int .u64 (c1)]) (undef) : Value) = zz15
  try generalize (cond b1_5 (.agg #[.slice B n d, .bool (f2), .int .u64 (c2)]) (undef) : Value) = zz16
  try generalize (cond b1_5 (.pointer (some ⟨w.heap.size + 1, 1, none⟩)) (undef) : Value) = zz17
  try generalize (cond b1_5 (.bool (eqBC ⟨r1, f1, c1⟩ ⟨r2, f2, c2⟩)) (undef) : Value) = zz18
  try generalize (cond b1_5 (.pointer (some ⟨w.heap.size, 1, none⟩)) (undef) : Value) = zz19
  have HW20 := Lib.hid (show Below w1.heap.size w1 wg1 from hS)
  clear hS
  obtain ⟨w121, rfl⟩ : ∃ x, x = wg1 := ⟨_, rfl⟩
  go_wp2
  go_ret
  exact ⟨ret_bool (by rw [HRR.out, HEf1x.out]; rfl), bl_ca HQ.out HW20.out⟩
set_option maxRecDepth 100000 in
set_option maxHeartbeats 8000000 in
theorem eqfH (F G : Nat → Prop) (A B : Option Addr) (m c n d : Nat) (xs ys : List HC) (w : World) (hx : LH4.rd w F A m xs) (hy : LH4.rd w G B n ys) (hm : m ≤ 9223372036854775807) :
    Calls Try.prog 73 #[.slice A m c, .slice B n d, .func (.func 72) #[] #[]] w fun e w' => e = .returned (.bool (decide (xs = ys))) ∧ Below w.heap.size w w' := by
  have hxl := Lay.rd_len hx
  have hyl := Lay.rd_len hy
  by_cases hmn : m = n
  · subst hmn
    obtain ⟨r, hr⟩ : ∃ r, r = decide (xs = ys) := ⟨_, rfl⟩
    rw [← hr]
    have HR := Lib.hid hr
    have HXL := Lib.hid hxl
    have HYL := Lib.hid hyl
    have HEN : ∀ (args : Array Value) (w : World), (callFunc 72 args).run Try.prog w = .ok (.enter 72 args) w := Go.Proofs.enters_of Try.func72 (by kernel_rfl) rfl
    clear hr hxl hyl
    go_enter Try.func73, Try.ntmps73
    go_wp2_with fail
    go_loopg [17] m (fun g s wr => ∃ i : Nat, i + g ≤ m ∧ m ≤ i + g ∧ s = .int .i64 i ∧ xs.take i = ys.take i ∧ Below w.heap.size w wr)
    case atStart => exact ⟨0, by omega, by omega, rfl, rfl, Below.refl _ _⟩
    case round =>
      obtain ⟨i, hi1, hi2, rfl, hp, bb⟩ := hrel
      have HBB := Lib.hid bb
      have HP := Lib.hid hp
      clear hp
      by_cases hi : i < m
      · have hil : (i : Int) < (m : Int) := by omega
        obtain ⟨p1, v, B1, k1, c1, rfl, hv, s1⟩ := LH4_at (Lay.rd_below hx bb) hi
        have q1 := bl_al (Below.refl wr.heap.size wr) (.cells #[.int .u64 v.seq, .slice B1 k1 c1, .bool v.b.fin, .int .u64 v.b.cnt] 81)
        obtain ⟨p2, u, B2, k2, c2, rfl, hu, s2⟩ := LH4_at (Lay.rd_below hy (bl_ca bb q1)) hi
        have e0 := s1.c0
        have e1 := s1.c1
        have e2 := s1.c2
        have e3 := s1.c3
        have f0 := s2.c0
        have f1 := s2.c1
        have f2 := s2.c2
        have f3 := s2.c3
        have q2 := bl_al (Below.refl (wr.alloc (.cells #[.int .u64 v.seq, .slice B1 k1 c1, .bool v.b.fin, .int .u64 v.b.cnt] 81)).heap.size (wr.alloc (.cells #[.int .u64 v.seq, .slice B1 k1 c1, .bool v.b.fin, .int .u64 v.b.cnt] 81))) (.cells #[.int .u64 u.seq, .slice B2 k2 c2, .bool u.b.fin, .int .u64 u.b.cnt] 81)
        have HC := Lib.hid (held_any F G v u B1 B2 k1 c1 k2 c2 _ (Lay.rd_below (Lay.rd_below s1.rd q1) q2) (Lay.rd_below s2.rd q2) (Nat.le_trans s1.nc s1.cm))
        have HB2 := Lib.hid (bl_ca (bl_ca bb q1) q2)
        clear s1 s2 q1 q2
        have HVI := Lib.hid hv
        have HUI := Lib.hid hu
        clear hv hu hx hy bb
        by_cases hvu : v = u
        · have HP2 := Lib.hid (show xs.take (i + 1) = ys.take (i + 1) from by rw [List.take_add_one, List.take_add_one, HP.out, HVI.out, HUI.out, hvu])
          have HVU := Lib.hid hvu
          clear hvu
          rw [show eqHC v u = true from (eqHC_iff v u).2 HVU.out] at HC
          clear HVU
          obtain ⟨sv, rv, fv, nv⟩ := v
          obtain ⟨su, ru, fu, nu⟩ := u
          dsimp only at e0 e1 e2 e3 f0 f1 f2 f3 HC HB2
          go_wp2_with fail
          refine HC.out.mono ?_
          rintro e w2 ⟨rfl, q2⟩
          have HBN := Lib.hid (bl_ca HB2.out q2)
          clear q2 e0 e1 e2 e3 f0 f1 f2 f3
          go_wp2
          go_roundg (gk - 1)
          · exact ⟨i + 1, by omega, by omega, by go_num, HP2.out, HBN.out⟩
          · omega
        · have HF := Lib.hid (show r = false from by
            rw [HR.out]
            refine decide_eq_false fun e => hvu ?_
            have h1 := HVI.out
            rw [e, HUI.out] at h1
            injection h1 with h1
            exact h1.symm)
          have HVU := Lib.hid hvu
          clear hvu
          rw [show eqHC v u = false from by cases he : eqHC v u; rfl; exact absurd ((eqHC_iff v u).1 he) HVU.out] at HC
          clear HVU
          obtain ⟨sv, rv, fv, nv⟩ := v
          obtain ⟨su, ru, fu, nu⟩ := u
          dsimp only at e0 e1 e2 e3 f0 f1 f2 f3 HC HB2
          go_wp2_with fail
          refine HC.out.mono ?_
          rintro e w2 ⟨rfl, q2⟩
          have HBN := Lib.hid (bl_ca HB2.out q2)
          clear q2 e0 e1 e2 e3 f0 f1 f2 f3
          go_wp2
          go_ret
          exact ⟨ret_bool (by rw [HF.out]), HBN.out⟩
      · obtain rfl : i = m := by omega
        have hil : (i : Int) ≤ (i : Int) := by omega
        have HT := Lib.hid (show r = true from by
          have hp := HP.out
          rw [List.take_of_length_le (by rw [HXL.out]; omega), List.take_of_length_le (by rw [HYL.out]; omega)] at hp
          rw [HR.out]
          exact decide_eq_true hp)
        clear hx hy bb
        go_wp2
        go_ret
        exact ⟨ret_bool (by rw [HT.out]), HBB.out⟩
  · have e : decide (xs = ys) = false := decide_eq_false fun e => hmn (by rw [← hxl, ← hyl, e])
    rw [e]
    clear e hx hy hxl hyl
    go_enter Try.func73, Try.ntmps73
    go_wp2
    go_ret
    exact ⟨rfl, Below.refl _ _⟩

set_option maxRecDepth 100000 in
set_option maxHeartbeats 8000000 in
theorem sameR_any (F G : Nat → Prop) (a b : RC) (A1 : Option Addr) (m1 c1 : Nat) (A2 : Option Addr) (m2 c2 : Nat) (B1 : Option Addr) (n1 d1 : Nat) (B2 : Option Addr) (n2 d2 : Nat) (w : World)
    (hx : LH4.rd w F A1 m1 a.ahead) (hx2 : LB3.rd w F A2 m2 a.buf) (hy : LH4.rd w G B1 n1 b.ahead) (hy2 : LB3.rd w G B2 n2 b.buf) (hm : m1 ≤ 9223372036854775807) (hm2 : m2 ≤ 9223372036854775807) :
    Calls Try.prog 25 #[.agg (a.cells A1 m1 c1 A2 m2 c2), .agg (b.cells B1 n1 d1 B2 n2 d2)] w fun e w' => e = .returned (.bool (eqRC a b)) ∧ Below w.heap.size w w' := by
  obtain ⟨r, hr⟩ : ∃ r, r = eqRC a b := ⟨_, rfl⟩
  rw [← hr]
  have HRR := Lib.hid hr
  clear hr
  obtain ⟨a0, a1, ah, ab, a4, a5⟩ := a
  obtain ⟨b0, b1, bh, bb, b4, b5⟩ := b
  dsimp only at hx hx2 hy hy2
  have q1 := bl_al (Below.refl w.heap.size w) (.cells #[.int .u32 a0, .int .u64 a1, .slice A1 m1 c1, .slice A2 m2 c2, .int .i64 a4, .bool a5] 36)
  have q2 := bl_al q1 (.cells #[.int .u32 b0, .int .u64 b1, .slice B1 n1 d1, .slice B2 n2 d2, .int .i64 b4, .bool b5] 36)
  have HX := Lib.hid (And.intro (Lay.rd_below hx q2) (Lay.rd_below hx2 q2))
  have HY := Lib.hid (And.intro (Lay.rd_below hy q2) (Lay.rd_below hy2 q2))
  have HB1 := Lib.hid ((Blk.new w 36 #[.int .u32 a0, .int .u64 a1, .slice A1 m1 c1, .slice A2 m2 c2, .int .i64 a4, .bool a5]).alloc (.cells #[.int .u32 b0, .int .u64 b1, .slice B1 n1 d1, .slice B2 n2 d2, .int .i64 b4, .bool b5] 36))
  have HB2 := Lib.hid (show Blk ((w.alloc (.cells #[.int .u32 a0, .int .u64 a1, .slice A1 m1 c1, .slice A2 m2 c2, .int .i64 a4, .bool a5] 36)).alloc (.cells #[.int .u32 b0, .int .u64 b1, .slice B1 n1 d1, .slice B2 n2 d2, .int .i64 b4, .bool b5] 36)) (w.heap.size + 1) 36 #[.int .u32 b0, .int .u64 b1, .slice B1 n1 d1, .slice B2 n2 d2, .int .i64 b4, .bool b5] from by have := Blk.new (w.alloc (.cells #[.int .u32 a0, .int .u64 a1, .slice A1 m1 c1, .slice A2 m2 c2, .int .i64 a4, .bool a5] 36)) 36 #[.int .u32 b0, .int .u64 b1, .slice B1 n1 d1, .slice B2 n2 d2, .int .i64 b4, .bool b5]; simp only [World.size_alloc] at this; exact this)
  have HQ := Lib.hid q2
  clear hx hx2 hy hy2 q1 q2
  go_enter Try.func25, Try.ntmps25
  go_upto_region 1 with fail
  generalize ((w.alloc (.cells #[.int .u32 a0, .int .u64 a1, .slice A1 m1 c1, .slice A2 m2 c2, .int .i64 a4, .bool a5] 36)).alloc (.cells #[.int .u32 b0, .int .u64 b1, .slice B1 n1 d1, .slice B2 n2 d2, .int .i64 b4, .bool b5] 36)) = w1 at *
  refine wp_region_ps0 .text (S := fun _ _ w' => Below w1.heap.size w1 w') (by kernel_rfl) ?spswg22 ?ppswg22
  case spswg22 =>
    exact (Below.refl w1.heap.size w1)
  refine Ps.st (i := 0) (d := some 7) (u := (.pointer (some ⟨w.heap.size, 0, none⟩))) rfl rfl (by exact StepS.pure nP rfl fun _ => rfl) ?_
  try simp only [Act.put, sA, sZ, sS]
  refine Ps.st (i := 1) (d := some 8) (u := (.int .u32 (a0))) rfl rfl ?ywg22_24 ?rwg22_24
  case ywg22_24 =>
    refine StepS.read [] (by kernel_rfl) nP (by rfl) (fun L9 m9 w9 hSh hAt hDn hS => ?_)
    have hT : Below _ _ w9 := hS
    have x0 : w9.cell? ⟨w.heap.size, 0, none⟩ = some (.int .u32 (a0)) := (HB1.out.ca hT).cell 0
    clear hT hS
    go_simp
    try rfl
  try simp only [Act.put, sA, sZ, sS]
  refine Ps.st (i := 2) (d := some 9) (u := (.pointer (some ⟨w.heap.size + 1, 0, none⟩))) rfl rfl (by exact StepS.pure nP rfl fun _ => rfl) ?_
  try simp only [Act.put, sA, sZ, sS]
  refine Ps.st (i := 3) (d := some 10) (u := (.int .u32 (b0))) rfl rfl ?ywg22_26 ?rwg22_26
  case ywg22_26 =>
    refine StepS.read [] (by kernel_rfl) nP (by rfl) (fun L9 m9 w9 hSh hAt hDn hS => ?_)
    have hT : Below _ _ w9 := hS
    have x0 : w9.cell? ⟨w.heap.size + 1, 0, none⟩ = some (.int .u32 (b0)) := (HB2.out.ca hT).cell 0
    clear hT hS
    go_simp
    try rfl
  try simp only [Act.put, sA, sZ, sS]
  refine Ps.st (i := 4) (d := some 11) (u := (.bool (decide (a0 = b0)))) rfl rfl (by exact StepS.pure nP rfl fun _ => rfl) ?_
  try simp only [Act.put, sA, sZ, sS]
  obtain ⟨b1_5, hb9⟩ : ∃ b : Bool, b = (decide (a0 = b0)) := ⟨_, rfl⟩
  have HEb1_5 := Lib.hid hb9
  clear hb9
  refine Ps.st (i := 5) (d := some 12) (u := (.bool (b1_5))) rfl rfl ?ywg22_28 ?rwg22_28
  case ywg22_28 =>
    refine StepS.pure nP (by rfl) (fun w9 => ?_)
    have e9 : (decide (a0 = b0)) = b1_5 := by rw [HEb1_5.out]
    rw [← e9]
    clear e9
    first | rfl | (go_simp; done) | (go_simp; rfl)
  try simp only [Act.put, sA, sZ, sS]
  refine Ps.st (i := 6) (d := some 13) (u := (cond b1_5 (.pointer (some ⟨w.heap.size, 1, none⟩)) (undef))) rfl rfl (by cases b1_5; exact StepS.skip nP rfl; exact StepS.pure nP rfl fun _ => rfl) ?_
  try simp only [Act.put, sA, sZ, sS]
  refine Ps.st (i := 7) (d := some 14) (u := (cond b1_5 (.int .u64 (a1)) (undef))) rfl rfl ?ywg22_30 ?rwg22_30
  case ywg22_30 =>
    cases b1_5
    · exact StepS.skip nP (by rfl)
    · skip
      refine StepS.read [] (by kernel_rfl) nP (by rfl) (fun L9 m9 w9 hSh hAt hDn hS => ?_)
      have hT : Below _ _ w9 := hS
      have x0 : w9.cell? ⟨w.heap.size, 1, none⟩ = some (.int .u64 (a1)) := (HB1.out.ca hT).cell 1
      clear hT hS
      go_simp
      try rfl
  try simp only [Act.put, sA, sZ, sS]
  refine Ps.st (i := 8) (d := some 15) (u := (cond b1_5 (.pointer (some ⟨w.heap.size + 1, 1, none⟩)) (undef))) rfl rfl (by cases b1_5; exact StepS.skip nP rfl; exact StepS.pure nP rfl fun _ => rfl) ?_
  try simp only [Act.put, sA, sZ, sS]
  refine Ps.st (i := 9) (d := some 16) (u := (cond b1_5 (.int .u64 (b1)) (undef))) rfl rfl ?ywg22_32 ?rwg22_32
  case ywg22_32 =>
    cases b1_5
    · exact StepS.skip nP (by rfl)
    · skip
      refine StepS.read [] (by kernel_rfl) nP (by rfl) (fun L9 m9 w9 hSh hAt hDn hS => ?_)
      have hT : Below _ _ w9 := hS
      have x0 : w9.cell? ⟨w.heap.size + 1, 1, none⟩ = some (.int .u64 (b1)) := (HB2.out.ca hT).cell 1
      clear hT hS
      go_simp
      try rfl
  try simp only [Act.put, sA, sZ, sS]
  refine Ps.st (i := 10) (d := some 17) (u := (cond b1_5 (.bool (decide (a1 = b1))) (undef))) rfl rfl (by cases b1_5; exact StepS.skip nP rfl; exact StepS.pure nP rfl fun _ => rfl) ?_
  try simp only [Act.put, sA, sZ, sS]
  refine Ps.st (i := 11) (d := some 18) (u := (.bool (b1_5 && (decide (a1 = b1))))) rfl rfl ?ywg22_34 ?rwg22_34
  case ywg22_34 =>
    refine StepS.pure nP (by rfl) (fun w9 => ?_)
    cases b1_5 <;> (first | rfl | (go_simp; done) | (go_simp; rfl))
  try simp only [Act.put, sA, sZ, sS]
  obtain ⟨b1_12, hb9⟩ : ∃ b : Bool, b = ((decide (a0 = b0)) && (decide (a1 = b1))) := ⟨_, rfl⟩
  have HEb1_12 := Lib.hid hb9
  clear hb9
  refine Ps.st (i := 12) (d := some 19) (u := (.bool (b1_12))) rfl rfl ?ywg22_35 ?rwg22_35
  case ywg22_35 =>
    refine StepS.pure nP (by rfl) (fun w9 => ?_)
    have e9 : (b1_5 && (decide (a1 = b1))) = b1_12 := by rw [HEb1_12.out, HEb1_5.out]
    rw [← e9]
    clear e9
    first | rfl | (go_simp; done) | (go_simp; rfl)
  try simp only [Act.put, sA, sZ, sS]
  refine Ps.st (i := 13) (d := some 20) (u := (cond b1_12 (.pointer (some ⟨w.heap.size, 4, none⟩)) (undef))) rfl rfl (by cases b1_12; exact StepS.skip nP rfl; exact StepS.pure nP rfl fun _ => rfl) ?_
  try simp only [Act.put, sA, sZ, sS]
  refine Ps.st (i := 14) (d := some 21) (u := (cond b1_12 (.int .i64 (a4)) (undef))) rfl rfl ?ywg22_37 ?rwg22_37
  case ywg22_37 =>
    cases b1_12
    · exact StepS.skip nP (by rfl)
    · skip
      refine StepS.read [] (by kernel_rfl) nP (by rfl) (fun L9 m9 w9 hSh hAt hDn hS => ?_)
      have hT : Below _ _ w9 := hS
      have x0 : w9.cell? ⟨w.heap.size, 4, none⟩ = some (.int .i64 (a4)) := (HB1.out.ca hT).cell 4
      clear hT hS
      go_simp
      try rfl
  try simp only [Act.put, sA, sZ, sS]
  refine Ps.st (i := 15) (d := some 22) (u := (cond b1_12 (.pointer (some ⟨w.heap.size + 1, 4, none⟩)) (undef))) rfl rfl (by cases b1_12; exact StepS.skip nP rfl; exact StepS.pure nP rfl fun _ => rfl) ?_
  try simp only [Act.put, sA, sZ, sS]
  refine Ps.st (i := 16) (d := some 23) (u := (cond b1_12 (.int .i64 (b4)) (undef))) rfl rfl ?ywg22_39 ?rwg22_39
  case ywg22_39 =>
    cases b1_12
    · exact StepS.skip nP (by rfl)
    · skip
      refine StepS.read [] (by kernel_rfl) nP (by rfl) (fun L9 m9 w9 hSh hAt hDn hS => ?_)
      have hT : Below _ _ w9 := hS
      have x0 : w9.cell? ⟨w.heap.size + 1, 4, none⟩ = some (.int .i64 (b4)) := (HB2.out.ca hT).cell 4
      clear hT hS
      go_simp
      try rfl
  try simp only [Act.put, sA, sZ, sS]
  refine Ps.st (i := 17) (d := some 24) (u := (cond b1_12 (.bool (decide (a4 = b4))) (undef))) rfl rfl (by cases b1_12; exact StepS.skip nP rfl; exact StepS.pure nP rfl fun _ => rfl) ?_
  try simp only [Act.put, sA, sZ, sS]
  refine Ps.st (i := 18) (d := some 25) (u := (.bool (b1_12 && (decide (a4 = b4))))) rfl rfl ?ywg22_41 ?rwg22_41
  case ywg22_41 =>
    refine StepS.pure nP (by rfl) (fun w9 => ?_)
    cases b1_12 <;> (first | rfl | (go_simp; done) | (go_simp; rfl))
  try simp only [Act.put, sA, sZ, sS]
  obtain ⟨b1_19, hb9⟩ : ∃ b : Bool, b = (((decide (a0 = b0)) && (decide (a1 = b1))) && (decide (a4 = b4))) := ⟨_, rfl⟩
  have HEb1_19 := Lib.hid hb9
  clear hb9
  refine Ps.st (i := 19) (d := some 26) (u := (.bool (b1_19))) rfl rfl ?ywg22_42 ?rwg22_42
  case ywg22_42 =>
    refine StepS.pure nP (by rfl) (fun w9 => ?_)
    have e9 : (b1_12 && (decide (a4 = b4))) = b1_19 := by rw [HEb1_19.out, HEb1_12.out]
    rw [← e9]
    clear e9
    first | rfl | (go_simp; done) | (go_simp; rfl)
  try simp only [Act.put, sA, sZ, sS]
  refine Ps.st (i := 20) (d := some 27) (u := (cond b1_19 (.pointer (some ⟨w.heap.size, 5, none⟩)) (undef))) rfl rfl (by cases b1_19; exact StepS.skip nP rfl; exact StepS.pure nP rfl fun _ => rfl) ?_
  try simp only [Act.put, sA, sZ, sS]
  refine Ps.st (i := 21) (d := some 28) (u := (cond b1_19 (.bool (a5)) (undef))) rfl rfl ?ywg22_44 ?rwg22_44
  case ywg22_44 =>
    cases b1_19
    · exact StepS.skip nP (by rfl)
    · skip
      refine StepS.read [] (by kernel_rfl) nP (by rfl) (fun L9 m9 w9 hSh hAt hDn hS => ?_)
      have hT : Below _ _ w9 := hS
      have x0 : w9.cell? ⟨w.heap.size, 5, none⟩ = some (.bool (a5)) := (HB1.out.ca hT).cell 5
      clear hT hS
      go_simp
      try rfl
  try simp only [Act.put, sA, sZ, sS]
  refine Ps.st (i := 22) (d := some 29) (u := (cond b1_19 (.pointer (some ⟨w.heap.size + 1, 5, none⟩)) (undef))) rfl rfl (by cases b1_19; exact StepS.skip nP rfl; exact StepS.pure nP rfl fun _ => rfl) ?_
  try simp only [Act.put, sA, sZ, sS]
  refine Ps.st (i := 23) (d := some 30) (u := (cond b1_19 (.bool (b5)) (undef))) rfl rfl ?ywg22_46 ?rwg22_46
  case ywg22_46 =>
    cases b1_19
    · exact StepS.skip nP (by rfl)
    · skip
      refine StepS.read [] (by kernel_rfl) nP (by rfl) (fun L9 m9 w9 hSh hAt hDn hS => ?_)
      have hT : Below _ _ w9 := hS
      have x0 : w9.cell? ⟨w.heap.size + 1, 5, none⟩ = some (.bool (b5)) := (HB2.out.ca hT).cell 5
      clear hT hS
      go_simp
      try rfl
  try simp only [Act.put, sA, sZ, sS]
  refine Ps.st (i := 24) (d := some 31) (u := (cond b1_19 (.bool (a5 == b5)) (undef))) rfl rfl (by cases b1_19; exact StepS.skip nP rfl; exact StepS.pure nP rfl fun _ => rfl) ?_
  try simp only [Act.put, sA, sZ, sS]
  obtain ⟨f1x, hb9⟩ : ∃ b : Bool, b = ((((decide (a0 = b0)) && (decide (a1 = b1))) && (decide (a4 = b4))) && (a5 == b5)) := ⟨_, rfl⟩
  have HEf1x := Lib.hid hb9
  clear hb9
  refine Ps.st (i := 25) (d := some 32) (u := (.bool (f1x))) rfl rfl ?ywg22_48 ?rwg22_48
  case ywg22_48 =>
    refine StepS.pure nP (by rfl) (fun w9 => ?_)
    have e9 : (b1_19 && (a5 == b5)) = f1x := by rw [HEf1x.out, HEb1_19.out]
    rw [← e9]
    clear e9
    cases b1_19 <;> (first | rfl | (go_simp; done) | (go_simp; rfl))
  try simp only [Act.put, sA, sZ, sS]
  refine Ps.st (i := 26) (d := some 5) (u := (.bool (f1x))) rfl rfl (by exact StepS.pure nP rfl fun _ => rfl) ?_
  try simp only [Act.put, sA, sZ, sS]
  refine Ps.done (by kernel_rfl) (fun wg22 hS => ?_) _
  try generalize (cond b1_19 (.pointer (some ⟨w.heap.size + 1, 5, none⟩)) (undef) : Value) = zz50
  try generalize (cond b1_12 (.pointer (some ⟨w.heap.size + 1, 4, none⟩)) (undef) : Value) = zz51
  try generalize (cond b1_5 (.pointer (some ⟨w.heap.size + 1, 1, none⟩)) (undef) : Value) = zz52
  try generalize (cond b1_19 (.pointer (some ⟨w.heap.size, 5, none⟩)) (undef) : Value) = zz53
  try generalize (cond b1_12 (.pointer (some ⟨w.heap.size, 4, none⟩)) (undef) : Value) = zz54
  try generalize (cond b1_5 (.pointer (some ⟨w.heap.size, 1, none⟩)) (undef) : Value) = zz55
  try generalize (cond b1_12 (.bool (decide (a4 = b4))) (undef) : Value) = zz56
  try generalize (cond b1_5 (.bool (decide (a1 = b1))) (undef) : Value) = zz57
  try generalize (cond b1_19 (.bool (a5 == b5)) (undef) : Value) = zz58
  try generalize (cond b1_12 (.int .i64 (a4)) (undef) : Value) = zz59
  try generalize (cond b1_12 (.int .i64 (b4)) (undef) : Value) = zz60
  try generalize (.bool (b1_12 && (decide (a4 = b4))) : Value) = zz61
  try generalize (cond b1_5 (.int .u64 (a1)) (undef) : Value) = zz62
  try generalize (cond b1_5 (.int .u64 (b1)) (undef) : Value) = zz63
  try generalize (.bool (b1_5 && (decide (a1 = b1))) : Value) = zz64
  try generalize (cond b1_19 (.bool (b5)) (undef) : Value) = zz65
  try generalize (cond b1_19 (.bool (a5)) (undef) : Value) = zz66
  have HW67 := Lib.hid (show Below w1.heap.size w1 wg22 from hS)
  clear hS
  obtain ⟨w168, rfl⟩ : ∃ x, x = wg22 := ⟨_, rfl⟩
  go_upto_region 3 with fail
  refine wp_region_ps0 .text (S := fun _ _ w' => Below w1.heap.size w1 w') (by kernel_rfl) ?spswg69 ?ppswg69
  case spswg69 =>
    exact HW67.out
  refine Ps.st (i := 0) (d := some 33) (u := (.bool (f1x))) rfl rfl (by exact StepS.pure nP rfl fun _ => rfl) ?_
  try simp only [Act.put, sA, sZ, sS]
  obtain ⟨b3_1, hb9⟩ : ∃ b : Bool, b = (((((decide (a0 = b0)) && (decide (a1 = b1))) && (decide (a4 = b4))) && (a5 == b5))) := ⟨_, rfl⟩
  have HEb3_1 := Lib.hid hb9
  clear hb9
  refine Ps.st (i := 1) (d := some 34) (u := (.bool (b3_1))) rfl rfl ?ywg69_71 ?rwg69_71
  case ywg69_71 =>
    refine StepS.pure nP (by rfl) (fun w9 => ?_)
    have e9 : (f1x) = b3_1 := by rw [HEb3_1.out, HEf1x.out]
    rw [← e9]
    clear e9
    first | rfl | (go_simp; done) | (go_simp; rfl)
  try simp only [Act.put, sA, sZ, sS]
  refine Ps.st (i := 2) (d := some 35) (u := (cond b3_1 (.pointer (some ⟨w.heap.size, 3, none⟩)) (undef))) rfl rfl (by cases b3_1; exact StepS.skip nP rfl; exact StepS.pure nP rfl fun _ => rfl) ?_
  try simp only [Act.put, sA, sZ, sS]
  refine Ps.st (i := 3) (d := some 36) (u := (cond b3_1 (.slice A2 m2 c2) (undef))) rfl rfl ?ywg69_73 ?rwg69_73
  case ywg69_73 =>
    cases b3_1
    · exact StepS.skip nP (by rfl)
    · skip
      refine StepS.read [] (by kernel_rfl) nP (by rfl) (fun L9 m9 w9 hSh hAt hDn hS => ?_)
      have hT : Below _ _ w9 := hS
      have x0 : w9.cell? ⟨w.heap.size, 3, none⟩ = some (.slice A2 m2 c2) := (HB1.out.ca hT).cell 3
      clear hT hS
      go_simp
      try rfl
  try simp only [Act.put, sA, sZ, sS]
  refine Ps.st (i := 4) (d := some 37) (u := (cond b3_1 (.pointer (some ⟨w.heap.size + 1, 3, none⟩)) (undef))) rfl rfl (by cases b3_1; exact StepS.skip nP rfl; exact StepS.pure nP rfl fun _ => rfl) ?_
  try simp only [Act.put, sA, sZ, sS]
  refine Ps.st (i := 5) (d := some 38) (u := (cond b3_1 (.slice B2 n2 d2) (undef))) rfl rfl ?ywg69_75 ?rwg69_75
  case ywg69_75 =>
    cases b3_1
    · exact StepS.skip nP (by rfl)
    · skip
      refine StepS.read [] (by kernel_rfl) nP (by rfl) (fun L9 m9 w9 hSh hAt hDn hS => ?_)
      have hT : Below _ _ w9 := hS
      have x0 : w9.cell? ⟨w.heap.size + 1, 3, none⟩ = some (.slice B2 n2 d2) := (HB2.out.ca hT).cell 3
      clear hT hS
      go_simp
      try rfl
  try simp only [Act.put, sA, sZ, sS]
  refine Ps.st (i := 6) (d := some 39) (u := (cond b3_1 (.bool (decide (ab = bb))) (undef))) rfl rfl ?ywg69_76 ?rwg69_76
  case ywg69_76 =>
    cases b3_1
    · exact StepS.skip nP (by rfl)
    · skip
      refine StepS.call ?fwg69_76 ?awg69_76 [] (by kernel_rfl) (by rfl) (fun w9 => ?hwg69_76) (fun L9 m9 w9 hSh hAt hDn hS => ?cwg69_76)
      case hwg69_76 => go_simp; refine ⟨?_, ?_⟩ <;> rfl
      case cwg69_76 =>
        have hT : Below _ _ w9 := hS
        refine (eqfB F G A2 B2 m2 c2 n2 d2 ab bb w9 (Lay.rd_below HX.out.2 hT) (Lay.rd_below HY.out.2 hT) hm2).mono ?_
        rintro e w8 ⟨rfl, q8⟩
        exact ⟨rfl, bl_ca hT q8⟩
  try simp only [Act.put, sA, sZ, sS]
  refine Ps.st (i := 7) (d := some 40) (u := (.bool (b3_1 && (decide (ab = bb))))) rfl rfl ?ywg69_77 ?rwg69_77
  case ywg69_77 =>
    refine StepS.pure nP (by rfl) (fun w9 => ?_)
    cases b3_1 <;> (first | rfl | (go_simp; done) | (go_simp; rfl))
  try simp only [Act.put, sA, sZ, sS]
  obtain ⟨b3_8, hb9⟩ : ∃ b : Bool, b = ((((((decide (a0 = b0)) && (decide (a1 = b1))) && (decide (a4 = b4))) && (a5 == b5))) && (decide (ab = bb))) := ⟨_, rfl⟩
  have HEb3_8 := Lib.hid hb9
  clear hb9
  refine Ps.st (i := 8) (d := some 41) (u := (.bool (b3_8))) rfl rfl ?ywg69_78 ?rwg69_78
  case ywg69_78 =>
    refine StepS.pure nP (by rfl) (fun w9 => ?_)
    have e9 : (b3_1 && (decide (ab = bb))) = b3_8 := by rw [HEb3_8.out, HEb3_1.out]
    rw [← e9]
    clear e9
    first | rfl | (go_simp; done) | (go_simp; rfl)
  try simp only [Act.put, sA, sZ, sS]
  refine Ps.st (i := 9) (d := some 42) (u := (cond b3_8 (.pointer (some ⟨w.heap.size, 2, none⟩)) (undef))) rfl rfl (by cases b3_8; exact StepS.skip nP rfl; exact StepS.pure nP rfl fun _ => rfl) ?_
  try simp only [Act.put, sA, sZ, sS]
  refine Ps.st (i := 10) (d := some 43) (u := (cond b3_8 (.slice A1 m1 c1) (undef))) rfl rfl ?ywg69_80 ?rwg69_80
  case ywg69_80 =>
    cases b3_8
    · exact StepS.skip nP (by rfl)
    · skip
      refine StepS.read [] (by kernel_rfl) nP (by rfl) (fun L9 m9 w9 hSh hAt hDn hS => ?_)
      have hT : Below _ _ w9 := hS
      have x0 : w9.cell? ⟨w.heap.size, 2, none⟩ = some (.slice A1 m1 c1) := (HB1.out.ca hT).cell 2
      clear hT hS
      go_simp
      try rfl
  try simp only [Act.put, sA, sZ, sS]
  refine Ps.st (i := 11) (d := some 44) (u := (cond b3_8 (.pointer (some ⟨w.heap.size + 1, 2, none⟩)) (undef))) rfl rfl (by cases b3_8; exact StepS.skip nP rfl; exact StepS.pure nP rfl fun _ => rfl) ?_
  try simp only [Act.put, sA, sZ, sS]
  refine Ps.st (i := 12) (d := some 45) (u := (cond b3_8 (.slice B1 n1 d1) (undef))) rfl rfl ?ywg69_82 ?rwg69_82
  case ywg69_82 =>
    cases b3_8
    · exact StepS.skip nP (by rfl)
    · skip
      refine StepS.read [] (by kernel_rfl) nP (by rfl) (fun L9 m9 w9 hSh hAt hDn hS => ?_)
      have hT : Below _ _ w9 := hS
      have x0 : w9.cell? ⟨w.heap.size + 1, 2, none⟩ = some (.slice B1 n1 d1) := (HB2.out.ca hT).cell 2
      clear hT hS
      go_simp
      try rfl
  try simp only [Act.put, sA, sZ, sS]
  refine Ps.st (i := 13) (d := some 46) (u := (cond b3_8 (.func (.func 72) #[] #[]) (undef))) rfl rfl (by cases b3_8; exact StepS.skip nP rfl; exact StepS.pure nP rfl fun _ => rfl) ?_
  try simp only [Act.put, sA, sZ, sS]
  refine Ps.st (i := 14) (d := some 47) (u := (cond b3_8 (.bool (decide (ah = bh))) (undef))) rfl rfl ?ywg69_84 ?rwg69_84
  case ywg69_84 =>
    cases b3_8
    · exact StepS.skip nP (by rfl)
    · skip
      refine StepS.call ?fwg69_84 ?awg69_84 [] (by kernel_rfl) (by rfl) (fun w9 => ?hwg69_84) (fun L9 m9 w9 hSh hAt hDn hS => ?cwg69_84)
      case hwg69_84 => go_simp; refine ⟨?_, ?_⟩ <;> rfl
      case cwg69_84 =>
        have hT : Below _ _ w9 := hS
        refine (eqfH F G A1 B1 m1 c1 n1 d1 ah bh w9 (Lay.rd_below HX.out.1 hT) (Lay.rd_below HY.out.1 hT) hm).mono ?_
        rintro e w8 ⟨rfl, q8⟩
        exact ⟨rfl, bl_ca hT q8⟩
  try simp only [Act.put, sA, sZ, sS]
  obtain ⟨f3x, hb9⟩ : ∃ b : Bool, b = (((((((decide (a0 = b0)) && (decide (a1 = b1))) && (decide (a4 = b4))) && (a5 == b5))) && (decide (ab = bb))) && (decide (ah = bh))) := ⟨_, rfl⟩
  have HEf3x := Lib.hid hb9
  clear hb9
  refine Ps.st (i := 15) (d := some 48) (u := (.bool (f3x))) rfl rfl ?ywg69_85 ?rwg69_85
  case ywg69_85 =>
    refine StepS.pure nP (by rfl) (fun w9 => ?_)
    have e9 : (b3_8 && (decide (ah = bh))) = f3x := by rw [HEf3x.out, HEb3_8.out]
    rw [← e9]
    clear e9
    cases b3_8 <;> (first | rfl | (go_simp; done) | (go_simp; rfl))
  try simp only [Act.put, sA, sZ, sS]
  refine Ps.st (i := 16) (d := some 4) (u := (.bool (f3x))) rfl rfl (by exact StepS.pure nP rfl fun _ => rfl) ?_
  try simp only [Act.put, sA, sZ, sS]
  refine Ps.done (by kernel_rfl) (fun wg69 hS => ?_) _
  try generalize (cond b3_8 (.func (.func 72) #[] #[]) (undef) : Value) = zz87
  try generalize (cond b3_1 (.pointer (some ⟨w.heap.size + 1, 3, none⟩)) (undef) : Value) = zz88
  try generalize (cond b3_8 (.pointer (some ⟨w.heap.size + 1, 2, none⟩)) (undef) : Value) = zz89
  try generalize (cond b3_8 (.pointer (some ⟨w.heap.size, 2, none⟩)) (undef) : Value) = zz90
  try generalize (cond b3_1 (.pointer (some ⟨w.heap.size, 3, none⟩)) (undef) : Value) = zz91
  try generalize (cond b3_1 (.bool (decide (ab = bb))) (undef) : Value) = zz92
  try generalize (cond b3_8 (.bool (decide (ah = bh))) (undef) : Value) = zz93
  try generalize (cond b3_1 (.slice A2 m2 c2) (undef) : Value) = zz94
  try generalize (cond b3_1 (.slice B2 n2 d2) (undef) : Value) = zz95
  try generalize (cond b3_8 (.slice B1 n1 d1) (undef) : Value) = zz96
  try generalize (cond b3_8 (.slice A1 m1 c1) (undef) : Value) = zz97
  try generalize (.bool (b3_1 && (decide (ab = bb))) : Value) = zz98
  have HW99 := Lib.hid (show Below w1.heap.size w1 wg69 from hS)
  clear hS
  obtain ⟨w200, rfl⟩ : ∃ x, x = wg69 := ⟨_, rfl⟩
  go_wp2
  go_ret
  exact ⟨ret_bool (by rw [HRR.out, HEf3x.out]; unfold eqRC flatRC; dsimp only; rw [Bool.eq_iff_iff]; simp; grind), bl_ca HQ.out HW99.out⟩
end Go.Proofs.Ytojghgbaiiajfaa
/- A region whose order Go leaves open, with several operations of unknown yield side by side; what follows is said once. Conditions: none. -/
namespace Go.Proofs.Ytojghgbaiiajfaa
open Go.RowKit
section
variable {P : Program} {ops : Array Oper} {Q Q' : Exit → Act → World → Prop} {md : Region.Mode} {S : Array Bool → (Nat → Value) → World → Prop}
theorem Ps.weak (h : ∀ a w, Q' .normal a w → Q .normal a w) : ∀ (f : Nat) (m : Nat → Value) (L : Array Bool) (a : Act), Ps P md ops Q' S f m L a → Ps P md ops Q S f m L a
  | 0, _, _, _, k => ⟨k.1, fun w hS => h _ _ (k.2 w hS)⟩
  | f + 1, m, L, a, k => ⟨fun e w hS => h _ _ (k.1 e w hS), fun i hi => by
    obtain ⟨o, ho, ⟨u, hs, hg⟩ | ⟨V, hs, hg⟩⟩ := k.2 i hi
    · exact ⟨o, ho, .inl ⟨u, hs, Ps.weak h f _ _ _ hg⟩⟩
    · exact ⟨o, ho, .inr ⟨V, hs, fun v hV => Ps.weak h f _ _ _ (hg v hV)⟩⟩⟩
/-- one of several that come next -/
def Turns (P : Program) (md : Region.Mode) (ops : Array Oper) (Q : Exit → Act → World → Prop) (S : Array Bool → (Nat → Value) → World → Prop) (f : Nat) (m : Nat → Value) (L : Array Bool) (a : Act) (i : Nat) : Prop :=
  ∃ o, ops[i]? = some o ∧ ∃ V, TurnS P md ops S m i o V a ∧ ∀ v, V v → Ps P md ops Q S f (upd m i v) (L.setIfInBounds i true) (a.put o.dst v)
theorem Turns.mk {f : Nat} {m : Nat → Value} {L : Array Bool} {a : Act} {i : Nat} {o : Oper} {d : Option Tmp} (ho : ops[i]? = some o) (hd : o.dst = d) {V : Value → Prop} (ht : TurnS P md ops S m i o V a)
    (h : ∀ v, V v → Ps P md ops Q S f (upd m i v) (L.setIfInBounds i true) (a.put d v)) : Turns P md ops Q S f m L a i := by subst hd; exact ⟨o, ho, V, ht, h⟩
theorem Ps.some1 {f : Nat} {m : Nat → Value} {L : Array Bool} {a : Act} {i : Nat} (hr : Region.ready md ops L = [i]) (h1 : Turns P md ops Q S f m L a i) : Ps P md ops Q S (f + 1) m L a := by
  refine ⟨fun e => (by rw [hr] at e; cases e), fun x hx => ?_⟩
  rw [hr] at hx
  rcases List.mem_cons.1 hx with rfl | hx
  · obtain ⟨o, ho, V, ht, h⟩ := h1; exact ⟨o, ho, .inr ⟨V, ht, h⟩⟩
  · cases hx
theorem Ps.some2 {f : Nat} {m : Nat → Value} {L : Array Bool} {a : Act} {i j : Nat} (hr : Region.ready md ops L = [i, j]) (h1 : Turns P md ops Q S f m L a i) (h2 : Turns P md ops Q S f m L a j) : Ps P md ops Q S (f + 1) m L a := by
  refine ⟨fun e => (by rw [hr] at e; cases e), fun x hx => ?_⟩
  rw [hr] at hx
  rcases List.mem_cons.1 hx with rfl | hx
  · obtain ⟨o, ho, V, ht, h⟩ := h1; exact ⟨o, ho, .inr ⟨V, ht, h⟩⟩
  rcases List.mem_cons.1 hx with rfl | hx
  · obtain ⟨o, ho, V, ht, h⟩ := h2; exact ⟨o, ho, .inr ⟨V, ht, h⟩⟩
  · cases hx
theorem Ps.some3 {f : Nat} {m : Nat → Value} {L : Array Bool} {a : Act} {i j k : Nat} (hr : Region.ready md ops L = [i, j, k]) (h1 : Turns P md ops Q S f m L a i) (h2 : Turns P md ops Q S f m L a j) (h3 : Turns P md ops Q S f m L a k) : Ps P md ops Q S (f + 1) m L a := by
  refine ⟨fun e => (by rw [hr] at e; cases e), fun x hx => ?_⟩
  rw [hr] at hx
  rcases List.mem_cons.1 hx with rfl | hx
  · obtain ⟨o, ho, V, ht, h⟩ := h1; exact ⟨o, ho, .inr ⟨V, ht, h⟩⟩
  rcases List.mem_cons.1 hx with rfl | hx
  · obtain ⟨o, ho, V, ht, h⟩ := h2; exact ⟨o, ho, .inr ⟨V, ht, h⟩⟩
  rcases List.mem_cons.1 hx with rfl | hx
  · obtain ⟨o, ho, V, ht, h⟩ := h3; exact ⟨o, ho, .inr ⟨V, ht, h⟩⟩
  · cases hx
/-- what follows is said once: F tells how the region ends, of the act at its start -/
theorem wp_region_psF {id : Nat} {a : Act} {w : World} (F : Act → Act → World → Prop) (S : Array Bool → (Nat → Value) → World → Prop) (hm : P.follows .mixedOrders = true) (hS : S (Array.replicate ops.size false) (fun _ => undef) w.drew)
    (h : Ps P .any ops (fun _ a' w' => F a a' w') S ops.size (fun _ => undef) (Array.replicate ops.size false) a) (hk : ∀ a' w', F a a' w' → Q .normal a' w') : (Code.region id ops true).wp P Q a w :=
  wp_region_ps S hm hS (Ps.weak hk _ _ _ _ h)
end
end Go.Proofs.Ytojghgbaiiajfaa
/- Two variables made and filled by calls in one statement whose order Go leaves open. Conditions: none. -/
namespace Go.Proofs.Ytojghgbaiiajfaa
open Go.RowKit
def pt (g : Nat) : Value := .pointer (some ⟨g, 0, none⟩)
theorem pt_inj {a b : Nat} (h : pt a = pt b) : a = b := by
  unfold pt at h
  injection h with h
  injection h with h
  injection h
theorem undef_pt (b : Nat) : undef ≠ pt b := by unfold pt undef; simp
/-- the blocks that are none of the two variables -/
def Av (a1 a2 : Nat) (m : Nat → Value) (b : Nat) : Prop := m a1 ≠ pt b ∧ m a2 ≠ pt b
/-- what a call's answer is: it stays so as long as the blocks that it leads to do -/
structure Res (R : Value → (Nat → Prop) → World → Prop) : Prop where
  keep : ∀ {v F w w'}, (∀ b, F b → b < w.heap.size → w'.heap[b]? = w.heap[b]?) → R v F w → R v F w'
  weak : ∀ {v F G w}, (∀ b, F b → b < w.heap.size → G b) → R v F w → R v G w
def LRes {α : Type} (Ly : Lay α) (P : α → Prop) (v : Value) (F : Nat → Prop) (w : World) : Prop := ∃ a cs, v = .agg cs ∧ Ly.rep w F a cs.toList ∧ P a
theorem LRes.res {α : Type} (Ly : Lay α) (P : α → Prop) : Res (LRes Ly P) :=
  ⟨fun hk ⟨a, cs, e, h, p⟩ => ⟨a, cs, e, Ly.keep hk h, p⟩, fun hk ⟨a, cs, e, h, p⟩ => ⟨a, cs, e, Ly.weak hk h, p⟩⟩
def NoRes (_ : Value) (_ : Nat → Prop) (_ : World) : Prop := True
theorem NoRes.res : Res NoRes := ⟨fun _ h => h, fun _ h => h⟩
section
variable (W : World) (k0 k1 k2 a1 a2 : Nat) (t1 t2 : TypeId) (Z1 Z2 : Array Value) (R0 R1 R2 : Value → (Nat → Prop) → World → Prop)
structure TwoA (L : Array Bool) (m : Nat → Value) (w : World) : Prop where
  bel : Below W.heap.size W w
  v1 : Dn L a1 = true → ∃ g, m a1 = pt g ∧ W.heap.size ≤ g ∧ Blk w g t1 Z1
  n1 : Dn L a1 = false → m a1 = undef
  v2 : Dn L a2 = true → ∃ g, m a2 = pt g ∧ W.heap.size ≤ g ∧ Blk w g t2 Z2
  n2 : Dn L a2 = false → m a2 = undef
  ne : Dn L a1 = true → Dn L a2 = true → m a1 ≠ m a2
  r0 : Dn L k0 = true → R0 (m k0) (Av a1 a2 m) w
  r1 : Dn L k1 = true → R1 (m k1) (Av a1 a2 m) w
  r2 : Dn L k2 = true → R2 (m k2) (Av a1 a2 m) w
structure TwoB (c1 c2 : Array Value) (g1 g2 : Nat) (m : Nat → Value) (w : World) : Prop where
  e1 : m a1 = pt g1
  e2 : m a2 = pt g2
  ne : g1 ≠ g2
  l1 : W.heap.size ≤ g1
  l2 : W.heap.size ≤ g2
  b1 : Blk w g1 t1 c1
  b2 : Blk w g2 t2 c2
  bel : Below W.heap.size W w
  r1 : R1 (m k1) (Av a1 a2 m) w
  r2 : R2 (m k2) (Av a1 a2 m) w
/-- s1, s2: the two stores -/
def TwoS (s1 s2 : Nat) (L : Array Bool) (m : Nat → Value) (w : World) : Prop :=
  (Dn L s1 = false → TwoA W k0 k1 k2 a1 a2 t1 t2 Z1 Z2 R0 R1 R2 L m w) ∧
  (Dn L s1 = true → Dn L s2 = false → ∃ g1 g2 c1, m k1 = .agg c1 ∧ TwoB W k1 k2 a1 a2 t1 t2 R1 R2 c1 Z2 g1 g2 m w) ∧
  (Dn L s2 = true → ∃ g1 g2 c1 c2, m k1 = .agg c1 ∧ m k2 = .agg c2 ∧ TwoB W k1 k2 a1 a2 t1 t2 R1 R2 c1 c2 g1 g2 m w)
end
section
variable {W : World} {k0 k1 k2 a1 a2 s1 s2 : Nat} {t1 t2 : TypeId} {Z1 Z2 : Array Value} {R0 R1 R2 : Value → (Nat → Prop) → World → Prop} {L : Array Bool} {m : Nat → Value} {w w' : World}
theorem TwoA.mono (h : TwoA W k0 k1 k2 a1 a2 t1 t2 Z1 Z2 R0 R1 R2 L m w) (H0 : Res R0) (H1 : Res R1) (H2 : Res R2) (q : Below w.heap.size w w') : TwoA W k0 k1 k2 a1 a2 t1 t2 Z1 Z2 R0 R1 R2 L m w' :=
  ⟨bl_ca h.bel q, fun e => by obtain ⟨g, x, y, z⟩ := h.v1 e; exact ⟨g, x, y, z.ca q⟩, h.n1, fun e => by obtain ⟨g, x, y, z⟩ := h.v2 e; exact ⟨g, x, y, z.ca q⟩, h.n2, h.ne,
    fun e => H0.keep (fun b _ hb => q.block b hb) (h.r0 e), fun e => H1.keep (fun b _ hb => q.block b hb) (h.r1 e), fun e => H2.keep (fun b _ hb => q.block b hb) (h.r2 e)⟩
theorem TwoA.set (h : TwoA W k0 k1 k2 a1 a2 t1 t2 Z1 Z2 R0 R1 R2 L m w) {i : Nat} (hi : i ≠ k0 ∧ i ≠ k1 ∧ i ≠ k2 ∧ i ≠ a1 ∧ i ≠ a2) : TwoA W k0 k1 k2 a1 a2 t1 t2 Z1 Z2 R0 R1 R2 (L.setIfInBounds i true) m w := by
  obtain ⟨x0, x1, x2, y1, y2⟩ := hi
  have d : ∀ j, i ≠ j → Dn (L.setIfInBounds i true) j = Dn L j := fun j hj => dn_ne (Ne.symm hj)
  exact ⟨h.bel, fun e => h.v1 (d _ y1 ▸ e), fun e => h.n1 (d _ y1 ▸ e), fun e => h.v2 (d _ y2 ▸ e), fun e => h.n2 (d _ y2 ▸ e), fun e f => h.ne (d _ y1 ▸ e) (d _ y2 ▸ f), fun e => h.r0 (d _ x0 ▸ e), fun e => h.r1 (d _ x1 ▸ e), fun e => h.r2 (d _ x2 ▸ e)⟩
theorem TwoS.start {n : Nat} (hl : (decide (k1 < n) && decide (k2 < n) && decide (a1 < n) && decide (a2 < n) && decide (s1 < n) && decide (s2 < n)) = true) (h0 : k0 < n ∨ R0 = NoRes) : TwoS W k0 k1 k2 a1 a2 t1 t2 Z1 Z2 R0 R1 R2 s1 s2 (Array.replicate n false) (fun _ => undef) W.drew := by
  simp only [Bool.and_eq_true, decide_eq_true_eq] at hl
  obtain ⟨⟨⟨⟨⟨l1, l2⟩, l3⟩, l4⟩, l5⟩, l6⟩ := hl
  have d : ∀ j, j < n → Dn (Array.replicate n false) j = false := fun j hj => by unfold Dn; simp [hj]
  refine ⟨fun _ => ⟨(Below.refl _ _).drew, fun e => ?_, fun _ => rfl, fun e => ?_, fun _ => rfl, fun e => ?_, fun e => ?_, fun e => ?_, fun e => ?_⟩, fun e => ?_, fun e => ?_⟩
  · rw [d _ l3] at e; cases e
  · rw [d _ l4] at e; cases e
  · rw [d _ l3] at e; cases e
  · rcases h0 with h0 | h0
    · rw [d _ h0] at e; cases e
    · rw [h0]; trivial
  · rw [d _ l1] at e; cases e
  · rw [d _ l2] at e; cases e
  · rw [d _ l5] at e; cases e
  · rw [d _ l6] at e; cases e
theorem TwoS.pass {i : Nat} (h : (i != k0 && i != k1 && i != k2 && i != a1 && i != a2 && i != s1 && i != s2) = true) : Pass (TwoS W k0 k1 k2 a1 a2 t1 t2 Z1 Z2 R0 R1 R2 s1 s2) i := fun L m w hS => by
  simp only [Bool.and_eq_true, bne_iff_ne] at h
  obtain ⟨⟨⟨⟨⟨⟨x0, x1⟩, x2⟩, y1⟩, y2⟩, z1⟩, z2⟩ := h
  unfold TwoS at *
  rw [dn_ne (Ne.symm z1), dn_ne (Ne.symm z2)]
  exact ⟨fun e => (hS.1 e).set ⟨x0, x1, x2, y1, y2⟩, hS.2⟩
theorem TwoS.any (hS : TwoS W k0 k1 k2 a1 a2 t1 t2 Z1 Z2 R0 R1 R2 s1 s2 L m w) : Below W.heap.size W w := by
  cases h1 : Dn L s1
  · exact (hS.1 h1).bel
  · cases h2 : Dn L s2
    · obtain ⟨_, _, _, _, h⟩ := hS.2.1 h1 h2; exact h.bel
    · obtain ⟨_, _, _, _, _, _, h⟩ := hS.2.2 h2; exact h.bel
theorem TwoS.at0 (hS : TwoS W k0 k1 k2 a1 a2 t1 t2 Z1 Z2 R0 R1 R2 s1 s2 L m w) (h1 : Dn L s1 = false) : TwoA W k0 k1 k2 a1 a2 t1 t2 Z1 Z2 R0 R1 R2 L m w := hS.1 h1
/-- a variable is made: the first -/
theorem TwoS.make1 (hS : TwoS W k0 k1 k2 a1 a2 t1 t2 Z1 Z2 R0 R1 R2 s1 s2 L m w) (H0 : Res R0) (H1 : Res R1) (H2 : Res R2) (hs : Dn L s1 = false) (hs2 : Dn L s2 = false) (hn : (a1 != k0 && a1 != k1 && a1 != k2 && a1 != a2 && a1 != s1 && a1 != s2) = true) :
    TwoS W k0 k1 k2 a1 a2 t1 t2 Z1 Z2 R0 R1 R2 s1 s2 (L.setIfInBounds a1 true) (upd m a1 (pt w.heap.size)) (w.alloc (.cells Z1 t1)) := by
  simp only [Bool.and_eq_true, bne_iff_ne] at hn
  obtain ⟨⟨⟨⟨⟨x0, x1⟩, x2⟩, y2⟩, z1⟩, z2⟩ := hn
  have h := hS.1 hs
  have q := bl_al (Below.refl w.heap.size w) (.cells Z1 t1)
  have hav : ∀ b, Av a1 a2 m b → b < w.heap.size → Av a1 a2 (upd m a1 (pt w.heap.size)) b := fun b hb hl => ⟨by rw [upd_same]; intro e; have := pt_inj e; omega, by rw [upd_ne (Ne.symm y2)]; exact hb.2⟩
  refine ⟨fun _ => ⟨bl_ca h.bel q, fun _ => ⟨_, upd_same _ _ _, h.bel.size, Blk.new _ _ _⟩, fun e => ?_, fun e => ?_, fun e => ?_, fun _ e => ?_, fun e => ?_, fun e => ?_, fun e => ?_⟩, fun e => ?_, fun e => ?_⟩
  · rw [dn_eq] at e; cases e
  · rw [dn_ne (Ne.symm y2)] at e
    obtain ⟨g, x, y, z⟩ := h.v2 e
    exact ⟨g, by rw [upd_ne (Ne.symm y2)]; exact x, y, z.ca q⟩
  · rw [dn_ne (Ne.symm y2)] at e; rw [upd_ne (Ne.symm y2)]; exact h.n2 e
  · rw [dn_ne (Ne.symm y2)] at e
    obtain ⟨g, x, _, z⟩ := h.v2 e
    rw [upd_same, upd_ne (Ne.symm y2), x]
    intro e'
    have := pt_inj e'
    have := z.lt
    omega
  · rw [dn_ne (Ne.symm x0)] at e; rw [upd_ne (Ne.symm x0)]; exact H0.keep (fun b _ hb => q.block b hb) (H0.weak hav (h.r0 e))
  · rw [dn_ne (Ne.symm x1)] at e; rw [upd_ne (Ne.symm x1)]; exact H1.keep (fun b _ hb => q.block b hb) (H1.weak hav (h.r1 e))
  · rw [dn_ne (Ne.symm x2)] at e; rw [upd_ne (Ne.symm x2)]; exact H2.keep (fun b _ hb => q.block b hb) (H2.weak hav (h.r2 e))
  · rw [dn_ne (Ne.symm z1), hs] at e; cases e
  · rw [dn_ne (Ne.symm z2), hs2] at e; cases e
/-- a variable is made: the second -/
theorem TwoS.make2 (hS : TwoS W k0 k1 k2 a1 a2 t1 t2 Z1 Z2 R0 R1 R2 s1 s2 L m w) (H0 : Res R0) (H1 : Res R1) (H2 : Res R2) (hs : Dn L s1 = false) (hs2 : Dn L s2 = false) (hn : (a2 != k0 && a2 != k1 && a2 != k2 && a2 != a1 && a2 != s1 && a2 != s2) = true) :
    TwoS W k0 k1 k2 a1 a2 t1 t2 Z1 Z2 R0 R1 R2 s1 s2 (L.setIfInBounds a2 true) (upd m a2 (pt w.heap.size)) (w.alloc (.cells Z2 t2)) := by
  simp only [Bool.and_eq_true, bne_iff_ne] at hn
  obtain ⟨⟨⟨⟨⟨x0, x1⟩, x2⟩, y2⟩, z1⟩, z2⟩ := hn
  have h := hS.1 hs
  have q := bl_al (Below.refl w.heap.size w) (.cells Z2 t2)
  have hav : ∀ b, Av a1 a2 m b → b < w.heap.size → Av a1 a2 (upd m a2 (pt w.heap.size)) b := fun b hb hl => ⟨by rw [upd_ne (Ne.symm y2)]; exact hb.1, by rw [upd_same]; intro e; have := pt_inj e; omega⟩
  refine ⟨fun _ => ⟨bl_ca h.bel q, fun e => ?_, fun e => ?_, fun _ => ⟨_, upd_same _ _ _, h.bel.size, Blk.new _ _ _⟩, fun e => ?_, fun e _ => ?_, fun e => ?_, fun e => ?_, fun e => ?_⟩, fun e => ?_, fun e => ?_⟩
  · rw [dn_ne (Ne.symm y2)] at e
    obtain ⟨g, x, y, z⟩ := h.v1 e
    exact ⟨g, by rw [upd_ne (Ne.symm y2)]; exact x, y, z.ca q⟩
  · rw [dn_ne (Ne.symm y2)] at e; rw [upd_ne (Ne.symm y2)]; exact h.n1 e
  · rw [dn_eq] at e; cases e
  · rw [dn_ne (Ne.symm y2)] at e
    obtain ⟨g, x, _, z⟩ := h.v1 e
    rw [upd_same, upd_ne (Ne.symm y2), x]
    intro e'
    have := pt_inj e'
    have := z.lt
    omega
  · rw [dn_ne (Ne.symm x0)] at e; rw [upd_ne (Ne.symm x0)]; exact H0.keep (fun b _ hb => q.block b hb) (H0.weak hav (h.r0 e))
  · rw [dn_ne (Ne.symm x1)] at e; rw [upd_ne (Ne.symm x1)]; exact H1.keep (fun b _ hb => q.block b hb) (H1.weak hav (h.r1 e))
  · rw [dn_ne (Ne.symm x2)] at e; rw [upd_ne (Ne.symm x2)]; exact H2.keep (fun b _ hb => q.block b hb) (H2.weak hav (h.r2 e))
  · rw [dn_ne (Ne.symm z1), hs] at e; cases e
  · rw [dn_ne (Ne.symm z2), hs2] at e; cases e
/-- what a call answers leads to no variable that was made before it: an answer in new memory, or in memory that was there -/
theorem TwoA.avoid (h : TwoA W k0 k1 k2 a1 a2 t1 t2 Z1 Z2 R0 R1 R2 L m w) {b : Nat} (hb : b < W.heap.size ∨ w.heap.size ≤ b) : Av a1 a2 m b := by
  constructor
  · cases e : Dn L a1
    · rw [h.n1 e]; exact undef_pt b
    · obtain ⟨g, x, y, z⟩ := h.v1 e
      rw [x]
      intro e'
      have := pt_inj e'
      have := z.lt
      omega
  · cases e : Dn L a2
    · rw [h.n2 e]; exact undef_pt b
    · obtain ⟨g, x, y, z⟩ := h.v2 e
      rw [x]
      intro e'
      have := pt_inj e'
      have := z.lt
      omega
/-- a call has answered -/
theorem TwoS.call {v : Value} {i : Nat} (hS : TwoS W k0 k1 k2 a1 a2 t1 t2 Z1 Z2 R0 R1 R2 s1 s2 L m w) (H0 : Res R0) (H1 : Res R1) (H2 : Res R2) (hs : Dn L s1 = false) (hs2 : Dn L s2 = false) (hn : (i != a1 && i != a2 && i != s1 && i != s2) = true) (q : Below w.heap.size w w')
    (c0 : i = k0 → R0 v (Av a1 a2 m) w') (c1 : i = k1 → R1 v (Av a1 a2 m) w') (c2 : i = k2 → R2 v (Av a1 a2 m) w') : TwoS W k0 k1 k2 a1 a2 t1 t2 Z1 Z2 R0 R1 R2 s1 s2 (L.setIfInBounds i true) (upd m i v) w' := by
  simp only [Bool.and_eq_true, bne_iff_ne] at hn
  obtain ⟨⟨⟨y1, y2⟩, z1⟩, z2⟩ := hn
  have h := (hS.1 hs).mono H0 H1 H2 q
  have hav : ∀ b, Av a1 a2 m b → Av a1 a2 (upd m i v) b := fun b hb => ⟨by rw [upd_ne (Ne.symm y1)]; exact hb.1, by rw [upd_ne (Ne.symm y2)]; exact hb.2⟩
  have key : ∀ {R : Value → (Nat → Prop) → World → Prop} {k : Nat}, Res R → (Dn L k = true → R (m k) (Av a1 a2 m) w') → (i = k → R v (Av a1 a2 m) w') → Dn (L.setIfInBounds i true) k = true → R (upd m i v k) (Av a1 a2 (upd m i v)) w' := fun {R k} hR h1 h2 e => by
    by_cases ik : i = k
    · subst ik; rw [upd_same]; exact hR.weak (fun b hb _ => hav b hb) (h2 rfl)
    · rw [dn_ne (Ne.symm ik)] at e; rw [upd_ne (Ne.symm ik)]; exact hR.weak (fun b hb _ => hav b hb) (h1 e)
  refine ⟨fun _ => ⟨h.bel, fun e => ?_, fun e => ?_, fun e => ?_, fun e => ?_, fun e f => ?_, key H0 h.r0 c0, key H1 h.r1 c1, key H2 h.r2 c2⟩, fun e => ?_, fun e => ?_⟩
  · rw [dn_ne (Ne.symm y1)] at e; rw [upd_ne (Ne.symm y1)]; exact h.v1 e
  · rw [dn_ne (Ne.symm y1)] at e; rw [upd_ne (Ne.symm y1)]; exact h.n1 e
  · rw [dn_ne (Ne.symm y2)] at e; rw [upd_ne (Ne.symm y2)]; exact h.v2 e
  · rw [dn_ne (Ne.symm y2)] at e; rw [upd_ne (Ne.symm y2)]; exact h.n2 e
  · rw [dn_ne (Ne.symm y1)] at e; rw [dn_ne (Ne.symm y2)] at f; rw [upd_ne (Ne.symm y1), upd_ne (Ne.symm y2)]; exact h.ne e f
  · rw [dn_ne (Ne.symm z1), hs] at e; cases e
  · rw [dn_ne (Ne.symm z2), hs2] at e; cases e
/-- all is ready for the first store -/
theorem TwoS.ready1 (hS : TwoS W k0 k1 k2 a1 a2 t1 t2 Z1 Z2 R0 R1 R2 s1 s2 L m w) (hs : Dn L s1 = false) (d1 : Dn L a1 = true) (d2 : Dn L a2 = true) (e1 : Dn L k1 = true) (e2 : Dn L k2 = true) : ∃ g1 g2, TwoB W k1 k2 a1 a2 t1 t2 R1 R2 Z1 Z2 g1 g2 m w := by
  have h := hS.1 hs
  obtain ⟨g1, x1, y1, b1⟩ := h.v1 d1
  obtain ⟨g2, x2, y2, b2⟩ := h.v2 d2
  exact ⟨g1, g2, x1, x2, fun e => h.ne d1 d2 (by rw [x1, x2, e]), y1, y2, b1, b2, h.bel, h.r1 e1, h.r2 e2⟩
theorem TwoB.store1 {z1 z2 c : Array Value} {g1 g2 : Nat} (h : TwoB W k1 k2 a1 a2 t1 t2 R1 R2 z1 z2 g1 g2 m w) (H1 : Res R1) (H2 : Res R2) (hb : Blk w' g1 t1 c) (hg : w.grownBy w' (some g1)) : TwoB W k1 k2 a1 a2 t1 t2 R1 R2 c z2 g1 g2 m w' :=
  ⟨h.e1, h.e2, h.ne, h.l1, h.l2, hb, h.b2.apart hg (fun e => h.ne e.symm), bl_gr h.bel hg h.l1,
    H1.keep (fun b hb hl => hg.block b hl (fun e => hb.1 (by rw [h.e1]; injection e with e; rw [e]))) h.r1, H2.keep (fun b hb hl => hg.block b hl (fun e => hb.1 (by rw [h.e1]; injection e with e; rw [e]))) h.r2⟩
theorem TwoB.store2 {z1 z2 c : Array Value} {g1 g2 : Nat} (h : TwoB W k1 k2 a1 a2 t1 t2 R1 R2 z1 z2 g1 g2 m w) (H1 : Res R1) (H2 : Res R2) (hb : Blk w' g2 t2 c) (hg : w.grownBy w' (some g2)) : TwoB W k1 k2 a1 a2 t1 t2 R1 R2 z1 c g1 g2 m w' :=
  ⟨h.e1, h.e2, h.ne, h.l1, h.l2, h.b1.apart hg h.ne, hb, bl_gr h.bel hg h.l2,
    H1.keep (fun b hb hl => hg.block b hl (fun e => hb.2 (by rw [h.e2]; injection e with e; rw [e]))) h.r1, H2.keep (fun b hb hl => hg.block b hl (fun e => hb.2 (by rw [h.e2]; injection e with e; rw [e]))) h.r2⟩
theorem TwoS.set1 {c1 : Array Value} {g1 g2 : Nat} (hs2 : Dn L s2 = false) (hne : s2 ≠ s1) (hk : m k1 = .agg c1) (h : TwoB W k1 k2 a1 a2 t1 t2 R1 R2 c1 Z2 g1 g2 m w) : TwoS W k0 k1 k2 a1 a2 t1 t2 Z1 Z2 R0 R1 R2 s1 s2 (L.setIfInBounds s1 true) m w :=
  ⟨fun e => (by rw [dn_eq] at e; cases e), fun _ _ => ⟨g1, g2, c1, hk, h⟩, fun e => (by rw [dn_ne hne, hs2] at e; cases e)⟩
theorem TwoS.at1 (hS : TwoS W k0 k1 k2 a1 a2 t1 t2 Z1 Z2 R0 R1 R2 s1 s2 L m w) (h1 : Dn L s1 = true) (h2 : Dn L s2 = false) : ∃ g1 g2 c1, m k1 = .agg c1 ∧ TwoB W k1 k2 a1 a2 t1 t2 R1 R2 c1 Z2 g1 g2 m w := hS.2.1 h1 h2
theorem TwoS.set2 {c1 c2 : Array Value} {g1 g2 : Nat} (hne : s1 ≠ s2) (h1 : Dn L s1 = true) (hk : m k1 = .agg c1) (hk2 : m k2 = .agg c2) (h : TwoB W k1 k2 a1 a2 t1 t2 R1 R2 c1 c2 g1 g2 m w) : TwoS W k0 k1 k2 a1 a2 t1 t2 Z1 Z2 R0 R1 R2 s1 s2 (L.setIfInBounds s2 true) m w :=
  ⟨fun e => (by rw [dn_ne hne, h1] at e; cases e), fun _ e => (by rw [dn_eq] at e; cases e), fun _ => ⟨g1, g2, c1, c2, hk, hk2, h⟩⟩
theorem TwoS.fin (hS : TwoS W k0 k1 k2 a1 a2 t1 t2 Z1 Z2 R0 R1 R2 s1 s2 L m w) (h2 : Dn L s2 = true) : ∃ g1 g2 c1 c2, m k1 = .agg c1 ∧ m k2 = .agg c2 ∧ TwoB W k1 k2 a1 a2 t1 t2 R1 R2 c1 c2 g1 g2 m w := hS.2.2 h2
end
end Go.Proofs.Ytojghgbaiiajfaa
/- Arguments that are slices of numbers. Conditions: none. -/
namespace Go.Proofs.Ytojghgbaiiajfaa
open Go.ChangeShapes Go.WideShapes Go.ChangeAt Go.RowKit Go.Deep
theorem Try.own : ownKnob Try.prog.godebug = none := by kernel_rfl
theorem Try.laidOut : laidOutB Try.prog = true := by kernel_rfl
set_option maxRecDepth 100000 in
theorem opens_ints : Opens Try.prog 23 LI.slice (fun xs => ∀ x ∈ xs, (Lit.int .i64 x).wf = true) :=
  opens_slice Try.underlying23 (by kernel_rfl) (by decide) (opens_int Try.underlying3 (by kernel_rfl))
set_option maxRecDepth 100000 in
theorem opens_u32s : Opens Try.prog 22 LU.slice (fun xs => ∀ x ∈ xs, (Lit.int .u32 x).wf = true) :=
  opens_slice Try.underlying22 (by kernel_rfl) (by decide) (opens_int Try.underlying25 (by kernel_rfl))
theorem open_intl {H : Type} {enc : TypeId × Value → H} {W : World} {A : Option Addr} {n c : Nat} {d : DataW H} {p : List MemPlace} (h : DataW.Trod enc Try.prog W 0 (fun _ => true) true 23 (.slice A n c) d p) :
    ∃ xs, LI.rd W AllB A n xs ∧ (∀ x ∈ xs, (Lit.int .i64 x).wf = true) ∧ n ≤ c ∧ c ≤ 9223372036854775807 := open_arg opens_ints h
theorem open_u32l {H : Type} {enc : TypeId × Value → H} {W : World} {A : Option Addr} {n c : Nat} {d : DataW H} {p : List MemPlace} (h : DataW.Trod enc Try.prog W 0 (fun _ => true) true 22 (.slice A n c) d p) :
    ∃ xs, LU.rd W AllB A n xs ∧ (∀ x ∈ xs, (Lit.int .u32 x).wf = true) ∧ n ≤ c ∧ c ≤ 9223372036854775807 := open_arg opens_u32s h
end Go.Proofs.Ytojghgbaiiajfaa
