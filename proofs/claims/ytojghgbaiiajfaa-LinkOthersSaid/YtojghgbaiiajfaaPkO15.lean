/- link.SameReceiver. Conditions: the slices read so. -/
import Derived.Test.YtojghgbaiiajfaaPkO14
namespace Go.Proofs.Ytojghgbaiiajfaa
open Go.RowKit
set_option maxRecDepth 100000 in
set_option maxHeartbeats 8000000 in
theorem held_any (F G : Nat → Prop) (a b : HC) (A B : Option Addr) (m c n d : Nat) (w : World) (hx : LR.rd w F A m a.b.rows) (hy : LR.rd w G B n b.b.rows) (hm : m ≤ 9223372036854775807) :
    Calls Try.prog 72 #[.agg #[.int .u64 a.seq, .slice A m c, .bool a.b.fin, .int .u64 a.b.cnt], .agg #[.int .u64 b.seq, .slice B n d, .bool b.b.fin, .int .u64 b.b.cnt]] w fun e w' => e = .returned (.bool (eqHC a b)) ∧ Below w.heap.size w w' := by
  obtain ⟨r, hr⟩ : ∃ r, r = eqHC a b := ⟨_, rfl⟩
  rw [← hr]
  have HRR := Lib.hid hr
  clear hr
  obtain ⟨s1, r1, f1, c1⟩ := a
  obtain ⟨s2, r2, f2, c2⟩ := b
  dsimp only at hx hy
  have q1 := bl_al (Below.refl w.heap.size w) (.cells #[.int .u64 s1, .slice A m c, .bool f1, .int .u64 c1] 81)
  have q2 := bl_al q1 (.cells #[.int .u64 s2, .slice B n d, .bool f2, .int .u64 c2] 81)
  have HX := Lib.hid (Lay.rd_below hx q2)
  have HY := Lib.hid (Lay.rd_below hy q2)
  have HB1 := Lib.hid ((Blk.new w 81 #[.int .u64 s1, .slice A m c, .bool f1, .int .u64 c1]).alloc (.cells #[.int .u64 s2, .slice B n d, .bool f2, .int .u64 c2] 81))
  have HB2 := Lib.hid (show Blk ((w.alloc (.cells #[.int .u64 s1, .slice A m c, .bool f1, .int .u64 c1] 81)).alloc (.cells #[.int .u64 s2, .slice B n d, .bool f2, .int .u64 c2] 81)) (w.heap.size + 1) 81 #[.int .u64 s2, .slice B n d, .bool f2, .int .u64 c2] from by have := Blk.new (w.alloc (.cells #[.int .u64 s1, .slice A m c, .bool f1, .int .u64 c1] 81)) 81 #[.int .u64 s2, .slice B n d, .bool f2, .int .u64 c2]; simp only [World.size_alloc] at this; exact this)
  have HQ := Lib.hid q2
  clear hx hy q1 q2
  go_enter Try.func72, Try.ntmps72
  go_upto_region 1 with fail
  generalize ((w.alloc (.cells #[.int .u64 s1, .slice A m c, .bool f1, .int .u64 c1] 81)).alloc (.cells #[.int .u64 s2, .slice B n d, .bool f2, .int .u64 c2] 81)) = w1 at *
  refine wp_region_ps0 .text (S := fun _ _ w' => Below w1.heap.size w1 w') (by kernel_rfl) ?spswg1 ?ppswg1
  case spswg1 =>
    exact (Below.refl w1.heap.size w1)
  refine Ps.st (i := 0) (d := some 5) (u := (.pointer (some ⟨w.heap.size, 0, none⟩))) rfl rfl (by exact StepS.pure nP rfl fun _ => rfl) ?_
  try simp only [Act.put, sA, sZ, sS]
  refine Ps.st (i := 1) (d := some 6) (u := (.int .u64 (s1))) rfl rfl ?ywg1_3 ?rwg1_3
  case ywg1_3 =>
    refine StepS.read [] (by kernel_rfl) nP (by rfl) (fun L9 m9 w9 hSh hAt hDn hS => ?_)
    have hT : Below _ _ w9 := hS
    have x0 : w9.cell? ⟨w.heap.size, 0, none⟩ = some (.int .u64 (s1)) := (HB1.out.ca hT).cell 0
    clear hT hS
    go_simp
    try rfl
  try simp only [Act.put, sA, sZ, sS]
  refine Ps.st (i := 2) (d := some 7) (u := (.pointer (some ⟨w.heap.size + 1, 0, none⟩))) rfl rfl (by exact StepS.pure nP rfl fun _ => rfl) ?_
  try simp only [Act.put, sA, sZ, sS]
  refine Ps.st (i := 3) (d := some 8) (u := (.int .u64 (s2))) rfl rfl ?ywg1_5 ?rwg1_5
  case ywg1_5 =>
    refine StepS.read [] (by kernel_rfl) nP (by rfl) (fun L9 m9 w9 hSh hAt hDn hS => ?_)
    have hT : Below _ _ w9 := hS
    have x0 : w9.cell? ⟨w.heap.size + 1, 0, none⟩ = some (.int .u64 (s2)) := (HB2.out.ca hT).cell 0
    clear hT hS
    go_simp
    try rfl
  try simp only [Act.put, sA, sZ, sS]
  refine Ps.st (i := 4) (d := some 9) (u := (.bool (decide (s1 = s2)))) rfl rfl (by exact StepS.pure nP rfl fun _ => rfl) ?_
  try simp only [Act.put, sA, sZ, sS]
  obtain ⟨b1_5, hb9⟩ : ∃ b : Bool, b = (decide (s1 = s2)) := ⟨_, rfl⟩
  have HEb1_5 := Lib.hid hb9
  clear hb9
  refine Ps.st (i := 5) (d := some 10) (u := (.bool (b1_5))) rfl rfl ?ywg1_7 ?rwg1_7
  case ywg1_7 =>
    refine StepS.pure nP (by rfl) (fun w9 => ?_)
    have e9 : (decide (s1 = s2)) = b1_5 := by rw [HEb1_5.out]
    rw [← e9]
    clear e9
    first | rfl | (go_simp; done) | (go_simp; rfl)
  try simp only [Act.put, sA, sZ, sS]
  refine Ps.st (i := 6) (d := some 11) (u := (cond b1_5 (.pointer (some ⟨w.heap.size, 1, none⟩)) (undef))) rfl rfl (by cases b1_5; exact StepS.skip nP rfl; exact StepS.pure nP rfl fun _ => rfl) ?_
  try simp only [Act.put, sA, sZ, sS]
  refine Ps.st (i := 7) (d := some 12) (u := (cond b1_5 (.agg #[.slice A m c, .bool (f1), .int .u64 (c1)]) (undef))) rfl rfl ?ywg1_9 ?rwg1_9
  case ywg1_9 =>
    cases b1_5
    · exact StepS.skip nP (by rfl)
    · skip
      refine StepS.read [] (by kernel_rfl) nP (by rfl) (fun L9 m9 w9 hSh hAt hDn hS => ?_)
      have hT : Below _ _ w9 := hS
      have x0 : w9.cell? ⟨w.heap.size, 1, none⟩ = some (.slice A m c) := (HB1.out.ca hT).cell 1
      have x1 : w9.cell? ⟨w.heap.size, 2, none⟩ = some (.bool (f1)) := (HB1.out.ca hT).cell 2
      have x2 : w9.cell? ⟨w.heap.size, 3, none⟩ = some (.int .u64 (c1)) := (HB1.out.ca hT).cell 3
      clear hT hS
      go_simp
      try rfl
  try simp only [Act.put, sA, sZ, sS]
  refine Ps.st (i := 8) (d := some 13) (u := (cond b1_5 (.pointer (some ⟨w.heap.size + 1, 1, none⟩)) (undef))) rfl rfl (by cases b1_5; exact StepS.skip nP rfl; exact StepS.pure nP rfl fun _ => rfl) ?_
  try simp only [Act.put, sA, sZ, sS]
  refine Ps.st (i := 9) (d := some 14) (u := (cond b1_5 (.agg #[.slice B n d, .bool (f2), .int .u64 (c2)]) (undef))) rfl rfl ?ywg1_11 ?rwg1_11
  case ywg1_11 =>
    cases b1_5
    · exact StepS.skip nP (by rfl)
    · skip
      refine StepS.read [] (by kernel_rfl) nP (by rfl) (fun L9 m9 w9 hSh hAt hDn hS => ?_)
      have hT : Below _ _ w9 := hS
      have x0 : w9.cell? ⟨w.heap.size + 1, 1, none⟩ = some (.slice B n d) := (HB2.out.ca hT).cell 1
      have x1 : w9.cell? ⟨w.heap.size + 1, 2, none⟩ = some (.bool (f2)) := (HB2.out.ca hT).cell 2
      have x2 : w9.cell? ⟨w.heap.size + 1, 3, none⟩ = some (.int .u64 (c2)) := (HB2.out.ca hT).cell 3
      clear hT hS
      go_simp
      try rfl
  try simp only [Act.put, sA, sZ, sS]
  refine Ps.st (i := 10) (d := some 15) (u := (cond b1_5 (.bool (eqBC ⟨r1, f1, c1⟩ ⟨r2, f2, c2⟩)) (undef))) rfl rfl ?ywg1_12 ?rwg1_12
  case ywg1_12 =>
    cases b1_5
    · exact StepS.skip nP (by rfl)
    · skip
      refine StepS.call ?fwg1_12 ?awg1_12 [] (by kernel_rfl) (by rfl) (fun w9 => ?hwg1_12) (fun L9 m9 w9 hSh hAt hDn hS => ?cwg1_12)
      case hwg1_12 => go_simp; refine ⟨?_, ?_⟩ <;> rfl
      case cwg1_12 =>
        have hT : Below _ _ w9 := hS
        refine (lsame_any F G ⟨r1, f1, c1⟩ ⟨r2, f2, c2⟩ A B m c n d w9 (Lay.rd_below HX.out hT) (Lay.rd_below HY.out hT) hm).mono ?_
        rintro e w8 ⟨rfl, q8⟩
        exact ⟨rfl, bl_ca hT q8⟩
  try simp only [Act.put, sA, sZ, sS]
  obtain ⟨f1x, hb9⟩ : ∃ b : Bool, b = ((decide (s1 = s2)) && (eqBC ⟨r1, f1, c1⟩ ⟨r2, f2, c2⟩)) := ⟨_, rfl⟩
  have HEf1x := Lib.hid hb9
  clear hb9
  refine Ps.st (i := 11) (d := some 16) (u := (.bool (f1x))) rfl rfl ?ywg1_13 ?rwg1_13
  case ywg1_13 =>
    refine StepS.pure nP (by rfl) (fun w9 => ?_)
    have e9 : (b1_5 && (eqBC ⟨r1, f1, c1⟩ ⟨r2, f2, c2⟩)) = f1x := by rw [HEf1x.out, HEb1_5.out]
    rw [← e9]
    clear e9
    cases b1_5 <;> (first | rfl | (go_simp; done) | (go_simp; rfl))
  try simp only [Act.put, sA, sZ, sS]
  refine Ps.st (i := 12) (d := some 4) (u := (.bool (f1x))) rfl rfl (by exact StepS.pure nP rfl fun _ => rfl) ?_
  try simp only [Act.put, sA, sZ, sS]
  refine Ps.done (by kernel_rfl) (fun wg1 hS => ?_) _
  try generalize (cond b1_5 (.agg #[.slice A m c, .bool (f1), .int .u64 (c1)]) (undef) : Value) = zz15
  try generalize (cond b1_5 (.agg #[.slice B n d, .bool (f2), .int .u64 (c2)]) (undef) : Value) = zz16
  try generalize (cond b1_5 (.pointer (some ⟨w.heap.size + 1, 1, none⟩)) (undef) : Value) = zz17
  try generalize (cond b1_5 (.bool (eqBC ⟨r1, f1, c1⟩ ⟨r2, f2, c2⟩)) (undef) : Value) = zz18
  try generalize (cond b1_5 (.pointer (some ⟨w.heap.size, 1, none⟩)) (undef) : Value) = zz19
  have HW20 := Lib.hid (show Below w1.heap.size w1 wg1 from hS)
  clear hS
  obtain ⟨w121, rfl⟩ : ∃ x, x = wg1 := ⟨_, rfl⟩
  go_wp2
  go_ret
  exact ⟨ret_bool (by rw [HRR.out, HEf1x.out]; rfl), bl_ca HQ.out HW20.out⟩
set_option maxRecDepth 100000 in
set_option maxHeartbeats 8000000 in
theorem eqfH (F G : Nat → Prop) (A B : Option Addr) (m c n d : Nat) (xs ys : List HC) (w : World) (hx : LH4.rd w F A m xs) (hy : LH4.rd w G B n ys) (hm : m ≤ 9223372036854775807) :
    Calls Try.prog 73 #[.slice A m c, .slice B n d, .func (.func 72) #[] #[]] w fun e w' => e = .returned (.bool (decide (xs = ys))) ∧ Below w.heap.size w w' := by
  have hxl := Lay.rd_len hx
  have hyl := Lay.rd_len hy
  by_cases hmn : m = n
  · subst hmn
    obtain ⟨r, hr⟩ : ∃ r, r = decide (xs = ys) := ⟨_, rfl⟩
    rw [← hr]
    have HR := Lib.hid hr
    have HXL := Lib.hid hxl
    have HYL := Lib.hid hyl
    have HEN : ∀ (args : Array Value) (w : World), (callFunc 72 args).run Try.prog w = .ok (.enter 72 args) w := Go.Proofs.enters_of Try.func72 (by kernel_rfl) rfl
    clear hr hxl hyl
    go_enter Try.func73, Try.ntmps73
    go_wp2_with fail
    go_loopg [17] m (fun g s wr => ∃ i : Nat, i + g ≤ m ∧ m ≤ i + g ∧ s = .int .i64 i ∧ xs.take i = ys.take i ∧ Below w.heap.size w wr)
    case atStart => exact ⟨0, by omega, by omega, rfl, rfl, Below.refl _ _⟩
    case round =>
      obtain ⟨i, hi1, hi2, rfl, hp, bb⟩ := hrel
      have HBB := Lib.hid bb
      have HP := Lib.hid hp
      clear hp
      by_cases hi : i < m
      · have hil : (i : Int) < (m : Int) := by omega
        obtain ⟨p1, v, B1, k1, c1, rfl, hv, s1⟩ := LH4_at (Lay.rd_below hx bb) hi
        have q1 := bl_al (Below.refl wr.heap.size wr) (.cells #[.int .u64 v.seq, .slice B1 k1 c1, .bool v.b.fin, .int .u64 v.b.cnt] 81)
        obtain ⟨p2, u, B2, k2, c2, rfl, hu, s2⟩ := LH4_at (Lay.rd_below hy (bl_ca bb q1)) hi
        have e0 := s1.c0
        have e1 := s1.c1
        have e2 := s1.c2
        have e3 := s1.c3
        have f0 := s2.c0
        have f1 := s2.c1
        have f2 := s2.c2
        have f3 := s2.c3
        have q2 := bl_al (Below.refl (wr.alloc (.cells #[.int .u64 v.seq, .slice B1 k1 c1, .bool v.b.fin, .int .u64 v.b.cnt] 81)).heap.size (wr.alloc (.cells #[.int .u64 v.seq, .slice B1 k1 c1, .bool v.b.fin, .int .u64 v.b.cnt] 81))) (.cells #[.int .u64 u.seq, .slice B2 k2 c2, .bool u.b.fin, .int .u64 u.b.cnt] 81)
        have HC := Lib.hid (held_any F G v u B1 B2 k1 c1 k2 c2 _ (Lay.rd_below (Lay.rd_below s1.rd q1) q2) (Lay.rd_below s2.rd q2) (Nat.le_trans s1.nc s1.cm))
        have HB2 := Lib.hid (bl_ca (bl_ca bb q1) q2)
        clear s1 s2 q1 q2
        have HVI := Lib.hid hv
        have HUI := Lib.hid hu
        clear hv hu hx hy bb
        by_cases hvu : v = u
        · have HP2 := Lib.hid (show xs.take (i + 1) = ys.take (i + 1) from by rw [List.take_add_one, List.take_add_one, HP.out, HVI.out, HUI.out, hvu])
          have HVU := Lib.hid hvu
          clear hvu
          rw [show eqHC v u = true from (eqHC_iff v u).2 HVU.out] at HC
          clear HVU
          obtain ⟨sv, rv, fv, nv⟩ := v
          obtain ⟨su, ru, fu, nu⟩ := u
          dsimp only at e0 e1 e2 e3 f0 f1 f2 f3 HC HB2
          go_wp2_with fail
          refine HC.out.mono ?_
          rintro e w2 ⟨rfl, q2⟩
          have HBN := Lib.hid (bl_ca HB2.out q2)
          clear q2 e0 e1 e2 e3 f0 f1 f2 f3
          go_wp2
          go_roundg (gk - 1)
          · exact ⟨i + 1, by omega, by omega, by go_num, HP2.out, HBN.out⟩
          · omega
        · have HF := Lib.hid (show r = false from by
            rw [HR.out]
            refine decide_eq_false fun e => hvu ?_
            have h1 := HVI.out
            rw [e, HUI.out] at h1
            injection h1 with h1
            exact h1.symm)
          have HVU := Lib.hid hvu
          clear hvu
          rw [show eqHC v u = false from by cases he : eqHC v u; rfl; exact absurd ((eqHC_iff v u).1 he) HVU.out] at HC
          clear HVU
          obtain ⟨sv, rv, fv, nv⟩ := v
          obtain ⟨su, ru, fu, nu⟩ := u
          dsimp only at e0 e1 e2 e3 f0 f1 f2 f3 HC HB2
          go_wp2_with fail
          refine HC.out.mono ?_
          rintro e w2 ⟨rfl, q2⟩
          have HBN := Lib.hid (bl_ca HB2.out q2)
          clear q2 e0 e1 e2 e3 f0 f1 f2 f3
          go_wp2
          go_ret
          exact ⟨ret_bool (by rw [HF.out]), HBN.out⟩
      · obtain rfl : i = m := by omega
        have hil : (i : Int) ≤ (i : Int) := by omega
        have HT := Lib.hid (show r = true from by
          have hp := HP.out
          rw [List.take_of_length_le (by rw [HXL.out]; omega), List.take_of_length_le (by rw [HYL.out]; omega)] at hp
          rw [HR.out]
          exact decide_eq_true hp)
        clear hx hy bb
        go_wp2
        go_ret
        exact ⟨ret_bool (by rw [HT.out]), HBB.out⟩
  · have e : decide (xs = ys) = false := decide_eq_false fun e => hmn (by rw [← hxl, ← hyl, e])
    rw [e]
    clear e hx hy hxl hyl
    go_enter Try.func73, Try.ntmps73
    go_wp2
    go_ret
    exact ⟨rfl, Below.refl _ _⟩

set_option maxRecDepth 100000 in
set_option maxHeartbeats 8000000 in
theorem sameR_any (F G : Nat → Prop) (a b : RC) (A1 : Option Addr) (m1 c1 : Nat) (A2 : Option Addr) (m2 c2 : Nat) (B1 : Option Addr) (n1 d1 : Nat) (B2 : Option Addr) (n2 d2 : Nat) (w : World)
    (hx : LH4.rd w F A1 m1 a.ahead) (hx2 : LB3.rd w F A2 m2 a.buf) (hy : LH4.rd w G B1 n1 b.ahead) (hy2 : LB3.rd w G B2 n2 b.buf) (hm : m1 ≤ 9223372036854775807) (hm2 : m2 ≤ 9223372036854775807) :
    Calls Try.prog 25 #[.agg (a.cells A1 m1 c1 A2 m2 c2), .agg (b.cells B1 n1 d1 B2 n2 d2)] w fun e w' => e = .returned (.bool (eqRC a b)) ∧ Below w.heap.size w w' := by
  obtain ⟨r, hr⟩ : ∃ r, r = eqRC a b := ⟨_, rfl⟩
  rw [← hr]
  have HRR := Lib.hid hr
  clear hr
  obtain ⟨a0, a1, ah, ab, a4, a5⟩ := a
  obtain ⟨b0, b1, bh, bb, b4, b5⟩ := b
  dsimp only at hx hx2 hy hy2
  have q1 := bl_al (Below.refl w.heap.size w) (.cells #[.int .u32 a0, .int .u64 a1, .slice A1 m1 c1, .slice A2 m2 c2, .int .i64 a4, .bool a5] 36)
  have q2 := bl_al q1 (.cells #[.int .u32 b0, .int .u64 b1, .slice B1 n1 d1, .slice B2 n2 d2, .int .i64 b4, .bool b5] 36)
  have HX := Lib.hid (And.intro (Lay.rd_below hx q2) (Lay.rd_below hx2 q2))
  have HY := Lib.hid (And.intro (Lay.rd_below hy q2) (Lay.rd_below hy2 q2))
  have HB1 := Lib.hid ((Blk.new w 36 #[.int .u32 a0, .int .u64 a1, .slice A1 m1 c1, .slice A2 m2 c2, .int .i64 a4, .bool a5]).alloc (.cells #[.int .u32 b0, .int .u64 b1, .slice B1 n1 d1, .slice B2 n2 d2, .int .i64 b4, .bool b5] 36))
  have HB2 := Lib.hid (show Blk ((w.alloc (.cells #[.int .u32 a0, .int .u64 a1, .slice A1 m1 c1, .slice A2 m2 c2, .int .i64 a4, .bool a5] 36)).alloc (.cells #[.int .u32 b0, .int .u64 b1, .slice B1 n1 d1, .slice B2 n2 d2, .int .i64 b4, .bool b5] 36)) (w.heap.size + 1) 36 #[.int .u32 b0, .int .u64 b1, .slice B1 n1 d1, .slice B2 n2 d2, .int .i64 b4, .bool b5] from by have := Blk.new (w.alloc (.cells #[.int .u32 a0, .int .u64 a1, .slice A1 m1 c1, .slice A2 m2 c2, .int .i64 a4, .bool a5] 36)) 36 #[.int .u32 b0, .int .u64 b1, .slice B1 n1 d1, .slice B2 n2 d2, .int .i64 b4, .bool b5]; simp only [World.size_alloc] at this; exact this)
  have HQ := Lib.hid q2
  clear hx hx2 hy hy2 q1 q2
  go_enter Try.func25, Try.ntmps25
  go_upto_region 1 with fail
  generalize ((w.alloc (.cells #[.int .u32 a0, .int .u64 a1, .slice A1 m1 c1, .slice A2 m2 c2, .int .i64 a4, .bool a5] 36)).alloc (.cells #[.int .u32 b0, .int .u64 b1, .slice B1 n1 d1, .slice B2 n2 d2, .int .i64 b4, .bool b5] 36)) = w1 at *
  refine wp_region_ps0 .text (S := fun _ _ w' => Below w1.heap.size w1 w') (by kernel_rfl) ?spswg22 ?ppswg22
  case spswg22 =>
    exact (Below.refl w1.heap.size w1)
  refine Ps.st (i := 0) (d := some 7) (u := (.pointer (some ⟨w.heap.size, 0, none⟩))) rfl rfl (by exact StepS.pure nP rfl fun _ => rfl) ?_
  try simp only [Act.put, sA, sZ, sS]
  refine Ps.st (i := 1) (d := some 8) (u := (.int .u32 (a0))) rfl rfl ?ywg22_24 ?rwg22_24
  case ywg22_24 =>
    refine StepS.read [] (by kernel_rfl) nP (by rfl) (fun L9 m9 w9 hSh hAt hDn hS => ?_)
    have hT : Below _ _ w9 := hS
    have x0 : w9.cell? ⟨w.heap.size, 0, none⟩ = some (.int .u32 (a0)) := (HB1.out.ca hT).cell 0
    clear hT hS
    go_simp
    try rfl
  try simp only [Act.put, sA, sZ, sS]
  refine Ps.st (i := 2) (d := some 9) (u := (.pointer (some ⟨w.heap.size + 1, 0, none⟩))) rfl rfl (by exact StepS.pure nP rfl fun _ => rfl) ?_
  try simp only [Act.put, sA, sZ, sS]
  refine Ps.st (i := 3) (d := some 10) (u := (.int .u32 (b0))) rfl rfl ?ywg22_26 ?rwg22_26
  case ywg22_26 =>
    refine StepS.read [] (by kernel_rfl) nP (by rfl) (fun L9 m9 w9 hSh hAt hDn hS => ?_)
    have hT : Below _ _ w9 := hS
    have x0 : w9.cell? ⟨w.heap.size + 1, 0, none⟩ = some (.int .u32 (b0)) := (HB2.out.ca hT).cell 0
    clear hT hS
    go_simp
    try rfl
  try simp only [Act.put, sA, sZ, sS]
  refine Ps.st (i := 4) (d := some 11) (u := (.bool (decide (a0 = b0)))) rfl rfl (by exact StepS.pure nP rfl fun _ => rfl) ?_
  try simp only [Act.put, sA, sZ, sS]
  obtain ⟨b1_5, hb9⟩ : ∃ b : Bool, b = (decide (a0 = b0)) := ⟨_, rfl⟩
  have HEb1_5 := Lib.hid hb9
  clear hb9
  refine Ps.st (i := 5) (d := some 12) (u := (.bool (b1_5))) rfl rfl ?ywg22_28 ?rwg22_28
  case ywg22_28 =>
    refine StepS.pure nP (by rfl) (fun w9 => ?_)
    have e9 : (decide (a0 = b0)) = b1_5 := by rw [HEb1_5.out]
    rw [← e9]
    clear e9
    first | rfl | (go_simp; done) | (go_simp; rfl)
  try simp only [Act.put, sA, sZ, sS]
  refine Ps.st (i := 6) (d := some 13) (u := (cond b1_5 (.pointer (some ⟨w.heap.size, 1, none⟩)) (undef))) rfl rfl (by cases b1_5; exact StepS.skip nP rfl; exact StepS.pure nP rfl fun _ => rfl) ?_
  try simp only [Act.put, sA, sZ, sS]
  refine Ps.st (i := 7) (d := some 14) (u := (cond b1_5 (.int .u64 (a1)) (undef))) rfl rfl ?ywg22_30 ?rwg22_30
  case ywg22_30 =>
    cases b1_5
    · exact StepS.skip nP (by rfl)
    · skip
      refine StepS.read [] (by kernel_rfl) nP (by rfl) (fun L9 m9 w9 hSh hAt hDn hS => ?_)
      have hT : Below _ _ w9 := hS
      have x0 : w9.cell? ⟨w.heap.size, 1, none⟩ = some (.int .u64 (a1)) := (HB1.out.ca hT).cell 1
      clear hT hS
      go_simp
      try rfl
  try simp only [Act.put, sA, sZ, sS]
  refine Ps.st (i := 8) (d := some 15) (u := (cond b1_5 (.pointer (some ⟨w.heap.size + 1, 1, none⟩)) (undef))) rfl rfl (by cases b1_5; exact StepS.skip nP rfl; exact StepS.pure nP rfl fun _ => rfl) ?_
  try simp only [Act.put, sA, sZ, sS]
  refine Ps.st (i := 9) (d := some 16) (u := (cond b1_5 (.int .u64 (b1)) (undef))) rfl rfl ?ywg22_32 ?rwg22_32
  case ywg22_32 =>
    cases b1_5
    · exact StepS.skip nP (by rfl)
    · skip
      refine StepS.read [] (by kernel_rfl) nP (by rfl) (fun L9 m9 w9 hSh hAt hDn hS => ?_)
      have hT : Below _ _ w9 := hS
      have x0 : w9.cell? ⟨w.heap.size + 1, 1, none⟩ = some (.int .u64 (b1)) := (HB2.out.ca hT).cell 1
      clear hT hS
      go_simp
      try rfl
  try simp only [Act.put, sA, sZ, sS]
  refine Ps.st (i := 10) (d := some 17) (u := (cond b1_5 (.bool (decide (a1 = b1))) (undef))) rfl rfl (by cases b1_5; exact StepS.skip nP rfl; exact StepS.pure nP rfl fun _ => rfl) ?_
  try simp only [Act.put, sA, sZ, sS]
  refine Ps.st (i := 11) (d := some 18) (u := (.bool (b1_5 && (decide (a1 = b1))))) rfl rfl ?ywg22_34 ?rwg22_34
  case ywg22_34 =>
    refine StepS.pure nP (by rfl) (fun w9 => ?_)
    cases b1_5 <;> (first | rfl | (go_simp; done) | (go_simp; rfl))
  try simp only [Act.put, sA, sZ, sS]
  obtain ⟨b1_12, hb9⟩ : ∃ b : Bool, b = ((decide (a0 = b0)) && (decide (a1 = b1))) := ⟨_, rfl⟩
  have HEb1_12 := Lib.hid hb9
  clear hb9
  refine Ps.st (i := 12) (d := some 19) (u := (.bool (b1_12))) rfl rfl ?ywg22_35 ?rwg22_35
  case ywg22_35 =>
    refine StepS.pure nP (by rfl) (fun w9 => ?_)
    have e9 : (b1_5 && (decide (a1 = b1))) = b1_12 := by rw [HEb1_12.out, HEb1_5.out]
    rw [← e9]
    clear e9
    first | rfl | (go_simp; done) | (go_simp; rfl)
  try simp only [Act.put, sA, sZ, sS]
  refine Ps.st (i := 13) (d := some 20) (u := (cond b1_12 (.pointer (some ⟨w.heap.size, 4, none⟩)) (undef))) rfl rfl (by cases b1_12; exact StepS.skip nP rfl; exact StepS.pure nP rfl fun _ => rfl) ?_
  try simp only [Act.put, sA, sZ, sS]
  refine Ps.st (i := 14) (d := some 21) (u := (cond b1_12 (.int .i64 (a4)) (undef))) rfl rfl ?ywg22_37 ?rwg22_37
  case ywg22_37 =>
    cases b1_12
    · exact StepS.skip nP (by rfl)
    · skip
      refine StepS.read [] (by kernel_rfl) nP (by rfl) (fun L9 m9 w9 hSh hAt hDn hS => ?_)
      have hT : Below _ _ w9 := hS
      have x0 : w9.cell? ⟨w.heap.size, 4, none⟩ = some (.int .i64 (a4)) := (HB1.out.ca hT).cell 4
      clear hT hS
      go_simp
      try rfl
  try simp only [Act.put, sA, sZ, sS]
  refine Ps.st (i := 15) (d := some 22) (u := (cond b1_12 (.pointer (some ⟨w.heap.size + 1, 4, none⟩)) (undef))) rfl rfl (by cases b1_12; exact StepS.skip nP rfl; exact StepS.pure nP rfl fun _ => rfl) ?_
  try simp only [Act.put, sA, sZ, sS]
  refine Ps.st (i := 16) (d := some 23) (u := (cond b1_12 (.int .i64 (b4)) (undef))) rfl rfl ?ywg22_39 ?rwg22_39
  case ywg22_39 =>
    cases b1_12
    · exact StepS.skip nP (by rfl)
    · skip
      refine StepS.read [] (by kernel_rfl) nP (by rfl) (fun L9 m9 w9 hSh hAt hDn hS => ?_)
      have hT : Below _ _ w9 := hS
      have x0 : w9.cell? ⟨w.heap.size + 1, 4, none⟩ = some (.int .i64 (b4)) := (HB2.out.ca hT).cell 4
      clear hT hS
      go_simp
      try rfl
  try simp only [Act.put, sA, sZ, sS]
  refine Ps.st (i := 17) (d := some 24) (u := (cond b1_12 (.bool (decide (a4 = b4))) (undef))) rfl rfl (by cases b1_12; exact StepS.skip nP rfl; exact StepS.pure nP rfl fun _ => rfl) ?_
  try simp only [Act.put, sA, sZ, sS]
  refine Ps.st (i := 18) (d := some 25) (u := (.bool (b1_12 && (decide (a4 = b4))))) rfl rfl ?ywg22_41 ?rwg22_41
  case ywg22_41 =>
    refine StepS.pure nP (by rfl) (fun w9 => ?_)
    cases b1_12 <;> (first | rfl | (go_simp; done) | (go_simp; rfl))
  try simp only [Act.put, sA, sZ, sS]
  obtain ⟨b1_19, hb9⟩ : ∃ b : Bool, b = (((decide (a0 = b0)) && (decide (a1 = b1))) && (decide (a4 = b4))) := ⟨_, rfl⟩
  have HEb1_19 := Lib.hid hb9
  clear hb9
  refine Ps.st (i := 19) (d := some 26) (u := (.bool (b1_19))) rfl rfl ?ywg22_42 ?rwg22_42
  case ywg22_42 =>
    refine StepS.pure nP (by rfl) (fun w9 => ?_)
    have e9 : (b1_12 && (decide (a4 = b4))) = b1_19 := by rw [HEb1_19.out, HEb1_12.out]
    rw [← e9]
    clear e9
    first | rfl | (go_simp; done) | (go_simp; rfl)
  try simp only [Act.put, sA, sZ, sS]
  refine Ps.st (i := 20) (d := some 27) (u := (cond b1_19 (.pointer (some ⟨w.heap.size, 5, none⟩)) (undef))) rfl rfl (by cases b1_19; exact StepS.skip nP rfl; exact StepS.pure nP rfl fun _ => rfl) ?_
  try simp only [Act.put, sA, sZ, sS]
  refine Ps.st (i := 21) (d := some 28) (u := (cond b1_19 (.bool (a5)) (undef))) rfl rfl ?ywg22_44 ?rwg22_44
  case ywg22_44 =>
    cases b1_19
    · exact StepS.skip nP (by rfl)
    · skip
      refine StepS.read [] (by kernel_rfl) nP (by rfl) (fun L9 m9 w9 hSh hAt hDn hS => ?_)
      have hT : Below _ _ w9 := hS
      have x0 : w9.cell? ⟨w.heap.size, 5, none⟩ = some (.bool (a5)) := (HB1.out.ca hT).cell 5
      clear hT hS
      go_simp
      try rfl
  try simp only [Act.put, sA, sZ, sS]
  refine Ps.st (i := 22) (d := some 29) (u := (cond b1_19 (.pointer (some ⟨w.heap.size + 1, 5, none⟩)) (undef))) rfl rfl (by cases b1_19; exact StepS.skip nP rfl; exact StepS.pure nP rfl fun _ => rfl) ?_
  try simp only [Act.put, sA, sZ, sS]
  refine Ps.st (i := 23) (d := some 30) (u := (cond b1_19 (.bool (b5)) (undef))) rfl rfl ?ywg22_46 ?rwg22_46
  case ywg22_46 =>
    cases b1_19
    · exact StepS.skip nP (by rfl)
    · skip
      refine StepS.read [] (by kernel_rfl) nP (by rfl) (fun L9 m9 w9 hSh hAt hDn hS => ?_)
      have hT : Below _ _ w9 := hS
      have x0 : w9.cell? ⟨w.heap.size + 1, 5, none⟩ = some (.bool (b5)) := (HB2.out.ca hT).cell 5
      clear hT hS
      go_simp
      try rfl
  try simp only [Act.put, sA, sZ, sS]
  refine Ps.st (i := 24) (d := some 31) (u := (cond b1_19 (.bool (a5 == b5)) (undef))) rfl rfl (by cases b1_19; exact StepS.skip nP rfl; exact StepS.pure nP rfl fun _ => rfl) ?_
  try simp only [Act.put, sA, sZ, sS]
  obtain ⟨f1x, hb9⟩ : ∃ b : Bool, b = ((((decide (a0 = b0)) && (decide (a1 = b1))) && (decide (a4 = b4))) && (a5 == b5)) := ⟨_, rfl⟩
  have HEf1x := Lib.hid hb9
  clear hb9
  refine Ps.st (i := 25) (d := some 32) (u := (.bool (f1x))) rfl rfl ?ywg22_48 ?rwg22_48
  case ywg22_48 =>
    refine StepS.pure nP (by rfl) (fun w9 => ?_)
    have e9 : (b1_19 && (a5 == b5)) = f1x := by rw [HEf1x.out, HEb1_19.out]
    rw [← e9]
    clear e9
    cases b1_19 <;> (first | rfl | (go_simp; done) | (go_simp; rfl))
  try simp only [Act.put, sA, sZ, sS]
  refine Ps.st (i := 26) (d := some 5) (u := (.bool (f1x))) rfl rfl (by exact StepS.pure nP rfl fun _ => rfl) ?_
  try simp only [Act.put, sA, sZ, sS]
  refine Ps.done (by kernel_rfl) (fun wg22 hS => ?_) _
  try generalize (cond b1_19 (.pointer (some ⟨w.heap.size + 1, 5, none⟩)) (undef) : Value) = zz50
  try generalize (cond b1_12 (.pointer (some ⟨w.heap.size + 1, 4, none⟩)) (undef) : Value) = zz51
  try generalize (cond b1_5 (.pointer (some ⟨w.heap.size + 1, 1, none⟩)) (undef) : Value) = zz52
  try generalize (cond b1_19 (.pointer (some ⟨w.heap.size, 5, none⟩)) (undef) : Value) = zz53
  try generalize (cond b1_12 (.pointer (some ⟨w.heap.size, 4, none⟩)) (undef) : Value) = zz54
  try generalize (cond b1_5 (.pointer (some ⟨w.heap.size, 1, none⟩)) (undef) : Value) = zz55
  try generalize (cond b1_12 (.bool (decide (a4 = b4))) (undef) : Value) = zz56
  try generalize (cond b1_5 (.bool (decide (a1 = b1))) (undef) : Value) = zz57
  try generalize (cond b1_19 (.bool (a5 == b5)) (undef) : Value) = zz58
  try generalize (cond b1_12 (.int .i64 (a4)) (undef) : Value) = zz59
  try generalize (cond b1_12 (.int .i64 (b4)) (undef) : Value) = zz60
  try generalize (.bool (b1_12 && (decide (a4 = b4))) : Value) = zz61
  try generalize (cond b1_5 (.int .u64 (a1)) (undef) : Value) = zz62
  try generalize (cond b1_5 (.int .u64 (b1)) (undef) : Value) = zz63
  try generalize (.bool (b1_5 && (decide (a1 = b1))) : Value) = zz64
  try generalize (cond b1_19 (.bool (b5)) (undef) : Value) = zz65
  try generalize (cond b1_19 (.bool (a5)) (undef) : Value) = zz66
  have HW67 := Lib.hid (show Below w1.heap.size w1 wg22 from hS)
  clear hS
  obtain ⟨w168, rfl⟩ : ∃ x, x = wg22 := ⟨_, rfl⟩
  go_upto_region 3 with fail
  refine wp_region_ps0 .text (S := fun _ _ w' => Below w1.heap.size w1 w') (by kernel_rfl) ?spswg69 ?ppswg69
  case spswg69 =>
    exact HW67.out
  refine Ps.st (i := 0) (d := some 33) (u := (.bool (f1x))) rfl rfl (by exact StepS.pure nP rfl fun _ => rfl) ?_
  try simp only [Act.put, sA, sZ, sS]
  obtain ⟨b3_1, hb9⟩ : ∃ b : Bool, b = (((((decide (a0 = b0)) && (decide (a1 = b1))) && (decide (a4 = b4))) && (a5 == b5))) := ⟨_, rfl⟩
  have HEb3_1 := Lib.hid hb9
  clear hb9
  refine Ps.st (i := 1) (d := some 34) (u := (.bool (b3_1))) rfl rfl ?ywg69_71 ?rwg69_71
  case ywg69_71 =>
    refine StepS.pure nP (by rfl) (fun w9 => ?_)
    have e9 : (f1x) = b3_1 := by rw [HEb3_1.out, HEf1x.out]
    rw [← e9]
    clear e9
    first | rfl | (go_simp; done) | (go_simp; rfl)
  try simp only [Act.put, sA, sZ, sS]
  refine Ps.st (i := 2) (d := some 35) (u := (cond b3_1 (.pointer (some ⟨w.heap.size, 3, none⟩)) (undef))) rfl rfl (by cases b3_1; exact StepS.skip nP rfl; exact StepS.pure nP rfl fun _ => rfl) ?_
  try simp only [Act.put, sA, sZ, sS]
  refine Ps.st (i := 3) (d := some 36) (u := (cond b3_1 (.slice A2 m2 c2) (undef))) rfl rfl ?ywg69_73 ?rwg69_73
  case ywg69_73 =>
    cases b3_1
    · exact StepS.skip nP (by rfl)
    · skip
      refine StepS.read [] (by kernel_rfl) nP (by rfl) (fun L9 m9 w9 hSh hAt hDn hS => ?_)
      have hT : Below _ _ w9 := hS
      have x0 : w9.cell? ⟨w.heap.size, 3, none⟩ = some (.slice A2 m2 c2) := (HB1.out.ca hT).cell 3
      clear hT hS
      go_simp
      try rfl
  try simp only [Act.put, sA, sZ, sS]
  refine Ps.st (i := 4) (d := some 37) (u := (cond b3_1 (.pointer (some ⟨w.heap.size + 1, 3, none⟩)) (undef))) rfl rfl (by cases b3_1; exact StepS.skip nP rfl; exact StepS.pure nP rfl fun _ => rfl) ?_
  try simp only [Act.put, sA, sZ, sS]
  refine Ps.st (i := 5) (d := some 38) (u := (cond b3_1 (.slice B2 n2 d2) (undef))) rfl rfl ?ywg69_75 ?rwg69_75
  case ywg69_75 =>
    cases b3_1
    · exact StepS.skip nP (by rfl)
    · skip
      refine StepS.read [] (by kernel_rfl) nP (by rfl) (fun L9 m9 w9 hSh hAt hDn hS => ?_)
      have hT : Below _ _ w9 := hS
      have x0 : w9.cell? ⟨w.heap.size + 1, 3, none⟩ = some (.slice B2 n2 d2) := (HB2.out.ca hT).cell 3
      clear hT hS
      go_simp
      try rfl
  try simp only [Act.put, sA, sZ, sS]
  refine Ps.st (i := 6) (d := some 39) (u := (cond b3_1 (.bool (decide (ab = bb))) (undef))) rfl rfl ?ywg69_76 ?rwg69_76
  case ywg69_76 =>
    cases b3_1
    · exact StepS.skip nP (by rfl)
    · skip
      refine StepS.call ?fwg69_76 ?awg69_76 [] (by kernel_rfl) (by rfl) (fun w9 => ?hwg69_76) (fun L9 m9 w9 hSh hAt hDn hS => ?cwg69_76)
      case hwg69_76 => go_simp; refine ⟨?_, ?_⟩ <;> rfl
      case cwg69_76 =>
        have hT : Below _ _ w9 := hS
        refine (eqfB F G A2 B2 m2 c2 n2 d2 ab bb w9 (Lay.rd_below HX.out.2 hT) (Lay.rd_below HY.out.2 hT) hm2).mono ?_
        rintro e w8 ⟨rfl, q8⟩
        exact ⟨rfl, bl_ca hT q8⟩
  try simp only [Act.put, sA, sZ, sS]
  refine Ps.st (i := 7) (d := some 40) (u := (.bool (b3_1 && (decide (ab = bb))))) rfl rfl ?ywg69_77 ?rwg69_77
  case ywg69_77 =>
    refine StepS.pure nP (by rfl) (fun w9 => ?_)
    cases b3_1 <;> (first | rfl | (go_simp; done) | (go_simp; rfl))
  try simp only [Act.put, sA, sZ, sS]
  obtain ⟨b3_8, hb9⟩ : ∃ b : Bool, b = ((((((decide (a0 = b0)) && (decide (a1 = b1))) && (decide (a4 = b4))) && (a5 == b5))) && (decide (ab = bb))) := ⟨_, rfl⟩
  have HEb3_8 := Lib.hid hb9
  clear hb9
  refine Ps.st (i := 8) (d := some 41) (u := (.bool (b3_8))) rfl rfl ?ywg69_78 ?rwg69_78
  case ywg69_78 =>
    refine StepS.pure nP (by rfl) (fun w9 => ?_)
    have e9 : (b3_1 && (decide (ab = bb))) = b3_8 := by rw [HEb3_8.out, HEb3_1.out]
    rw [← e9]
    clear e9
    first | rfl | (go_simp; done) | (go_simp; rfl)
  try simp only [Act.put, sA, sZ, sS]
  refine Ps.st (i := 9) (d := some 42) (u := (cond b3_8 (.pointer (some ⟨w.heap.size, 2, none⟩)) (undef))) rfl rfl (by cases b3_8; exact StepS.skip nP rfl; exact StepS.pure nP rfl fun _ => rfl) ?_
  try simp only [Act.put, sA, sZ, sS]
  refine Ps.st (i := 10) (d := some 43) (u := (cond b3_8 (.slice A1 m1 c1) (undef))) rfl rfl ?ywg69_80 ?rwg69_80
  case ywg69_80 =>
    cases b3_8
    · exact StepS.skip nP (by rfl)
    · skip
      refine StepS.read [] (by kernel_rfl) nP (by rfl) (fun L9 m9 w9 hSh hAt hDn hS => ?_)
      have hT : Below _ _ w9 := hS
      have x0 : w9.cell? ⟨w.heap.size, 2, none⟩ = some (.slice A1 m1 c1) := (HB1.out.ca hT).cell 2
      clear hT hS
      go_simp
      try rfl
  try simp only [Act.put, sA, sZ, sS]
  refine Ps.st (i := 11) (d := some 44) (u := (cond b3_8 (.pointer (some ⟨w.heap.size + 1, 2, none⟩)) (undef))) rfl rfl (by cases b3_8; exact StepS.skip nP rfl; exact StepS.pure nP rfl fun _ => rfl) ?_
  try simp only [Act.put, sA, sZ, sS]
  refine Ps.st (i := 12) (d := some 45) (u := (cond b3_8 (.slice B1 n1 d1) (undef))) rfl rfl ?ywg69_82 ?rwg69_82
  case ywg69_82 =>
    cases b3_8
    · exact StepS.skip nP (by rfl)
    · skip
      refine StepS.read [] (by kernel_rfl) nP (by rfl) (fun L9 m9 w9 hSh hAt hDn hS => ?_)
      have hT : Below _ _ w9 := hS
      have x0 : w9.cell? ⟨w.heap.size + 1, 2, none⟩ = some (.slice B1 n1 d1) := (HB2.out.ca hT).cell 2
      clear hT hS
      go_simp
      try rfl
  try simp only [Act.put, sA, sZ, sS]
  refine Ps.st (i := 13) (d := some 46) (u := (cond b3_8 (.func (.func 72) #[] #[]) (undef))) rfl rfl (by cases b3_8; exact StepS.skip nP rfl; exact StepS.pure nP rfl fun _ => rfl) ?_
  try simp only [Act.put, sA, sZ, sS]
  refine Ps.st (i := 14) (d := some 47) (u := (cond b3_8 (.bool (decide (ah = bh))) (undef))) rfl rfl ?ywg69_84 ?rwg69_84
  case ywg69_84 =>
    cases b3_8
    · exact StepS.skip nP (by rfl)
    · skip
      refine StepS.call ?fwg69_84 ?awg69_84 [] (by kernel_rfl) (by rfl) (fun w9 => ?hwg69_84) (fun L9 m9 w9 hSh hAt hDn hS => ?cwg69_84)
      case hwg69_84 => go_simp; refine ⟨?_, ?_⟩ <;> rfl
      case cwg69_84 =>
        have hT : Below _ _ w9 := hS
        refine (eqfH F G A1 B1 m1 c1 n1 d1 ah bh w9 (Lay.rd_below HX.out.1 hT) (Lay.rd_below HY.out.1 hT) hm).mono ?_
        rintro e w8 ⟨rfl, q8⟩
        exact ⟨rfl, bl_ca hT q8⟩
  try simp only [Act.put, sA, sZ, sS]
  obtain ⟨f3x, hb9⟩ : ∃ b : Bool, b = (((((((decide (a0 = b0)) && (decide (a1 = b1))) && (decide (a4 = b4))) && (a5 == b5))) && (decide (ab = bb))) && (decide (ah = bh))) := ⟨_, rfl⟩
  have HEf3x := Lib.hid hb9
  clear hb9
  refine Ps.st (i := 15) (d := some 48) (u := (.bool (f3x))) rfl rfl ?ywg69_85 ?rwg69_85
  case ywg69_85 =>
    refine StepS.pure nP (by rfl) (fun w9 => ?_)
    have e9 : (b3_8 && (decide (ah = bh))) = f3x := by rw [HEf3x.out, HEb3_8.out]
    rw [← e9]
    clear e9
    cases b3_8 <;> (first | rfl | (go_simp; done) | (go_simp; rfl))
  try simp only [Act.put, sA, sZ, sS]
  refine Ps.st (i := 16) (d := some 4) (u := (.bool (f3x))) rfl rfl (by exact StepS.pure nP rfl fun _ => rfl) ?_
  try simp only [Act.put, sA, sZ, sS]
  refine Ps.done (by kernel_rfl) (fun wg69 hS => ?_) _
  try generalize (cond b3_8 (.func (.func 72) #[] #[]) (undef) : Value) = zz87
  try generalize (cond b3_1 (.pointer (some ⟨w.heap.size + 1, 3, none⟩)) (undef) : Value) = zz88
  try generalize (cond b3_8 (.pointer (some ⟨w.heap.size + 1, 2, none⟩)) (undef) : Value) = zz89
  try generalize (cond b3_8 (.pointer (some ⟨w.heap.size, 2, none⟩)) (undef) : Value) = zz90
  try generalize (cond b3_1 (.pointer (some ⟨w.heap.size, 3, none⟩)) (undef) : Value) = zz91
  try generalize (cond b3_1 (.bool (decide (ab = bb))) (undef) : Value) = zz92
  try generalize (cond b3_8 (.bool (decide (ah = bh))) (undef) : Value) = zz93
  try generalize (cond b3_1 (.slice A2 m2 c2) (undef) : Value) = zz94
  try generalize (cond b3_1 (.slice B2 n2 d2) (undef) : Value) = zz95
  try generalize (cond b3_8 (.slice B1 n1 d1) (undef) : Value) = zz96
  try generalize (cond b3_8 (.slice A1 m1 c1) (undef) : Value) = zz97
  try generalize (.bool (b3_1 && (decide (ab = bb))) : Value) = zz98
  have HW99 := Lib.hid (show Below w1.heap.size w1 wg69 from hS)
  clear hS
  obtain ⟨w200, rfl⟩ : ∃ x, x = wg69 := ⟨_, rfl⟩
  go_wp2
  go_ret
  exact ⟨ret_bool (by rw [HRR.out, HEf3x.out]; unfold eqRC flatRC; dsimp only; rw [Bool.eq_iff_iff]; simp; grind), bl_ca HQ.out HW99.out⟩
end Go.Proofs.Ytojghgbaiiajfaa
/- link.Ack. Conditions: the slices read as these batches. -/
namespace Go.Proofs.Ytojghgbaiiajfaa
open Go.RowKit
def zeroP : PK := ⟨0, 0, 0, 0, ⟨[], false, 0⟩⟩
def ackR (r : RC) : PK := if recB r then ⟨2, r.ses, r.next, limR r, ⟨[], false, 0⟩⟩ else zeroP
def AckC (r : RC) (w : World) (e : Ending) (w' : World) : Prop := e = .returned (.tuple #[.agg ((ackR r).cells none 0 0), .int .i64 (if recB r then 0 else 320)]) ∧ Below w.heap.size w w'
theorem ack_yes {r : RC} {w w' : World} {e : Ending} (h : recB r = true) (h1 : e = .returned (.tuple #[.agg (PK.cells ⟨2, r.ses, r.next, limR r, ⟨[], false, 0⟩⟩ none 0 0), .int .i64 0])) (h2 : Below w.heap.size w w') : AckC r w e w' := by
  unfold AckC ackR
  rw [h]
  exact ⟨h1, h2⟩
theorem ack_no {r : RC} {w w' : World} {e : Ending} (h : recB r = false) (h1 : e = .returned (.tuple #[.agg (zeroP.cells none 0 0), .int .i64 320])) (h2 : Below w.heap.size w w') : AckC r w e w' := by
  unfold AckC ackR
  rw [h]
  exact ⟨h1, h2⟩
theorem recB_rng {r : RC} (h : recB r = true) : 1 ≤ r.next ∧ r.next ≤ 1099511627777 ∧ (r.buf.length : Int) ≤ r.room ∧ r.room ≤ 8 := by
  unfold recB recA at h
  simp only [Bool.and_eq_true, decide_eq_true_eq] at h
  omega
theorem Seq1.keep0 {k1 : Nat} {B0 B1 : (Nat → Value) → World → Prop} {L : Array Bool} {m : Nat → Value} {w : World} (h1 : Dn L k1 = false) (h : B0 m w) : Seq1 k1 B0 B1 L m w := by
  unfold Seq1 Sk1
  exact ⟨fun _ => h, fun e => by rw [h1] at e; cases e⟩
set_option maxRecDepth 100000 in
set_option maxHeartbeats 16000000 in
theorem ack_any (Fr F2 : Nat → Prop) (r : RC) (A : Option Addr) (n c : Nat) (B : Option Addr) (m d : Nat) (w : World) (h : LH4.rd w Fr A n r.ahead) (h2 : LB3.rd w F2 B m r.buf) (hn : n ≤ 9223372036854775807) (hm : m ≤ 9223372036854775807) :
    Calls Try.prog 31 #[.agg (r.cells A n c B m d)] w (AckC r w) := by
  have q1 := bl_al (Below.refl w.heap.size w) (.cells (r.cells A n c B m d) 36)
  have q2 := bl_al (Below.refl (w.alloc (.cells (r.cells A n c B m d) 36)).heap.size (w.alloc (.cells (r.cells A n c B m d) 36))) (.cells (zeroP.cells none 0 0) 47)
  have HB := Lib.hid (bl_ca q1 q2)
  have HS := Lib.hid ((Blk.new w 36 (r.cells A n c B m d)).ca q2)
  have HZ := Lib.hid (show Blk ((w.alloc (.cells (r.cells A n c B m d) 36)).alloc (.cells (zeroP.cells none 0 0) 47)) (w.heap.size + 1) 47 (zeroP.cells none 0 0) from Blk.mk' (by simp only [World.size_alloc]))
  have HCK := Lib.hid (crecv_any Fr F2 r A n c B m d _ (Lay.rd_below (Lay.rd_below h q1) q2) (Lay.rd_below (Lay.rd_below h2 q1) q2) hn hm)
  have HLB := Lib.hid (Lay.rd_len h2)
  have hsz : ((w.alloc (.cells (r.cells A n c B m d) 36)).alloc (.cells (zeroP.cells none 0 0) 47)).heap.size = w.heap.size + 2 := by simp only [World.size_alloc]
  clear q1 q2 h h2
  cases hok : recB r
  · have HOK := Lib.hid hok
    rw [hok] at HCK
    clear hok
    go_enter Try.func31, Try.ntmps31
    go_wp2_with (refine wpList_load_blk rfl 36 (.tmp 1) rfl w.heap.size rfl 36 _ (r.cells A n c B m d) HS.out rfl rfl receiverI ?_)
    refine HCK.out.mono ?_
    rintro e w2 ⟨rfl, q2⟩
    have HB2 := Lib.hid (bl_ca HB.out q2)
    have HZ2 := Lib.hid (HZ.out.ca q2)
    clear q2 HCK HS HB HZ
    go_wp2_with (refine wpList_store_blk rfl 47 (.tmp 2) (.tmp 9) rfl (w.heap.size + 1) 47 _ (zeroP.cells none 0 0) rfl rfl HZ2.out rfl packetI (by simp [Value.oneCell']) ?_; intro wz hZ gz)
    exact bodyPost_ret (res2 Try.results31 rfl rfl hZ Try.underlying47 rfl packetI) rfl (ack_no HOK.out rfl (bl_gr HB2.out gz (by omega)))
  · have HOK := Lib.hid hok
    rw [hok] at HCK
    have hrg := recB_rng hok
    clear hok
    go_enter Try.func31, Try.ntmps31
    go_wp2_with (refine wpList_load_blk rfl 36 (.tmp 1) rfl w.heap.size rfl 36 _ (r.cells A n c B m d) HS.out rfl rfl receiverI ?_)
    refine HCK.out.mono ?_
    rintro e w2 ⟨rfl, q2⟩
    have HB2 := Lib.hid (bl_ca HB.out q2)
    have HZ2 := Lib.hid (HZ.out.ca q2)
    have HS2 := Lib.hid (HS.out.ca q2)
    have hs2 := q2.size
    clear q2 HCK HS HB HZ
    go_wp2_with fail
    refine wp_region_ps (S := Seq1 7 (fun _ w' => Below w2.heap.size w2 w') (fun _ w' => ∃ w6, Below w2.heap.size w2 w6 ∧ Blk w' (w.heap.size + 1) 47 (PK.cells ⟨2, r.ses, r.next, limR r, ⟨[], false, 0⟩⟩ none 0 0) ∧ w6.grownBy w' (some (w.heap.size + 1)))) (by kernel_rfl) ?spswq ?ppswq
    case spswq =>
      exact Seq1.start (by decide) (Below.refl _ _).drew
    refine Ps.st (i := 0) (d := some 11) (u := _) rfl rfl (StepS.pure (Seq1.pass (by decide)) rfl fun w9 => by go_simp; try rfl) ?_
    try simp only [Act.put, sA, sZ, sS]
    refine Ps.st (i := 1) (d := some 12) (u := ?uwq_2) rfl rfl ?ywq_2 ?rwq_2
    case ywq_2 =>
      refine StepS.read [] (by kernel_rfl) (Seq1.pass (by decide)) (by rfl) (fun L9 m9 w9 hSh hAt hDn hS => ?_)
      have hT : Blk w9 w.heap.size 36 (r.cells A n c B m d) := Seq1.any (T := fun w9 => Blk w9 w.heap.size 36 (r.cells A n c B m d)) (fun _ _ h => HS2.out.ca h) (fun _ _ ⟨_, h1, _, h3⟩ => (HS2.out.ca h1).apart h3 (by omega)) hS
      have x0 : w9.cell? ⟨w.heap.size, 0, none⟩ = some (.int .u32 r.ses) := hT.cell 0
      clear hT hS
      go_simp
      try rfl
    try simp only [Act.put, sA, sZ, sS]
    refine Ps.st (i := 2) (d := some 13) (u := _) rfl rfl (StepS.pure (Seq1.pass (by decide)) rfl fun w9 => by go_simp; try rfl) ?_
    try simp only [Act.put, sA, sZ, sS]
    refine Ps.st (i := 3) (d := some 14) (u := ?uwq_4) rfl rfl ?ywq_4 ?rwq_4
    case ywq_4 =>
      refine StepS.read [] (by kernel_rfl) (Seq1.pass (by decide)) (by rfl) (fun L9 m9 w9 hSh hAt hDn hS => ?_)
      have hT : Blk w9 w.heap.size 36 (r.cells A n c B m d) := Seq1.any (T := fun w9 => Blk w9 w.heap.size 36 (r.cells A n c B m d)) (fun _ _ h => HS2.out.ca h) (fun _ _ ⟨_, h1, _, h3⟩ => (HS2.out.ca h1).apart h3 (by omega)) hS
      have x1 : w9.cell? ⟨w.heap.size, 1, none⟩ = some (.int .u64 r.next) := hT.cell 1
      clear hT hS
      go_simp
      try rfl
    try simp only [Act.put, sA, sZ, sS]
    refine Ps.st (i := 4) (d := some 15) (u := ?uwq_5) rfl rfl ?ywq_5 ?rwq_5
    case ywq_5 =>
      refine StepS.read [] (by kernel_rfl) (Seq1.pass (by decide)) (by rfl) (fun L9 m9 w9 hSh hAt hDn hS => ?_)
      have hT : Blk w9 w.heap.size 36 (r.cells A n c B m d) := Seq1.any (T := fun w9 => Blk w9 w.heap.size 36 (r.cells A n c B m d)) (fun _ _ h => HS2.out.ca h) (fun _ _ ⟨_, h1, _, h3⟩ => (HS2.out.ca h1).apart h3 (by omega)) hS
      have x0 : w9.cell? ⟨w.heap.size, 0, none⟩ = some (.int .u32 r.ses) := hT.cell 0
      have x1 : w9.cell? ⟨w.heap.size, 1, none⟩ = some (.int .u64 r.next) := hT.cell 1
      have x2 : w9.cell? ⟨w.heap.size, 2, none⟩ = some (.slice A n c) := hT.cell 2
      have x3 : w9.cell? ⟨w.heap.size, 3, none⟩ = some (.slice B m d) := hT.cell 3
      have x4 : w9.cell? ⟨w.heap.size, 4, none⟩ = some (.int .i64 r.room) := hT.cell 4
      have x5 : w9.cell? ⟨w.heap.size, 5, none⟩ = some (.bool r.over) := hT.cell 5
      clear hT hS
      go_simp
      try rfl
    try simp only [Act.put, sA, sZ, sS]
    refine Ps.st (i := 5) (d := some 16) (u := (.int .u64 (limR r))) rfl rfl ?ywq_6 ?rwq_6
    case ywq_6 =>
      refine StepS.call ?fwq_6 ?awq_6 [] (by kernel_rfl) (by rfl) (fun w9 => ?hwq_6) (fun L9 m9 w9 hSh hAt hDn hS => ?cwq_6)
      case hwq_6 => go_simp; refine ⟨?_, ?_⟩ <;> rfl
      case cwq_6 =>
        have hd7 := reach_no hSh (f := 9) (j := 7) (by kernel_rfl) hDn
        have hT := Seq1.at1 hd7 hS
        refine (limit_any r A n c B m d w9 HLB.out hrg.1 (by omega) (by rw [← HLB.out]; exact hrg.2.2.1) hrg.2.2.2).mono ?_
        rintro e w8 ⟨rfl, q8⟩
        exact ⟨rfl, Seq1.keep0 ((dn_ne (by decide)).trans hd7) (bl_ca hT q8)⟩
    try simp only [Act.put, sA, sZ, sS]
    refine Ps.st (i := 6) (d := some 17) (u := _) rfl rfl (StepS.pure (Seq1.pass (by decide)) rfl fun w9 => by go_simp; try rfl) ?_
    try simp only [Act.put, sA, sZ, sS]
    refine Ps.st (i := 7) (d := none) (u := undef) rfl rfl ?ywq_8 ?rwq_8
    case ywq_8 =>
      refine StepS.store [] (by kernel_rfl) (by rfl) (fun L9 m9 w9 hSh hAt hDn hS => ?_)
      have hT := Seq1.at1 hDn hS
      refine (exec_store_blk (w := w9) 47 (.tmp 2) (.tmp 17) (by rfl) (w.heap.size + 1) 47 (zeroP.cells none 0 0) (PK.cells ⟨2, r.ses, r.next, limR r, ⟨[], false, 0⟩⟩ none 0 0) (by rfl) (by rfl) (HZ2.out.ca hT) rfl packetI (by simp [Value.oneCell'])).imp fun w7 hx => ⟨hx.1, Seq1.set1 ⟨w9, hT, hx.2.1, hx.2.2⟩⟩
    try simp only [Act.put]
    refine Ps.st (i := 8) (d := some 3) (u := _) rfl rfl (StepS.pure (Seq1.pass (by decide)) rfl fun w9 => by go_simp; try rfl) ?_
    try simp only [Act.put, sA, sZ, sS]
    refine Ps.done (by kernel_rfl) (fun wq hS => ?_) _
    obtain ⟨w6, hT, hZ, gz⟩ := Seq1.fin (by rfl) hS
    clear hS
    go_wp2
    exact bodyPost_ret (res2 Try.results31 rfl rfl hZ Try.underlying47 rfl packetI) rfl (ack_yes HOK.out rfl (bl_gr (bl_ca HB2.out hT) gz (by omega)))
end Go.Proofs.Ytojghgbaiiajfaa
