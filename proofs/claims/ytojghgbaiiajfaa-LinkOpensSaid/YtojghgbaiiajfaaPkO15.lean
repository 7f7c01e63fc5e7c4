/- The references' equality of receivers. Conditions: the slices read so. -/
import Derived.Test.YtojghgbaiiajfaaPkO14
namespace Go.Proofs.Ytojghgbaiiajfaa
open Go.RowKit
theorem SH.ca {w w' : World} {F : Nat → Prop} {p : Addr} {b : HC} {B : Option Addr} {n c : Nat} (h : SH w F p b B n c) (q : Below w.heap.size w w') : SH w' F p b B n c :=
  ⟨(q.cell (p := p) (cells_block h.c0)).trans h.c0, (q.cell (p := ⟨p.block, p.off + 1, none⟩) (cells_block h.c1)).trans h.c1, (q.cell (p := ⟨p.block, p.off + 2, none⟩) (cells_block h.c2)).trans h.c2, (q.cell (p := ⟨p.block, p.off + 3, none⟩) (cells_block h.c3)).trans h.c3, h.nc, h.cm, Lay.rd_below h.rd q⟩
def eqHC (a b : HC) : Bool := a.seq == b.seq && eqBC a.b b.b
theorem eqHC_iff (a b : HC) : eqHC a b = true ↔ a = b := by
  rcases a with ⟨s, x⟩
  rcases b with ⟨t, y⟩
  simp [eqHC, eqBC_iff]
instance : DecidableEq HC := fun a b => decidable_of_iff (eqHC a b = true) (eqHC_iff a b)
def flatRC (a b : RC) : Bool := a.ses == b.ses && (a.next == b.next && (a.room == b.room && a.over == b.over))
def eqRC (a b : RC) : Bool := flatRC a b && (decide (a.ahead = b.ahead) && decide (a.buf = b.buf))
theorem eqRC_iff (a b : RC) : eqRC a b = true ↔ a = b := by
  rcases a with ⟨a0, a1, a2, a3, a4, a5⟩
  rcases b with ⟨b0, b1, b2, b3, b4, b5⟩
  simp [eqRC, flatRC]
  exact ⟨fun ⟨⟨x0, x1, x4, x5⟩, x2, x3⟩ => ⟨x0, x1, x2, x3, x4, x5⟩, fun ⟨x0, x1, x2, x3, x4, x5⟩ => ⟨⟨x0, x1, x4, x5⟩, x2, x3⟩⟩
set_option maxRecDepth 100000 in
set_option maxHeartbeats 16000000 in
theorem rsameR_any (F G : Nat → Prop) (a b : RC) (A1 : Option Addr) (m1 c1 : Nat) (A2 : Option Addr) (m2 c2 : Nat) (B1 : Option Addr) (n1 d1 : Nat) (B2 : Option Addr) (n2 d2 : Nat) (w : World)
    (hx : LH4.rd w F A1 m1 a.ahead) (hx2 : LB3.rd w F A2 m2 a.buf) (hy : LH4.rd w G B1 n1 b.ahead) (hy2 : LB3.rd w G B2 n2 b.buf) (hm : m1 ≤ 9223372036854775807) (hm2 : m2 ≤ 9223372036854775807) :
    Calls Try.prog 14 #[.agg (a.cells A1 m1 c1 A2 m2 c2), .agg (b.cells B1 n1 d1 B2 n2 d2)] w fun e w' => e = .returned (.bool (eqRC a b)) ∧ Below w.heap.size w w' := by
  have HXL := Lib.hid (Lay.rd_len hx)
  have HYL := Lib.hid (Lay.rd_len hy)
  have HR := Lib.hid (show eqRC a b = (flatRC a b && (decide (a.ahead = b.ahead) && decide (a.buf = b.buf))) from rfl)
  generalize eqRC a b = r at *
  obtain ⟨a0, a1, xs, qa, a4, a5⟩ := a
  obtain ⟨b0, b1, ys, qb, b4, b5⟩ := b
  unfold flatRC at HR
  dsimp only at *
  have q1 := bl_al (Below.refl w.heap.size w) (.cells #[.int .u32 a0, .int .u64 a1, .slice A1 m1 c1, .slice A2 m2 c2, .int .i64 a4, .bool a5] 36)
  have q2 := bl_al (Below.refl (w.alloc (.cells #[.int .u32 a0, .int .u64 a1, .slice A1 m1 c1, .slice A2 m2 c2, .int .i64 a4, .bool a5] 36)).heap.size (w.alloc (.cells #[.int .u32 a0, .int .u64 a1, .slice A1 m1 c1, .slice A2 m2 c2, .int .i64 a4, .bool a5] 36))) (.cells #[.int .u32 b0, .int .u64 b1, .slice B1 n1 d1, .slice B2 n2 d2, .int .i64 b4, .bool b5] 36)
  have HBA := Lib.hid ((Blk.new w 36 #[.int .u32 a0, .int .u64 a1, .slice A1 m1 c1, .slice A2 m2 c2, .int .i64 a4, .bool a5]).ca q2)
  have HBB0 := Lib.hid (show Blk ((w.alloc (.cells #[.int .u32 a0, .int .u64 a1, .slice A1 m1 c1, .slice A2 m2 c2, .int .i64 a4, .bool a5] 36)).alloc (.cells #[.int .u32 b0, .int .u64 b1, .slice B1 n1 d1, .slice B2 n2 d2, .int .i64 b4, .bool b5] 36)) (w.heap.size + 1) 36 #[.int .u32 b0, .int .u64 b1, .slice B1 n1 d1, .slice B2 n2 d2, .int .i64 b4, .bool b5] from Blk.mk' (by simp only [World.size_alloc]))
  have HB := Lib.hid (bl_ca q1 q2)
  have HX := Lib.hid (Lay.rd_below (Lay.rd_below hx q1) q2)
  have HX2 := Lib.hid (Lay.rd_below (Lay.rd_below hx2 q1) q2)
  have HY := Lib.hid (Lay.rd_below (Lay.rd_below hy q1) q2)
  have HY2 := Lib.hid (Lay.rd_below (Lay.rd_below hy2 q1) q2)
  clear hx hx2 hy hy2 q1 q2
  by_cases h0 : a0 = b0
  · subst h0
    by_cases h1 : a1 = b1
    · subst h1
      by_cases h2 : a4 = b4
      · subst h2
        by_cases h3 : a5 = b5
        · subst h3
          by_cases hl : m1 = n1
          · subst hl
            go_enter Try.func14, Try.ntmps14
            go_wp2_with fail
            generalize (w.alloc (.cells #[.int .u32 a0, .int .u64 a1, .slice A1 m1 c1, .slice A2 m2 c2, .int .i64 a4, .bool a5] 36)).alloc (.cells #[.int .u32 a0, .int .u64 a1, .slice B1 m1 d1, .slice B2 n2 d2, .int .i64 a4, .bool a5] 36) = w1 at *
            go_loopg [44] m1 (fun g s wr => ∃ i : Nat, i + g = m1 ∧ s = .int .i64 i ∧ xs.take i = ys.take i ∧ Below w1.heap.size w1 wr)
            case atStart => exact ⟨0, by omega, rfl, rfl, Below.refl _ _⟩
            case round =>
              obtain ⟨i, hi1, rfl, hp, bb⟩ := hrel
              have HP := Lib.hid hp
              have HQB := Lib.hid (bl_ca HB.out bb)
              have HBBW := Lib.hid bb
              have HA1 := Lib.hid (HBA.out.ca bb)
              have HB1 := Lib.hid (HBB0.out.ca bb)
              clear hp
              by_cases hi : i < m1
              · have hil : (i : Int) < (m1 : Int) := by omega
                obtain ⟨p1, v, V1, k1, e1, rfl, hv, s1⟩ := LH4_at (Lay.rd_below HX.out bb) hi
                obtain ⟨p2, u, U1, k2, e2, rfl, hu, s2⟩ := LH4_at (Lay.rd_below HY.out bb) hi
                have HS1 := Lib.hid (fun W (q : Below wr.heap.size wr W) => s1.ca q)
                have HS2 := Lib.hid (fun W (q : Below wr.heap.size wr W) => s2.ca q)
                have HCO := Lib.hid (fun W (q : Below wr.heap.size wr W) => rsameB_any F G v.b u.b V1 U1 k1 e1 k2 e2 W (s1.ca q).rd (s2.ca q).rd (Nat.le_trans s1.nc s1.cm))
                have HVI := Lib.hid hv
                have HUI := Lib.hid hu
                clear hv hu s1 s2 bb
                obtain ⟨vs, vb⟩ := v
                obtain ⟨us, ub⟩ := u
                dsimp only at HS1 HS2 HCO
                by_cases hs : vs = us
                · subst hs
                  have d0 : ((vs : Int) != vs) = false := by simp
                  cases hb : eqBC vb ub
                  · have HEQ := Lib.hid hb
                    have HF := Lib.hid (show decide (xs = ys) = false from decide_eq_false fun e => by have h1 := HVI.out; rw [e, HUI.out] at h1; injection h1 with h1; injection h1 with h2 h3; subst h3; have h4 := HEQ.out; rw [(eqBC_iff _ _).2 rfl] at h4; cases h4)
                    clear hb
                    go_wp2_with fail
                    refine wp_region_ps (S := fun _ _ w' => Below wr.heap.size wr w') (by kernel_rfl) ?spswrne ?ppswrne
                    case spswrne =>
                      exact (Below.refl _ _).drew
                    refine Ps.step (i := 0) (d := some 47) (u := ?uwrne_1) rfl rfl (by kernel_rfl) (by kernel_rfl) (by kernel_rfl) (by kernel_rfl) ?ywrne_1 ?rwrne_1
                    case ywrne_1 =>
                      refine StepS.pure (fun _ _ _ h => h) (by rfl) (fun w9 => ?_)
                      go_simp
                      try rfl
                    try simp only [Act.put, List.setIfInBounds_toArray, List.set_cons_zero, List.set_cons_succ]
                    refine Ps.step (i := 1) (d := some 48) (u := ?uwrne_2) rfl rfl (by kernel_rfl) (by kernel_rfl) (by kernel_rfl) (by kernel_rfl) ?ywrne_2 ?rwrne_2
                    case ywrne_2 =>
                      refine StepS.read [] (by kernel_rfl) (fun _ _ _ h => h) (by rfl) (fun L9 m9 w9 hSh hAt hDn hS => ?_)
                      have hT : Below _ _ w9 := hS
                      have x2 : w9.cell? ⟨w.heap.size, 2, none⟩ = some (.slice (some p1) m1 c1) := (HA1.out.ca hT).cell 2
                      clear hT hS
                      go_simp
                      try rfl
                    try simp only [Act.put, List.setIfInBounds_toArray, List.set_cons_zero, List.set_cons_succ]
                    refine Ps.step (i := 2) (d := some 49) (u := ?uwrne_3) rfl rfl (by kernel_rfl) (by kernel_rfl) (by kernel_rfl) (by kernel_rfl) ?ywrne_3 ?rwrne_3
                    case ywrne_3 =>
                      refine StepS.pure (fun _ _ _ h => h) (by rfl) (fun w9 => ?_)
                      go_simp
                      try rfl
                    try simp only [Act.put, List.setIfInBounds_toArray, List.set_cons_zero, List.set_cons_succ]
                    refine Ps.step (i := 3) (d := some 50) (u := ?uwrne_4) rfl rfl (by kernel_rfl) (by kernel_rfl) (by kernel_rfl) (by kernel_rfl) ?ywrne_4 ?rwrne_4
                    case ywrne_4 =>
                      refine StepS.pure (fun _ _ _ h => h) (by rfl) (fun w9 => ?_)
                      go_simp
                      try rfl
                    try simp only [Act.put, List.setIfInBounds_toArray, List.set_cons_zero, List.set_cons_succ]
                    refine Ps.step (i := 4) (d := some 51) (u := ?uwrne_5) rfl rfl (by kernel_rfl) (by kernel_rfl) (by kernel_rfl) (by kernel_rfl) ?ywrne_5 ?rwrne_5
                    case ywrne_5 =>
                      refine StepS.pure (fun _ _ _ h => h) (by rfl) (fun w9 => ?_)
                      go_simp
                      try rfl
                    try simp only [Act.put, List.setIfInBounds_toArray, List.set_cons_zero, List.set_cons_succ]
                    refine Ps.step (i := 5) (d := some 52) (u := ?uwrne_6) rfl rfl (by kernel_rfl) (by kernel_rfl) (by kernel_rfl) (by kernel_rfl) ?ywrne_6 ?rwrne_6
                    case ywrne_6 =>
                      refine StepS.read [] (by kernel_rfl) (fun _ _ _ h => h) (by rfl) (fun L9 m9 w9 hSh hAt hDn hS => ?_)
                      have hT : Below _ _ w9 := hS
                      have x0 := (HS1.out w9 hT).c0
                      clear hT hS
                      go_simp
                      try rfl
                    try simp only [Act.put, List.setIfInBounds_toArray, List.set_cons_zero, List.set_cons_succ]
                    refine Ps.step (i := 6) (d := some 53) (u := ?uwrne_7) rfl rfl (by kernel_rfl) (by kernel_rfl) (by kernel_rfl) (by kernel_rfl) ?ywrne_7 ?rwrne_7
                    case ywrne_7 =>
                      refine StepS.pure (fun _ _ _ h => h) (by rfl) (fun w9 => ?_)
                      go_simp
                      try rfl
                    try simp only [Act.put, List.setIfInBounds_toArray, List.set_cons_zero, List.set_cons_succ]
                    refine Ps.step (i := 7) (d := some 54) (u := ?uwrne_8) rfl rfl (by kernel_rfl) (by kernel_rfl) (by kernel_rfl) (by kernel_rfl) ?ywrne_8 ?rwrne_8
                    case ywrne_8 =>
                      refine StepS.read [] (by kernel_rfl) (fun _ _ _ h => h) (by rfl) (fun L9 m9 w9 hSh hAt hDn hS => ?_)
                      have hT : Below _ _ w9 := hS
                      have x2 : w9.cell? ⟨w.heap.size + 1, 2, none⟩ = some (.slice (some p2) m1 d1) := (HB1.out.ca hT).cell 2
                      clear hT hS
                      go_simp
                      try rfl
                    try simp only [Act.put, List.setIfInBounds_toArray, List.set_cons_zero, List.set_cons_succ]
                    refine Ps.step (i := 8) (d := some 55) (u := ?uwrne_9) rfl rfl (by kernel_rfl) (by kernel_rfl) (by kernel_rfl) (by kernel_rfl) ?ywrne_9 ?rwrne_9
                    case ywrne_9 =>
                      refine StepS.pure (fun _ _ _ h => h) (by rfl) (fun w9 => ?_)
                      go_simp
                      try rfl
                    try simp only [Act.put, List.setIfInBounds_toArray, List.set_cons_zero, List.set_cons_succ]
                    refine Ps.step (i := 9) (d := some 56) (u := ?uwrne_10) rfl rfl (by kernel_rfl) (by kernel_rfl) (by kernel_rfl) (by kernel_rfl) ?ywrne_10 ?rwrne_10
                    case ywrne_10 =>
                      refine StepS.pure (fun _ _ _ h => h) (by rfl) (fun w9 => ?_)
                      go_simp
                      try rfl
                    try simp only [Act.put, List.setIfInBounds_toArray, List.set_cons_zero, List.set_cons_succ]
                    refine Ps.step (i := 10) (d := some 57) (u := ?uwrne_11) rfl rfl (by kernel_rfl) (by kernel_rfl) (by kernel_rfl) (by kernel_rfl) ?ywrne_11 ?rwrne_11
                    case ywrne_11 =>
                      refine StepS.pure (fun _ _ _ h => h) (by rfl) (fun w9 => ?_)
                      go_simp
                      try rfl
                    try simp only [Act.put, List.setIfInBounds_toArray, List.set_cons_zero, List.set_cons_succ]
                    refine Ps.step (i := 11) (d := some 58) (u := ?uwrne_12) rfl rfl (by kernel_rfl) (by kernel_rfl) (by kernel_rfl) (by kernel_rfl) ?ywrne_12 ?rwrne_12
                    case ywrne_12 =>
                      refine StepS.read [] (by kernel_rfl) (fun _ _ _ h => h) (by rfl) (fun L9 m9 w9 hSh hAt hDn hS => ?_)
                      have hT : Below _ _ w9 := hS
                      have x0 := (HS2.out w9 hT).c0
                      clear hT hS
                      go_simp
                      try rfl
                    try simp only [Act.put, List.setIfInBounds_toArray, List.set_cons_zero, List.set_cons_succ]
                    refine Ps.step (i := 12) (d := some 59) (u := ?uwrne_13) rfl rfl (by kernel_rfl) (by kernel_rfl) (by kernel_rfl) (by kernel_rfl) ?ywrne_13 ?rwrne_13
                    case ywrne_13 =>
                      refine StepS.pure (fun _ _ _ h => h) (by rfl) (fun w9 => ?_)
                      go_simp
                      try rfl
                    try simp only [Act.put, List.setIfInBounds_toArray, List.set_cons_zero, List.set_cons_succ]
                    refine Ps.step (i := 13) (d := some 60) (u := ?uwrne_14) rfl rfl (by kernel_rfl) (by kernel_rfl) (by kernel_rfl) (by kernel_rfl) ?ywrne_14 ?rwrne_14
                    case ywrne_14 =>
                      refine StepS.pure (fun _ _ _ h => h) (by rfl) (fun w9 => ?_)
                      go_simp
                      try rfl
                    try simp only [Act.put, List.setIfInBounds_toArray, List.set_cons_zero, List.set_cons_succ]
                    refine Ps.step (i := 14) (d := some 61) (u := ?uwrne_15) rfl rfl (by kernel_rfl) (by kernel_rfl) (by kernel_rfl) (by kernel_rfl) ?ywrne_15 ?rwrne_15
                    case ywrne_15 =>
                      refine StepS.pure (fun _ _ _ h => h) (by rfl) (fun w9 => ?_)
                      go_simp
                      try rfl
                    try simp only [Act.put, List.setIfInBounds_toArray, List.set_cons_zero, List.set_cons_succ]
                    refine Ps.step (i := 15) (d := some 62) (u := ?uwrne_16) rfl rfl (by kernel_rfl) (by kernel_rfl) (by kernel_rfl) (by kernel_rfl) ?ywrne_16 ?rwrne_16
                    case ywrne_16 =>
                      refine StepS.read [] (by kernel_rfl) (fun _ _ _ h => h) (by rfl) (fun L9 m9 w9 hSh hAt hDn hS => ?_)
                      have hT : Below _ _ w9 := hS
                      have x2 : w9.cell? ⟨w.heap.size, 2, none⟩ = some (.slice (some p1) m1 c1) := (HA1.out.ca hT).cell 2
                      clear hT hS
                      go_simp
                      try rfl
                    try simp only [Act.put, List.setIfInBounds_toArray, List.set_cons_zero, List.set_cons_succ]
                    refine Ps.step (i := 16) (d := some 63) (u := ?uwrne_17) rfl rfl (by kernel_rfl) (by kernel_rfl) (by kernel_rfl) (by kernel_rfl) ?ywrne_17 ?rwrne_17
                    case ywrne_17 =>
                      refine StepS.pure (fun _ _ _ h => h) (by rfl) (fun w9 => ?_)
                      go_simp
                      try rfl
                    try simp only [Act.put, List.setIfInBounds_toArray, List.set_cons_zero, List.set_cons_succ]
                    refine Ps.step (i := 17) (d := some 64) (u := ?uwrne_18) rfl rfl (by kernel_rfl) (by kernel_rfl) (by kernel_rfl) (by kernel_rfl) ?ywrne_18 ?rwrne_18
                    case ywrne_18 =>
                      refine StepS.pure (fun _ _ _ h => h) (by rfl) (fun w9 => ?_)
                      go_simp
                      try rfl
                    try simp only [Act.put, List.setIfInBounds_toArray, List.set_cons_zero, List.set_cons_succ]
                    refine Ps.step (i := 18) (d := some 65) (u := ?uwrne_19) rfl rfl (by kernel_rfl) (by kernel_rfl) (by kernel_rfl) (by kernel_rfl) ?ywrne_19 ?rwrne_19
                    case ywrne_19 =>
                      refine StepS.pure (fun _ _ _ h => h) (by rfl) (fun w9 => ?_)
                      go_simp
                      try rfl
                    try simp only [Act.put, List.setIfInBounds_toArray, List.set_cons_zero, List.set_cons_succ]
                    refine Ps.step (i := 19) (d := some 66) (u := ?uwrne_20) rfl rfl (by kernel_rfl) (by kernel_rfl) (by kernel_rfl) (by kernel_rfl) ?ywrne_20 ?rwrne_20
                    case ywrne_20 =>
                      refine StepS.read [] (by kernel_rfl) (fun _ _ _ h => h) (by rfl) (fun L9 m9 w9 hSh hAt hDn hS => ?_)
                      have hT : Below _ _ w9 := hS
                      have x1 := (HS1.out w9 hT).c1
                      have x2 := (HS1.out w9 hT).c2
                      have x3 := (HS1.out w9 hT).c3
                      clear hT hS
                      go_simp
                      try rfl
                    try simp only [Act.put, List.setIfInBounds_toArray, List.set_cons_zero, List.set_cons_succ]
                    refine Ps.step (i := 20) (d := some 67) (u := ?uwrne_21) rfl rfl (by kernel_rfl) (by kernel_rfl) (by kernel_rfl) (by kernel_rfl) ?ywrne_21 ?rwrne_21
                    case ywrne_21 =>
                      refine StepS.pure (fun _ _ _ h => h) (by rfl) (fun w9 => ?_)
                      go_simp
                      try rfl
                    try simp only [Act.put, List.setIfInBounds_toArray, List.set_cons_zero, List.set_cons_succ]
                    refine Ps.step (i := 21) (d := some 68) (u := ?uwrne_22) rfl rfl (by kernel_rfl) (by kernel_rfl) (by kernel_rfl) (by kernel_rfl) ?ywrne_22 ?rwrne_22
                    case ywrne_22 =>
                      refine StepS.read [] (by kernel_rfl) (fun _ _ _ h => h) (by rfl) (fun L9 m9 w9 hSh hAt hDn hS => ?_)
                      have hT : Below _ _ w9 := hS
                      have x2 : w9.cell? ⟨w.heap.size + 1, 2, none⟩ = some (.slice (some p2) m1 d1) := (HB1.out.ca hT).cell 2
                      clear hT hS
                      go_simp
                      try rfl
                    try simp only [Act.put, List.setIfInBounds_toArray, List.set_cons_zero, List.set_cons_succ]
                    refine Ps.step (i := 22) (d := some 69) (u := ?uwrne_23) rfl rfl (by kernel_rfl) (by kernel_rfl) (by kernel_rfl) (by kernel_rfl) ?ywrne_23 ?rwrne_23
                    case ywrne_23 =>
                      refine StepS.pure (fun _ _ _ h => h) (by rfl) (fun w9 => ?_)
                      go_simp
                      try rfl
                    try simp only [Act.put, List.setIfInBounds_toArray, List.set_cons_zero, List.set_cons_succ]
                    refine Ps.step (i := 23) (d := some 70) (u := ?uwrne_24) rfl rfl (by kernel_rfl) (by kernel_rfl) (by kernel_rfl) (by kernel_rfl) ?ywrne_24 ?rwrne_24
                    case ywrne_24 =>
                      refine StepS.pure (fun _ _ _ h => h) (by rfl) (fun w9 => ?_)
                      go_simp
                      try rfl
                    try simp only [Act.put, List.setIfInBounds_toArray, List.set_cons_zero, List.set_cons_succ]
                    refine Ps.step (i := 24) (d := some 71) (u := ?uwrne_25) rfl rfl (by kernel_rfl) (by kernel_rfl) (by kernel_rfl) (by kernel_rfl) ?ywrne_25 ?rwrne_25
                    case ywrne_25 =>
                      refine StepS.pure (fun _ _ _ h => h) (by rfl) (fun w9 => ?_)
                      go_simp
                      try rfl
                    try simp only [Act.put, List.setIfInBounds_toArray, List.set_cons_zero, List.set_cons_succ]
                    refine Ps.step (i := 25) (d := some 72) (u := ?uwrne_26) rfl rfl (by kernel_rfl) (by kernel_rfl) (by kernel_rfl) (by kernel_rfl) ?ywrne_26 ?rwrne_26
                    case ywrne_26 =>
                      refine StepS.read [] (by kernel_rfl) (fun _ _ _ h => h) (by rfl) (fun L9 m9 w9 hSh hAt hDn hS => ?_)
                      have hT : Below _ _ w9 := hS
                      have x1 := (HS2.out w9 hT).c1
                      have x2 := (HS2.out w9 hT).c2
                      have x3 := (HS2.out w9 hT).c3
                      clear hT hS
                      go_simp
                      try rfl
                    try simp only [Act.put, List.setIfInBounds_toArray, List.set_cons_zero, List.set_cons_succ]
                    refine Ps.step (i := 26) (d := some 73) (u := (.bool false)) rfl rfl (by kernel_rfl) (by kernel_rfl) (by kernel_rfl) (by kernel_rfl) ?ywrne_27 ?rwrne_27
                    case ywrne_27 =>
                      refine StepS.call ?fwrne_27 ?awrne_27 [] (by kernel_rfl) (by rfl) (fun w9 => ?hwrne_27) (fun L9 m9 w9 hSh hAt hDn hS => ?cwrne_27)
                      case hwrne_27 => go_simp; refine ⟨?_, ?_⟩ <;> rfl
                      case cwrne_27 =>
                        have hT : Below _ _ w9 := hS
                        refine (HCO.out w9 hT).mono ?_
                        rintro e w8 ⟨rfl, q8⟩
                        exact ⟨by rw [HEQ.out], bl_ca hT q8⟩
                    try simp only [Act.put, List.setIfInBounds_toArray, List.set_cons_zero, List.set_cons_succ]
                    refine Ps.step (i := 27) (d := some 74) (u := ?uwrne_28) rfl rfl (by kernel_rfl) (by kernel_rfl) (by kernel_rfl) (by kernel_rfl) ?ywrne_28 ?rwrne_28
                    case ywrne_28 =>
                      refine StepS.pure (fun _ _ _ h => h) (by rfl) (fun w9 => ?_)
                      go_simp
                      try rfl
                    try simp only [Act.put, List.setIfInBounds_toArray, List.set_cons_zero, List.set_cons_succ]
                    refine Ps.step (i := 28) (d := some 75) (u := ?uwrne_29) rfl rfl (by kernel_rfl) (by kernel_rfl) (by kernel_rfl) (by kernel_rfl) ?ywrne_29 ?rwrne_29
                    case ywrne_29 =>
                      refine StepS.pure (fun _ _ _ h => h) (by rfl) (fun w9 => ?_)
                      go_simp
                      try rfl
                    try simp only [Act.put, List.setIfInBounds_toArray, List.set_cons_zero, List.set_cons_succ]
                    refine Ps.done (by kernel_rfl) (fun wrne hS => ?_) _
                    have HQ := Lib.hid (show Below wr.heap.size wr _ from hS)
                    clear hS
                    obtain ⟨w7, rfl⟩ : ∃ x, x = wrne := ⟨_, rfl⟩
                    go_wp2
                    go_ret
                    exact ⟨ret_bool (by rw [HR.out, HF.out]; simp), bl_ca HQB.out HQ.out⟩
                  · have HEQ := Lib.hid hb
                    have HP2 := Lib.hid (show xs.take (i + 1) = ys.take (i + 1) from by rw [List.take_add_one, List.take_add_one, HP.out, HVI.out, HUI.out, (eqBC_iff _ _).1 hb])
                    clear hb
                    go_wp2_with fail
                    refine wp_region_ps (S := fun _ _ w' => Below wr.heap.size wr w') (by kernel_rfl) ?spswreq ?ppswreq
                    case spswreq =>
                      exact (Below.refl _ _).drew
                    refine Ps.step (i := 0) (d := some 47) (u := ?uwreq_30) rfl rfl (by kernel_rfl) (by kernel_rfl) (by kernel_rfl) (by kernel_rfl) ?ywreq_30 ?rwreq_30
                    case ywreq_30 =>
                      refine StepS.pure (fun _ _ _ h => h) (by rfl) (fun w9 => ?_)
                      go_simp
                      try rfl
                    try simp only [Act.put, List.setIfInBounds_toArray, List.set_cons_zero, List.set_cons_succ]
                    refine Ps.step (i := 1) (d := some 48) (u := ?uwreq_31) rfl rfl (by kernel_rfl) (by kernel_rfl) (by kernel_rfl) (by kernel_rfl) ?ywreq_31 ?rwreq_31
                    case ywreq_31 =>
                      refine StepS.read [] (by kernel_rfl) (fun _ _ _ h => h) (by rfl) (fun L9 m9 w9 hSh hAt hDn hS => ?_)
                      have hT : Below _ _ w9 := hS
                      have x2 : w9.cell? ⟨w.heap.size, 2, none⟩ = some (.slice (some p1) m1 c1) := (HA1.out.ca hT).cell 2
                      clear hT hS
                      go_simp
                      try rfl
                    try simp only [Act.put, List.setIfInBounds_toArray, List.set_cons_zero, List.set_cons_succ]
                    refine Ps.step (i := 2) (d := some 49) (u := ?uwreq_32) rfl rfl (by kernel_rfl) (by kernel_rfl) (by kernel_rfl) (by kernel_rfl) ?ywreq_32 ?rwreq_32
                    case ywreq_32 =>
                      refine StepS.pure (fun _ _ _ h => h) (by rfl) (fun w9 => ?_)
                      go_simp
                      try rfl
                    try simp only [Act.put, List.setIfInBounds_toArray, List.set_cons_zero, List.set_cons_succ]
                    refine Ps.step (i := 3) (d := some 50) (u := ?uwreq_33) rfl rfl (by kernel_rfl) (by kernel_rfl) (by kernel_rfl) (by kernel_rfl) ?ywreq_33 ?rwreq_33
                    case ywreq_33 =>
                      refine StepS.pure (fun _ _ _ h => h) (by rfl) (fun w9 => ?_)
                      go_simp
                      try rfl
                    try simp only [Act.put, List.setIfInBounds_toArray, List.set_cons_zero, List.set_cons_succ]
                    refine Ps.step (i := 4) (d := some 51) (u := ?uwreq_34) rfl rfl (by kernel_rfl) (by kernel_rfl) (by kernel_rfl) (by kernel_rfl) ?ywreq_34 ?rwreq_34
                    case ywreq_34 =>
                      refine StepS.pure (fun _ _ _ h => h) (by rfl) (fun w9 => ?_)
                      go_simp
                      try rfl
                    try simp only [Act.put, List.setIfInBounds_toArray, List.set_cons_zero, List.set_cons_succ]
                    refine Ps.step (i := 5) (d := some 52) (u := ?uwreq_35) rfl rfl (by kernel_rfl) (by kernel_rfl) (by kernel_rfl) (by kernel_rfl) ?ywreq_35 ?rwreq_35
                    case ywreq_35 =>
                      refine StepS.read [] (by kernel_rfl) (fun _ _ _ h => h) (by rfl) (fun L9 m9 w9 hSh hAt hDn hS => ?_)
                      have hT : Below _ _ w9 := hS
                      have x0 := (HS1.out w9 hT).c0
                      clear hT hS
                      go_simp
                      try rfl
                    try simp only [Act.put, List.setIfInBounds_toArray, List.set_cons_zero, List.set_cons_succ]
                    refine Ps.step (i := 6) (d := some 53) (u := ?uwreq_36) rfl rfl (by kernel_rfl) (by kernel_rfl) (by kernel_rfl) (by kernel_rfl) ?ywreq_36 ?rwreq_36
                    case ywreq_36 =>
                      refine StepS.pure (fun _ _ _ h => h) (by rfl) (fun w9 => ?_)
                      go_simp
                      try rfl
                    try simp only [Act.put, List.setIfInBounds_toArray, List.set_cons_zero, List.set_cons_succ]
                    refine Ps.step (i := 7) (d := some 54) (u := ?uwreq_37) rfl rfl (by kernel_rfl) (by kernel_rfl) (by kernel_rfl) (by kernel_rfl) ?ywreq_37 ?rwreq_37
                    case ywreq_37 =>
                      refine StepS.read [] (by kernel_rfl) (fun _ _ _ h => h) (by rfl) (fun L9 m9 w9 hSh hAt hDn hS => ?_)
                      have hT : Below _ _ w9 := hS
                      have x2 : w9.cell? ⟨w.heap.size + 1, 2, none⟩ = some (.slice (some p2) m1 d1) := (HB1.out.ca hT).cell 2
                      clear hT hS
                      go_simp
                      try rfl
                    try simp only [Act.put, List.setIfInBounds_toArray, List.set_cons_zero, List.set_cons_succ]
                    refine Ps.step (i := 8) (d := some 55) (u := ?uwreq_38) rfl rfl (by kernel_rfl) (by kernel_rfl) (by kernel_rfl) (by kernel_rfl) ?ywreq_38 ?rwreq_38
                    case ywreq_38 =>
                      refine StepS.pure (fun _ _ _ h => h) (by rfl) (fun w9 => ?_)
                      go_simp
                      try rfl
                    try simp only [Act.put, List.setIfInBounds_toArray, List.set_cons_zero, List.set_cons_succ]
                    refine Ps.step (i := 9) (d := some 56) (u := ?uwreq_39) rfl rfl (by kernel_rfl) (by kernel_rfl) (by kernel_rfl) (by kernel_rfl) ?ywreq_39 ?rwreq_39
                    case ywreq_39 =>
                      refine StepS.pure (fun _ _ _ h => h) (by rfl) (fun w9 => ?_)
                      go_simp
                      try rfl
                    try simp only [Act.put, List.setIfInBounds_toArray, List.set_cons_zero, List.set_cons_succ]
                    refine Ps.step (i := 10) (d := some 57) (u := ?uwreq_40) rfl rfl (by kernel_rfl) (by kernel_rfl) (by kernel_rfl) (by kernel_rfl) ?ywreq_40 ?rwreq_40
                    case ywreq_40 =>
                      refine StepS.pure (fun _ _ _ h => h) (by rfl) (fun w9 => ?_)
                      go_simp
                      try rfl
                    try simp only [Act.put, List.setIfInBounds_toArray, List.set_cons_zero, List.set_cons_succ]
                    refine Ps.step (i := 11) (d := some 58) (u := ?uwreq_41) rfl rfl (by kernel_rfl) (by kernel_rfl) (by kernel_rfl) (by kernel_rfl) ?ywreq_41 ?rwreq_41
                    case ywreq_41 =>
                      refine StepS.read [] (by kernel_rfl) (fun _ _ _ h => h) (by rfl) (fun L9 m9 w9 hSh hAt hDn hS => ?_)
                      have hT : Below _ _ w9 := hS
                      have x0 := (HS2.out w9 hT).c0
                      clear hT hS
                      go_simp
                      try rfl
                    try simp only [Act.put, List.setIfInBounds_toArray, List.set_cons_zero, List.set_cons_succ]
                    refine Ps.step (i := 12) (d := some 59) (u := ?uwreq_42) rfl rfl (by kernel_rfl) (by kernel_rfl) (by kernel_rfl) (by kernel_rfl) ?ywreq_42 ?rwreq_42
                    case ywreq_42 =>
                      refine StepS.pure (fun _ _ _ h => h) (by rfl) (fun w9 => ?_)
                      go_simp
                      try rfl
                    try simp only [Act.put, List.setIfInBounds_toArray, List.set_cons_zero, List.set_cons_succ]
                    refine Ps.step (i := 13) (d := some 60) (u := ?uwreq_43) rfl rfl (by kernel_rfl) (by kernel_rfl) (by kernel_rfl) (by kernel_rfl) ?ywreq_43 ?rwreq_43
                    case ywreq_43 =>
                      refine StepS.pure (fun _ _ _ h => h) (by rfl) (fun w9 => ?_)
                      go_simp
                      try rfl
                    try simp only [Act.put, List.setIfInBounds_toArray, List.set_cons_zero, List.set_cons_succ]
                    refine Ps.step (i := 14) (d := some 61) (u := ?uwreq_44) rfl rfl (by kernel_rfl) (by kernel_rfl) (by kernel_rfl) (by kernel_rfl) ?ywreq_44 ?rwreq_44
                    case ywreq_44 =>
                      refine StepS.pure (fun _ _ _ h => h) (by rfl) (fun w9 => ?_)
                      go_simp
                      try rfl
                    try simp only [Act.put, List.setIfInBounds_toArray, List.set_cons_zero, List.set_cons_succ]
                    refine Ps.step (i := 15) (d := some 62) (u := ?uwreq_45) rfl rfl (by kernel_rfl) (by kernel_rfl) (by kernel_rfl) (by kernel_rfl) ?ywreq_45 ?rwreq_45
                    case ywreq_45 =>
                      refine StepS.read [] (by kernel_rfl) (fun _ _ _ h => h) (by rfl) (fun L9 m9 w9 hSh hAt hDn hS => ?_)
                      have hT : Below _ _ w9 := hS
                      have x2 : w9.cell? ⟨w.heap.size, 2, none⟩ = some (.slice (some p1) m1 c1) := (HA1.out.ca hT).cell 2
                      clear hT hS
                      go_simp
                      try rfl
                    try simp only [Act.put, List.setIfInBounds_toArray, List.set_cons_zero, List.set_cons_succ]
                    refine Ps.step (i := 16) (d := some 63) (u := ?uwreq_46) rfl rfl (by kernel_rfl) (by kernel_rfl) (by kernel_rfl) (by kernel_rfl) ?ywreq_46 ?rwreq_46
                    case ywreq_46 =>
                      refine StepS.pure (fun _ _ _ h => h) (by rfl) (fun w9 => ?_)
                      go_simp
                      try rfl
                    try simp only [Act.put, List.setIfInBounds_toArray, List.set_cons_zero, List.set_cons_succ]
                    refine Ps.step (i := 17) (d := some 64) (u := ?uwreq_47) rfl rfl (by kernel_rfl) (by kernel_rfl) (by kernel_rfl) (by kernel_rfl) ?ywreq_47 ?rwreq_47
                    case ywreq_47 =>
                      refine StepS.pure (fun _ _ _ h => h) (by rfl) (fun w9 => ?_)
                      go_simp
                      try rfl
                    try simp only [Act.put, List.setIfInBounds_toArray, List.set_cons_zero, List.set_cons_succ]
                    refine Ps.step (i := 18) (d := some 65) (u := ?uwreq_48) rfl rfl (by kernel_rfl) (by kernel_rfl) (by kernel_rfl) (by kernel_rfl) ?ywreq_48 ?rwreq_48
                    case ywreq_48 =>
                      refine StepS.pure (fun _ _ _ h => h) (by rfl) (fun w9 => ?_)
                      go_simp
                      try rfl
                    try simp only [Act.put, List.setIfInBounds_toArray, List.set_cons_zero, List.set_cons_succ]
                    refine Ps.step (i := 19) (d := some 66) (u := ?uwreq_49) rfl rfl (by kernel_rfl) (by kernel_rfl) (by kernel_rfl) (by kernel_rfl) ?ywreq_49 ?rwreq_49
                    case ywreq_49 =>
                      refine StepS.read [] (by kernel_rfl) (fun _ _ _ h => h) (by rfl) (fun L9 m9 w9 hSh hAt hDn hS => ?_)
                      have hT : Below _ _ w9 := hS
                      have x1 := (HS1.out w9 hT).c1
                      have x2 := (HS1.out w9 hT).c2
                      have x3 := (HS1.out w9 hT).c3
                      clear hT hS
                      go_simp
                      try rfl
                    try simp only [Act.put, List.setIfInBounds_toArray, List.set_cons_zero, List.set_cons_succ]
                    refine Ps.step (i := 20) (d := some 67) (u := ?uwreq_50) rfl rfl (by kernel_rfl) (by kernel_rfl) (by kernel_rfl) (by kernel_rfl) ?ywreq_50 ?rwreq_50
                    case ywreq_50 =>
                      refine StepS.pure (fun _ _ _ h => h) (by rfl) (fun w9 => ?_)
                      go_simp
                      try rfl
                    try simp only [Act.put, List.setIfInBounds_toArray, List.set_cons_zero, List.set_cons_succ]
                    refine Ps.step (i := 21) (d := some 68) (u := ?uwreq_51) rfl rfl (by kernel_rfl) (by kernel_rfl) (by kernel_rfl) (by kernel_rfl) ?ywreq_51 ?rwreq_51
                    case ywreq_51 =>
                      refine StepS.read [] (by kernel_rfl) (fun _ _ _ h => h) (by rfl) (fun L9 m9 w9 hSh hAt hDn hS => ?_)
                      have hT : Below _ _ w9 := hS
                      have x2 : w9.cell? ⟨w.heap.size + 1, 2, none⟩ = some (.slice (some p2) m1 d1) := (HB1.out.ca hT).cell 2
                      clear hT hS
                      go_simp
                      try rfl
                    try simp only [Act.put, List.setIfInBounds_toArray, List.set_cons_zero, List.set_cons_succ]
                    refine Ps.step (i := 22) (d := some 69) (u := ?uwreq_52) rfl rfl (by kernel_rfl) (by kernel_rfl) (by kernel_rfl) (by kernel_rfl) ?ywreq_52 ?rwreq_52
                    case ywreq_52 =>
                      refine StepS.pure (fun _ _ _ h => h) (by rfl) (fun w9 => ?_)
                      go_simp
                      try rfl
                    try simp only [Act.put, List.setIfInBounds_toArray, List.set_cons_zero, List.set_cons_succ]
                    refine Ps.step (i := 23) (d := some 70) (u := ?uwreq_53) rfl rfl (by kernel_rfl) (by kernel_rfl) (by kernel_rfl) (by kernel_rfl) ?ywreq_53 ?rwreq_53
                    case ywreq_53 =>
                      refine StepS.pure (fun _ _ _ h => h) (by rfl) (fun w9 => ?_)
                      go_simp
                      try rfl
                    try simp only [Act.put, List.setIfInBounds_toArray, List.set_cons_zero, List.set_cons_succ]
                    refine Ps.step (i := 24) (d := some 71) (u := ?uwreq_54) rfl rfl (by kernel_rfl) (by kernel_rfl) (by kernel_rfl) (by kernel_rfl) ?ywreq_54 ?rwreq_54
                    case ywreq_54 =>
                      refine StepS.pure (fun _ _ _ h => h) (by rfl) (fun w9 => ?_)
                      go_simp
                      try rfl
                    try simp only [Act.put, List.setIfInBounds_toArray, List.set_cons_zero, List.set_cons_succ]
                    refine Ps.step (i := 25) (d := some 72) (u := ?uwreq_55) rfl rfl (by kernel_rfl) (by kernel_rfl) (by kernel_rfl) (by kernel_rfl) ?ywreq_55 ?rwreq_55
                    case ywreq_55 =>
                      refine StepS.read [] (by kernel_rfl) (fun _ _ _ h => h) (by rfl) (fun L9 m9 w9 hSh hAt hDn hS => ?_)
                      have hT : Below _ _ w9 := hS
                      have x1 := (HS2.out w9 hT).c1
                      have x2 := (HS2.out w9 hT).c2
                      have x3 := (HS2.out w9 hT).c3
                      clear hT hS
                      go_simp
                      try rfl
                    try simp only [Act.put, List.setIfInBounds_toArray, List.set_cons_zero, List.set_cons_succ]
                    refine Ps.step (i := 26) (d := some 73) (u := (.bool true)) rfl rfl (by kernel_rfl) (by kernel_rfl) (by kernel_rfl) (by kernel_rfl) ?ywreq_56 ?rwreq_56
                    case ywreq_56 =>
                      refine StepS.call ?fwreq_56 ?awreq_56 [] (by kernel_rfl) (by rfl) (fun w9 => ?hwreq_56) (fun L9 m9 w9 hSh hAt hDn hS => ?cwreq_56)
                      case hwreq_56 => go_simp; refine ⟨?_, ?_⟩ <;> rfl
                      case cwreq_56 =>
                        have hT : Below _ _ w9 := hS
                        refine (HCO.out w9 hT).mono ?_
                        rintro e w8 ⟨rfl, q8⟩
                        exact ⟨by rw [HEQ.out], bl_ca hT q8⟩
                    try simp only [Act.put, List.setIfInBounds_toArray, List.set_cons_zero, List.set_cons_succ]
                    refine Ps.step (i := 27) (d := some 74) (u := ?uwreq_57) rfl rfl (by kernel_rfl) (by kernel_rfl) (by kernel_rfl) (by kernel_rfl) ?ywreq_57 ?rwreq_57
                    case ywreq_57 =>
                      refine StepS.pure (fun _ _ _ h => h) (by rfl) (fun w9 => ?_)
                      go_simp
                      try rfl
                    try simp only [Act.put, List.setIfInBounds_toArray, List.set_cons_zero, List.set_cons_succ]
                    refine Ps.step (i := 28) (d := some 75) (u := ?uwreq_58) rfl rfl (by kernel_rfl) (by kernel_rfl) (by kernel_rfl) (by kernel_rfl) ?ywreq_58 ?rwreq_58
                    case ywreq_58 =>
                      refine StepS.pure (fun _ _ _ h => h) (by rfl) (fun w9 => ?_)
                      go_simp
                      try rfl
                    try simp only [Act.put, List.setIfInBounds_toArray, List.set_cons_zero, List.set_cons_succ]
                    refine Ps.done (by kernel_rfl) (fun wreq hS => ?_) _
                    have HQ := Lib.hid (show Below wr.heap.size wr _ from hS)
                    clear hS
                    obtain ⟨w7, rfl⟩ : ∃ x, x = wreq := ⟨_, rfl⟩
                    go_wp2
                    go_roundg (gk - 1)
                    · exact ⟨i + 1, by omega, by go_num, HP2.out, bl_ca (show Below w1.heap.size w1 wr from HBBW.out) HQ.out⟩
                    · omega
                · have d0 : ((vs : Int) != us) = true := by simpa using hs
                  have HF := Lib.hid (show decide (xs = ys) = false from decide_eq_false fun e => by have h1 := HVI.out; rw [e, HUI.out] at h1; injection h1 with h1; injection h1 with h2 h3; exact hs h2.symm)
                  have HNE := Lib.hid hs
                  clear hs
                  go_wp2_with fail
                  refine wp_region_ps (S := fun _ _ w' => Below wr.heap.size wr w') (by kernel_rfl) ?spswrseq ?ppswrseq
                  case spswrseq =>
                    exact (Below.refl _ _).drew
                  refine Ps.step (i := 0) (d := some 47) (u := ?uwrseq_59) rfl rfl (by kernel_rfl) (by kernel_rfl) (by kernel_rfl) (by kernel_rfl) ?ywrseq_59 ?rwrseq_59
                  case ywrseq_59 =>
                    refine StepS.pure (fun _ _ _ h => h) (by rfl) (fun w9 => ?_)
                    go_simp
                    try rfl
                  try simp only [Act.put, List.setIfInBounds_toArray, List.set_cons_zero, List.set_cons_succ]
                  refine Ps.step (i := 1) (d := some 48) (u := ?uwrseq_60) rfl rfl (by kernel_rfl) (by kernel_rfl) (by kernel_rfl) (by kernel_rfl) ?ywrseq_60 ?rwrseq_60
                  case ywrseq_60 =>
                    refine StepS.read [] (by kernel_rfl) (fun _ _ _ h => h) (by rfl) (fun L9 m9 w9 hSh hAt hDn hS => ?_)
                    have hT : Below _ _ w9 := hS
                    have x2 : w9.cell? ⟨w.heap.size, 2, none⟩ = some (.slice (some p1) m1 c1) := (HA1.out.ca hT).cell 2
                    clear hT hS
                    go_simp
                    try rfl
                  try simp only [Act.put, List.setIfInBounds_toArray, List.set_cons_zero, List.set_cons_succ]
                  refine Ps.step (i := 2) (d := some 49) (u := ?uwrseq_61) rfl rfl (by kernel_rfl) (by kernel_rfl) (by kernel_rfl) (by kernel_rfl) ?ywrseq_61 ?rwrseq_61
                  case ywrseq_61 =>
                    refine StepS.pure (fun _ _ _ h => h) (by rfl) (fun w9 => ?_)
                    go_simp
                    try rfl
                  try simp only [Act.put, List.setIfInBounds_toArray, List.set_cons_zero, List.set_cons_succ]
                  refine Ps.step (i := 3) (d := some 50) (u := ?uwrseq_62) rfl rfl (by kernel_rfl) (by kernel_rfl) (by kernel_rfl) (by kernel_rfl) ?ywrseq_62 ?rwrseq_62
                  case ywrseq_62 =>
                    refine StepS.pure (fun _ _ _ h => h) (by rfl) (fun w9 => ?_)
                    go_simp
                    try rfl
                  try simp only [Act.put, List.setIfInBounds_toArray, List.set_cons_zero, List.set_cons_succ]
                  refine Ps.step (i := 4) (d := some 51) (u := ?uwrseq_63) rfl rfl (by kernel_rfl) (by kernel_rfl) (by kernel_rfl) (by kernel_rfl) ?ywrseq_63 ?rwrseq_63
                  case ywrseq_63 =>
                    refine StepS.pure (fun _ _ _ h => h) (by rfl) (fun w9 => ?_)
                    go_simp
                    try rfl
                  try simp only [Act.put, List.setIfInBounds_toArray, List.set_cons_zero, List.set_cons_succ]
                  refine Ps.step (i := 5) (d := some 52) (u := ?uwrseq_64) rfl rfl (by kernel_rfl) (by kernel_rfl) (by kernel_rfl) (by kernel_rfl) ?ywrseq_64 ?rwrseq_64
                  case ywrseq_64 =>
                    refine StepS.read [] (by kernel_rfl) (fun _ _ _ h => h) (by rfl) (fun L9 m9 w9 hSh hAt hDn hS => ?_)
                    have hT : Below _ _ w9 := hS
                    have x0 := (HS1.out w9 hT).c0
                    clear hT hS
                    go_simp
                    try rfl
                  try simp only [Act.put, List.setIfInBounds_toArray, List.set_cons_zero, List.set_cons_succ]
                  refine Ps.step (i := 6) (d := some 53) (u := ?uwrseq_65) rfl rfl (by kernel_rfl) (by kernel_rfl) (by kernel_rfl) (by kernel_rfl) ?ywrseq_65 ?rwrseq_65
                  case ywrseq_65 =>
                    refine StepS.pure (fun _ _ _ h => h) (by rfl) (fun w9 => ?_)
                    go_simp
                    try rfl
                  try simp only [Act.put, List.setIfInBounds_toArray, List.set_cons_zero, List.set_cons_succ]
                  refine Ps.step (i := 7) (d := some 54) (u := ?uwrseq_66) rfl rfl (by kernel_rfl) (by kernel_rfl) (by kernel_rfl) (by kernel_rfl) ?ywrseq_66 ?rwrseq_66
                  case ywrseq_66 =>
                    refine StepS.read [] (by kernel_rfl) (fun _ _ _ h => h) (by rfl) (fun L9 m9 w9 hSh hAt hDn hS => ?_)
                    have hT : Below _ _ w9 := hS
                    have x2 : w9.cell? ⟨w.heap.size + 1, 2, none⟩ = some (.slice (some p2) m1 d1) := (HB1.out.ca hT).cell 2
                    clear hT hS
                    go_simp
                    try rfl
                  try simp only [Act.put, List.setIfInBounds_toArray, List.set_cons_zero, List.set_cons_succ]
                  refine Ps.step (i := 8) (d := some 55) (u := ?uwrseq_67) rfl rfl (by kernel_rfl) (by kernel_rfl) (by kernel_rfl) (by kernel_rfl) ?ywrseq_67 ?rwrseq_67
                  case ywrseq_67 =>
                    refine StepS.pure (fun _ _ _ h => h) (by rfl) (fun w9 => ?_)
                    go_simp
                    try rfl
                  try simp only [Act.put, List.setIfInBounds_toArray, List.set_cons_zero, List.set_cons_succ]
                  refine Ps.step (i := 9) (d := some 56) (u := ?uwrseq_68) rfl rfl (by kernel_rfl) (by kernel_rfl) (by kernel_rfl) (by kernel_rfl) ?ywrseq_68 ?rwrseq_68
                  case ywrseq_68 =>
                    refine StepS.pure (fun _ _ _ h => h) (by rfl) (fun w9 => ?_)
                    go_simp
                    try rfl
                  try simp only [Act.put, List.setIfInBounds_toArray, List.set_cons_zero, List.set_cons_succ]
                  refine Ps.step (i := 10) (d := some 57) (u := ?uwrseq_69) rfl rfl (by kernel_rfl) (by kernel_rfl) (by kernel_rfl) (by kernel_rfl) ?ywrseq_69 ?rwrseq_69
                  case ywrseq_69 =>
                    refine StepS.pure (fun _ _ _ h => h) (by rfl) (fun w9 => ?_)
                    go_simp
                    try rfl
                  try simp only [Act.put, List.setIfInBounds_toArray, List.set_cons_zero, List.set_cons_succ]
                  refine Ps.step (i := 11) (d := some 58) (u := ?uwrseq_70) rfl rfl (by kernel_rfl) (by kernel_rfl) (by kernel_rfl) (by kernel_rfl) ?ywrseq_70 ?rwrseq_70
                  case ywrseq_70 =>
                    refine StepS.read [] (by kernel_rfl) (fun _ _ _ h => h) (by rfl) (fun L9 m9 w9 hSh hAt hDn hS => ?_)
                    have hT : Below _ _ w9 := hS
                    have x0 := (HS2.out w9 hT).c0
                    clear hT hS
                    go_simp
                    try rfl
                  try simp only [Act.put, List.setIfInBounds_toArray, List.set_cons_zero, List.set_cons_succ]
                  refine Ps.step (i := 12) (d := some 59) (u := ?uwrseq_71) rfl rfl (by kernel_rfl) (by kernel_rfl) (by kernel_rfl) (by kernel_rfl) ?ywrseq_71 ?rwrseq_71
                  case ywrseq_71 =>
                    refine StepS.pure (fun _ _ _ h => h) (by rfl) (fun w9 => ?_)
                    go_simp
                    try rfl
                  try simp only [Act.put, List.setIfInBounds_toArray, List.set_cons_zero, List.set_cons_succ]
                  refine Ps.step (i := 13) (d := some 60) (u := ?uwrseq_72) rfl rfl (by kernel_rfl) (by kernel_rfl) (by kernel_rfl) (by kernel_rfl) ?ywrseq_72 ?rwrseq_72
                  case ywrseq_72 =>
                    refine StepS.pure (fun _ _ _ h => h) (by rfl) (fun w9 => ?_)
                    go_simp
                    try rfl
                  try simp only [Act.put, List.setIfInBounds_toArray, List.set_cons_zero, List.set_cons_succ]
                  refine Ps.step (i := 14) (d := some 61) (u := undef) rfl rfl (by kernel_rfl) (by kernel_rfl) (by kernel_rfl) (by kernel_rfl) ?ywrseq_73 ?rwrseq_73
                  case ywrseq_73 =>
                    exact StepS.skip (fun _ _ _ h => h) (by rfl)
                  try simp only [Act.put, List.setIfInBounds_toArray, List.set_cons_zero, List.set_cons_succ]
                  refine Ps.step (i := 15) (d := some 62) (u := undef) rfl rfl (by kernel_rfl) (by kernel_rfl) (by kernel_rfl) (by kernel_rfl) ?ywrseq_74 ?rwrseq_74
                  case ywrseq_74 =>
                    exact StepS.skip (fun _ _ _ h => h) (by rfl)
                  try simp only [Act.put, List.setIfInBounds_toArray, List.set_cons_zero, List.set_cons_succ]
                  refine Ps.step (i := 16) (d := some 63) (u := undef) rfl rfl (by kernel_rfl) (by kernel_rfl) (by kernel_rfl) (by kernel_rfl) ?ywrseq_75 ?rwrseq_75
                  case ywrseq_75 =>
                    exact StepS.skip (fun _ _ _ h => h) (by rfl)
                  try simp only [Act.put, List.setIfInBounds_toArray, List.set_cons_zero, List.set_cons_succ]
                  refine Ps.step (i := 17) (d := some 64) (u := undef) rfl rfl (by kernel_rfl) (by kernel_rfl) (by kernel_rfl) (by kernel_rfl) ?ywrseq_76 ?rwrseq_76
                  case ywrseq_76 =>
                    exact StepS.skip (fun _ _ _ h => h) (by rfl)
                  try simp only [Act.put, List.setIfInBounds_toArray, List.set_cons_zero, List.set_cons_succ]
                  refine Ps.step (i := 18) (d := some 65) (u := undef) rfl rfl (by kernel_rfl) (by kernel_rfl) (by kernel_rfl) (by kernel_rfl) ?ywrseq_77 ?rwrseq_77
                  case ywrseq_77 =>
                    exact StepS.skip (fun _ _ _ h => h) (by rfl)
                  try simp only [Act.put, List.setIfInBounds_toArray, List.set_cons_zero, List.set_cons_succ]
                  refine Ps.step (i := 19) (d := some 66) (u := undef) rfl rfl (by kernel_rfl) (by kernel_rfl) (by kernel_rfl) (by kernel_rfl) ?ywrseq_78 ?rwrseq_78
                  case ywrseq_78 =>
                    exact StepS.skip (fun _ _ _ h => h) (by rfl)
                  try simp only [Act.put, List.setIfInBounds_toArray, List.set_cons_zero, List.set_cons_succ]
                  refine Ps.step (i := 20) (d := some 67) (u := undef) rfl rfl (by kernel_rfl) (by kernel_rfl) (by kernel_rfl) (by kernel_rfl) ?ywrseq_79 ?rwrseq_79
                  case ywrseq_79 =>
                    exact StepS.skip (fun _ _ _ h => h) (by rfl)
                  try simp only [Act.put, List.setIfInBounds_toArray, List.set_cons_zero, List.set_cons_succ]
                  refine Ps.step (i := 21) (d := some 68) (u := undef) rfl rfl (by kernel_rfl) (by kernel_rfl) (by kernel_rfl) (by kernel_rfl) ?ywrseq_80 ?rwrseq_80
                  case ywrseq_80 =>
                    exact StepS.skip (fun _ _ _ h => h) (by rfl)
                  try simp only [Act.put, List.setIfInBounds_toArray, List.set_cons_zero, List.set_cons_succ]
                  refine Ps.step (i := 22) (d := some 69) (u := undef) rfl rfl (by kernel_rfl) (by kernel_rfl) (by kernel_rfl) (by kernel_rfl) ?ywrseq_81 ?rwrseq_81
                  case ywrseq_81 =>
                    exact StepS.skip (fun _ _ _ h => h) (by rfl)
                  try simp only [Act.put, List.setIfInBounds_toArray, List.set_cons_zero, List.set_cons_succ]
                  refine Ps.step (i := 23) (d := some 70) (u := undef) rfl rfl (by kernel_rfl) (by kernel_rfl) (by kernel_rfl) (by kernel_rfl) ?ywrseq_82 ?rwrseq_82
                  case ywrseq_82 =>
                    exact StepS.skip (fun _ _ _ h => h) (by rfl)
                  try simp only [Act.put, List.setIfInBounds_toArray, List.set_cons_zero, List.set_cons_succ]
                  refine Ps.step (i := 24) (d := some 71) (u := undef) rfl rfl (by kernel_rfl) (by kernel_rfl) (by kernel_rfl) (by kernel_rfl) ?ywrseq_83 ?rwrseq_83
                  case ywrseq_83 =>
                    exact StepS.skip (fun _ _ _ h => h) (by rfl)
                  try simp only [Act.put, List.setIfInBounds_toArray, List.set_cons_zero, List.set_cons_succ]
                  refine Ps.step (i := 25) (d := some 72) (u := undef) rfl rfl (by kernel_rfl) (by kernel_rfl) (by kernel_rfl) (by kernel_rfl) ?ywrseq_84 ?rwrseq_84
                  case ywrseq_84 =>
                    exact StepS.skip (fun _ _ _ h => h) (by rfl)
                  try simp only [Act.put, List.setIfInBounds_toArray, List.set_cons_zero, List.set_cons_succ]
                  refine Ps.step (i := 26) (d := some 73) (u := undef) rfl rfl (by kernel_rfl) (by kernel_rfl) (by kernel_rfl) (by kernel_rfl) ?ywrseq_85 ?rwrseq_85
                  case ywrseq_85 =>
                    exact StepS.skip (fun _ _ _ h => h) (by rfl)
                  try simp only [Act.put, List.setIfInBounds_toArray, List.set_cons_zero, List.set_cons_succ]
                  refine Ps.step (i := 27) (d := some 74) (u := undef) rfl rfl (by kernel_rfl) (by kernel_rfl) (by kernel_rfl) (by kernel_rfl) ?ywrseq_86 ?rwrseq_86
                  case ywrseq_86 =>
                    exact StepS.skip (fun _ _ _ h => h) (by rfl)
                  try simp only [Act.put, List.setIfInBounds_toArray, List.set_cons_zero, List.set_cons_succ]
                  refine Ps.step (i := 28) (d := some 75) (u := ?uwrseq_87) rfl rfl (by kernel_rfl) (by kernel_rfl) (by kernel_rfl) (by kernel_rfl) ?ywrseq_87 ?rwrseq_87
                  case ywrseq_87 =>
                    refine StepS.pure (fun _ _ _ h => h) (by rfl) (fun w9 => ?_)
                    go_simp
                    try rfl
                  try simp only [Act.put, List.setIfInBounds_toArray, List.set_cons_zero, List.set_cons_succ]
                  refine Ps.done (by kernel_rfl) (fun wrseq hS => ?_) _
                  have HQ := Lib.hid (show Below wr.heap.size wr _ from hS)
                  clear hS
                  obtain ⟨w7, rfl⟩ : ∃ x, x = wrseq := ⟨_, rfl⟩
                  go_wp2
                  go_ret
                  exact ⟨ret_bool (by rw [HR.out, HF.out]; simp), bl_ca HQB.out HQ.out⟩
              · obtain rfl : i = m1 := by omega
                have hil : (i : Int) ≤ (i : Int) := by omega
                have HF := Lib.hid (show decide (xs = ys) = true from decide_eq_true (by have hp := HP.out; rwa [List.take_of_length_le (by rw [HXL.out]; omega), List.take_of_length_le (by rw [HYL.out]; omega)] at hp))
                have HE := Lib.hid (rsameBs_any F G A2 B2 m2 c2 n2 d2 qa qb wr (Lay.rd_below HX2.out bb) (Lay.rd_below HY2.out bb) hm2)
                have x3 : wr.cell? ⟨w.heap.size, 3, none⟩ = some (.slice A2 m2 c2) := HA1.out.cell 3
                have y3 : wr.cell? ⟨w.heap.size + 1, 3, none⟩ = some (.slice B2 n2 d2) := HB1.out.cell 3
                clear bb
                go_wp2_with fail
                refine HE.out.mono ?_
                rintro e w2 ⟨rfl, q2⟩
                have HQ := Lib.hid q2
                clear q2
                go_wp2
                go_ret
                exact ⟨ret_bool (by rw [HR.out, HF.out]; simp), bl_ca HQB.out HQ.out⟩
          · have d1 : ((m1 : Int) != (n1 : Int)) = true := by simp; omega
            have HF := Lib.hid (show decide (xs = ys) = false from decide_eq_false fun e => by have h1 := HXL.out; rw [e, HYL.out] at h1; exact hl h1.symm)
            clear hl
            go_enter Try.func14, Try.ntmps14
            go_wp2
            go_ret
            exact ⟨ret_bool (by rw [HR.out, HF.out]; simp), HB.out⟩
        · have d1 : (a5 != b5) = true := by simpa using h3
          have d2 : (a5 == b5) = false := by simpa using h3
          clear h3
          go_enter Try.func14, Try.ntmps14
          go_wp2
          go_ret
          exact ⟨ret_bool (by rw [HR.out, d2]; simp), HB.out⟩
      · have d1 : (a4 != b4) = true := by simpa using h2
        have d2 : (a4 == b4) = false := by simpa using h2
        clear h2
        go_enter Try.func14, Try.ntmps14
        go_wp2
        go_ret
        exact ⟨ret_bool (by rw [HR.out, d2]; simp), HB.out⟩
    · have d1 : (a1 != b1) = true := by simpa using h1
      have d2 : (a1 == b1) = false := by simpa using h1
      clear h1
      go_enter Try.func14, Try.ntmps14
      go_wp2
      go_ret
      exact ⟨ret_bool (by rw [HR.out, d2]; simp), HB.out⟩
  · have d1 : (a0 != b0) = true := by simpa using h0
    have d2 : (a0 == b0) = false := by simpa using h0
    clear h0
    go_enter Try.func14, Try.ntmps14
    go_wp2
    go_ret
    exact ⟨ret_bool (by rw [HR.out, d2]; simp), HB.out⟩
end Go.Proofs.Ytojghgbaiiajfaa
