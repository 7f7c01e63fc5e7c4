/- The references' equality of receivers. Conditions: the slices read so. -/
import Derived.Test.YtojghgbaiiajfaaPkO13
namespace Go.Proofs.Ytojghgbaiiajfaa
open Go.RowKit
theorem SH.ca {w w' : World} {F : Nat → Prop} {p : Addr} {b : HC} {B : Option Addr} {n c : Nat} (h : SH w F p b B n c) (q : Below w.heap.size w w') : SH w' F p b B n c :=
  ⟨(q.cell (p := p) (cells_block h.c0)).trans h.c0, (q.cell (p := ⟨p.block, p.off + 1, none⟩) (cells_block h.c1)).trans h.c1, (q.cell (p := ⟨p.block, p.off + 2, none⟩) (cells_block h.c2)).trans h.c2, (q.cell (p := ⟨p.block, p.off + 3, none⟩) (cells_block h.c3)).trans h.c3, h.nc, h.cm, Lay.rd_below h.rd q⟩
def eqHC (a b : HC) : Bool := a.seq == b.seq && eqBC a.b b.b
theorem eqHC_iff (a b : HC) : eqHC a b = true ↔ a = b := by
  rcases a with ⟨s, x⟩
  rcases b with ⟨t, y⟩
  simp [eqHC, eqBC_iff]
instance : DecidableEq HC := fun a b => decidable_of_iff (eqHC a b = true) (eqHC_iff a b)
def flatRC (a b : RC) : Bool := a.ses == b.ses && (a.next == b.next && (a.room == b.room && a.over == b.over))
def eqRC (a b : RC) : Bool := flatRC a b && (decide (a.ahead = b.ahead) && decide (a.buf = b.buf))
theorem eqRC_iff (a b : RC) : eqRC a b = true ↔ a = b := by
  rcases a with ⟨a0, a1, a2, a3, a4, a5⟩
  rcases b with ⟨b0, b1, b2, b3, b4, b5⟩
  simp [eqRC, flatRC]
  exact ⟨fun ⟨⟨x0, x1, x4, x5⟩, x2, x3⟩ => ⟨x0, x1, x2, x3, x4, x5⟩, fun ⟨x0, x1, x2, x3, x4, x5⟩ => ⟨⟨x0, x1, x4, x5⟩, x2, x3⟩⟩
set_option maxRecDepth 100000 in
set_option maxHeartbeats 16000000 in
theorem rsameR_any (F G : Nat → Prop) (a b : RC) (A1 : Option Addr) (m1 c1 : Nat) (A2 : Option Addr) (m2 c2 : Nat) (B1 : Option Addr) (n1 d1 : Nat) (B2 : Option Addr) (n2 d2 : Nat) (w : World)
    (hx : LH4.rd w F A1 m1 a.ahead) (hx2 : LB3.rd w F A2 m2 a.buf) (hy : LH4.rd w G B1 n1 b.ahead) (hy2 : LB3.rd w G B2 n2 b.buf) (hm : m1 ≤ 9223372036854775807) (hm2 : m2 ≤ 9223372036854775807) :
    Calls Try.prog 14 #[.agg (a.cells A1 m1 c1 A2 m2 c2), .agg (b.cells B1 n1 d1 B2 n2 d2)] w fun e w' => e = .returned (.bool (eqRC a b)) ∧ Below w.heap.size w w' := by
  have HXL := Lib.hid (Lay.rd_len hx)
  have HYL := Lib.hid (Lay.rd_len hy)
  have HR := Lib.hid (show eqRC a b = (flatRC a b && (decide (a.ahead = b.ahead) && decide (a.buf = b.buf))) from rfl)
  generalize eqRC a b = r at *
  obtain ⟨a0, a1, xs, qa, a4, a5⟩ := a
  obtain ⟨b0, b1, ys, qb, b4, b5⟩ := b
  unfold flatRC at HR
  dsimp only at *
  have q1 := bl_al (Below.refl w.heap.size w) (.cells #[.int .u32 a0, .int .u64 a1, .slice A1 m1 c1, .slice A2 m2 c2, .int .i64 a4, .bool a5] 36)
  have q2 := bl_al (Below.refl (w.alloc (.cells #[.int .u32 a0, .int .u64 a1, .slice A1 m1 c1, .slice A2 m2 c2, .int .i64 a4, .bool a5] 36)).heap.size (w.alloc (.cells #[.int .u32 a0, .int .u64 a1, .slice A1 m1 c1, .slice A2 m2 c2, .int .i64 a4, .bool a5] 36))) (.cells #[.int .u32 b0, .int .u64 b1, .slice B1 n1 d1, .slice B2 n2 d2, .int .i64 b4, .bool b5] 36)
  have HBA := Lib.hid ((Blk.new w 36 #[.int .u32 a0, .int .u64 a1, .slice A1 m1 c1, .slice A2 m2 c2, .int .i64 a4, .bool a5]).ca q2)
  have HBB0 := Lib.hid (show Blk ((w.alloc (.cells #[.int .u32 a0, .int .u64 a1, .slice A1 m1 c1, .slice A2 m2 c2, .int .i64 a4, .bool a5] 36)).alloc (.cells #[.int .u32 b0, .int .u64 b1, .slice B1 n1 d1, .slice B2 n2 d2, .int .i64 b4, .bool b5] 36)) (w.heap.size + 1) 36 #[.int .u32 b0, .int .u64 b1, .slice B1 n1 d1, .slice B2 n2 d2, .int .i64 b4, .bool b5] from Blk.mk' (by simp only [World.size_alloc]))
  have HB := Lib.hid (bl_ca q1 q2)
  have HX := Lib.hid (Lay.rd_below (Lay.rd_below hx q1) q2)
  have HX2 := Lib.hid (Lay.rd_below (Lay.rd_below hx2 q1) q2)
  have HY := Lib.hid (Lay.rd_below (Lay.rd_below hy q1) q2)
  have HY2 := Lib.hid (Lay.rd_below (Lay.rd_below hy2 q1) q2)
  clear hx hx2 hy hy2 q1 q2
  by_cases h0 : a0 = b0
  · subst h0
    by_cases h1 : a1 = b1
    · subst h1
      by_cases h2 : a4 = b4
      · subst h2
        by_cases h3 : a5 = b5
        · subst h3
          by_cases hl : m1 = n1
          · subst hl
            go_enter Try.func14, Try.ntmps14
            go_wp2_with fail
            generalize (w.alloc (.cells #[.int .u32 a0, .int .u64 a1, .slice A1 m1 c1, .slice A2 m2 c2, .int .i64 a4, .bool a5] 36)).alloc (.cells #[.int .u32 a0, .int .u64 a1, .slice B1 m1 d1, .slice B2 n2 d2, .int .i64 a4, .bool a5] 36) = w1 at *
            go_loopg [44] m1 (fun g s wr => ∃ i : Nat, i + g = m1 ∧ s = .int .i64 i ∧ xs.take i = ys.take i ∧ Below w1.heap.size w1 wr)
            case atStart => exact ⟨0, by omega, rfl, rfl, Below.refl _ _⟩
            case round =>
              obtain ⟨i, hi1, rfl, hp, bb⟩ := hrel
              have HP := Lib.hid hp
              have HQB := Lib.hid (bl_ca HB.out bb)
              have HBBW := Lib.hid bb
              have HA1 := Lib.hid (HBA.out.ca bb)
              have HB1 := Lib.hid (HBB0.out.ca bb)
              clear hp
              by_cases hi : i < m1
              · have hil : (i : Int) < (m1 : Int) := by omega
                obtain ⟨p1, v, V1, k1, e1, rfl, hv, s1⟩ := LH4_at (Lay.rd_below HX.out bb) hi
                obtain ⟨p2, u, U1, k2, e2, rfl, hu, s2⟩ := LH4_at (Lay.rd_below HY.out bb) hi
                have HS1 := Lib.hid (fun W (q : Below wr.heap.size wr W) => s1.ca q)
                have HS2 := Lib.hid (fun W (q : Below wr.heap.size wr W) => s2.ca q)
                have HCO := Lib.hid (fun W (q : Below wr.heap.size wr W) => rsameB_any F G v.b u.b V1 U1 k1 e1 k2 e2 W (s1.ca q).rd (s2.ca q).rd (Nat.le_trans s1.nc s1.cm))
                have HVI := Lib.hid hv
                have HUI := Lib.hid hu
                clear hv hu s1 s2 bb
                obtain ⟨vs, vb⟩ := v
                obtain ⟨us, ub⟩ := u
                dsimp only at HS1 HS2 HCO
                by_cases hs : vs = us
                · subst hs
                  have d0 : ((vs : Int) != vs) = false := by simp
                  cases hb : eqBC vb ub
                  · have HEQ := Lib.hid hb
                    have HF := Lib.hid (show decide (xs = ys) = false from decide_eq_false fun e => by have h1 := HVI.out; rw [e, HUI.out] at h1; injection h1 with h1; injection h1 with h2 h3; subst h3; have h4 := HEQ.out; rw [(eqBC_iff _ _).2 rfl] at h4; cases h4)
                    clear hb
                    go_wp2_with fail
                    refine wp_region_ps (S := fun _ _ w' => Below wr.heap.size wr w') (by kernel_rfl) ?spswrne ?ppswrne
                    case spswrne =>
                      exact (Below.refl _ _).drew
                    refine Ps.st (i := 0) (d := some 47) (u := _) rfl rfl (StepS.pure (fun _ _ _ h => h) rfl fun w9 => by go_simp; try rfl) ?_
                    try simp only [Act.put, sA, sZ, sS]
                    refine Ps.st (i := 1) (d := some 48) (u := ?uwrne_2) rfl rfl ?ywrne_2 ?rwrne_2
                    case ywrne_2 =>
                      refine StepS.read [] (by kernel_rfl) (fun _ _ _ h => h) (by rfl) (fun L9 m9 w9 hSh hAt hDn hS => ?_)
                      have hT : Below _ _ w9 := hS
                      have x2 : w9.cell? ⟨w.heap.size, 2, none⟩ = some (.slice (some p1) m1 c1) := (HA1.out.ca hT).cell 2
                      clear hT hS
                      go_simp
                      try rfl
                    try simp only [Act.put, sA, sZ, sS]
                    refine Ps.st (i := 2) (d := some 49) (u := _) rfl rfl (StepS.pure (fun _ _ _ h => h) rfl fun w9 => by go_simp; try rfl) ?_
                    try simp only [Act.put, sA, sZ, sS]
                    refine Ps.st (i := 3) (d := some 50) (u := _) rfl rfl (StepS.pure (fun _ _ _ h => h) rfl fun w9 => by go_simp; try rfl) ?_
                    try simp only [Act.put, sA, sZ, sS]
                    refine Ps.st (i := 4) (d := some 51) (u := _) rfl rfl (StepS.pure (fun _ _ _ h => h) rfl fun w9 => by go_simp; try rfl) ?_
                    try simp only [Act.put, sA, sZ, sS]
                    refine Ps.st (i := 5) (d := some 52) (u := ?uwrne_6) rfl rfl ?ywrne_6 ?rwrne_6
                    case ywrne_6 =>
                      refine StepS.read [] (by kernel_rfl) (fun _ _ _ h => h) (by rfl) (fun L9 m9 w9 hSh hAt hDn hS => ?_)
                      have hT : Below _ _ w9 := hS
                      have x0 := (HS1.out w9 hT).c0
                      clear hT hS
                      go_simp
                      try rfl
                    try simp only [Act.put, sA, sZ, sS]
                    refine Ps.st (i := 6) (d := some 53) (u := _) rfl rfl (StepS.pure (fun _ _ _ h => h) rfl fun w9 => by go_simp; try rfl) ?_
                    try simp only [Act.put, sA, sZ, sS]
                    refine Ps.st (i := 7) (d := some 54) (u := ?uwrne_8) rfl rfl ?ywrne_8 ?rwrne_8
                    case ywrne_8 =>
                      refine StepS.read [] (by kernel_rfl) (fun _ _ _ h => h) (by rfl) (fun L9 m9 w9 hSh hAt hDn hS => ?_)
                      have hT : Below _ _ w9 := hS
                      have x2 : w9.cell? ⟨w.heap.size + 1, 2, none⟩ = some (.slice (some p2) m1 d1) := (HB1.out.ca hT).cell 2
                      clear hT hS
                      go_simp
                      try rfl
                    try simp only [Act.put, sA, sZ, sS]
                    refine Ps.st (i := 8) (d := some 55) (u := _) rfl rfl (StepS.pure (fun _ _ _ h => h) rfl fun w9 => by go_simp; try rfl) ?_
                    try simp only [Act.put, sA, sZ, sS]
                    refine Ps.st (i := 9) (d := some 56) (u := _) rfl rfl (StepS.pure (fun _ _ _ h => h) rfl fun w9 => by go_simp; try rfl) ?_
                    try simp only [Act.put, sA, sZ, sS]
                    refine Ps.st (i := 10) (d := some 57) (u := _) rfl rfl (StepS.pure (fun _ _ _ h => h) rfl fun w9 => by go_simp; try rfl) ?_
                    try simp only [Act.put, sA, sZ, sS]
                    refine Ps.st (i := 11) (d := some 58) (u := ?uwrne_12) rfl rfl ?ywrne_12 ?rwrne_12
                    case ywrne_12 =>
                      refine StepS.read [] (by kernel_rfl) (fun _ _ _ h => h) (by rfl) (fun L9 m9 w9 hSh hAt hDn hS => ?_)
                      have hT : Below _ _ w9 := hS
                      have x0 := (HS2.out w9 hT).c0
                      clear hT hS
                      go_simp
                      try rfl
                    try simp only [Act.put, sA, sZ, sS]
                    refine Ps.st (i := 12) (d := some 59) (u := _) rfl rfl (StepS.pure (fun _ _ _ h => h) rfl fun w9 => by go_simp; try rfl) ?_
                    try simp only [Act.put, sA, sZ, sS]
                    refine Ps.st (i := 13) (d := some 60) (u := _) rfl rfl (StepS.pure (fun _ _ _ h => h) rfl fun w9 => by go_simp; try rfl) ?_
                    try simp only [Act.put, sA, sZ, sS]
                    refine Ps.st (i := 14) (d := some 61) (u := _) rfl rfl (StepS.pure (fun _ _ _ h => h) rfl fun w9 => by go_simp; try rfl) ?_
                    try simp only [Act.put, sA, sZ, sS]
                    refine Ps.st (i := 15) (d := some 62) (u := ?uwrne_16) rfl rfl ?ywrne_16 ?rwrne_16
                    case ywrne_16 =>
                      refine StepS.read [] (by kernel_rfl) (fun _ _ _ h => h) (by rfl) (fun L9 m9 w9 hSh hAt hDn hS => ?_)
                      have hT : Below _ _ w9 := hS
                      have x2 : w9.cell? ⟨w.heap.size, 2, none⟩ = some (.slice (some p1) m1 c1) := (HA1.out.ca hT).cell 2
                      clear hT hS
                      go_simp
                      try rfl
                    try simp only [Act.put, sA, sZ, sS]
                    refine Ps.st (i := 16) (d := some 63) (u := _) rfl rfl (StepS.pure (fun _ _ _ h => h) rfl fun w9 => by go_simp; try rfl) ?_
                    try simp only [Act.put, sA, sZ, sS]
                    refine Ps.st (i := 17) (d := some 64) (u := _) rfl rfl (StepS.pure (fun _ _ _ h => h) rfl fun w9 => by go_simp; try rfl) ?_
                    try simp only [Act.put, sA, sZ, sS]
                    refine Ps.st (i := 18) (d := some 65) (u := _) rfl rfl (StepS.pure (fun _ _ _ h => h) rfl fun w9 => by go_simp; try rfl) ?_
                    try simp only [Act.put, sA, sZ, sS]
                    refine Ps.st (i := 19) (d := some 66) (u := ?uwrne_20) rfl rfl ?ywrne_20 ?rwrne_20
                    case ywrne_20 =>
                      refine StepS.read [] (by kernel_rfl) (fun _ _ _ h => h) (by rfl) (fun L9 m9 w9 hSh hAt hDn hS => ?_)
                      have hT : Below _ _ w9 := hS
                      have x1 := (HS1.out w9 hT).c1
                      have x2 := (HS1.out w9 hT).c2
                      have x3 := (HS1.out w9 hT).c3
                      clear hT hS
                      go_simp
                      try rfl
                    try simp only [Act.put, sA, sZ, sS]
                    refine Ps.st (i := 20) (d := some 67) (u := _) rfl rfl (StepS.pure (fun _ _ _ h => h) rfl fun w9 => by go_simp; try rfl) ?_
                    try simp only [Act.put, sA, sZ, sS]
                    refine Ps.st (i := 21) (d := some 68) (u := ?uwrne_22) rfl rfl ?ywrne_22 ?rwrne_22
                    case ywrne_22 =>
                      refine StepS.read [] (by kernel_rfl) (fun _ _ _ h => h) (by rfl) (fun L9 m9 w9 hSh hAt hDn hS => ?_)
                      have hT : Below _ _ w9 := hS
                      have x2 : w9.cell? ⟨w.heap.size + 1, 2, none⟩ = some (.slice (some p2) m1 d1) := (HB1.out.ca hT).cell 2
                      clear hT hS
                      go_simp
                      try rfl
                    try simp only [Act.put, sA, sZ, sS]
                    refine Ps.st (i := 22) (d := some 69) (u := _) rfl rfl (StepS.pure (fun _ _ _ h => h) rfl fun w9 => by go_simp; try rfl) ?_
                    try simp only [Act.put, sA, sZ, sS]
                    refine Ps.st (i := 23) (d := some 70) (u := _) rfl rfl (StepS.pure (fun _ _ _ h => h) rfl fun w9 => by go_simp; try rfl) ?_
                    try simp only [Act.put, sA, sZ, sS]
                    refine Ps.st (i := 24) (d := some 71) (u := _) rfl rfl (StepS.pure (fun _ _ _ h => h) rfl fun w9 => by go_simp; try rfl) ?_
                    try simp only [Act.put, sA, sZ, sS]
                    refine Ps.st (i := 25) (d := some 72) (u := ?uwrne_26) rfl rfl ?ywrne_26 ?rwrne_26
                    case ywrne_26 =>
                      refine StepS.read [] (by kernel_rfl) (fun _ _ _ h => h) (by rfl) (fun L9 m9 w9 hSh hAt hDn hS => ?_)
                      have hT : Below _ _ w9 := hS
                      have x1 := (HS2.out w9 hT).c1
                      have x2 := (HS2.out w9 hT).c2
                      have x3 := (HS2.out w9 hT).c3
                      clear hT hS
                      go_simp
                      try rfl
                    try simp only [Act.put, sA, sZ, sS]
                    refine Ps.st (i := 26) (d := some 73) (u := (.bool false)) rfl rfl ?ywrne_27 ?rwrne_27
                    case ywrne_27 =>
                      refine StepS.call ?fwrne_27 ?awrne_27 [] (by kernel_rfl) (by rfl) (fun w9 => ?hwrne_27) (fun L9 m9 w9 hSh hAt hDn hS => ?cwrne_27)
                      case hwrne_27 => go_simp; refine ⟨?_, ?_⟩ <;> rfl
                      case cwrne_27 =>
                        have hT : Below _ _ w9 := hS
                        refine (HCO.out w9 hT).mono ?_
                        rintro e w8 ⟨rfl, q8⟩
                        exact ⟨by rw [HEQ.out], bl_ca hT q8⟩
                    try simp only [Act.put, sA, sZ, sS]
                    refine Ps.st (i := 27) (d := some 74) (u := _) rfl rfl (StepS.pure (fun _ _ _ h => h) rfl fun w9 => by go_simp; try rfl) ?_
                    try simp only [Act.put, sA, sZ, sS]
                    refine Ps.st (i := 28) (d := some 75) (u := _) rfl rfl (StepS.pure (fun _ _ _ h => h) rfl fun w9 => by go_simp; try rfl) ?_
                    try simp only [Act.put, sA, sZ, sS]
                    refine Ps.done (by kernel_rfl) (fun wrne hS => ?_) _
                    have HQ := Lib.hid (show Below wr.heap.size wr _ from hS)
                    clear hS
                    obtain ⟨w7, rfl⟩ : ∃ x, x = wrne := ⟨_, rfl⟩
                    go_wp2
                    go_ret
                    exact ⟨ret_bool (by rw [HR.out, HF.out]; simp), bl_ca HQB.out HQ.out⟩
                  · have HEQ := Lib.hid hb
                    have HP2 := Lib.hid (show xs.take (i + 1) = ys.take (i + 1) from by rw [List.take_add_one, List.take_add_one, HP.out, HVI.out, HUI.out, (eqBC_iff _ _).1 hb])
                    clear hb
                    go_wp2_with fail
                    refine wp_region_ps (S := fun _ _ w' => Below wr.heap.size wr w') (by kernel_rfl) ?spswreq ?ppswreq
                    case spswreq =>
                      exact (Below.refl _ _).drew
                    refine Ps.st (i := 0) (d := some 47) (u := _) rfl rfl (StepS.pure (fun _ _ _ h => h) rfl fun w9 => by go_simp; try rfl) ?_
                    try simp only [Act.put, sA, sZ, sS]
                    refine Ps.st (i := 1) (d := some 48) (u := ?uwreq_31) rfl rfl ?ywreq_31 ?rwreq_31
                    case ywreq_31 =>
                      refine StepS.read [] (by kernel_rfl) (fun _ _ _ h => h) (by rfl) (fun L9 m9 w9 hSh hAt hDn hS => ?_)
                      have hT : Below _ _ w9 := hS
                      have x2 : w9.cell? ⟨w.heap.size, 2, none⟩ = some (.slice (some p1) m1 c1) := (HA1.out.ca hT).cell 2
                      clear hT hS
                      go_simp
                      try rfl
                    try simp only [Act.put, sA, sZ, sS]
                    refine Ps.st (i := 2) (d := some 49) (u := _) rfl rfl (StepS.pure (fun _ _ _ h => h) rfl fun w9 => by go_simp; try rfl) ?_
                    try simp only [Act.put, sA, sZ, sS]
                    refine Ps.st (i := 3) (d := some 50) (u := _) rfl rfl (StepS.pure (fun _ _ _ h => h) rfl fun w9 => by go_simp; try rfl) ?_
                    try simp only [Act.put, sA, sZ, sS]
                    refine Ps.st (i := 4) (d := some 51) (u := _) rfl rfl (StepS.pure (fun _ _ _ h => h) rfl fun w9 => by go_simp; try rfl) ?_
                    try simp only [Act.put, sA, sZ, sS]
                    refine Ps.st (i := 5) (d := some 52) (u := ?uwreq_35) rfl rfl ?ywreq_35 ?rwreq_35
                    case ywreq_35 =>
                      refine StepS.read [] (by kernel_rfl) (fun _ _ _ h => h) (by rfl) (fun L9 m9 w9 hSh hAt hDn hS => ?_)
                      have hT : Below _ _ w9 := hS
                      have x0 := (HS1.out w9 hT).c0
                      clear hT hS
                      go_simp
                      try rfl
                    try simp only [Act.put, sA, sZ, sS]
                    refine Ps.st (i := 6) (d := some 53) (u := _) rfl rfl (StepS.pure (fun _ _ _ h => h) rfl fun w9 => by go_simp; try rfl) ?_
                    try simp only [Act.put, sA, sZ, sS]
                    refine Ps.st (i := 7) (d := some 54) (u := ?uwreq_37) rfl rfl ?ywreq_37 ?rwreq_37
                    case ywreq_37 =>
                      refine StepS.read [] (by kernel_rfl) (fun _ _ _ h => h) (by rfl) (fun L9 m9 w9 hSh hAt hDn hS => ?_)
                      have hT : Below _ _ w9 := hS
                      have x2 : w9.cell? ⟨w.heap.size + 1, 2, none⟩ = some (.slice (some p2) m1 d1) := (HB1.out.ca hT).cell 2
                      clear hT hS
                      go_simp
                      try rfl
                    try simp only [Act.put, sA, sZ, sS]
                    refine Ps.st (i := 8) (d := some 55) (u := _) rfl rfl (StepS.pure (fun _ _ _ h => h) rfl fun w9 => by go_simp; try rfl) ?_
                    try simp only [Act.put, sA, sZ, sS]
                    refine Ps.st (i := 9) (d := some 56) (u := _) rfl rfl (StepS.pure (fun _ _ _ h => h) rfl fun w9 => by go_simp; try rfl) ?_
                    try simp only [Act.put, sA, sZ, sS]
                    refine Ps.st (i := 10) (d := some 57) (u := _) rfl rfl (StepS.pure (fun _ _ _ h => h) rfl fun w9 => by go_simp; try rfl) ?_
                    try simp only [Act.put, sA, sZ, sS]
                    refine Ps.st (i := 11) (d := some 58) (u := ?uwreq_41) rfl rfl ?ywreq_41 ?rwreq_41
                    case ywreq_41 =>
                      refine StepS.read [] (by kernel_rfl) (fun _ _ _ h => h) (by rfl) (fun L9 m9 w9 hSh hAt hDn hS => ?_)
                      have hT : Below _ _ w9 := hS
                      have x0 := (HS2.out w9 hT).c0
                      clear hT hS
                      go_simp
                      try rfl
                    try simp only [Act.put, sA, sZ, sS]
                    refine Ps.st (i := 12) (d := some 59) (u := _) rfl rfl (StepS.pure (fun _ _ _ h => h) rfl fun w9 => by go_simp; try rfl) ?_
                    try simp only [Act.put, sA, sZ, sS]
                    refine Ps.st (i := 13) (d := some 60) (u := _) rfl rfl (StepS.pure (fun _ _ _ h => h) rfl fun w9 => by go_simp; try rfl) ?_
                    try simp only [Act.put, sA, sZ, sS]
                    refine Ps.st (i := 14) (d := some 61) (u := _) rfl rfl (StepS.pure (fun _ _ _ h => h) rfl fun w9 => by go_simp; try rfl) ?_
                    try simp only [Act.put, sA, sZ, sS]
                    refine Ps.st (i := 15) (d := some 62) (u := ?uwreq_45) rfl rfl ?ywreq_45 ?rwreq_45
                    case ywreq_45 =>
                      refine StepS.read [] (by kernel_rfl) (fun _ _ _ h => h) (by rfl) (fun L9 m9 w9 hSh hAt hDn hS => ?_)
                      have hT : Below _ _ w9 := hS
                      have x2 : w9.cell? ⟨w.heap.size, 2, none⟩ = some (.slice (some p1) m1 c1) := (HA1.out.ca hT).cell 2
                      clear hT hS
                      go_simp
                      try rfl
                    try simp only [Act.put, sA, sZ, sS]
                    refine Ps.st (i := 16) (d := some 63) (u := _) rfl rfl (StepS.pure (fun _ _ _ h => h) rfl fun w9 => by go_simp; try rfl) ?_
                    try simp only [Act.put, sA, sZ, sS]
                    refine Ps.st (i := 17) (d := some 64) (u := _) rfl rfl (StepS.pure (fun _ _ _ h => h) rfl fun w9 => by go_simp; try rfl) ?_
                    try simp only [Act.put, sA, sZ, sS]
                    refine Ps.st (i := 18) (d := some 65) (u := _) rfl rfl (StepS.pure (fun _ _ _ h => h) rfl fun w9 => by go_simp; try rfl) ?_
                    try simp only [Act.put, sA, sZ, sS]
                    refine Ps.st (i := 19) (d := some 66) (u := ?uwreq_49) rfl rfl ?ywreq_49 ?rwreq_49
                    case ywreq_49 =>
                      refine StepS.read [] (by kernel_rfl) (fun _ _ _ h => h) (by rfl) (fun L9 m9 w9 hSh hAt hDn hS => ?_)
                      have hT : Below _ _ w9 := hS
                      have x1 := (HS1.out w9 hT).c1
                      have x2 := (HS1.out w9 hT).c2
                      have x3 := (HS1.out w9 hT).c3
                      clear hT hS
                      go_simp
                      try rfl
                    try simp only [Act.put, sA, sZ, sS]
                    refine Ps.st (i := 20) (d := some 67) (u := _) rfl rfl (StepS.pure (fun _ _ _ h => h) rfl fun w9 => by go_simp; try rfl) ?_
                    try simp only [Act.put, sA, sZ, sS]
                    refine Ps.st (i := 21) (d := some 68) (u := ?uwreq_51) rfl rfl ?ywreq_51 ?rwreq_51
                    case ywreq_51 =>
                      refine StepS.read [] (by kernel_rfl) (fun _ _ _ h => h) (by rfl) (fun L9 m9 w9 hSh hAt hDn hS => ?_)
                      have hT : Below _ _ w9 := hS
                      have x2 : w9.cell? ⟨w.heap.size + 1, 2, none⟩ = some (.slice (some p2) m1 d1) := (HB1.out.ca hT).cell 2
                      clear hT hS
                      go_simp
                      try rfl
                    try simp only [Act.put, sA, sZ, sS]
                    refine Ps.st (i := 22) (d := some 69) (u := _) rfl rfl (StepS.pure (fun _ _ _ h => h) rfl fun w9 => by go_simp; try rfl) ?_
                    try simp only [Act.put, sA, sZ, sS]
                    refine Ps.st (i := 23) (d := some 70) (u := _) rfl rfl (StepS.pure (fun _ _ _ h => h) rfl fun w9 => by go_simp; try rfl) ?_
                    try simp only [Act.put, sA, sZ, sS]
                    refine Ps.st (i := 24) (d := some 71) (u := _) rfl rfl (StepS.pure (fun _ _ _ h => h) rfl fun w9 => by go_simp; try rfl) ?_
                    try simp only [Act.put, sA, sZ, sS]
                    refine Ps.st (i := 25) (d := some 72) (u := ?uwreq_55) rfl rfl ?ywreq_55 ?rwreq_55
                    case ywreq_55 =>
                      refine StepS.read [] (by kernel_rfl) (fun _ _ _ h => h) (by rfl) (fun L9 m9 w9 hSh hAt hDn hS => ?_)
                      have hT : Below _ _ w9 := hS
                      have x1 := (HS2.out w9 hT).c1
                      have x2 := (HS2.out w9 hT).c2
                      have x3 := (HS2.out w9 hT).c3
                      clear hT hS
                      go_simp
                      try rfl
                    try simp only [Act.put, sA, sZ, sS]
                    refine Ps.st (i := 26) (d := some 73) (u := (.bool true)) rfl rfl ?ywreq_56 ?rwreq_56
                    case ywreq_56 =>
                      refine StepS.call ?fwreq_56 ?awreq_56 [] (by kernel_rfl) (by rfl) (fun w9 => ?hwreq_56) (fun L9 m9 w9 hSh hAt hDn hS => ?cwreq_56)
                      case hwreq_56 => go_simp; refine ⟨?_, ?_⟩ <;> rfl
                      case cwreq_56 =>
                        have hT : Below _ _ w9 := hS
                        refine (HCO.out w9 hT).mono ?_
                        rintro e w8 ⟨rfl, q8⟩
                        exact ⟨by rw [HEQ.out], bl_ca hT q8⟩
                    try simp only [Act.put, sA, sZ, sS]
                    refine Ps.st (i := 27) (d := some 74) (u := _) rfl rfl (StepS.pure (fun _ _ _ h => h) rfl fun w9 => by go_simp; try rfl) ?_
                    try simp only [Act.put, sA, sZ, sS]
                    refine Ps.st (i := 28) (d := some 75) (u := _) rfl rfl (StepS.pure (fun _ _ _ h => h) rfl fun w9 => by go_simp; try rfl) ?_
                    try simp only [Act.put, sA, sZ, sS]
                    refine Ps.done (by kernel_rfl) (fun wreq hS => ?_) _
                    have HQ := Lib.hid (show Below wr.heap.size wr _ from hS)
                    clear hS
                    obtain ⟨w7, rfl⟩ : ∃ x, x = wreq := ⟨_, rfl⟩
                    go_wp2
                    go_roundg (gk - 1)
                    · exact ⟨i + 1, by omega, by go_num, HP2.out, bl_ca (show Below w1.heap.size w1 wr from HBBW.out) HQ.out⟩
                    · omega
                · have d0 : ((vs : Int) != us) = true := by simpa using hs
                  have HF := Lib.hid (show decide (xs = ys) = false from decide_eq_false fun e => by have h1 := HVI.out; rw [e, HUI.out] at h1; injection h1 with h1; injection h1 with h2 h3; exact hs h2.symm)
                  have HNE := Lib.hid hs
                  clear hs
                  go_wp2_with fail
                  refine wp_region_ps (S := fun _ _ w' => Below wr.heap.size wr w') (by kernel_rfl) ?spswrseq ?ppswrseq
                  case spswrseq =>
                    exact (Below.refl _ _).drew
                  refine Ps.st (i := 0) (d := some 47) (u := _) rfl rfl (StepS.pure (fun _ _ _ h => h) rfl fun w9 => by go_simp; try rfl) ?_
                  try simp only [Act.put, sA, sZ, sS]
                  refine Ps.st (i := 1) (d := some 48) (u := ?uwrseq_60) rfl rfl ?ywrseq_60 ?rwrseq_60
                  case ywrseq_60 =>
                    refine StepS.read [] (by kernel_rfl) (fun _ _ _ h => h) (by rfl) (fun L9 m9 w9 hSh hAt hDn hS => ?_)
                    have hT : Below _ _ w9 := hS
                    have x2 : w9.cell? ⟨w.heap.size, 2, none⟩ = some (.slice (some p1) m1 c1) := (HA1.out.ca hT).cell 2
                    clear hT hS
                    go_simp
                    try rfl
                  try simp only [Act.put, sA, sZ, sS]
                  refine Ps.st (i := 2) (d := some 49) (u := _) rfl rfl (StepS.pure (fun _ _ _ h => h) rfl fun w9 => by go_simp; try rfl) ?_
                  try simp only [Act.put, sA, sZ, sS]
                  refine Ps.st (i := 3) (d := some 50) (u := _) rfl rfl (StepS.pure (fun _ _ _ h => h) rfl fun w9 => by go_simp; try rfl) ?_
                  try simp only [Act.put, sA, sZ, sS]
                  refine Ps.st (i := 4) (d := some 51) (u := _) rfl rfl (StepS.pure (fun _ _ _ h => h) rfl fun w9 => by go_simp; try rfl) ?_
                  try simp only [Act.put, sA, sZ, sS]
                  refine Ps.st (i := 5) (d := some 52) (u := ?uwrseq_64) rfl rfl ?ywrseq_64 ?rwrseq_64
                  case ywrseq_64 =>
                    refine StepS.read [] (by kernel_rfl) (fun _ _ _ h => h) (by rfl) (fun L9 m9 w9 hSh hAt hDn hS => ?_)
                    have hT : Below _ _ w9 := hS
                    have x0 := (HS1.out w9 hT).c0
                    clear hT hS
                    go_simp
                    try rfl
                  try simp only [Act.put, sA, sZ, sS]
                  refine Ps.st (i := 6) (d := some 53) (u := _) rfl rfl (StepS.pure (fun _ _ _ h => h) rfl fun w9 => by go_simp; try rfl) ?_
                  try simp only [Act.put, sA, sZ, sS]
                  refine Ps.st (i := 7) (d := some 54) (u := ?uwrseq_66) rfl rfl ?ywrseq_66 ?rwrseq_66
                  case ywrseq_66 =>
                    refine StepS.read [] (by kernel_rfl) (fun _ _ _ h => h) (by rfl) (fun L9 m9 w9 hSh hAt hDn hS => ?_)
                    have hT : Below _ _ w9 := hS
                    have x2 : w9.cell? ⟨w.heap.size + 1, 2, none⟩ = some (.slice (some p2) m1 d1) := (HB1.out.ca hT).cell 2
                    clear hT hS
                    go_simp
                    try rfl
                  try simp only [Act.put, sA, sZ, sS]
                  refine Ps.st (i := 8) (d := some 55) (u := _) rfl rfl (StepS.pure (fun _ _ _ h => h) rfl fun w9 => by go_simp; try rfl) ?_
                  try simp only [Act.put, sA, sZ, sS]
                  refine Ps.st (i := 9) (d := some 56) (u := _) rfl rfl (StepS.pure (fun _ _ _ h => h) rfl fun w9 => by go_simp; try rfl) ?_
                  try simp only [Act.put, sA, sZ, sS]
                  refine Ps.st (i := 10) (d := some 57) (u := _) rfl rfl (StepS.pure (fun _ _ _ h => h) rfl fun w9 => by go_simp; try rfl) ?_
                  try simp only [Act.put, sA, sZ, sS]
                  refine Ps.st (i := 11) (d := some 58) (u := ?uwrseq_70) rfl rfl ?ywrseq_70 ?rwrseq_70
                  case ywrseq_70 =>
                    refine StepS.read [] (by kernel_rfl) (fun _ _ _ h => h) (by rfl) (fun L9 m9 w9 hSh hAt hDn hS => ?_)
                    have hT : Below _ _ w9 := hS
                    have x0 := (HS2.out w9 hT).c0
                    clear hT hS
                    go_simp
                    try rfl
                  try simp only [Act.put, sA, sZ, sS]
                  refine Ps.st (i := 12) (d := some 59) (u := _) rfl rfl (StepS.pure (fun _ _ _ h => h) rfl fun w9 => by go_simp; try rfl) ?_
                  try simp only [Act.put, sA, sZ, sS]
                  refine Ps.st (i := 13) (d := some 60) (u := _) rfl rfl (StepS.pure (fun _ _ _ h => h) rfl fun w9 => by go_simp; try rfl) ?_
                  try simp only [Act.put, sA, sZ, sS]
                  refine Ps.st (i := 14) (d := some 61) (u := undef) rfl rfl (StepS.skip (fun _ _ _ h => h) rfl) ?_
                  try simp only [Act.put, sA, sZ, sS]
                  refine Ps.st (i := 15) (d := some 62) (u := undef) rfl rfl (StepS.skip (fun _ _ _ h => h) rfl) ?_
                  try simp only [Act.put, sA, sZ, sS]
                  refine Ps.st (i := 16) (d := some 63) (u := undef) rfl rfl (StepS.skip (fun _ _ _ h => h) rfl) ?_
                  try simp only [Act.put, sA, sZ, sS]
                  refine Ps.st (i := 17) (d := some 64) (u := undef) rfl rfl (StepS.skip (fun _ _ _ h => h) rfl) ?_
                  try simp only [Act.put, sA, sZ, sS]
                  refine Ps.st (i := 18) (d := some 65) (u := undef) rfl rfl (StepS.skip (fun _ _ _ h => h) rfl) ?_
                  try simp only [Act.put, sA, sZ, sS]
                  refine Ps.st (i := 19) (d := some 66) (u := undef) rfl rfl (StepS.skip (fun _ _ _ h => h) rfl) ?_
                  try simp only [Act.put, sA, sZ, sS]
                  refine Ps.st (i := 20) (d := some 67) (u := undef) rfl rfl (StepS.skip (fun _ _ _ h => h) rfl) ?_
                  try simp only [Act.put, sA, sZ, sS]
                  refine Ps.st (i := 21) (d := some 68) (u := undef) rfl rfl (StepS.skip (fun _ _ _ h => h) rfl) ?_
                  try simp only [Act.put, sA, sZ, sS]
                  refine Ps.st (i := 22) (d := some 69) (u := undef) rfl rfl (StepS.skip (fun _ _ _ h => h) rfl) ?_
                  try simp only [Act.put, sA, sZ, sS]
                  refine Ps.st (i := 23) (d := some 70) (u := undef) rfl rfl (StepS.skip (fun _ _ _ h => h) rfl) ?_
                  try simp only [Act.put, sA, sZ, sS]
                  refine Ps.st (i := 24) (d := some 71) (u := undef) rfl rfl (StepS.skip (fun _ _ _ h => h) rfl) ?_
                  try simp only [Act.put, sA, sZ, sS]
                  refine Ps.st (i := 25) (d := some 72) (u := undef) rfl rfl (StepS.skip (fun _ _ _ h => h) rfl) ?_
                  try simp only [Act.put, sA, sZ, sS]
                  refine Ps.st (i := 26) (d := some 73) (u := undef) rfl rfl (StepS.skip (fun _ _ _ h => h) rfl) ?_
                  try simp only [Act.put, sA, sZ, sS]
                  refine Ps.st (i := 27) (d := some 74) (u := undef) rfl rfl (StepS.skip (fun _ _ _ h => h) rfl) ?_
                  try simp only [Act.put, sA, sZ, sS]
                  refine Ps.st (i := 28) (d := some 75) (u := _) rfl rfl (StepS.pure (fun _ _ _ h => h) rfl fun w9 => by go_simp; try rfl) ?_
                  try simp only [Act.put, sA, sZ, sS]
                  refine Ps.done (by kernel_rfl) (fun wrseq hS => ?_) _
                  have HQ := Lib.hid (show Below wr.heap.size wr _ from hS)
                  clear hS
                  obtain ⟨w7, rfl⟩ : ∃ x, x = wrseq := ⟨_, rfl⟩
                  go_wp2
                  go_ret
                  exact ⟨ret_bool (by rw [HR.out, HF.out]; simp), bl_ca HQB.out HQ.out⟩
              · obtain rfl : i = m1 := by omega
                have hil : (i : Int) ≤ (i : Int) := by omega
                have HF := Lib.hid (show decide (xs = ys) = true from decide_eq_true (by have hp := HP.out; rwa [List.take_of_length_le (by rw [HXL.out]; omega), List.take_of_length_le (by rw [HYL.out]; omega)] at hp))
                have HE := Lib.hid (rsameBs_any F G A2 B2 m2 c2 n2 d2 qa qb wr (Lay.rd_below HX2.out bb) (Lay.rd_below HY2.out bb) hm2)
                have x3 : wr.cell? ⟨w.heap.size, 3, none⟩ = some (.slice A2 m2 c2) := HA1.out.cell 3
                have y3 : wr.cell? ⟨w.heap.size + 1, 3, none⟩ = some (.slice B2 n2 d2) := HB1.out.cell 3
                clear bb
                go_wp2_with fail
                refine HE.out.mono ?_
                rintro e w2 ⟨rfl, q2⟩
                have HQ := Lib.hid q2
                clear q2
                go_wp2
                go_ret
                exact ⟨ret_bool (by rw [HR.out, HF.out]; simp), bl_ca HQB.out HQ.out⟩
          · have d1 : ((m1 : Int) != (n1 : Int)) = true := by simp; omega
            have HF := Lib.hid (show decide (xs = ys) = false from decide_eq_false fun e => by have h1 := HXL.out; rw [e, HYL.out] at h1; exact hl h1.symm)
            clear hl
            go_enter Try.func14, Try.ntmps14
            go_wp2
            go_ret
            exact ⟨ret_bool (by rw [HR.out, HF.out]; simp), HB.out⟩
        · have d1 : (a5 != b5) = true := by simpa using h3
          have d2 : (a5 == b5) = false := by simpa using h3
          clear h3
          go_enter Try.func14, Try.ntmps14
          go_wp2
          go_ret
          exact ⟨ret_bool (by rw [HR.out, d2]; simp), HB.out⟩
      · have d1 : (a4 != b4) = true := by simpa using h2
        have d2 : (a4 == b4) = false := by simpa using h2
        clear h2
        go_enter Try.func14, Try.ntmps14
        go_wp2
        go_ret
        exact ⟨ret_bool (by rw [HR.out, d2]; simp), HB.out⟩
    · have d1 : (a1 != b1) = true := by simpa using h1
      have d2 : (a1 == b1) = false := by simpa using h1
      clear h1
      go_enter Try.func14, Try.ntmps14
      go_wp2
      go_ret
      exact ⟨ret_bool (by rw [HR.out, d2]; simp), HB.out⟩
  · have d1 : (a0 != b0) = true := by simpa using h0
    have d2 : (a0 == b0) = false := by simpa using h0
    clear h0
    go_enter Try.func14, Try.ntmps14
    go_wp2
    go_ret
    exact ⟨ret_bool (by rw [HR.out, d2]; simp), HB.out⟩
end Go.Proofs.Ytojghgbaiiajfaa
