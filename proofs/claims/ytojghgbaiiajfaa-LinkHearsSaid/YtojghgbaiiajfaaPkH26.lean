/- The references' equality of receivers. Conditions: the slices read so. -/
import Derived.Test.YtojghgbaiiajfaaPkH25
namespace Go.Proofs.Ytojghgbaiiajfaa
open Go.RowKit
theorem SH.ca {w w' : World} {F : Nat → Prop} {p : Addr} {b : HC} {B : Option Addr} {n c : Nat} (h : SH w F p b B n c) (q : Below w.heap.size w w') : SH w' F p b B n c :=
 ⟨(q.cell (p := p) (cells_block h.c0)).trans h.c0, (q.cell (p := ⟨p.block, p.off + 1, none⟩) (cells_block h.c1)).trans h.c1, (q.cell (p := ⟨p.block, p.off + 2, none⟩) (cells_block h.c2)).trans h.c2, (q.cell (p := ⟨p.block, p.off + 3, none⟩) (cells_block h.c3)).trans h.c3, h.nc, h.cm, Lay.rd_below h.rd q⟩
def eqHC (a b : HC) : Bool := a.seq == b.seq && eqBC a.b b.b
theorem eqHC_iff (a b : HC) : eqHC a b = true ↔ a = b := by
 rcases a with ⟨s, x⟩
 rcases b with ⟨t, y⟩
 simp [eqHC, eqBC_iff]
instance : DecidableEq HC := fun a b => decidable_of_iff (eqHC a b = true) (eqHC_iff a b)
def flatRC (a b : RC) : Bool := a.ses == b.ses && (a.next == b.next && (a.room == b.room && a.over == b.over))
def eqRC (a b : RC) : Bool := flatRC a b && (decide (a.ahead = b.ahead) && decide (a.buf = b.buf))
theorem eqRC_iff (a b : RC) : eqRC a b = true ↔ a = b := by
 rcases a with ⟨a0, a1, a2, a3, a4, a5⟩
 rcases b with ⟨b0, b1, b2, b3, b4, b5⟩
 simp [eqRC, flatRC]
 exact ⟨fun ⟨⟨x0, x1, x4, x5⟩, x2, x3⟩ => ⟨x0, x1, x2, x3, x4, x5⟩, fun ⟨x0, x1, x2, x3, x4, x5⟩ => ⟨⟨x0, x1, x4, x5⟩, x2, x3⟩⟩
set_option maxRecDepth 100000 in
set_option maxHeartbeats 16000000 in
theorem rsameR_any (F G : Nat → Prop) (a b : RC) (A1 : Option Addr) (m1 c1 : Nat) (A2 : Option Addr) (m2 c2 : Nat) (B1 : Option Addr) (n1 d1 : Nat) (B2 : Option Addr) (n2 d2 : Nat) (w : World)
 (hx : LH4.rd w F A1 m1 a.ahead) (hx2 : LB3.rd w F A2 m2 a.buf) (hy : LH4.rd w G B1 n1 b.ahead) (hy2 : LB3.rd w G B2 n2 b.buf) (hm : m1 ≤ 9223372036854775807) (hm2 : m2 ≤ 9223372036854775807) :
 Calls Try.prog 14 #[.agg (a.cells A1 m1 c1 A2 m2 c2), .agg (b.cells B1 n1 d1 B2 n2 d2)] w fun e w' => e = .returned (.bool (eqRC a b)) ∧ Below w.heap.size w w' := by
 have HXL := Lib.hid (Lay.rd_len hx)
 have HYL := Lib.hid (Lay.rd_len hy)
 have HR := Lib.hid (show eqRC a b = (flatRC a b && (decide (a.ahead = b.ahead) && decide (a.buf = b.buf))) from rfl)
 generalize eqRC a b = r at *
 obtain ⟨a0, a1, xs, qa, a4, a5⟩ := a
 obtain ⟨b0, b1, ys, qb, b4, b5⟩ := b
 unfold flatRC at HR
 dsimp only at *
 have q1 := bl_al (Below.refl w.heap.size w) (.cells #[.int .u32 a0, .int .u64 a1, .slice A1 m1 c1, .slice A2 m2 c2, .int .i64 a4, .bool a5] 36)
 have q2 := bl_al (Below.refl (w.alloc (.cells #[.int .u32 a0, .int .u64 a1, .slice A1 m1 c1, .slice A2 m2 c2, .int .i64 a4, .bool a5] 36)).heap.size (w.alloc (.cells #[.int .u32 a0, .int .u64 a1, .slice A1 m1 c1, .slice A2 m2 c2, .int .i64 a4, .bool a5] 36))) (.cells #[.int .u32 b0, .int .u64 b1, .slice B1 n1 d1, .slice B2 n2 d2, .int .i64 b4, .bool b5] 36)
 have HBA := Lib.hid ((Blk.new w 36 #[.int .u32 a0, .int .u64 a1, .slice A1 m1 c1, .slice A2 m2 c2, .int .i64 a4, .bool a5]).ca q2)
 have HBB0 := Lib.hid (show Blk ((w.alloc (.cells #[.int .u32 a0, .int .u64 a1, .slice A1 m1 c1, .slice A2 m2 c2, .int .i64 a4, .bool a5] 36)).alloc (.cells #[.int .u32 b0, .int .u64 b1, .slice B1 n1 d1, .slice B2 n2 d2, .int .i64 b4, .bool b5] 36)) (w.heap.size + 1) 36 #[.int .u32 b0, .int .u64 b1, .slice B1 n1 d1, .slice B2 n2 d2, .int .i64 b4, .bool b5] from Blk.mk' (by simp only [World.size_alloc]))
 have HB := Lib.hid (bl_ca q1 q2)
 have HX := Lib.hid (Lay.rd_below (Lay.rd_below hx q1) q2)
 have HX2 := Lib.hid (Lay.rd_below (Lay.rd_below hx2 q1) q2)
 have HY := Lib.hid (Lay.rd_below (Lay.rd_below hy q1) q2)
 have HY2 := Lib.hid (Lay.rd_below (Lay.rd_below hy2 q1) q2)
 clear hx hx2 hy hy2 q1 q2
 by_cases h0 : a0 = b0
 · subst h0
   by_cases h1 : a1 = b1
   · subst h1
     by_cases h2 : a4 = b4
     · subst h2
       by_cases h3 : a5 = b5
       · subst h3
         by_cases hl : m1 = n1
         · subst hl
           go_enter Try.func14, Try.ntmps14
           go_wp2_with fail
           generalize (w.alloc (.cells #[.int .u32 a0, .int .u64 a1, .slice A1 m1 c1, .slice A2 m2 c2, .int .i64 a4, .bool a5] 36)).alloc (.cells #[.int .u32 a0, .int .u64 a1, .slice B1 m1 d1, .slice B2 n2 d2, .int .i64 a4, .bool a5] 36) = w1 at *
           go_loopg [44] m1 (fun g s wr => ∃ i : Nat, i + g = m1 ∧ s = .int .i64 i ∧ xs.take i = ys.take i ∧ Below w1.heap.size w1 wr)
           case atStart => exact ⟨0, by omega, rfl, rfl, Below.refl _ _⟩
           case round =>
            obtain ⟨i, hi1, rfl, hp, bb⟩ := hrel
            have HP := Lib.hid hp
            have HQB := Lib.hid (bl_ca HB.out bb)
            have HBBW := Lib.hid bb
            have HA1 := Lib.hid (HBA.out.ca bb)
            have HB1 := Lib.hid (HBB0.out.ca bb)
            clear hp
            by_cases hi : i < m1
            · have hil : (i : Int) < (m1 : Int) := by omega
              obtain ⟨p1, v, V1, k1, e1, rfl, hv, s1⟩ := LH4_at (Lay.rd_below HX.out bb) hi
              obtain ⟨p2, u, U1, k2, e2, rfl, hu, s2⟩ := LH4_at (Lay.rd_below HY.out bb) hi
              have HS1 := Lib.hid (fun W (q : Below wr.heap.size wr W) => s1.ca q)
              have HS2 := Lib.hid (fun W (q : Below wr.heap.size wr W) => s2.ca q)
              have HCO := Lib.hid (fun W (q : Below wr.heap.size wr W) => rsameB_any F G v.b u.b V1 U1 k1 e1 k2 e2 W (s1.ca q).rd (s2.ca q).rd (Nat.le_trans s1.nc s1.cm))
              have HVI := Lib.hid hv
              have HUI := Lib.hid hu
              clear hv hu s1 s2 bb
              obtain ⟨vs, vb⟩ := v
              obtain ⟨us, ub⟩ := u
              dsimp only at HS1 HS2 HCO
              by_cases hs : vs = us
              · subst hs
                have d0 : ((vs : Int) != vs) = false := by simp
                cases hb : eqBC vb ub
                · have HEQ := Lib.hid hb
                  have HF := Lib.hid (show decide (xs = ys) = false from decide_eq_false fun e => by have h1 := HVI.out; rw [e, HUI.out] at h1; injection h1 with h1; injection h1 with h2 h3; subst h3; have h4 := HEQ.out; rw [(eqBC_iff _ _).2 rfl] at h4; cases h4)
                  clear hb
                  go_wp2_with fail
                  refine wp_region_ps (S := fun _ _ w' => Below wr.heap.size wr w') (by kernel_rfl) ?spswrne ?ppswrne
                  case spswrne =>
                   exact (Below.refl _ _).drew
                  refine Pz 0 (some 47) _ rfl rfl (StepS.pure (fun _ _ _ h => h) rfl fun w9 => by go_simp; try rfl) ?_
                  try simp only [Act.put, sA, sZ, sS]
                  refine Pz 1 (some 48) ?uwrne_2 rfl rfl ?ywrne_2 ?rwrne_2
                  case ywrne_2 =>
                   refine StepS.read [] (by kernel_rfl) (fun _ _ _ h => h) (by rfl) (fun L9 m9 w9 hSh hAt hDn hS => ?_)
                   have hT : Below _ _ w9 := hS
                   have x2 : w9.cell? ⟨w.heap.size, 2, none⟩ = some (.slice (some p1) m1 c1) := (HA1.out.ca hT).cell 2
                   clear hT hS
                   go_simp
                   try rfl
                  try simp only [Act.put, sA, sZ, sS]
                  refine Pz 2 (some 49) _ rfl rfl (StepS.pure (fun _ _ _ h => h) rfl fun w9 => by go_simp; try rfl) ?_
                  try simp only [Act.put, sA, sZ, sS]
                  refine Pz 3 (some 50) _ rfl rfl (StepS.pure (fun _ _ _ h => h) rfl fun w9 => by go_simp; try rfl) ?_
                  try simp only [Act.put, sA, sZ, sS]
                  refine Pz 4 (some 51) _ rfl rfl (StepS.pure (fun _ _ _ h => h) rfl fun w9 => by go_simp; try rfl) ?_
                  try simp only [Act.put, sA, sZ, sS]
                  refine Pz 5 (some 52) ?uwrne_6 rfl rfl ?ywrne_6 ?rwrne_6
                  case ywrne_6 =>
                   refine StepS.read [] (by kernel_rfl) (fun _ _ _ h => h) (by rfl) (fun L9 m9 w9 hSh hAt hDn hS => ?_)
                   have hT : Below _ _ w9 := hS
                   have x0 := (HS1.out w9 hT).c0
                   clear hT hS
                   go_simp
                   try rfl
                  try simp only [Act.put, sA, sZ, sS]
                  refine Pz 6 (some 53) _ rfl rfl (StepS.pure (fun _ _ _ h => h) rfl fun w9 => by go_simp; try rfl) ?_
                  try simp only [Act.put, sA, sZ, sS]
                  refine Pz 7 (some 54) ?uwrne_8 rfl rfl ?ywrne_8 ?rwrne_8
                  case ywrne_8 =>
                   refine StepS.read [] (by kernel_rfl) (fun _ _ _ h => h) (by rfl) (fun L9 m9 w9 hSh hAt hDn hS => ?_)
                   have hT : Below _ _ w9 := hS
                   have x2 : w9.cell? ⟨w.heap.size + 1, 2, none⟩ = some (.slice (some p2) m1 d1) := (HB1.out.ca hT).cell 2
                   clear hT hS
                   go_simp
                   try rfl
                  try simp only [Act.put, sA, sZ, sS]
                  refine Pz 8 (some 55) _ rfl rfl (StepS.pure (fun _ _ _ h => h) rfl fun w9 => by go_simp; try rfl) ?_
                  try simp only [Act.put, sA, sZ, sS]
                  refine Pz 9 (some 56) _ rfl rfl (StepS.pure (fun _ _ _ h => h) rfl fun w9 => by go_simp; try rfl) ?_
                  try simp only [Act.put, sA, sZ, sS]
                  refine Pz 10 (some 57) _ rfl rfl (StepS.pure (fun _ _ _ h => h) rfl fun w9 => by go_simp; try rfl) ?_
                  try simp only [Act.put, sA, sZ, sS]
                  refine Pz 11 (some 58) ?uwrne_12 rfl rfl ?ywrne_12 ?rwrne_12
                  case ywrne_12 =>
                   refine StepS.read [] (by kernel_rfl) (fun _ _ _ h => h) (by rfl) (fun L9 m9 w9 hSh hAt hDn hS => ?_)
                   have hT : Below _ _ w9 := hS
                   have x0 := (HS2.out w9 hT).c0
                   clear hT hS
                   go_simp
                   try rfl
                  try simp only [Act.put, sA, sZ, sS]
                  refine Pz 12 (some 59) _ rfl rfl (StepS.pure (fun _ _ _ h => h) rfl fun w9 => by go_simp; try rfl) ?_
                  try simp only [Act.put, sA, sZ, sS]
                  refine Pz 13 (some 60) _ rfl rfl (StepS.pure (fun _ _ _ h => h) rfl fun w9 => by go_simp; try rfl) ?_
                  try simp only [Act.put, sA, sZ, sS]
                  refine Pz 14 (some 61) _ rfl rfl (StepS.pure (fun _ _ _ h => h) rfl fun w9 => by go_simp; try rfl) ?_
                  try simp only [Act.put, sA, sZ, sS]
                  refine Pz 15 (some 62) ?uwrne_16 rfl rfl ?ywrne_16 ?rwrne_16
                  case ywrne_16 =>
                   refine StepS.read [] (by kernel_rfl) (fun _ _ _ h => h) (by rfl) (fun L9 m9 w9 hSh hAt hDn hS => ?_)
                   have hT : Below _ _ w9 := hS
                   have x2 : w9.cell? ⟨w.heap.size, 2, none⟩ = some (.slice (some p1) m1 c1) := (HA1.out.ca hT).cell 2
                   clear hT hS
                   go_simp
                   try rfl
                  try simp only [Act.put, sA, sZ, sS]
                  refine Pz 16 (some 63) _ rfl rfl (StepS.pure (fun _ _ _ h => h) rfl fun w9 => by go_simp; try rfl) ?_
                  try simp only [Act.put, sA, sZ, sS]
                  refine Pz 17 (some 64) _ rfl rfl (StepS.pure (fun _ _ _ h => h) rfl fun w9 => by go_simp; try rfl) ?_
                  try simp only [Act.put, sA, sZ, sS]
                  refine Pz 18 (some 65) _ rfl rfl (StepS.pure (fun _ _ _ h => h) rfl fun w9 => by go_simp; try rfl) ?_
                  try simp only [Act.put, sA, sZ, sS]
                  refine Pz 19 (some 66) ?uwrne_20 rfl rfl ?ywrne_20 ?rwrne_20
                  case ywrne_20 =>
                   refine StepS.read [] (by kernel_rfl) (fun _ _ _ h => h) (by rfl) (fun L9 m9 w9 hSh hAt hDn hS => ?_)
                   have hT : Below _ _ w9 := hS
                   have x1 := (HS1.out w9 hT).c1
                   have x2 := (HS1.out w9 hT).c2
                   have x3 := (HS1.out w9 hT).c3
                   clear hT hS
                   go_simp
                   try rfl
                  try simp only [Act.put, sA, sZ, sS]
                  refine Pz 20 (some 67) _ rfl rfl (StepS.pure (fun _ _ _ h => h) rfl fun w9 => by go_simp; try rfl) ?_
                  try simp only [Act.put, sA, sZ, sS]
                  refine Pz 21 (some 68) ?uwrne_22 rfl rfl ?ywrne_22 ?rwrne_22
                  case ywrne_22 =>
                   refine StepS.read [] (by kernel_rfl) (fun _ _ _ h => h) (by rfl) (fun L9 m9 w9 hSh hAt hDn hS => ?_)
                   have hT : Below _ _ w9 := hS
                   have x2 : w9.cell? ⟨w.heap.size + 1, 2, none⟩ = some (.slice (some p2) m1 d1) := (HB1.out.ca hT).cell 2
                   clear hT hS
                   go_simp
                   try rfl
                  try simp only [Act.put, sA, sZ, sS]
                  refine Pz 22 (some 69) _ rfl rfl (StepS.pure (fun _ _ _ h => h) rfl fun w9 => by go_simp; try rfl) ?_
                  try simp only [Act.put, sA, sZ, sS]
                  refine Pz 23 (some 70) _ rfl rfl (StepS.pure (fun _ _ _ h => h) rfl fun w9 => by go_simp; try rfl) ?_
                  try simp only [Act.put, sA, sZ, sS]
                  refine Pz 24 (some 71) _ rfl rfl (StepS.pure (fun _ _ _ h => h) rfl fun w9 => by go_simp; try rfl) ?_
                  try simp only [Act.put, sA, sZ, sS]
                  refine Pz 25 (some 72) ?uwrne_26 rfl rfl ?ywrne_26 ?rwrne_26
                  case ywrne_26 =>
                   refine StepS.read [] (by kernel_rfl) (fun _ _ _ h => h) (by rfl) (fun L9 m9 w9 hSh hAt hDn hS => ?_)
                   have hT : Below _ _ w9 := hS
                   have x1 := (HS2.out w9 hT).c1
                   have x2 := (HS2.out w9 hT).c2
                   have x3 := (HS2.out w9 hT).c3
                   clear hT hS
                   go_simp
                   try rfl
                  try simp only [Act.put, sA, sZ, sS]
                  refine Pz 26 (some 73) (.bool false) rfl rfl ?ywrne_27 ?rwrne_27
                  case ywrne_27 =>
                   refine StepS.call ?fwrne_27 ?awrne_27 [] (by kernel_rfl) (by rfl) (fun w9 => ?hwrne_27) (fun L9 m9 w9 hSh hAt hDn hS => ?cwrne_27)
                   case hwrne_27 => go_simp; refine ⟨?_, ?_⟩ <;> rfl
                   case cwrne_27 =>
                    have hT : Below _ _ w9 := hS
                    refine (HCO.out w9 hT).mono ?_
                    rintro e w8 ⟨rfl, q8⟩
                    exact ⟨by rw [HEQ.out], bl_ca hT q8⟩
                  try simp only [Act.put, sA, sZ, sS]
                  refine Pz 27 (some 74) _ rfl rfl (StepS.pure (fun _ _ _ h => h) rfl fun w9 => by go_simp; try rfl) ?_
                  try simp only [Act.put, sA, sZ, sS]
                  refine Pz 28 (some 75) _ rfl rfl (StepS.pure (fun _ _ _ h => h) rfl fun w9 => by go_simp; try rfl) ?_
                  try simp only [Act.put, sA, sZ, sS]
                  refine Ps.done (by kernel_rfl) (fun wrne hS => ?_) _
                  have HQ := Lib.hid (show Below wr.heap.size wr _ from hS)
                  clear hS
                  obtain ⟨w7, rfl⟩ : ∃ x, x = wrne := ⟨_, rfl⟩
                  go_wp2
                  go_ret
                  exact ⟨ret_bool (by rw [HR.out, HF.out]; simp), bl_ca HQB.out HQ.out⟩
                · have HEQ := Lib.hid hb
                  have HP2 := Lib.hid (show xs.take (i + 1) = ys.take (i + 1) from by rw [List.take_add_one, List.take_add_one, HP.out, HVI.out, HUI.out, (eqBC_iff _ _).1 hb])
                  clear hb
                  go_wp2_with fail
                  refine wp_region_ps (S := fun _ _ w' => Below wr.heap.size wr w') (by kernel_rfl) ?spswreq ?ppswreq
                  case spswreq =>
                   exact (Below.refl _ _).drew
                  refine Pz 0 (some 47) _ rfl rfl (StepS.pure (fun _ _ _ h => h) rfl fun w9 => by go_simp; try rfl) ?_
                  try simp only [Act.put, sA, sZ, sS]
                  refine Pz 1 (some 48) ?uwreq_31 rfl rfl ?ywreq_31 ?rwreq_31
                  case ywreq_31 =>
                   refine StepS.read [] (by kernel_rfl) (fun _ _ _ h => h) (by rfl) (fun L9 m9 w9 hSh hAt hDn hS => ?_)
                   have hT : Below _ _ w9 := hS
                   have x2 : w9.cell? ⟨w.heap.size, 2, none⟩ = some (.slice (some p1) m1 c1) := (HA1.out.ca hT).cell 2
                   clear hT hS
                   go_simp
                   try rfl
                  try simp only [Act.put, sA, sZ, sS]
                  refine Pz 2 (some 49) _ rfl rfl (StepS.pure (fun _ _ _ h => h) rfl fun w9 => by go_simp; try rfl) ?_
                  try simp only [Act.put, sA, sZ, sS]
                  refine Pz 3 (some 50) _ rfl rfl (StepS.pure (fun _ _ _ h => h) rfl fun w9 => by go_simp; try rfl) ?_
                  try simp only [Act.put, sA, sZ, sS]
                  refine Pz 4 (some 51) _ rfl rfl (StepS.pure (fun _ _ _ h => h) rfl fun w9 => by go_simp; try rfl) ?_
                  try simp only [Act.put, sA, sZ, sS]
                  refine Pz 5 (some 52) ?uwreq_35 rfl rfl ?ywreq_35 ?rwreq_35
                  case ywreq_35 =>
                   refine StepS.read [] (by kernel_rfl) (fun _ _ _ h => h) (by rfl) (fun L9 m9 w9 hSh hAt hDn hS => ?_)
                   have hT : Below _ _ w9 := hS
                   have x0 := (HS1.out w9 hT).c0
                   clear hT hS
                   go_simp
                   try rfl
                  try simp only [Act.put, sA, sZ, sS]
                  refine Pz 6 (some 53) _ rfl rfl (StepS.pure (fun _ _ _ h => h) rfl fun w9 => by go_simp; try rfl) ?_
                  try simp only [Act.put, sA, sZ, sS]
                  refine Pz 7 (some 54) ?uwreq_37 rfl rfl ?ywreq_37 ?rwreq_37
                  case ywreq_37 =>
                   refine StepS.read [] (by kernel_rfl) (fun _ _ _ h => h) (by rfl) (fun L9 m9 w9 hSh hAt hDn hS => ?_)
                   have hT : Below _ _ w9 := hS
                   have x2 : w9.cell? ⟨w.heap.size + 1, 2, none⟩ = some (.slice (some p2) m1 d1) := (HB1.out.ca hT).cell 2
                   clear hT hS
                   go_simp
                   try rfl
                  try simp only [Act.put, sA, sZ, sS]
                  refine Pz 8 (some 55) _ rfl rfl (StepS.pure (fun _ _ _ h => h) rfl fun w9 => by go_simp; try rfl) ?_
                  try simp only [Act.put, sA, sZ, sS]
                  refine Pz 9 (some 56) _ rfl rfl (StepS.pure (fun _ _ _ h => h) rfl fun w9 => by go_simp; try rfl) ?_
                  try simp only [Act.put, sA, sZ, sS]
                  refine Pz 10 (some 57) _ rfl rfl (StepS.pure (fun _ _ _ h => h) rfl fun w9 => by go_simp; try rfl) ?_
                  try simp only [Act.put, sA, sZ, sS]
                  refine Pz 11 (some 58) ?uwreq_41 rfl rfl ?ywreq_41 ?rwreq_41
                  case ywreq_41 =>
                   refine StepS.read [] (by kernel_rfl) (fun _ _ _ h => h) (by rfl) (fun L9 m9 w9 hSh hAt hDn hS => ?_)
                   have hT : Below _ _ w9 := hS
                   have x0 := (HS2.out w9 hT).c0
                   clear hT hS
                   go_simp
                   try rfl
                  try simp only [Act.put, sA, sZ, sS]
                  refine Pz 12 (some 59) _ rfl rfl (StepS.pure (fun _ _ _ h => h) rfl fun w9 => by go_simp; try rfl) ?_
                  try simp only [Act.put, sA, sZ, sS]
                  refine Pz 13 (some 60) _ rfl rfl (StepS.pure (fun _ _ _ h => h) rfl fun w9 => by go_simp; try rfl) ?_
                  try simp only [Act.put, sA, sZ, sS]
                  refine Pz 14 (some 61) _ rfl rfl (StepS.pure (fun _ _ _ h => h) rfl fun w9 => by go_simp; try rfl) ?_
                  try simp only [Act.put, sA, sZ, sS]
                  refine Pz 15 (some 62) ?uwreq_45 rfl rfl ?ywreq_45 ?rwreq_45
                  case ywreq_45 =>
                   refine StepS.read [] (by kernel_rfl) (fun _ _ _ h => h) (by rfl) (fun L9 m9 w9 hSh hAt hDn hS => ?_)
                   have hT : Below _ _ w9 := hS
                   have x2 : w9.cell? ⟨w.heap.size, 2, none⟩ = some (.slice (some p1) m1 c1) := (HA1.out.ca hT).cell 2
                   clear hT hS
                   go_simp
                   try rfl
                  try simp only [Act.put, sA, sZ, sS]
                  refine Pz 16 (some 63) _ rfl rfl (StepS.pure (fun _ _ _ h => h) rfl fun w9 => by go_simp; try rfl) ?_
                  try simp only [Act.put, sA, sZ, sS]
                  refine Pz 17 (some 64) _ rfl rfl (StepS.pure (fun _ _ _ h => h) rfl fun w9 => by go_simp; try rfl) ?_
                  try simp only [Act.put, sA, sZ, sS]
                  refine Pz 18 (some 65) _ rfl rfl (StepS.pure (fun _ _ _ h => h) rfl fun w9 => by go_simp; try rfl) ?_
                  try simp only [Act.put, sA, sZ, sS]
                  refine Pz 19 (some 66) ?uwreq_49 rfl rfl ?ywreq_49 ?rwreq_49
                  case ywreq_49 =>
                   refine StepS.read [] (by kernel_rfl) (fun _ _ _ h => h) (by rfl) (fun L9 m9 w9 hSh hAt hDn hS => ?_)
                   have hT : Below _ _ w9 := hS
                   have x1 := (HS1.out w9 hT).c1
                   have x2 := (HS1.out w9 hT).c2
                   have x3 := (HS1.out w9 hT).c3
                   clear hT hS
                   go_simp
                   try rfl
                  try simp only [Act.put, sA, sZ, sS]
                  refine Pz 20 (some 67) _ rfl rfl (StepS.pure (fun _ _ _ h => h) rfl fun w9 => by go_simp; try rfl) ?_
                  try simp only [Act.put, sA, sZ, sS]
                  refine Pz 21 (some 68) ?uwreq_51 rfl rfl ?ywreq_51 ?rwreq_51
                  case ywreq_51 =>
                   refine StepS.read [] (by kernel_rfl) (fun _ _ _ h => h) (by rfl) (fun L9 m9 w9 hSh hAt hDn hS => ?_)
                   have hT : Below _ _ w9 := hS
                   have x2 : w9.cell? ⟨w.heap.size + 1, 2, none⟩ = some (.slice (some p2) m1 d1) := (HB1.out.ca hT).cell 2
                   clear hT hS
                   go_simp
                   try rfl
                  try simp only [Act.put, sA, sZ, sS]
                  refine Pz 22 (some 69) _ rfl rfl (StepS.pure (fun _ _ _ h => h) rfl fun w9 => by go_simp; try rfl) ?_
                  try simp only [Act.put, sA, sZ, sS]
                  refine Pz 23 (some 70) _ rfl rfl (StepS.pure (fun _ _ _ h => h) rfl fun w9 => by go_simp; try rfl) ?_
                  try simp only [Act.put, sA, sZ, sS]
                  refine Pz 24 (some 71) _ rfl rfl (StepS.pure (fun _ _ _ h => h) rfl fun w9 => by go_simp; try rfl) ?_
                  try simp only [Act.put, sA, sZ, sS]
                  refine Pz 25 (some 72) ?uwreq_55 rfl rfl ?ywreq_55 ?rwreq_55
                  case ywreq_55 =>
                   refine StepS.read [] (by kernel_rfl) (fun _ _ _ h => h) (by rfl) (fun L9 m9 w9 hSh hAt hDn hS => ?_)
                   have hT : Below _ _ w9 := hS
                   have x1 := (HS2.out w9 hT).c1
                   have x2 := (HS2.out w9 hT).c2
                   have x3 := (HS2.out w9 hT).c3
                   clear hT hS
                   go_simp
                   try rfl
                  try simp only [Act.put, sA, sZ, sS]
                  refine Pz 26 (some 73) (.bool true) rfl rfl ?ywreq_56 ?rwreq_56
                  case ywreq_56 =>
                   refine StepS.call ?fwreq_56 ?awreq_56 [] (by kernel_rfl) (by rfl) (fun w9 => ?hwreq_56) (fun L9 m9 w9 hSh hAt hDn hS => ?cwreq_56)
                   case hwreq_56 => go_simp; refine ⟨?_, ?_⟩ <;> rfl
                   case cwreq_56 =>
                    have hT : Below _ _ w9 := hS
                    refine (HCO.out w9 hT).mono ?_
                    rintro e w8 ⟨rfl, q8⟩
                    exact ⟨by rw [HEQ.out], bl_ca hT q8⟩
                  try simp only [Act.put, sA, sZ, sS]
                  refine Pz 27 (some 74) _ rfl rfl (StepS.pure (fun _ _ _ h => h) rfl fun w9 => by go_simp; try rfl) ?_
                  try simp only [Act.put, sA, sZ, sS]
                  refine Pz 28 (some 75) _ rfl rfl (StepS.pure (fun _ _ _ h => h) rfl fun w9 => by go_simp; try rfl) ?_
                  try simp only [Act.put, sA, sZ, sS]
                  refine Ps.done (by kernel_rfl) (fun wreq hS => ?_) _
                  have HQ := Lib.hid (show Below wr.heap.size wr _ from hS)
                  clear hS
                  obtain ⟨w7, rfl⟩ : ∃ x, x = wreq := ⟨_, rfl⟩
                  go_wp2
                  go_roundg (gk - 1)
                  · exact ⟨i + 1, by omega, by go_num, HP2.out, bl_ca (show Below w1.heap.size w1 wr from HBBW.out) HQ.out⟩
                  · omega
              · have d0 : ((vs : Int) != us) = true := by simpa using hs
                have HF := Lib.hid (show decide (xs = ys) = false from decide_eq_false fun e => by have h1 := HVI.out; rw [e, HUI.out] at h1; injection h1 with h1; injection h1 with h2 h3; exact hs h2.symm)
                have HNE := Lib.hid hs
                clear hs
                go_wp2_with fail
                refine wp_region_ps (S := fun _ _ w' => Below wr.heap.size wr w') (by kernel_rfl) ?spswrseq ?ppswrseq
                case spswrseq =>
                 exact (Below.refl _ _).drew
                refine Pz 0 (some 47) _ rfl rfl (StepS.pure (fun _ _ _ h => h) rfl fun w9 => by go_simp; try rfl) ?_
                try simp only [Act.put, sA, sZ, sS]
                refine Pz 1 (some 48) ?uwrseq_60 rfl rfl ?ywrseq_60 ?rwrseq_60
                case ywrseq_60 =>
                 refine StepS.read [] (by kernel_rfl) (fun _ _ _ h => h) (by rfl) (fun L9 m9 w9 hSh hAt hDn hS => ?_)
                 have hT : Below _ _ w9 := hS
                 have x2 : w9.cell? ⟨w.heap.size, 2, none⟩ = some (.slice (some p1) m1 c1) := (HA1.out.ca hT).cell 2
                 clear hT hS
                 go_simp
                 try rfl
                try simp only [Act.put, sA, sZ, sS]
                refine Pz 2 (some 49) _ rfl rfl (StepS.pure (fun _ _ _ h => h) rfl fun w9 => by go_simp; try rfl) ?_
                try simp only [Act.put, sA, sZ, sS]
                refine Pz 3 (some 50) _ rfl rfl (StepS.pure (fun _ _ _ h => h) rfl fun w9 => by go_simp; try rfl) ?_
                try simp only [Act.put, sA, sZ, sS]
                refine Pz 4 (some 51) _ rfl rfl (StepS.pure (fun _ _ _ h => h) rfl fun w9 => by go_simp; try rfl) ?_
                try simp only [Act.put, sA, sZ, sS]
                refine Pz 5 (some 52) ?uwrseq_64 rfl rfl ?ywrseq_64 ?rwrseq_64
                case ywrseq_64 =>
                 refine StepS.read [] (by kernel_rfl) (fun _ _ _ h => h) (by rfl) (fun L9 m9 w9 hSh hAt hDn hS => ?_)
                 have hT : Below _ _ w9 := hS
                 have x0 := (HS1.out w9 hT).c0
                 clear hT hS
                 go_simp
                 try rfl
                try simp only [Act.put, sA, sZ, sS]
                refine Pz 6 (some 53) _ rfl rfl (StepS.pure (fun _ _ _ h => h) rfl fun w9 => by go_simp; try rfl) ?_
                try simp only [Act.put, sA, sZ, sS]
                refine Pz 7 (some 54) ?uwrseq_66 rfl rfl ?ywrseq_66 ?rwrseq_66
                case ywrseq_66 =>
                 refine StepS.read [] (by kernel_rfl) (fun _ _ _ h => h) (by rfl) (fun L9 m9 w9 hSh hAt hDn hS => ?_)
                 have hT : Below _ _ w9 := hS
                 have x2 : w9.cell? ⟨w.heap.size + 1, 2, none⟩ = some (.slice (some p2) m1 d1) := (HB1.out.ca hT).cell 2
                 clear hT hS
                 go_simp
                 try rfl
                try simp only [Act.put, sA, sZ, sS]
                refine Pz 8 (some 55) _ rfl rfl (StepS.pure (fun _ _ _ h => h) rfl fun w9 => by go_simp; try rfl) ?_
                try simp only [Act.put, sA, sZ, sS]
                refine Pz 9 (some 56) _ rfl rfl (StepS.pure (fun _ _ _ h => h) rfl fun w9 => by go_simp; try rfl) ?_
                try simp only [Act.put, sA, sZ, sS]
                refine Pz 10 (some 57) _ rfl rfl (StepS.pure (fun _ _ _ h => h) rfl fun w9 => by go_simp; try rfl) ?_
                try simp only [Act.put, sA, sZ, sS]
                refine Pz 11 (some 58) ?uwrseq_70 rfl rfl ?ywrseq_70 ?rwrseq_70
                case ywrseq_70 =>
                 refine StepS.read [] (by kernel_rfl) (fun _ _ _ h => h) (by rfl) (fun L9 m9 w9 hSh hAt hDn hS => ?_)
                 have hT : Below _ _ w9 := hS
                 have x0 := (HS2.out w9 hT).c0
                 clear hT hS
                 go_simp
                 try rfl
                try simp only [Act.put, sA, sZ, sS]
                refine Pz 12 (some 59) _ rfl rfl (StepS.pure (fun _ _ _ h => h) rfl fun w9 => by go_simp; try rfl) ?_
                try simp only [Act.put, sA, sZ, sS]
                refine Pz 13 (some 60) _ rfl rfl (StepS.pure (fun _ _ _ h => h) rfl fun w9 => by go_simp; try rfl) ?_
                try simp only [Act.put, sA, sZ, sS]
                refine Pz 14 (some 61) undef rfl rfl (StepS.skip (fun _ _ _ h => h) rfl) ?_
                try simp only [Act.put, sA, sZ, sS]
                refine Pz 15 (some 62) undef rfl rfl (StepS.skip (fun _ _ _ h => h) rfl) ?_
                try simp only [Act.put, sA, sZ, sS]
                refine Pz 16 (some 63) undef rfl rfl (StepS.skip (fun _ _ _ h => h) rfl) ?_
                try simp only [Act.put, sA, sZ, sS]
                refine Pz 17 (some 64) undef rfl rfl (StepS.skip (fun _ _ _ h => h) rfl) ?_
                try simp only [Act.put, sA, sZ, sS]
                refine Pz 18 (some 65) undef rfl rfl (StepS.skip (fun _ _ _ h => h) rfl) ?_
                try simp only [Act.put, sA, sZ, sS]
                refine Pz 19 (some 66) undef rfl rfl (StepS.skip (fun _ _ _ h => h) rfl) ?_
                try simp only [Act.put, sA, sZ, sS]
                refine Pz 20 (some 67) undef rfl rfl (StepS.skip (fun _ _ _ h => h) rfl) ?_
                try simp only [Act.put, sA, sZ, sS]
                refine Pz 21 (some 68) undef rfl rfl (StepS.skip (fun _ _ _ h => h) rfl) ?_
                try simp only [Act.put, sA, sZ, sS]
                refine Pz 22 (some 69) undef rfl rfl (StepS.skip (fun _ _ _ h => h) rfl) ?_
                try simp only [Act.put, sA, sZ, sS]
                refine Pz 23 (some 70) undef rfl rfl (StepS.skip (fun _ _ _ h => h) rfl) ?_
                try simp only [Act.put, sA, sZ, sS]
                refine Pz 24 (some 71) undef rfl rfl (StepS.skip (fun _ _ _ h => h) rfl) ?_
                try simp only [Act.put, sA, sZ, sS]
                refine Pz 25 (some 72) undef rfl rfl (StepS.skip (fun _ _ _ h => h) rfl) ?_
                try simp only [Act.put, sA, sZ, sS]
                refine Pz 26 (some 73) undef rfl rfl (StepS.skip (fun _ _ _ h => h) rfl) ?_
                try simp only [Act.put, sA, sZ, sS]
                refine Pz 27 (some 74) undef rfl rfl (StepS.skip (fun _ _ _ h => h) rfl) ?_
                try simp only [Act.put, sA, sZ, sS]
                refine Pz 28 (some 75) _ rfl rfl (StepS.pure (fun _ _ _ h => h) rfl fun w9 => by go_simp; try rfl) ?_
                try simp only [Act.put, sA, sZ, sS]
                refine Ps.done (by kernel_rfl) (fun wrseq hS => ?_) _
                have HQ := Lib.hid (show Below wr.heap.size wr _ from hS)
                clear hS
                obtain ⟨w7, rfl⟩ : ∃ x, x = wrseq := ⟨_, rfl⟩
                go_wp2
                go_ret
                exact ⟨ret_bool (by rw [HR.out, HF.out]; simp), bl_ca HQB.out HQ.out⟩
            · obtain rfl : i = m1 := by omega
              have hil : (i : Int) ≤ (i : Int) := by omega
              have HF := Lib.hid (show decide (xs = ys) = true from decide_eq_true (by have hp := HP.out; rwa [List.take_of_length_le (by rw [HXL.out]; omega), List.take_of_length_le (by rw [HYL.out]; omega)] at hp))
              have HE := Lib.hid (rsameBs_any F G A2 B2 m2 c2 n2 d2 qa qb wr (Lay.rd_below HX2.out bb) (Lay.rd_below HY2.out bb) hm2)
              have x3 : wr.cell? ⟨w.heap.size, 3, none⟩ = some (.slice A2 m2 c2) := HA1.out.cell 3
              have y3 : wr.cell? ⟨w.heap.size + 1, 3, none⟩ = some (.slice B2 n2 d2) := HB1.out.cell 3
              clear bb
              go_wp2_with fail
              refine HE.out.mono ?_
              rintro e w2 ⟨rfl, q2⟩
              have HQ := Lib.hid q2
              clear q2
              go_wp2
              go_ret
              exact ⟨ret_bool (by rw [HR.out, HF.out]; simp), bl_ca HQB.out HQ.out⟩
         · have d1 : ((m1 : Int) != (n1 : Int)) = true := by simp; omega
           have HF := Lib.hid (show decide (xs = ys) = false from decide_eq_false fun e => by have h1 := HXL.out; rw [e, HYL.out] at h1; exact hl h1.symm)
           clear hl
           go_enter Try.func14, Try.ntmps14
           go_wp2
           go_ret
           exact ⟨ret_bool (by rw [HR.out, HF.out]; simp), HB.out⟩
       · have d1 : (a5 != b5) = true := by simpa using h3
         have d2 : (a5 == b5) = false := by simpa using h3
         clear h3
         go_enter Try.func14, Try.ntmps14
         go_wp2
         go_ret
         exact ⟨ret_bool (by rw [HR.out, d2]; simp), HB.out⟩
     · have d1 : (a4 != b4) = true := by simpa using h2
       have d2 : (a4 == b4) = false := by simpa using h2
       clear h2
       go_enter Try.func14, Try.ntmps14
       go_wp2
       go_ret
       exact ⟨ret_bool (by rw [HR.out, d2]; simp), HB.out⟩
   · have d1 : (a1 != b1) = true := by simpa using h1
     have d2 : (a1 == b1) = false := by simpa using h1
     clear h1
     go_enter Try.func14, Try.ntmps14
     go_wp2
     go_ret
     exact ⟨ret_bool (by rw [HR.out, d2]; simp), HB.out⟩
 · have d1 : (a0 != b0) = true := by simpa using h0
   have d2 : (a0 == b0) = false := by simpa using h0
   clear h0
   go_enter Try.func14, Try.ntmps14
   go_wp2
   go_ret
   exact ⟨ret_bool (by rw [HR.out, d2]; simp), HB.out⟩
end Go.Proofs.Ytojghgbaiiajfaa
/- bowspritref22.SamePacket, SamePackets. Conditions: the rows read so. -/
namespace Go.Proofs.Ytojghgbaiiajfaa
open Go.RowKit
def eqPK (a b : PK) : Bool := decide (a.kind = b.kind) && decide (a.ses = b.ses) && decide (a.seq = b.seq) && decide (a.lim = b.lim) && eqBC a.b b.b
theorem eqPK_iff (a b : PK) : eqPK a b = true ↔ a = b := by
 rcases a with ⟨a0, a1, a2, a3, a4⟩
 rcases b with ⟨b0, b1, b2, b3, b4⟩
 simp [eqPK, eqBC_iff]
 exact ⟨fun ⟨⟨⟨⟨x, y⟩, z⟩, u⟩, v⟩ => ⟨x, y, z, u, v⟩, fun ⟨x, y, z, u, v⟩ => ⟨⟨⟨⟨x, y⟩, z⟩, u⟩, v⟩⟩
instance : DecidableEq PK := fun a b => decidable_of_iff (eqPK a b = true) (eqPK_iff a b)
set_option maxRecDepth 100000 in
set_option maxHeartbeats 8000000 in
theorem rsameP_any (F G : Nat → Prop) (a b : PK) (A B : Option Addr) (m c n d : Nat) (w : World) (hx : LR.rd w F A m a.b.rows) (hy : LR.rd w G B n b.b.rows) (hm : m ≤ 9223372036854775807) :
 Calls Try.prog 32 #[.agg (a.cells A m c), .agg (b.cells B n d)] w fun e w' => e = .returned (.bool (eqPK a b)) ∧ Below w.heap.size w w' := by
 obtain ⟨r, hr⟩ : ∃ r, r = eqPK a b := ⟨_, rfl⟩
 rw [← hr]
 have HRR := Lib.hid hr
 clear hr
 have q1 := bl_al (Below.refl w.heap.size w) (.cells #[.int .i64 a.kind, .int .u32 a.ses, .int .u64 a.seq, .int .u64 a.lim, .slice A m c, .bool a.b.fin, .int .u64 a.b.cnt] 47)
 have q2 := bl_al q1 (.cells #[.int .i64 b.kind, .int .u32 b.ses, .int .u64 b.seq, .int .u64 b.lim, .slice B n d, .bool b.b.fin, .int .u64 b.b.cnt] 47)
 have HX := Lib.hid (Lay.rd_below hx q2)
 have HY := Lib.hid (Lay.rd_below hy q2)
 have HB1 := Lib.hid ((Blk.new w 47 #[.int .i64 a.kind, .int .u32 a.ses, .int .u64 a.seq, .int .u64 a.lim, .slice A m c, .bool a.b.fin, .int .u64 a.b.cnt]).alloc (.cells #[.int .i64 b.kind, .int .u32 b.ses, .int .u64 b.seq, .int .u64 b.lim, .slice B n d, .bool b.b.fin, .int .u64 b.b.cnt] 47))
 have HB2 := Lib.hid (show Blk ((w.alloc (.cells #[.int .i64 a.kind, .int .u32 a.ses, .int .u64 a.seq, .int .u64 a.lim, .slice A m c, .bool a.b.fin, .int .u64 a.b.cnt] 47)).alloc (.cells #[.int .i64 b.kind, .int .u32 b.ses, .int .u64 b.seq, .int .u64 b.lim, .slice B n d, .bool b.b.fin, .int .u64 b.b.cnt] 47)) (w.heap.size + 1) 47 #[.int .i64 b.kind, .int .u32 b.ses, .int .u64 b.seq, .int .u64 b.lim, .slice B n d, .bool b.b.fin, .int .u64 b.b.cnt] from by have := Blk.new (w.alloc (.cells #[.int .i64 a.kind, .int .u32 a.ses, .int .u64 a.seq, .int .u64 a.lim, .slice A m c, .bool a.b.fin, .int .u64 a.b.cnt] 47)) 47 #[.int .i64 b.kind, .int .u32 b.ses, .int .u64 b.seq, .int .u64 b.lim, .slice B n d, .bool b.b.fin, .int .u64 b.b.cnt]; simp only [World.size_alloc] at this; exact this)
 have HQ := Lib.hid q2
 clear hx hy q1 q2
 go_enter Try.func32, Try.ntmps32
 go_upto_region 1 with fail
 generalize ((w.alloc (.cells #[.int .i64 a.kind, .int .u32 a.ses, .int .u64 a.seq, .int .u64 a.lim, .slice A m c, .bool a.b.fin, .int .u64 a.b.cnt] 47)).alloc (.cells #[.int .i64 b.kind, .int .u32 b.ses, .int .u64 b.seq, .int .u64 b.lim, .slice B n d, .bool b.b.fin, .int .u64 b.b.cnt] 47)) = w1 at *
 refine wp_region_ps0 .text (S := fun _ _ w' => Below w1.heap.size w1 w') (by kernel_rfl) ?spswg1 ?ppswg1
 case spswg1 =>
  exact (Below.refl w1.heap.size w1)
 refine Pz 0 (some 5) (.pointer (some ⟨w.heap.size, 0, none⟩)) rfl rfl (by exact StepS.pure nP rfl fun _ => rfl) ?_
 try simp only [Act.put, sA, sZ, sS]
 refine Pz 1 (some 6) (.int .i64 (a.kind)) rfl rfl ?ywg1_3 ?rwg1_3
 case ywg1_3 =>
  refine StepS.read [] (by kernel_rfl) nP (by rfl) (fun L9 m9 w9 hSh hAt hDn hS => ?_)
  have hT : Below _ _ w9 := hS
  have x0 : w9.cell? ⟨w.heap.size, 0, none⟩ = some (.int .i64 (a.kind)) := (HB1.out.ca hT).cell 0
  clear hT hS
  go_simp
  try rfl
 try simp only [Act.put, sA, sZ, sS]
 refine Pz 2 (some 7) (.pointer (some ⟨w.heap.size + 1, 0, none⟩)) rfl rfl (by exact StepS.pure nP rfl fun _ => rfl) ?_
 try simp only [Act.put, sA, sZ, sS]
 refine Pz 3 (some 8) (.int .i64 (b.kind)) rfl rfl ?ywg1_5 ?rwg1_5
 case ywg1_5 =>
  refine StepS.read [] (by kernel_rfl) nP (by rfl) (fun L9 m9 w9 hSh hAt hDn hS => ?_)
  have hT : Below _ _ w9 := hS
  have x0 : w9.cell? ⟨w.heap.size + 1, 0, none⟩ = some (.int .i64 (b.kind)) := (HB2.out.ca hT).cell 0
  clear hT hS
  go_simp
  try rfl
 try simp only [Act.put, sA, sZ, sS]
 refine Pz 4 (some 9) (.bool (decide (a.kind = b.kind))) rfl rfl (by exact StepS.pure nP rfl fun _ => rfl) ?_
 try simp only [Act.put, sA, sZ, sS]
 obtain ⟨b1_5, hb9⟩ : ∃ zb : Bool, zb = (decide (a.kind = b.kind)) := ⟨_, rfl⟩
 have HEb1_5 := Lib.hid hb9
 clear hb9
 refine Pz 5 (some 10) (.bool (b1_5)) rfl rfl ?ywg1_7 ?rwg1_7
 case ywg1_7 =>
  refine StepS.pure nP (by rfl) (fun w9 => ?_)
  have e9 : (decide (a.kind = b.kind)) = b1_5 := by rw [HEb1_5.out]
  rw [← e9]
  clear e9
  first | rfl | (go_simp; done) | (go_simp; rfl)
 try simp only [Act.put, sA, sZ, sS]
 refine Pz 6 (some 11) (cond b1_5 (.pointer (some ⟨w.heap.size, 1, none⟩)) (undef)) rfl rfl (by cases b1_5; exact StepS.skip nP rfl; exact StepS.pure nP rfl fun _ => rfl) ?_
 try simp only [Act.put, sA, sZ, sS]
 refine Pz 7 (some 12) (cond b1_5 (.int .u32 (a.ses)) (undef)) rfl rfl ?ywg1_9 ?rwg1_9
 case ywg1_9 =>
  cases b1_5
  · exact StepS.skip nP (by rfl)
  · skip
    refine StepS.read [] (by kernel_rfl) nP (by rfl) (fun L9 m9 w9 hSh hAt hDn hS => ?_)
    have hT : Below _ _ w9 := hS
    have x0 : w9.cell? ⟨w.heap.size, 1, none⟩ = some (.int .u32 (a.ses)) := (HB1.out.ca hT).cell 1
    clear hT hS
    go_simp
    try rfl
 try simp only [Act.put, sA, sZ, sS]
 refine Pz 8 (some 13) (cond b1_5 (.pointer (some ⟨w.heap.size + 1, 1, none⟩)) (undef)) rfl rfl (by cases b1_5; exact StepS.skip nP rfl; exact StepS.pure nP rfl fun _ => rfl) ?_
 try simp only [Act.put, sA, sZ, sS]
 refine Pz 9 (some 14) (cond b1_5 (.int .u32 (b.ses)) (undef)) rfl rfl ?ywg1_11 ?rwg1_11
 case ywg1_11 =>
  cases b1_5
  · exact StepS.skip nP (by rfl)
  · skip
    refine StepS.read [] (by kernel_rfl) nP (by rfl) (fun L9 m9 w9 hSh hAt hDn hS => ?_)
    have hT : Below _ _ w9 := hS
    have x0 : w9.cell? ⟨w.heap.size + 1, 1, none⟩ = some (.int .u32 (b.ses)) := (HB2.out.ca hT).cell 1
    clear hT hS
    go_simp
    try rfl
 try simp only [Act.put, sA, sZ, sS]
 refine Pz 10 (some 15) (cond b1_5 (.bool (decide (a.ses = b.ses))) (undef)) rfl rfl (by cases b1_5; exact StepS.skip nP rfl; exact StepS.pure nP rfl fun _ => rfl) ?_
 try simp only [Act.put, sA, sZ, sS]
 refine Pz 11 (some 16) (.bool (b1_5 && (decide (a.ses = b.ses)))) rfl rfl ?ywg1_13 ?rwg1_13
 case ywg1_13 =>
  refine StepS.pure nP (by rfl) (fun w9 => ?_)
  cases b1_5 <;> (first | rfl | (go_simp; done) | (go_simp; rfl))
 try simp only [Act.put, sA, sZ, sS]
 obtain ⟨b1_12, hb9⟩ : ∃ zb : Bool, zb = ((decide (a.kind = b.kind)) && (decide (a.ses = b.ses))) := ⟨_, rfl⟩
 have HEb1_12 := Lib.hid hb9
 clear hb9
 refine Pz 12 (some 17) (.bool (b1_12)) rfl rfl ?ywg1_14 ?rwg1_14
 case ywg1_14 =>
  refine StepS.pure nP (by rfl) (fun w9 => ?_)
  have e9 : (b1_5 && (decide (a.ses = b.ses))) = b1_12 := by rw [HEb1_12.out, HEb1_5.out]
  rw [← e9]
  clear e9
  first | rfl | (go_simp; done) | (go_simp; rfl)
 try simp only [Act.put, sA, sZ, sS]
 refine Pz 13 (some 18) (cond b1_12 (.pointer (some ⟨w.heap.size, 2, none⟩)) (undef)) rfl rfl (by cases b1_12; exact StepS.skip nP rfl; exact StepS.pure nP rfl fun _ => rfl) ?_
 try simp only [Act.put, sA, sZ, sS]
 refine Pz 14 (some 19) (cond b1_12 (.int .u64 (a.seq)) (undef)) rfl rfl ?ywg1_16 ?rwg1_16
 case ywg1_16 =>
  cases b1_12
  · exact StepS.skip nP (by rfl)
  · skip
    refine StepS.read [] (by kernel_rfl) nP (by rfl) (fun L9 m9 w9 hSh hAt hDn hS => ?_)
    have hT : Below _ _ w9 := hS
    have x0 : w9.cell? ⟨w.heap.size, 2, none⟩ = some (.int .u64 (a.seq)) := (HB1.out.ca hT).cell 2
    clear hT hS
    go_simp
    try rfl
 try simp only [Act.put, sA, sZ, sS]
 refine Pz 15 (some 20) (cond b1_12 (.pointer (some ⟨w.heap.size + 1, 2, none⟩)) (undef)) rfl rfl (by cases b1_12; exact StepS.skip nP rfl; exact StepS.pure nP rfl fun _ => rfl) ?_
 try simp only [Act.put, sA, sZ, sS]
 refine Pz 16 (some 21) (cond b1_12 (.int .u64 (b.seq)) (undef)) rfl rfl ?ywg1_18 ?rwg1_18
 case ywg1_18 =>
  cases b1_12
  · exact StepS.skip nP (by rfl)
  · skip
    refine StepS.read [] (by kernel_rfl) nP (by rfl) (fun L9 m9 w9 hSh hAt hDn hS => ?_)
    have hT : Below _ _ w9 := hS
    have x0 : w9.cell? ⟨w.heap.size + 1, 2, none⟩ = some (.int .u64 (b.seq)) := (HB2.out.ca hT).cell 2
    clear hT hS
    go_simp
    try rfl
 try simp only [Act.put, sA, sZ, sS]
 refine Pz 17 (some 22) (cond b1_12 (.bool (decide (a.seq = b.seq))) (undef)) rfl rfl (by cases b1_12; exact StepS.skip nP rfl; exact StepS.pure nP rfl fun _ => rfl) ?_
 try simp only [Act.put, sA, sZ, sS]
 refine Pz 18 (some 23) (.bool (b1_12 && (decide (a.seq = b.seq)))) rfl rfl ?ywg1_20 ?rwg1_20
 case ywg1_20 =>
  refine StepS.pure nP (by rfl) (fun w9 => ?_)
  cases b1_12 <;> (first | rfl | (go_simp; done) | (go_simp; rfl))
 try simp only [Act.put, sA, sZ, sS]
 obtain ⟨b1_19, hb9⟩ : ∃ zb : Bool, zb = (((decide (a.kind = b.kind)) && (decide (a.ses = b.ses))) && (decide (a.seq = b.seq))) := ⟨_, rfl⟩
 have HEb1_19 := Lib.hid hb9
 clear hb9
 refine Pz 19 (some 24) (.bool (b1_19)) rfl rfl ?ywg1_21 ?rwg1_21
 case ywg1_21 =>
  refine StepS.pure nP (by rfl) (fun w9 => ?_)
  have e9 : (b1_12 && (decide (a.seq = b.seq))) = b1_19 := by rw [HEb1_19.out, HEb1_12.out]
  rw [← e9]
  clear e9
  first | rfl | (go_simp; done) | (go_simp; rfl)
 try simp only [Act.put, sA, sZ, sS]
 refine Pz 20 (some 25) (cond b1_19 (.pointer (some ⟨w.heap.size, 3, none⟩)) (undef)) rfl rfl (by cases b1_19; exact StepS.skip nP rfl; exact StepS.pure nP rfl fun _ => rfl) ?_
 try simp only [Act.put, sA, sZ, sS]
 refine Pz 21 (some 26) (cond b1_19 (.int .u64 (a.lim)) (undef)) rfl rfl ?ywg1_23 ?rwg1_23
 case ywg1_23 =>
  cases b1_19
  · exact StepS.skip nP (by rfl)
  · skip
    refine StepS.read [] (by kernel_rfl) nP (by rfl) (fun L9 m9 w9 hSh hAt hDn hS => ?_)
    have hT : Below _ _ w9 := hS
    have x0 : w9.cell? ⟨w.heap.size, 3, none⟩ = some (.int .u64 (a.lim)) := (HB1.out.ca hT).cell 3
    clear hT hS
    go_simp
    try rfl
 try simp only [Act.put, sA, sZ, sS]
 refine Pz 22 (some 27) (cond b1_19 (.pointer (some ⟨w.heap.size + 1, 3, none⟩)) (undef)) rfl rfl (by cases b1_19; exact StepS.skip nP rfl; exact StepS.pure nP rfl fun _ => rfl) ?_
 try simp only [Act.put, sA, sZ, sS]
 refine Pz 23 (some 28) (cond b1_19 (.int .u64 (b.lim)) (undef)) rfl rfl ?ywg1_25 ?rwg1_25
 case ywg1_25 =>
  cases b1_19
  · exact StepS.skip nP (by rfl)
  · skip
    refine StepS.read [] (by kernel_rfl) nP (by rfl) (fun L9 m9 w9 hSh hAt hDn hS => ?_)
    have hT : Below _ _ w9 := hS
    have x0 : w9.cell? ⟨w.heap.size + 1, 3, none⟩ = some (.int .u64 (b.lim)) := (HB2.out.ca hT).cell 3
    clear hT hS
    go_simp
    try rfl
 try simp only [Act.put, sA, sZ, sS]
 refine Pz 24 (some 29) (cond b1_19 (.bool (decide (a.lim = b.lim))) (undef)) rfl rfl (by cases b1_19; exact StepS.skip nP rfl; exact StepS.pure nP rfl fun _ => rfl) ?_
 try simp only [Act.put, sA, sZ, sS]
 refine Pz 25 (some 30) (.bool (b1_19 && (decide (a.lim = b.lim)))) rfl rfl ?ywg1_27 ?rwg1_27
 case ywg1_27 =>
  refine StepS.pure nP (by rfl) (fun w9 => ?_)
  cases b1_19 <;> (first | rfl | (go_simp; done) | (go_simp; rfl))
 try simp only [Act.put, sA, sZ, sS]
 obtain ⟨b1_26, hb9⟩ : ∃ zb : Bool, zb = ((((decide (a.kind = b.kind)) && (decide (a.ses = b.ses))) && (decide (a.seq = b.seq))) && (decide (a.lim = b.lim))) := ⟨_, rfl⟩
 have HEb1_26 := Lib.hid hb9
 clear hb9
 refine Pz 26 (some 31) (.bool (b1_26)) rfl rfl ?ywg1_28 ?rwg1_28
 case ywg1_28 =>
  refine StepS.pure nP (by rfl) (fun w9 => ?_)
  have e9 : (b1_19 && (decide (a.lim = b.lim))) = b1_26 := by rw [HEb1_26.out, HEb1_19.out]
  rw [← e9]
  clear e9
  first | rfl | (go_simp; done) | (go_simp; rfl)
 try simp only [Act.put, sA, sZ, sS]
 refine Pz 27 (some 32) (cond b1_26 (.pointer (some ⟨w.heap.size, 4, none⟩)) (undef)) rfl rfl (by cases b1_26; exact StepS.skip nP rfl; exact StepS.pure nP rfl fun _ => rfl) ?_
 try simp only [Act.put, sA, sZ, sS]
 refine Pz 28 (some 33) (cond b1_26 (.agg #[.slice A m c, .bool (a.b.fin), .int .u64 (a.b.cnt)]) (undef)) rfl rfl ?ywg1_30 ?rwg1_30
 case ywg1_30 =>
  cases b1_26
  · exact StepS.skip nP (by rfl)
  · skip
    refine StepS.read [] (by kernel_rfl) nP (by rfl) (fun L9 m9 w9 hSh hAt hDn hS => ?_)
    have hT : Below _ _ w9 := hS
    have x0 : w9.cell? ⟨w.heap.size, 4, none⟩ = some (.slice A m c) := (HB1.out.ca hT).cell 4
    have x1 : w9.cell? ⟨w.heap.size, 5, none⟩ = some (.bool (a.b.fin)) := (HB1.out.ca hT).cell 5
    have x2 : w9.cell? ⟨w.heap.size, 6, none⟩ = some (.int .u64 (a.b.cnt)) := (HB1.out.ca hT).cell 6
    clear hT hS
    go_simp
    try rfl
 try simp only [Act.put, sA, sZ, sS]
 refine Pz 29 (some 34) (cond b1_26 (.pointer (some ⟨w.heap.size + 1, 4, none⟩)) (undef)) rfl rfl (by cases b1_26; exact StepS.skip nP rfl; exact StepS.pure nP rfl fun _ => rfl) ?_
 try simp only [Act.put, sA, sZ, sS]
 refine Pz 30 (some 35) (cond b1_26 (.agg #[.slice B n d, .bool (b.b.fin), .int .u64 (b.b.cnt)]) (undef)) rfl rfl ?ywg1_32 ?rwg1_32
 case ywg1_32 =>
  cases b1_26
  · exact StepS.skip nP (by rfl)
  · skip
    refine StepS.read [] (by kernel_rfl) nP (by rfl) (fun L9 m9 w9 hSh hAt hDn hS => ?_)
    have hT : Below _ _ w9 := hS
    have x0 : w9.cell? ⟨w.heap.size + 1, 4, none⟩ = some (.slice B n d) := (HB2.out.ca hT).cell 4
    have x1 : w9.cell? ⟨w.heap.size + 1, 5, none⟩ = some (.bool (b.b.fin)) := (HB2.out.ca hT).cell 5
    have x2 : w9.cell? ⟨w.heap.size + 1, 6, none⟩ = some (.int .u64 (b.b.cnt)) := (HB2.out.ca hT).cell 6
    clear hT hS
    go_simp
    try rfl
 try simp only [Act.put, sA, sZ, sS]
 refine Pz 31 (some 36) (cond b1_26 (.bool (eqBC a.b b.b)) (undef)) rfl rfl ?ywg1_33 ?rwg1_33
 case ywg1_33 =>
  cases b1_26
  · exact StepS.skip nP (by rfl)
  · skip
    refine StepS.call ?fwg1_33 ?awg1_33 [] (by kernel_rfl) (by rfl) (fun w9 => ?hwg1_33) (fun L9 m9 w9 hSh hAt hDn hS => ?cwg1_33)
    case hwg1_33 => go_simp; refine ⟨?_, ?_⟩ <;> rfl
    case cwg1_33 =>
     have hT : Below _ _ w9 := hS
     refine (rsameB_any F G a.b b.b A B m c n d w9 (Lay.rd_below HX.out hT) (Lay.rd_below HY.out hT) hm).mono ?_
     rintro e w8 ⟨rfl, q8⟩
     exact ⟨rfl, bl_ca hT q8⟩
 try simp only [Act.put, sA, sZ, sS]
 obtain ⟨f1x, hb9⟩ : ∃ zb : Bool, zb = (((((decide (a.kind = b.kind)) && (decide (a.ses = b.ses))) && (decide (a.seq = b.seq))) && (decide (a.lim = b.lim))) && (eqBC a.b b.b)) := ⟨_, rfl⟩
 have HEf1x := Lib.hid hb9
 clear hb9
 refine Pz 32 (some 37) (.bool (f1x)) rfl rfl ?ywg1_34 ?rwg1_34
 case ywg1_34 =>
  refine StepS.pure nP (by rfl) (fun w9 => ?_)
  have e9 : (b1_26 && (eqBC a.b b.b)) = f1x := by rw [HEf1x.out, HEb1_26.out]
  rw [← e9]
  clear e9
  cases b1_26 <;> (first | rfl | (go_simp; done) | (go_simp; rfl))
 try simp only [Act.put, sA, sZ, sS]
 refine Pz 33 (some 4) (.bool (f1x)) rfl rfl (by exact StepS.pure nP rfl fun _ => rfl) ?_
 try simp only [Act.put, sA, sZ, sS]
 refine Ps.done (by kernel_rfl) (fun wg1 hS => ?_) _
 try generalize (cond b1_26 (.agg #[.slice A m c, .bool (a.b.fin), .int .u64 (a.b.cnt)]) (undef) : Value) = zz36
 try generalize (cond b1_26 (.agg #[.slice B n d, .bool (b.b.fin), .int .u64 (b.b.cnt)]) (undef) : Value) = zz37
 try generalize (cond b1_19 (.pointer (some ⟨w.heap.size + 1, 3, none⟩)) (undef) : Value) = zz38
 try generalize (cond b1_12 (.pointer (some ⟨w.heap.size + 1, 2, none⟩)) (undef) : Value) = zz39
 try generalize (cond b1_26 (.pointer (some ⟨w.heap.size + 1, 4, none⟩)) (undef) : Value) = zz40
 try generalize (cond b1_5 (.pointer (some ⟨w.heap.size + 1, 1, none⟩)) (undef) : Value) = zz41
 try generalize (cond b1_26 (.pointer (some ⟨w.heap.size, 4, none⟩)) (undef) : Value) = zz42
 try generalize (cond b1_12 (.pointer (some ⟨w.heap.size, 2, none⟩)) (undef) : Value) = zz43
 try generalize (cond b1_19 (.pointer (some ⟨w.heap.size, 3, none⟩)) (undef) : Value) = zz44
 try generalize (cond b1_5 (.pointer (some ⟨w.heap.size, 1, none⟩)) (undef) : Value) = zz45
 try generalize (cond b1_19 (.bool (decide (a.lim = b.lim))) (undef) : Value) = zz46
 try generalize (cond b1_12 (.bool (decide (a.seq = b.seq))) (undef) : Value) = zz47
 try generalize (cond b1_5 (.bool (decide (a.ses = b.ses))) (undef) : Value) = zz48
 try generalize (.bool (b1_12 && (decide (a.seq = b.seq))) : Value) = zz49
 try generalize (cond b1_26 (.bool (eqBC a.b b.b)) (undef) : Value) = zz50
 try generalize (.bool (b1_19 && (decide (a.lim = b.lim))) : Value) = zz51
 try generalize (.bool (b1_5 && (decide (a.ses = b.ses))) : Value) = zz52
 try generalize (cond b1_19 (.int .u64 (b.lim)) (undef) : Value) = zz53
 try generalize (cond b1_12 (.int .u64 (a.seq)) (undef) : Value) = zz54
 try generalize (cond b1_12 (.int .u64 (b.seq)) (undef) : Value) = zz55
 try generalize (cond b1_19 (.int .u64 (a.lim)) (undef) : Value) = zz56
 try generalize (cond b1_5 (.int .u32 (b.ses)) (undef) : Value) = zz57
 try generalize (cond b1_5 (.int .u32 (a.ses)) (undef) : Value) = zz58
 have HW59 := Lib.hid (show Below w1.heap.size w1 wg1 from hS)
 clear hS
 obtain ⟨w160, rfl⟩ : ∃ x, x = wg1 := ⟨_, rfl⟩
 go_wp2
 go_ret
 exact ⟨ret_bool (by rw [HRR.out, HEf1x.out]; rfl), bl_ca HQ.out HW59.out⟩
end Go.Proofs.Ytojghgbaiiajfaa
