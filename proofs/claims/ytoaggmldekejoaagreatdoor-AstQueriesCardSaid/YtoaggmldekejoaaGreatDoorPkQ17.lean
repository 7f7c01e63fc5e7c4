/- The program's Same: items, joins, selects, queries. Conditions: both read so. -/
import Derived.Test.YtoaggmldekejoaaGreatDoorPkQ16
import Derived.Laws.EntriesVeiled
namespace Go.Proofs.YtoaggmldekejoaaGreatDoor
open Go.RowKit
theorem run_eqSrc (a b c d : ByteArray) : ∀ W, (Op.equalIn 10000 72 (.agg #[.string a, .string b]) (.agg #[.string c, .string d])).run Tryz.prog W = .ok (decide (a = c) && decide (b = d)) W := by
 intro W
 rw [show (decide (a = c) && decide (b = d)) = (decide (a.toList = c.toList) && decide (b.toList = d.toList)) from by simp only [ba_list], run_equalIn_agg W 9999 _ _ _ (by kernel_rfl) (by kernel_rfl)]
 go_simp
 by_cases h1 : a.toList = c.toList <;> by_cases h2 : b.toList = d.toList <;> simp [h1, h2]
theorem cell_ca {w w2 : World} {p : Addr} {v : Value} (h : w.cell? p = some v) (hp : p.block < w.heap.size) (q : Below w.heap.size w w2) : w2.cell? p = some v := (q.cell hp).trans h
theorem alloc_size (w : World) (o : Obj) : (w.alloc o).heap.size = w.heap.size + 1 := by unfold World.alloc; exact Array.size_push _
theorem ba_ne {s t : ByteArray} (h : ¬ s = t) : (s.toList == t.toList) = false := by
 rw [beq_eq_false_iff_ne]; exact fun e => h (ba_list.1 e)
set_option maxRecDepth 100000 in
set_option maxHeartbeats 8000000 in
theorem same1_any (F G : Nat → Prop) (x y : QI) (A0 : Option Addr) (n0 c0 : Nat) (B0 : Option Addr) (k0 d0 : Nat) (w : World) (hx : LN.rd w F A0 n0 x.t ∧ n0 ≤ 9223372036854775807) (hy : LN.rd w G B0 k0 y.t ∧ k0 ≤ 9223372036854775807) :
 Calls Tryz.prog 44 #[.agg (x.cells A0 n0 c0), .agg (y.cells B0 k0 d0)] w fun e w' => e = .returned (.bool (decide (x = y))) ∧ Below w.heap.size w w' := by
 have b1 := bl_al (bl_al (Below.refl w.heap.size w) (.cells (x.cells A0 n0 c0) 82)) (.cells (y.cells B0 k0 d0) 82)
 have HE := Lib.hid (sametree_any F G x.t y.t A0 n0 c0 B0 k0 d0 _ (Lay.rd_below hx.1 b1) (Lay.rd_below hy.1 b1) hx.2)
 have HB := Lib.hid b1
 clear hx hy b1
 obtain ⟨r, hr⟩ : ∃ r, r = decide (x = y) := ⟨_, rfl⟩
 rw [← hr]
 have HR := Lib.hid hr
 clear hr
 obtain ⟨ta, aa⟩ := x
 obtain ⟨tb, ab⟩ := y
 dsimp only at *
 have HE2 := Lib.hid (show r = (decide (ta = tb) && decide (aa = ab)) from by rw [HR.out, Bool.eq_iff_iff]; simp)
 clear HR
 generalize decide (ta = tb) = z at *
 by_cases hf : aa = ab
 · subst hf
   go_enter Tryz.func44, Tryz.ntmps44
   go_wp2_with fail
   refine HE.out.mono ?_
   rintro e w2 ⟨rfl, q2⟩
   have HQ := Lib.hid (bl_ca HB.out q2)
   clear q2
   go_wp2
   go_ret
   exact ⟨ret_bool (by rw [HE2.out]; simp), HQ.out⟩
 · have d1 : (aa.toList == ab.toList) = false := ba_ne hf
   have HF := Lib.hid (show r = false from by rw [HE2.out, decide_eq_false hf, Bool.and_false])
   clear hf
   go_enter Tryz.func44, Tryz.ntmps44
   go_wp2
   go_ret
   exact ⟨ret_bool (by rw [HF.out]), HB.out⟩
set_option maxRecDepth 100000 in
set_option maxHeartbeats 8000000 in
theorem same2_any (F G : Nat → Prop) (x y : QJ) (A0 : Option Addr) (n0 c0 : Nat) (B0 : Option Addr) (k0 d0 : Nat) (w : World) (hx : LN.rd w F A0 n0 x.on ∧ n0 ≤ 9223372036854775807) (hy : LN.rd w G B0 k0 y.on ∧ k0 ≤ 9223372036854775807) :
 Calls Tryz.prog 45 #[.agg (x.cells A0 n0 c0), .agg (y.cells B0 k0 d0)] w fun e w' => e = .returned (.bool (decide (x = y))) ∧ Below w.heap.size w w' := by
 have b1 := bl_al (bl_al (Below.refl w.heap.size w) (.cells (x.cells A0 n0 c0) 85)) (.cells (y.cells B0 k0 d0) 85)
 have HE := Lib.hid (sametree_any F G x.on y.on A0 n0 c0 B0 k0 d0 _ (Lay.rd_below hx.1 b1) (Lay.rd_below hy.1 b1) hx.2)
 have HB := Lib.hid b1
 clear hx hy b1
 obtain ⟨r, hr⟩ : ∃ r, r = decide (x = y) := ⟨_, rfl⟩
 rw [← hr]
 have HR := Lib.hid hr
 clear hr
 obtain ⟨la, sa, aa, ta⟩ := x
 obtain ⟨lb, sb, ab, tb⟩ := y
 dsimp only at *
 have HE2 := Lib.hid (show r = (decide (la = lb) && ((decide (sa = sb) && decide (aa = ab)) && decide (ta = tb))) from by rw [HR.out, Bool.eq_iff_iff]; simp only [QJ.mk.injEq, Bool.and_eq_true, decide_eq_true_eq]; exact ⟨fun ⟨a, b, c, d⟩ => ⟨a, ⟨b, c⟩, d⟩, fun ⟨a, ⟨b, c⟩, d⟩ => ⟨a, b, c, d⟩⟩)
 clear HR
 generalize decide (ta = tb) = z at *
 by_cases hl : la = lb
 · subst hl
   cases hs : (decide (sa = sb) && decide (aa = ab))
   · have HQS : ∀ W, (Op.equalIn 10000 72 (.agg #[.string sa, .string aa]) (.agg #[.string sb, .string ab])).run Tryz.prog W = .ok false W := fun W => by rw [run_eqSrc, hs]
     have HF := Lib.hid (show r = false from by rw [HE2.out, hs]; simp)
     clear hs
     go_enter Tryz.func45, Tryz.ntmps45
     go_wp2_with fail
     go_ret
     exact ⟨ret_bool (by rw [HF.out]), HB.out⟩
   · have HQS : ∀ W, (Op.equalIn 10000 72 (.agg #[.string sa, .string aa]) (.agg #[.string sb, .string ab])).run Tryz.prog W = .ok true W := fun W => by rw [run_eqSrc, hs]
     have HF := Lib.hid (show r = z from by rw [HE2.out, hs]; simp)
     clear hs
     go_enter Tryz.func45, Tryz.ntmps45
     go_wp2_with fail
     refine HE.out.mono ?_
     rintro e w2 ⟨rfl, q2⟩
     have HQ := Lib.hid (bl_ca HB.out q2)
     clear q2
     go_wp2
     go_ret
     exact ⟨ret_bool (by rw [HF.out]), HQ.out⟩
 · have d1 : (la == lb) = false := by simpa using hl
   have HF := Lib.hid (show r = false from by rw [HE2.out, decide_eq_false hl, Bool.false_and])
   clear hl
   go_enter Tryz.func45, Tryz.ntmps45
   go_wp2
   go_ret
   exact ⟨ret_bool (by rw [HF.out]), HB.out⟩
set_option maxRecDepth 100000 in
set_option maxHeartbeats 16000000 in
theorem same3_any (F G : Nat → Prop) (x y : QS) (I0 : Option Addr) (i0 : Nat) (j0 : Nat) (J0 : Option Addr) (u0 : Nat) (v0 : Nat) (W0 : Option Addr) (a0 : Nat) (b0 : Nat) (H0 : Option Addr) (e0 : Nat) (f0 : Nat) (G0 : Option Addr) (p0 : Nat) (q0 : Nat) (I02 : Option Addr) (i02 : Nat) (j02 : Nat) (J02 : Option Addr) (u02 : Nat) (v02 : Nat) (W02 : Option Addr) (a02 : Nat) (b02 : Nat) (H02 : Option Addr) (e02 : Nat) (f02 : Nat) (G02 : Option Addr) (p02 : Nat) (q02 : Nat) (ga gb : Nat) (w : World) (hx : RdS F w x I0 i0 j0 J0 u0 v0 W0 a0 b0 H0 e0 f0 G0 p0 q0) (hy : RdS G w y I02 i02 j02 J02 u02 v02 W02 a02 b02 H02 e02 f02 G02 p02 q02) (hA : w.cell? ⟨ga, 0, none⟩ = some (.func (.func 44) #[] #[])) (hB : w.cell? ⟨gb, 0, none⟩ = some (.func (.func 45) #[] #[])) (hga : ga < w.heap.size) (hgb : gb < w.heap.size) :
 Calls Tryz.prog 48 #[.agg (x.cells I0 i0 j0 J0 u0 v0 W0 a0 b0 H0 e0 f0 G0 p0 q0), .agg (y.cells I02 i02 j02 J02 u02 v02 W02 a02 b02 H02 e02 f02 G02 p02 q02), .pointer (some ⟨ga, 0, none⟩), .pointer (some ⟨gb, 0, none⟩)] w fun e w' => e = .returned (.bool (decide (x = y))) ∧ Below w.heap.size w w' := by
 obtain ⟨r, hr⟩ : ∃ r, r = decide (x = y) := ⟨_, rfl⟩
 rw [← hr]
 obtain ⟨dis, star, items, ftb, fas, joins, wh, hv, grp⟩ := x
 obtain ⟨dis2, star2, items2, ftb2, fas2, joins2, wh2, hv2, grp2⟩ := y
 have HR := Lib.hid (show r = (decide (dis = dis2) && (decide (star = star2) && ((decide (ftb = ftb2) && decide (fas = fas2)) && (decide (grp = grp2) && (decide (items = items2) && (decide (joins = joins2) && (decide (wh = wh2) && decide (hv = hv2)))))))) from by
  rw [hr, Bool.eq_iff_iff]
  simp only [QS.mk.injEq, Bool.and_eq_true, decide_eq_true_eq]
  exact ⟨fun ⟨a, b, c, d, e, f, g, h, i⟩ => ⟨a, b, ⟨d, e⟩, i, c, f, g, h⟩, fun ⟨a, b, ⟨d, e⟩, i, c, f, g, h⟩ => ⟨a, b, c, d, e, f, g, h, i⟩⟩)
 have q1 := bl_al (Below.refl w.heap.size w) (.cells (QS.cells ⟨dis, star, items, ftb, fas, joins, wh, hv, grp⟩ I0 i0 j0 J0 u0 v0 W0 a0 b0 H0 e0 f0 G0 p0 q0) 76)
 have q2 := bl_al (Below.refl (w.alloc (.cells (QS.cells ⟨dis, star, items, ftb, fas, joins, wh, hv, grp⟩ I0 i0 j0 J0 u0 v0 W0 a0 b0 H0 e0 f0 G0 p0 q0) 76)).heap.size _) (.cells (QS.cells ⟨dis2, star2, items2, ftb2, fas2, joins2, wh2, hv2, grp2⟩ I02 i02 j02 J02 u02 v02 W02 a02 b02 H02 e02 f02 G02 p02 q02) 76)
 have HBX := Lib.hid ((Blk.new w 76 (QS.cells ⟨dis, star, items, ftb, fas, joins, wh, hv, grp⟩ I0 i0 j0 J0 u0 v0 W0 a0 b0 H0 e0 f0 G0 p0 q0)).ca q2)
 have hz : (w.alloc (.cells (QS.cells ⟨dis, star, items, ftb, fas, joins, wh, hv, grp⟩ I0 i0 j0 J0 u0 v0 W0 a0 b0 H0 e0 f0 G0 p0 q0) 76)).heap.size = w.heap.size + 1 := alloc_size _ _
 have HBY := Lib.hid (show Blk ((w.alloc (.cells (QS.cells ⟨dis, star, items, ftb, fas, joins, wh, hv, grp⟩ I0 i0 j0 J0 u0 v0 W0 a0 b0 H0 e0 f0 G0 p0 q0) 76)).alloc (.cells (QS.cells ⟨dis2, star2, items2, ftb2, fas2, joins2, wh2, hv2, grp2⟩ I02 i02 j02 J02 u02 v02 W02 a02 b02 H02 e02 f02 G02 p02 q02) 76)) (w.heap.size + 1) 76 (QS.cells ⟨dis2, star2, items2, ftb2, fas2, joins2, wh2, hv2, grp2⟩ I02 i02 j02 J02 u02 v02 W02 a02 b02 H02 e02 f02 G02 p02 q02) from by rw [← hz]; exact Blk.new (w.alloc (.cells (QS.cells ⟨dis, star, items, ftb, fas, joins, wh, hv, grp⟩ I0 i0 j0 J0 u0 v0 W0 a0 b0 H0 e0 f0 G0 p0 q0) 76)) 76 (QS.cells ⟨dis2, star2, items2, ftb2, fas2, joins2, wh2, hv2, grp2⟩ I02 i02 j02 J02 u02 v02 W02 a02 b02 H02 e02 f02 G02 p02 q02))
 clear hz
 have HQ1 := Lib.hid (bl_al (bl_al (Below.refl w.heap.size w) (.cells (QS.cells ⟨dis, star, items, ftb, fas, joins, wh, hv, grp⟩ I0 i0 j0 J0 u0 v0 W0 a0 b0 H0 e0 f0 G0 p0 q0) 76)) (.cells (QS.cells ⟨dis2, star2, items2, ftb2, fas2, joins2, wh2, hv2, grp2⟩ I02 i02 j02 J02 u02 v02 W02 a02 b02 H02 e02 f02 G02 p02 q02) 76))
 have HRX := Lib.hid (hx.below HQ1.out)
 have HRY := Lib.hid (hy.below HQ1.out)
 have HFA := Lib.hid (cell_ca hA hga HQ1.out)
 have HFB := Lib.hid (cell_ca hB hgb HQ1.out)
 have HGA := Lib.hid (show ga < ((w.alloc (.cells (QS.cells ⟨dis, star, items, ftb, fas, joins, wh, hv, grp⟩ I0 i0 j0 J0 u0 v0 W0 a0 b0 H0 e0 f0 G0 p0 q0) 76)).alloc (.cells (QS.cells ⟨dis2, star2, items2, ftb2, fas2, joins2, wh2, hv2, grp2⟩ I02 i02 j02 J02 u02 v02 W02 a02 b02 H02 e02 f02 G02 p02 q02) 76)).heap.size from Nat.lt_of_lt_of_le hga HQ1.out.size)
 have HGB := Lib.hid (show gb < ((w.alloc (.cells (QS.cells ⟨dis, star, items, ftb, fas, joins, wh, hv, grp⟩ I0 i0 j0 J0 u0 v0 W0 a0 b0 H0 e0 f0 G0 p0 q0) 76)).alloc (.cells (QS.cells ⟨dis2, star2, items2, ftb2, fas2, joins2, wh2, hv2, grp2⟩ I02 i02 j02 J02 u02 v02 W02 a02 b02 H02 e02 f02 G02 p02 q02) 76)).heap.size from Nat.lt_of_lt_of_le hgb HQ1.out.size)
 clear hr hx hy hA hB q1 q2 hga hgb
 go_enter Tryz.func48, Tryz.ntmps48
 go_upto_region 1 with fail
 generalize hw1 : (w.alloc (.cells (QS.cells ⟨dis, star, items, ftb, fas, joins, wh, hv, grp⟩ I0 i0 j0 J0 u0 v0 W0 a0 b0 H0 e0 f0 G0 p0 q0) 76)) = wa at *
 generalize wa.alloc (.cells (QS.cells ⟨dis2, star2, items2, ftb2, fas2, joins2, wh2, hv2, grp2⟩ I02 i02 j02 J02 u02 v02 W02 a02 b02 H02 e02 f02 G02 p02 q02) 76) = w1 at *
 have x0 := HBX.out.cell 0
 have x1 := HBX.out.cell 1
 have x3 := HBX.out.cell 3
 have x4 := HBX.out.cell 4
 have x8 := HBX.out.cell 8
 have y0 := HBY.out.cell 0
 have y1 := HBY.out.cell 1
 have y3 := HBY.out.cell 3
 have y4 := HBY.out.cell 4
 have y8 := HBY.out.cell 8
 by_cases hd : dis = dis2
 case neg =>
  have d1 : (dis == dis2) = false := by simpa using hd
  have HF := Lib.hid (show r = false from by rw [HR.out, decide_eq_false hd, Bool.false_and])
  clear hd
  go_wp2_with fail
  go_ret
  exact ⟨ret_bool (by rw [HF.out]), HQ1.out⟩
 subst hd
 by_cases hd : star = star2
 case neg =>
  have d1 : (star == star2) = false := by simpa using hd
  have HF := Lib.hid (show r = false from by rw [HR.out, decide_eq_false hd, Bool.false_and, Bool.and_false])
  clear hd
  go_wp2_with fail
  go_ret
  exact ⟨ret_bool (by rw [HF.out]), HQ1.out⟩
 subst hd
 cases hs : (decide (ftb = ftb2) && decide (fas = fas2))
 · have HQS : ∀ W, (Op.equalIn 10000 72 (.agg #[.string ftb, .string fas]) (.agg #[.string ftb2, .string fas2])).run Tryz.prog W = .ok false W := fun W => by rw [run_eqSrc, hs]
   have HF := Lib.hid (show r = false from by rw [HR.out, hs]; simp)
   clear hs
   go_wp2_with fail
   go_ret
   exact ⟨ret_bool (by rw [HF.out]), HQ1.out⟩
 · have HQS : ∀ W, (Op.equalIn 10000 72 (.agg #[.string ftb, .string fas]) (.agg #[.string ftb2, .string fas2])).run Tryz.prog W = .ok true W := fun W => by rw [run_eqSrc, hs]
   rw [hs] at HR
   clear hs
   go_wp2_with fail
   refine (equalQN F G G0 G02 p0 q0 p02 q02 grp grp2 w1 HRX.out.2.2.2.2.1 HRY.out.2.2.2.2.1 (by have := HRX.out.2.2.2.2.2; omega)).mono ?_
   rintro e w2 ⟨rfl, qq⟩
   have HBX2 := Lib.hid (HBX.out.ca qq)
   have HBY2 := Lib.hid (HBY.out.ca qq)
   have HRX2 := Lib.hid (HRX.out.below qq)
   have HRY2 := Lib.hid (HRY.out.below qq)
   have HFA2 := Lib.hid (cell_ca HFA.out HGA.out qq)
   have HFB2 := Lib.hid (cell_ca HFB.out HGB.out qq)
   have HGA2 := Lib.hid (Nat.lt_of_lt_of_le HGA.out qq.size)
   have HGB2 := Lib.hid (Nat.lt_of_lt_of_le HGB.out qq.size)
   have HQ2 := Lib.hid (bl_ca HQ1.out qq)
   clear qq x0 y0 x1 y1 x3 y3 x4 y4 x8 y8 HQS
   generalize decide (grp = grp2) = b2 at *
   cases b2
   · have HF := Lib.hid (show r = false from by rw [HR.out]; simp)
     go_wp2_with fail
     go_ret
     exact ⟨ret_bool (by rw [HF.out]), HQ2.out⟩
   · have hNN := trivial
     have x2 := HBX2.out.cell 2
     have y2 := HBY2.out.cell 2
     have z0 := HFA2.out
     go_wp2_with fail
     refine (eqfQI F G items items2 I0 i0 j0 I02 i02 j02 44 #[] w2 HRX2.out.1.1 HRY2.out.1.1 (by have := HRX2.out.1.2; omega) (Go.Proofs.enters_of Tryz.func44 (by kernel_rfl) rfl) (fun x y A0 n0 c0 B0 k0 d0 W _ hx hy => same1_any F G x y A0 n0 c0 B0 k0 d0 W hx hy)).mono ?_
     rintro e w3 ⟨rfl, qq⟩
     have HBX3 := Lib.hid (HBX2.out.ca qq)
     have HBY3 := Lib.hid (HBY2.out.ca qq)
     have HRX3 := Lib.hid (HRX2.out.below qq)
     have HRY3 := Lib.hid (HRY2.out.below qq)
     have HFA3 := Lib.hid (cell_ca HFA2.out HGA2.out qq)
     have HFB3 := Lib.hid (cell_ca HFB2.out HGB2.out qq)
     have HGA3 := Lib.hid (Nat.lt_of_lt_of_le HGA2.out qq.size)
     have HGB3 := Lib.hid (Nat.lt_of_lt_of_le HGB2.out qq.size)
     have HQ3 := Lib.hid (bl_ca HQ2.out qq)
     clear qq x2 y2 z0
     generalize decide (items = items2) = b3 at *
     cases b3
     · have HF := Lib.hid (show r = false from by rw [HR.out]; simp)
       go_wp2_with fail
       go_ret
       exact ⟨ret_bool (by rw [HF.out]), HQ3.out⟩
     · have hNN := trivial
       have x5 := HBX3.out.cell 5
       have y5 := HBY3.out.cell 5
       have z0 := HFB3.out
       go_wp2_with fail
       refine (eqfQJ F G joins joins2 J0 u0 v0 J02 u02 v02 45 #[] w3 HRX3.out.2.1.1 HRY3.out.2.1.1 (by have := HRX3.out.2.1.2; omega) (Go.Proofs.enters_of Tryz.func45 (by kernel_rfl) rfl) (fun x y A0 n0 c0 B0 k0 d0 W _ hx hy => same2_any F G x y A0 n0 c0 B0 k0 d0 W hx hy)).mono ?_
       rintro e w4 ⟨rfl, qq⟩
       have HBX4 := Lib.hid (HBX3.out.ca qq)
       have HBY4 := Lib.hid (HBY3.out.ca qq)
       have HRX4 := Lib.hid (HRX3.out.below qq)
       have HRY4 := Lib.hid (HRY3.out.below qq)
       have HFA4 := Lib.hid (cell_ca HFA3.out HGA3.out qq)
       have HFB4 := Lib.hid (cell_ca HFB3.out HGB3.out qq)
       have HGA4 := Lib.hid (Nat.lt_of_lt_of_le HGA3.out qq.size)
       have HGB4 := Lib.hid (Nat.lt_of_lt_of_le HGB3.out qq.size)
       have HQ4 := Lib.hid (bl_ca HQ3.out qq)
       clear qq x5 y5 z0
       generalize decide (joins = joins2) = b4 at *
       cases b4
       · have HF := Lib.hid (show r = false from by rw [HR.out]; simp)
         go_wp2_with fail
         go_ret
         exact ⟨ret_bool (by rw [HF.out]), HQ4.out⟩
       · have hNN := trivial
         have x6 := HBX4.out.cell 6
         have y6 := HBY4.out.cell 6
         go_wp2_with fail
         refine (sametree_any F G wh wh2 W0 a0 b0 W02 a02 b02 w4 HRX4.out.2.2.1.1 HRY4.out.2.2.1.1 (by have := HRX4.out.2.2.1.2; omega)).mono ?_
         rintro e w5 ⟨rfl, qq⟩
         have HBX5 := Lib.hid (HBX4.out.ca qq)
         have HBY5 := Lib.hid (HBY4.out.ca qq)
         have HRX5 := Lib.hid (HRX4.out.below qq)
         have HRY5 := Lib.hid (HRY4.out.below qq)
         have HFA5 := Lib.hid (cell_ca HFA4.out HGA4.out qq)
         have HFB5 := Lib.hid (cell_ca HFB4.out HGB4.out qq)
         have HGA5 := Lib.hid (Nat.lt_of_lt_of_le HGA4.out qq.size)
         have HGB5 := Lib.hid (Nat.lt_of_lt_of_le HGB4.out qq.size)
         have HQ5 := Lib.hid (bl_ca HQ4.out qq)
         clear qq x6 y6
         generalize decide (wh = wh2) = b5 at *
         cases b5
         · have HF := Lib.hid (show r = false from by rw [HR.out]; simp)
           go_wp2_with fail
           go_ret
           exact ⟨ret_bool (by rw [HF.out]), HQ5.out⟩
         · have hNN := trivial
           have x7 := HBX5.out.cell 7
           have y7 := HBY5.out.cell 7
           go_wp2_with fail
           refine (sametree_any F G hv hv2 H0 e0 f0 H02 e02 f02 w5 HRX5.out.2.2.2.1.1 HRY5.out.2.2.2.1.1 (by have := HRX5.out.2.2.2.1.2; omega)).mono ?_
           rintro e w6 ⟨rfl, qq⟩
           have HBX6 := Lib.hid (HBX5.out.ca qq)
           have HBY6 := Lib.hid (HBY5.out.ca qq)
           have HRX6 := Lib.hid (HRX5.out.below qq)
           have HRY6 := Lib.hid (HRY5.out.below qq)
           have HFA6 := Lib.hid (cell_ca HFA5.out HGA5.out qq)
           have HFB6 := Lib.hid (cell_ca HFB5.out HGB5.out qq)
           have HGA6 := Lib.hid (Nat.lt_of_lt_of_le HGA5.out qq.size)
           have HGB6 := Lib.hid (Nat.lt_of_lt_of_le HGB5.out qq.size)
           have HQ6 := Lib.hid (bl_ca HQ5.out qq)
           clear qq x7 y7
           generalize decide (hv = hv2) = b6 at *
           cases b6
           · have HF := Lib.hid (show r = false from by rw [HR.out]; simp)
             go_wp2_with fail
             go_ret
             exact ⟨ret_bool (by rw [HF.out]), HQ6.out⟩
           · have hNN := trivial
             have HF := Lib.hid (show r = true from by rw [HR.out]; simp)
             go_wp2_with fail
             go_ret
             exact ⟨ret_bool (by rw [HF.out]), HQ6.out⟩
set_option maxRecDepth 100000 in
set_option maxHeartbeats 16000000 in
theorem same_any (F G : Nat → Prop) (p q : QC) (A : Option Addr) (n c : Nat) (B : Option Addr) (m d : Nat) (A2 : Option Addr) (n2 c2 : Nat) (B2 : Option Addr) (m2 d2 : Nat) (w : World) (hS : LQS.rd w F A n p.sels) (hK : LQK.rd w F B m p.keys) (hS2 : LQS.rd w G A2 n2 q.sels) (hK2 : LQK.rd w G B2 m2 q.keys) (hn : n ≤ 1000) (hm : m ≤ 1000) :
 Calls Tryz.prog 19 #[p.val A n c B m d, q.val A2 n2 c2 B2 m2 d2] w fun e w' => e = .returned (.bool (decide (p = q))) ∧ Below w.heap.size w w' := by
 obtain ⟨r, hr⟩ : ∃ r, r = decide (p = q) := ⟨_, rfl⟩
 rw [← hr]
 have HR := Lib.hid (show r = (decide (p.lim = q.lim) && (decide (p.keys = q.keys) && decide (p.sels = q.sels))) from by
  rw [hr, Bool.eq_iff_iff]
  obtain ⟨a, b, e⟩ := p
  obtain ⟨a', b', e'⟩ := q
  simp only [QC.mk.injEq, Bool.and_eq_true, decide_eq_true_eq]
  exact ⟨fun ⟨a, b, c⟩ => ⟨c, b, a⟩, fun ⟨a, b, c⟩ => ⟨c, b, a⟩⟩)
 have HQ4 := Lib.hid (bl_al (bl_al (bl_al (bl_al (Below.refl w.heap.size w) (.cells #[.slice A n c, .slice B m d, .int .i64 p.lim] 43)) (.cells #[.slice A2 n2 c2, .slice B2 m2 d2, .int .i64 q.lim] 43)) (.cells #[.func (.func 44) #[] #[]] 93)) (.cells #[.func (.func 45) #[] #[]] 94))
 have HX := Lib.hid ((((Blk.new w 43 #[.slice A n c, .slice B m d, .int .i64 p.lim]).alloc (.cells #[.slice A2 n2 c2, .slice B2 m2 d2, .int .i64 q.lim] 43)).alloc (.cells #[.func (.func 44) #[] #[]] 93)).alloc (.cells #[.func (.func 45) #[] #[]] 94))
 have h1 := alloc_size w (.cells #[.slice A n c, .slice B m d, .int .i64 p.lim] 43)
 have h2 := alloc_size (w.alloc (.cells #[.slice A n c, .slice B m d, .int .i64 p.lim] 43)) (.cells #[.slice A2 n2 c2, .slice B2 m2 d2, .int .i64 q.lim] 43)
 have h3 := alloc_size ((w.alloc (.cells #[.slice A n c, .slice B m d, .int .i64 p.lim] 43)).alloc (.cells #[.slice A2 n2 c2, .slice B2 m2 d2, .int .i64 q.lim] 43)) (.cells #[.func (.func 44) #[] #[]] 93)
 rw [h1] at h2
 rw [h2] at h3
 have HY := Lib.hid (show Blk ((((w.alloc (.cells #[.slice A n c, .slice B m d, .int .i64 p.lim] 43)).alloc (.cells #[.slice A2 n2 c2, .slice B2 m2 d2, .int .i64 q.lim] 43)).alloc (.cells #[.func (.func 44) #[] #[]] 93)).alloc (.cells #[.func (.func 45) #[] #[]] 94)) (w.heap.size + 1) 43 #[.slice A2 n2 c2, .slice B2 m2 d2, .int .i64 q.lim] from by rw [← h1]; exact ((Blk.new (w.alloc (.cells #[.slice A n c, .slice B m d, .int .i64 p.lim] 43)) 43 #[.slice A2 n2 c2, .slice B2 m2 d2, .int .i64 q.lim]).alloc _).alloc _)
 have HA := Lib.hid (show Blk ((((w.alloc (.cells #[.slice A n c, .slice B m d, .int .i64 p.lim] 43)).alloc (.cells #[.slice A2 n2 c2, .slice B2 m2 d2, .int .i64 q.lim] 43)).alloc (.cells #[.func (.func 44) #[] #[]] 93)).alloc (.cells #[.func (.func 45) #[] #[]] 94)) (w.heap.size + 1 + 1) 93 #[.func (.func 44) #[] #[]] from by rw [← h2]; exact (Blk.new ((w.alloc (.cells #[.slice A n c, .slice B m d, .int .i64 p.lim] 43)).alloc (.cells #[.slice A2 n2 c2, .slice B2 m2 d2, .int .i64 q.lim] 43)) 93 #[.func (.func 44) #[] #[]]).alloc _)
 have HB := Lib.hid (show Blk ((((w.alloc (.cells #[.slice A n c, .slice B m d, .int .i64 p.lim] 43)).alloc (.cells #[.slice A2 n2 c2, .slice B2 m2 d2, .int .i64 q.lim] 43)).alloc (.cells #[.func (.func 44) #[] #[]] 93)).alloc (.cells #[.func (.func 45) #[] #[]] 94)) (w.heap.size + 1 + 1 + 1) 94 #[.func (.func 45) #[] #[]] from by rw [← h3]; exact Blk.new (((w.alloc (.cells #[.slice A n c, .slice B m d, .int .i64 p.lim] 43)).alloc (.cells #[.slice A2 n2 c2, .slice B2 m2 d2, .int .i64 q.lim] 43)).alloc (.cells #[.func (.func 44) #[] #[]] 93)) 94 #[.func (.func 45) #[] #[]])
 have HS := Lib.hid (Lay.rd_below hS HQ4.out)
 have HK := Lib.hid (Lay.rd_below hK HQ4.out)
 have HS2 := Lib.hid (Lay.rd_below hS2 HQ4.out)
 have HK2 := Lib.hid (Lay.rd_below hK2 HQ4.out)
 clear hr hS hK hS2 hK2 h1 h2 h3
 go_enter Tryz.func19, Tryz.ntmps19
 go_upto_region 3 with fail
 generalize ((((w.alloc (.cells #[.slice A n c, .slice B m d, .int .i64 p.lim] 43)).alloc (.cells #[.slice A2 n2 c2, .slice B2 m2 d2, .int .i64 q.lim] 43)).alloc (.cells #[.func (.func 44) #[] #[]] 93)).alloc (.cells #[.func (.func 45) #[] #[]] 94)) = w4 at *
 have x0 := HX.out.cell 0
 have x1 := HX.out.cell 1
 have x2 := HX.out.cell 2
 have y0 := HY.out.cell 0
 have y1 := HY.out.cell 1
 have y2 := HY.out.cell 2
 by_cases hl : p.lim = q.lim
 case neg =>
  have d1 : (p.lim == q.lim) = false := by simpa using hl
  have HF := Lib.hid (show r = false from by rw [HR.out, decide_eq_false hl, Bool.false_and])
  clear hl
  go_wp2_with fail
  go_ret
  exact ⟨ret_bool (by rw [HF.out]), HQ4.out⟩
 have d1 : (p.lim == q.lim) = true := by simpa using hl
 rw [decide_eq_true hl, Bool.true_and] at HR
 clear hl
 go_wp2_with fail
 refine (equalQK F G B B2 m d m2 d2 p.keys q.keys w4 HK.out HK2.out (by omega)).mono ?_
 rintro e w5 ⟨rfl, qq⟩
 have HX5 := Lib.hid (HX.out.ca qq)
 have HY5 := Lib.hid (HY.out.ca qq)
 have HA5 := Lib.hid (HA.out.ca qq)
 have HB5 := Lib.hid (HB.out.ca qq)
 have HQ5 := Lib.hid (bl_ca HQ4.out qq)
 have HS5 := Lib.hid (Lay.rd_below HS.out qq)
 have HS25 := Lib.hid (Lay.rd_below HS2.out qq)
 clear x0 x1 x2 y0 y1 y2 d1 qq
 generalize decide (p.keys = q.keys) = b5 at *
 cases b5
 · have HF := Lib.hid (show r = false from by rw [HR.out]; simp)
   go_wp2_with fail
   go_ret
   exact ⟨ret_bool (by rw [HF.out]), HQ5.out⟩
 · have x0 := HX5.out.cell 0
   have y0 := HY5.out.cell 0
   go_wp2_with fail
   refine (eqfQS F G p.sels q.sels A n c A2 n2 c2 48 #[.pointer (some ⟨w.heap.size + 1 + 1, 0, none⟩), .pointer (some ⟨w.heap.size + 1 + 1 + 1, 0, none⟩)] w5 HS5.out HS25.out (by omega) (Go.Proofs.enters_of Tryz.func48 (by kernel_rfl) rfl) (fun x y I0 i0 j0 J0 u0 v0 W0 a0 b0 H0 e0 f0 G0 p0 q0 I02 i02 j02 J02 u02 v02 W02 a02 b02 H02 e02 f02 G02 p02 q02 W hW hx hy => same3_any F G x y I0 i0 j0 J0 u0 v0 W0 a0 b0 H0 e0 f0 G0 p0 q0 I02 i02 j02 J02 u02 v02 W02 a02 b02 H02 e02 f02 G02 p02 q02 _ _ W hx hy ((HA5.out.ca hW).cell 0) ((HB5.out.ca hW).cell 0) (HA5.out.ca hW).lt (HB5.out.ca hW).lt)).mono ?_
   rintro e w6 ⟨rfl, qq⟩
   have HQ6 := Lib.hid (bl_ca HQ5.out qq)
   clear qq x0 y0
   generalize decide (p.sels = q.sels) = b6 at *
   have HF := Lib.hid (show r = b6 from by rw [HR.out]; simp)
   go_wp2_with fail
   go_ret
   exact ⟨ret_bool (by rw [HF.out]), HQ6.out⟩
end Go.Proofs.YtoaggmldekejoaaGreatDoor
