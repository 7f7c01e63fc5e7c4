/- The reference: when two selects are one. Conditions: both read so. -/
import Derived.Test.YtoaggmldekejoaaGreatDoorPkQ17
import Derived.Deep.CutBlock
import Derived.Deep.DeepCutAuto
import Derived.RegionTactic
import Derived.ChangeAlike
import Derived.BigRegion
namespace Go.Proofs.YtoaggmldekejoaaGreatDoor
open Go.RowKit
theorem qi_ext {a b : QI} (h : a.t = b.t) (h2 : a.as_ = b.as_) : a = b := by cases a; cases b; simp_all
theorem qj_ext {a b : QJ} (h : a.left = b.left) (h2 : a.tb = b.tb) (h3 : a.as_ = b.as_) (h4 : a.on = b.on) : a = b := by cases a; cases b; simp_all
theorem eq_step {α : Type} {xs ys : List α} {i : Nat} {a b : α} (h : ∀ (k : Nat) (x y : α), k < i → xs[k]? = some x → ys[k]? = some y → x = y) (hx : xs[i]? = some a) (hy : ys[i]? = some b) (hab : a = b) : ∀ (k : Nat) (x y : α), k < i + 1 → xs[k]? = some x → ys[k]? = some y → x = y := fun k x y hk hu hv => by
 rcases Nat.lt_or_ge k i with h1 | h1
 · exact h k x y h1 hu hv
 · obtain rfl : k = i := by omega
   rw [← at_eq hx hu, ← at_eq hy hv]; exact hab
set_option maxRecDepth 100000 in
set_option maxHeartbeats 16000000 in
theorem rsames_any (F G : Nat → Prop) (x y : QS) (I0 : Option Addr) (i0 : Nat) (j0 : Nat) (J0 : Option Addr) (u0 : Nat) (v0 : Nat) (W0 : Option Addr) (a0 : Nat) (b0 : Nat) (H0 : Option Addr) (e0 : Nat) (f0 : Nat) (G0 : Option Addr) (p0 : Nat) (q0 : Nat) (I02 : Option Addr) (i02 : Nat) (j02 : Nat) (J02 : Option Addr) (u02 : Nat) (v02 : Nat) (W02 : Option Addr) (a02 : Nat) (b02 : Nat) (H02 : Option Addr) (e02 : Nat) (f02 : Nat) (G02 : Option Addr) (p02 : Nat) (q02 : Nat) (w : World) (hx : RdS F w x I0 i0 j0 J0 u0 v0 W0 a0 b0 H0 e0 f0 G0 p0 q0) (hy : RdS G w y I02 i02 j02 J02 u02 v02 W02 a02 b02 H02 e02 f02 G02 p02 q02) :
 Calls Tryz.prog 52 #[.agg (x.cells I0 i0 j0 J0 u0 v0 W0 a0 b0 H0 e0 f0 G0 p0 q0), .agg (y.cells I02 i02 j02 J02 u02 v02 W02 a02 b02 H02 e02 f02 G02 p02 q02)] w fun e w' => e = .returned (.bool (decide (x = y))) ∧ Below w.heap.size w w' := by
 obtain ⟨r, hr⟩ : ∃ r, r = decide (x = y) := ⟨_, rfl⟩
 rw [← hr]
 obtain ⟨dis, star, items, ftb, fas, joins, wh, hv, grp⟩ := x
 obtain ⟨dis2, star2, items2, ftb2, fas2, joins2, wh2, hv2, grp2⟩ := y
 have HR := Lib.hid (show r = (decide (dis = dis2) && (decide (star = star2) && ((decide (ftb = ftb2) && decide (fas = fas2)) && (decide (grp = grp2) && (decide (items = items2) && (decide (joins = joins2) && (decide (wh = wh2) && decide (hv = hv2)))))))) from by
  rw [hr, Bool.eq_iff_iff]
  simp only [QS.mk.injEq, Bool.and_eq_true, decide_eq_true_eq]
  exact ⟨fun ⟨a, b, c, d, e, f, g, h, i⟩ => ⟨a, b, ⟨d, e⟩, i, c, f, g, h⟩, fun ⟨a, b, ⟨d, e⟩, i, c, f, g, h⟩ => ⟨a, b, c, d, e, f, g, h, i⟩⟩)
 have q2 := bl_al (Below.refl (w.alloc (.cells (QS.cells ⟨dis, star, items, ftb, fas, joins, wh, hv, grp⟩ I0 i0 j0 J0 u0 v0 W0 a0 b0 H0 e0 f0 G0 p0 q0) 76)).heap.size _) (.cells (QS.cells ⟨dis2, star2, items2, ftb2, fas2, joins2, wh2, hv2, grp2⟩ I02 i02 j02 J02 u02 v02 W02 a02 b02 H02 e02 f02 G02 p02 q02) 76)
 have HBX := Lib.hid ((Blk.new w 76 (QS.cells ⟨dis, star, items, ftb, fas, joins, wh, hv, grp⟩ I0 i0 j0 J0 u0 v0 W0 a0 b0 H0 e0 f0 G0 p0 q0)).ca q2)
 have hz : (w.alloc (.cells (QS.cells ⟨dis, star, items, ftb, fas, joins, wh, hv, grp⟩ I0 i0 j0 J0 u0 v0 W0 a0 b0 H0 e0 f0 G0 p0 q0) 76)).heap.size = w.heap.size + 1 := alloc_size _ _
 have HBY := Lib.hid (show Blk ((w.alloc (.cells (QS.cells ⟨dis, star, items, ftb, fas, joins, wh, hv, grp⟩ I0 i0 j0 J0 u0 v0 W0 a0 b0 H0 e0 f0 G0 p0 q0) 76)).alloc (.cells (QS.cells ⟨dis2, star2, items2, ftb2, fas2, joins2, wh2, hv2, grp2⟩ I02 i02 j02 J02 u02 v02 W02 a02 b02 H02 e02 f02 G02 p02 q02) 76)) (w.heap.size + 1) 76 (QS.cells ⟨dis2, star2, items2, ftb2, fas2, joins2, wh2, hv2, grp2⟩ I02 i02 j02 J02 u02 v02 W02 a02 b02 H02 e02 f02 G02 p02 q02) from by rw [← hz]; exact Blk.new (w.alloc (.cells (QS.cells ⟨dis, star, items, ftb, fas, joins, wh, hv, grp⟩ I0 i0 j0 J0 u0 v0 W0 a0 b0 H0 e0 f0 G0 p0 q0) 76)) 76 (QS.cells ⟨dis2, star2, items2, ftb2, fas2, joins2, wh2, hv2, grp2⟩ I02 i02 j02 J02 u02 v02 W02 a02 b02 H02 e02 f02 G02 p02 q02))
 clear hz
 have HQ1 := Lib.hid (bl_al (bl_al (Below.refl w.heap.size w) (.cells (QS.cells ⟨dis, star, items, ftb, fas, joins, wh, hv, grp⟩ I0 i0 j0 J0 u0 v0 W0 a0 b0 H0 e0 f0 G0 p0 q0) 76)) (.cells (QS.cells ⟨dis2, star2, items2, ftb2, fas2, joins2, wh2, hv2, grp2⟩ I02 i02 j02 J02 u02 v02 W02 a02 b02 H02 e02 f02 G02 p02 q02) 76))
 have HRX := Lib.hid (hx.below HQ1.out)
 have HRY := Lib.hid (hy.below HQ1.out)
 have HLX := Lib.hid (show items.length = i0 ∧ joins.length = u0 ∧ grp.length = p0 from ⟨Lay.rd_len hx.1.1, Lay.rd_len hx.2.1.1, Lay.rd_len hx.2.2.2.2.1⟩)
 have HLY := Lib.hid (show items2.length = i02 ∧ joins2.length = u02 ∧ grp2.length = p02 from ⟨Lay.rd_len hy.1.1, Lay.rd_len hy.2.1.1, Lay.rd_len hy.2.2.2.2.1⟩)
 have hi0 : i0 ≤ 9223372036854775807 := by have := hx.1.2; omega
 have hu0 : u0 ≤ 9223372036854775807 := by have := hx.2.1.2; omega
 have hp0 : p0 ≤ 9223372036854775807 := by have := hx.2.2.2.2.2; omega
 clear hr hx hy q2
 go_enter Tryz.func52, Tryz.ntmps52
 go_upto_region 1 with fail
 generalize hw1 : (w.alloc (.cells (QS.cells ⟨dis, star, items, ftb, fas, joins, wh, hv, grp⟩ I0 i0 j0 J0 u0 v0 W0 a0 b0 H0 e0 f0 G0 p0 q0) 76)) = wa at *
 generalize wa.alloc (.cells (QS.cells ⟨dis2, star2, items2, ftb2, fas2, joins2, wh2, hv2, grp2⟩ I02 i02 j02 J02 u02 v02 W02 a02 b02 H02 e02 f02 G02 p02 q02) 76) = w1 at *
 have x0 := HBX.out.cell 0
 have x1 := HBX.out.cell 1
 have x2 := HBX.out.cell 2
 have x3 := HBX.out.cell 3
 have x4 := HBX.out.cell 4
 have x5 := HBX.out.cell 5
 have x8 := HBX.out.cell 8
 have y0 := HBY.out.cell 0
 have y1 := HBY.out.cell 1
 have y2 := HBY.out.cell 2
 have y3 := HBY.out.cell 3
 have y4 := HBY.out.cell 4
 have y5 := HBY.out.cell 5
 have y8 := HBY.out.cell 8
 by_cases hd : dis = dis2
 case neg =>
  have d1 : (dis == dis2) = false := by simpa using hd
  have HF := Lib.hid (show r = false from by rw [HR.out, decide_eq_false hd]; simp)
  clear hd
  go_wp2_with fail
  go_ret
  exact ⟨ret_bool (by rw [HF.out]), HQ1.out⟩
 subst hd
 by_cases hd : star = star2
 case neg =>
  have d1 : (star == star2) = false := by simpa using hd
  have HF := Lib.hid (show r = false from by rw [HR.out, decide_eq_false hd]; simp)
  clear hd
  go_wp2_with fail
  go_ret
  exact ⟨ret_bool (by rw [HF.out]), HQ1.out⟩
 subst hd
 cases hs : (decide (ftb = ftb2) && decide (fas = fas2))
 · have HQS : ∀ W, (Op.equalIn 10000 72 (.agg #[.string ftb, .string fas]) (.agg #[.string ftb2, .string fas2])).run Tryz.prog W = .ok false W := fun W => by rw [run_eqSrc, hs]
   have HF := Lib.hid (show r = false from by rw [HR.out, hs]; simp)
   clear hs
   go_wp2_with fail
   go_ret
   exact ⟨ret_bool (by rw [HF.out]), HQ1.out⟩
 · have HQS : ∀ W, (Op.equalIn 10000 72 (.agg #[.string ftb, .string fas]) (.agg #[.string ftb2, .string fas2])).run Tryz.prog W = .ok true W := fun W => by rw [run_eqSrc, hs]
   rw [hs] at HR
   clear hs
   by_cases hd : i0 = i02
   case neg =>
    have e2 : ((i0 : Int) != (i02 : Int)) = true := by simp; omega
    have HF := Lib.hid (show r = false from by rw [HR.out, decide_eq_false (show ¬ items = items2 from fun h => hd (by rw [← HLX.out.1, ← HLY.out.1, h]))]; simp)
    clear hd
    go_wp2_with fail
    go_ret
    exact ⟨ret_bool (by rw [HF.out]), HQ1.out⟩
   subst hd
   by_cases hd : u0 = u02
   case neg =>
    have e2 : ((u0 : Int) != (u02 : Int)) = true := by simp; omega
    have HF := Lib.hid (show r = false from by rw [HR.out, decide_eq_false (show ¬ joins = joins2 from fun h => hd (by rw [← HLX.out.2.1, ← HLY.out.2.1, h]))]; simp)
    clear hd
    go_wp2_with fail
    go_ret
    exact ⟨ret_bool (by rw [HF.out]), HQ1.out⟩
   subst hd
   by_cases hd : p0 = p02
   case neg =>
    have e2 : ((p0 : Int) != (p02 : Int)) = true := by simp; omega
    have HF := Lib.hid (show r = false from by rw [HR.out, decide_eq_false (show ¬ grp = grp2 from fun h => hd (by rw [← HLX.out.2.2, ← HLY.out.2.2, h]))]; simp)
    clear hd
    go_wp2_with fail
    go_ret
    exact ⟨ret_bool (by rw [HF.out]), HQ1.out⟩
   subst hd
   go_upto_block 0 with fail
   clear x0 x1 x2 x3 x4 x5 x8 y0 y1 y2 y3 y4 y5 y8 HQS
   go_cut [] (fun wx => Hid (Below w1.heap.size w1 wx) ∧ Hid (items = items2))
   case first =>
    go_wp2_with fail
    go_loopg [59] i0 (fun gk a wr => ∃ i : Nat, i + gk = i0 ∧ a = .int .i64 i ∧ Hid (Below w1.heap.size w1 wr) ∧ Hid (∀ (k : Nat) (x y : QI), k < i → items[k]? = some x → items2[k]? = some y → x = y))
    case atStart => exact ⟨0, by omega, rfl, Lib.hid (Below.refl _ _), Lib.hid (fun k x y hk => by omega)⟩
    case round =>
     obtain ⟨i, hig, rfl, HQr, HEr⟩ := hrel
     by_cases hlt : i < i0
     · have hi1 : (i : Int) < (i0 : Int) := by omega
       obtain ⟨ad, a, A0, n0, c0, rfl, hax, s1⟩ := LQI_at (Lay.rd_below HRX.out.1.1 HQr.out) hlt
       obtain ⟨ad2, b, B0, k0, d0, rfl, hbx, s2⟩ := LQI_at (Lay.rd_below HRY.out.1.1 HQr.out) hlt
       have HS1 := Lib.hid s1
       have HS2 := Lib.hid s2
       have HAX := Lib.hid hax
       have HBI := Lib.hid hbx
       have HBXr := Lib.hid (HBX.out.ca HQr.out)
       have HBYr := Lib.hid (HBY.out.ca HQr.out)
       clear hax hbx s1 s2
       go_upto_region 6 with fail
       refine wp_region_ps (S := fun _ _ w' => Below wr.heap.size wr w') (by kernel_rfl) ?spswg1 ?ppswg1
       case spswg1 =>
        exact (Below.refl wr.heap.size wr).drew
       refine Pz 0 (some 62) (.pointer (some ⟨w.heap.size, 2, none⟩)) rfl rfl (by exact StepS.pure nP rfl fun _ => rfl) ?_
       try simp only [Act.put, sA, sZ, sS]
       refine Pz 1 (some 63) (.slice (some ad) i0 j0) rfl rfl ?ywg1_3 ?rwg1_3
       case ywg1_3 =>
        refine StepS.read [] (by kernel_rfl) nP (by rfl) (fun L9 m9 w9 hSh hAt hDn hS => ?_)
        have hT : Below _ _ w9 := hS
        have x0 : w9.cell? ⟨w.heap.size, 2, none⟩ = some (.slice (some ad) i0 j0) := (HBXr.out.ca hT).cell 2
        clear hT hS
        go_simp
        try rfl
       try simp only [Act.put, sA, sZ, sS]
       refine Pz 2 (some 64) (.int .i64 (i)) rfl rfl (by exact StepS.pure nP rfl fun _ => rfl) ?_
       try simp only [Act.put, sA, sZ, sS]
       refine Pz 3 (some 65) (.pointer (some (ad.add (i * 2)))) rfl rfl (by exact StepS.pure nP rfl fun _ => by first | rfl | (go_simp; done) | (go_simp; rfl)) ?_
       try simp only [Act.put, sA, sZ, sS]
       refine Pz 4 (some 66) (.pointer (some ⟨(ad.add (i * 2)).block, (ad.add (i * 2)).off + 1, none⟩)) rfl rfl (by exact StepS.pure nP rfl fun _ => rfl) ?_
       try simp only [Act.put, sA, sZ, sS]
       refine Pz 5 (some 67) (.string a.as_) rfl rfl ?ywg1_7 ?rwg1_7
       case ywg1_7 =>
        refine StepS.read [] (by kernel_rfl) nP (by rfl) (fun L9 m9 w9 hSh hAt hDn hS => ?_)
        have hT : Below _ _ w9 := hS
        have x0 : w9.cell? ⟨(ad.add (i * 2)).block, (ad.add (i * 2)).off + 1, none⟩ = some (.string a.as_) := ce HS1.out.z1 hT
        clear hT hS
        go_simp
        try rfl
       try simp only [Act.put, sA, sZ, sS]
       refine Pz 6 (some 68) (.pointer (some ⟨(w.heap.size + 1), 2, none⟩)) rfl rfl (by exact StepS.pure nP rfl fun _ => rfl) ?_
       try simp only [Act.put, sA, sZ, sS]
       refine Pz 7 (some 69) (.slice (some ad2) i0 j02) rfl rfl ?ywg1_9 ?rwg1_9
       case ywg1_9 =>
        refine StepS.read [] (by kernel_rfl) nP (by rfl) (fun L9 m9 w9 hSh hAt hDn hS => ?_)
        have hT : Below _ _ w9 := hS
        have x0 : w9.cell? ⟨(w.heap.size + 1), 2, none⟩ = some (.slice (some ad2) i0 j02) := (HBYr.out.ca hT).cell 2
        clear hT hS
        go_simp
        try rfl
       try simp only [Act.put, sA, sZ, sS]
       refine Pz 8 (some 70) (.int .i64 (i)) rfl rfl (by exact StepS.pure nP rfl fun _ => rfl) ?_
       try simp only [Act.put, sA, sZ, sS]
       refine Pz 9 (some 71) (.pointer (some (ad2.add (i * 2)))) rfl rfl (by exact StepS.pure nP rfl fun _ => by first | rfl | (go_simp; done) | (go_simp; rfl)) ?_
       try simp only [Act.put, sA, sZ, sS]
       refine Pz 10 (some 72) (.pointer (some ⟨(ad2.add (i * 2)).block, (ad2.add (i * 2)).off + 1, none⟩)) rfl rfl (by exact StepS.pure nP rfl fun _ => rfl) ?_
       try simp only [Act.put, sA, sZ, sS]
       refine Pz 11 (some 73) (.string b.as_) rfl rfl ?ywg1_13 ?rwg1_13
       case ywg1_13 =>
        refine StepS.read [] (by kernel_rfl) nP (by rfl) (fun L9 m9 w9 hSh hAt hDn hS => ?_)
        have hT : Below _ _ w9 := hS
        have x0 : w9.cell? ⟨(ad2.add (i * 2)).block, (ad2.add (i * 2)).off + 1, none⟩ = some (.string b.as_) := ce HS2.out.z1 hT
        clear hT hS
        go_simp
        try rfl
       try simp only [Act.put, sA, sZ, sS]
       refine Pz 12 (some 74) (.bool (!(a.as_.toList == b.as_.toList))) rfl rfl (by exact StepS.pure nP rfl fun _ => rfl) ?_
       try simp only [Act.put, sA, sZ, sS]
       obtain ⟨bi6_13, hb9⟩ : ∃ zb : Bool, zb = (!(a.as_.toList == b.as_.toList)) := ⟨_, rfl⟩
       have HEbi6_13 := Lib.hid hb9
       clear hb9
       refine Pz 13 (some 75) (.bool (bi6_13)) rfl rfl ?ywg1_15 ?rwg1_15
       case ywg1_15 =>
        refine StepS.pure nP (by rfl) (fun w9 => ?_)
        have e9 : (!(a.as_.toList == b.as_.toList)) = bi6_13 := by rw [HEbi6_13.out]
        rw [← e9]
        clear e9
        first | rfl | (go_simp; done) | (go_simp; rfl)
       try simp only [Act.put, sA, sZ, sS]
       refine Pz 14 (some 76) (cond bi6_13 (undef) (.pointer (some ⟨w.heap.size, 2, none⟩))) rfl rfl (by cases bi6_13; (exact StepS.pure nP rfl fun _ => rfl); exact StepS.skip nP rfl) ?_
       try simp only [Act.put, sA, sZ, sS]
       refine Pz 15 (some 77) (cond bi6_13 (undef) (.slice (some ad) i0 j0)) rfl rfl ?ywg1_17 ?rwg1_17
       case ywg1_17 =>
        cases bi6_13
        · skip
          refine StepS.read [] (by kernel_rfl) nP (by rfl) (fun L9 m9 w9 hSh hAt hDn hS => ?_)
          have hT : Below _ _ w9 := hS
          have x0 : w9.cell? ⟨w.heap.size, 2, none⟩ = some (.slice (some ad) i0 j0) := (HBXr.out.ca hT).cell 2
          clear hT hS
          go_simp
          try rfl
        · exact StepS.skip nP (by rfl)
       try simp only [Act.put, sA, sZ, sS]
       refine Pz 16 (some 78) (cond bi6_13 (undef) (.int .i64 (i))) rfl rfl (by cases bi6_13; (exact StepS.pure nP rfl fun _ => rfl); exact StepS.skip nP rfl) ?_
       try simp only [Act.put, sA, sZ, sS]
       refine Pz 17 (some 79) (cond bi6_13 (undef) (.pointer (some (ad.add (i * 2))))) rfl rfl (by cases bi6_13; (exact StepS.pure nP rfl fun _ => by first | rfl | (go_simp; done) | (go_simp; rfl)); exact StepS.skip nP rfl) ?_
       try simp only [Act.put, sA, sZ, sS]
       refine Pz 18 (some 80) (cond bi6_13 (undef) (.pointer (some (ad.add (i * 2))))) rfl rfl (by cases bi6_13; (exact StepS.pure nP rfl fun _ => rfl); exact StepS.skip nP rfl) ?_
       try simp only [Act.put, sA, sZ, sS]
       refine Pz 19 (some 81) (cond bi6_13 (undef) (.agg #[.slice A0 n0 c0])) rfl rfl ?ywg1_21 ?rwg1_21
       case ywg1_21 =>
        cases bi6_13
        · skip
          refine StepS.read [] (by kernel_rfl) nP (by rfl) (fun L9 m9 w9 hSh hAt hDn hS => ?_)
          have hT : Below _ _ w9 := hS
          have x0 : w9.cell? (ad.add (i * 2)) = some (.slice A0 n0 c0) := ce HS1.out.z0 hT
          clear hT hS
          go_simp
          try rfl
        · exact StepS.skip nP (by rfl)
       try simp only [Act.put, sA, sZ, sS]
       refine Pz 20 (some 82) (cond bi6_13 (undef) (.pointer (some ⟨(w.heap.size + 1), 2, none⟩))) rfl rfl (by cases bi6_13; (exact StepS.pure nP rfl fun _ => rfl); exact StepS.skip nP rfl) ?_
       try simp only [Act.put, sA, sZ, sS]
       refine Pz 21 (some 83) (cond bi6_13 (undef) (.slice (some ad2) i0 j02)) rfl rfl ?ywg1_23 ?rwg1_23
       case ywg1_23 =>
        cases bi6_13
        · skip
          refine StepS.read [] (by kernel_rfl) nP (by rfl) (fun L9 m9 w9 hSh hAt hDn hS => ?_)
          have hT : Below _ _ w9 := hS
          have x0 : w9.cell? ⟨(w.heap.size + 1), 2, none⟩ = some (.slice (some ad2) i0 j02) := (HBYr.out.ca hT).cell 2
          clear hT hS
          go_simp
          try rfl
        · exact StepS.skip nP (by rfl)
       try simp only [Act.put, sA, sZ, sS]
       refine Pz 22 (some 84) (cond bi6_13 (undef) (.int .i64 (i))) rfl rfl (by cases bi6_13; (exact StepS.pure nP rfl fun _ => rfl); exact StepS.skip nP rfl) ?_
       try simp only [Act.put, sA, sZ, sS]
       refine Pz 23 (some 85) (cond bi6_13 (undef) (.pointer (some (ad2.add (i * 2))))) rfl rfl (by cases bi6_13; (exact StepS.pure nP rfl fun _ => by first | rfl | (go_simp; done) | (go_simp; rfl)); exact StepS.skip nP rfl) ?_
       try simp only [Act.put, sA, sZ, sS]
       refine Pz 24 (some 86) (cond bi6_13 (undef) (.pointer (some (ad2.add (i * 2))))) rfl rfl (by cases bi6_13; (exact StepS.pure nP rfl fun _ => rfl); exact StepS.skip nP rfl) ?_
       try simp only [Act.put, sA, sZ, sS]
       refine Pz 25 (some 87) (cond bi6_13 (undef) (.agg #[.slice B0 k0 d0])) rfl rfl ?ywg1_27 ?rwg1_27
       case ywg1_27 =>
        cases bi6_13
        · skip
          refine StepS.read [] (by kernel_rfl) nP (by rfl) (fun L9 m9 w9 hSh hAt hDn hS => ?_)
          have hT : Below _ _ w9 := hS
          have x0 : w9.cell? (ad2.add (i * 2)) = some (.slice B0 k0 d0) := ce HS2.out.z0 hT
          clear hT hS
          go_simp
          try rfl
        · exact StepS.skip nP (by rfl)
       try simp only [Act.put, sA, sZ, sS]
       refine Pz 26 (some 88) (cond bi6_13 (undef) (.bool (decide (a.t = b.t)))) rfl rfl ?ywg1_28 ?rwg1_28
       case ywg1_28 =>
        cases bi6_13
        · skip
          refine StepS.call ?fwg1_28 ?awg1_28 [] (by kernel_rfl) (by rfl) (fun w9 => ?hwg1_28) (fun L9 m9 w9 hSh hAt hDn hS => ?cwg1_28)
          case hwg1_28 => go_simp; refine ⟨?_, ?_⟩ <;> rfl
          case cwg1_28 =>
           have hT : Below _ _ w9 := hS
           refine (rsame_any F G a.t b.t A0 n0 c0 B0 k0 d0 w9 (Lay.rd_below HS1.out.r0 hT) (Lay.rd_below HS2.out.r0 hT) (by have := HS1.out.k0; omega)).mono ?_
           rintro e w8 ⟨rfl, q8⟩
           exact ⟨rfl, bl_ca hT q8⟩
        · exact StepS.skip nP (by rfl)
       try simp only [Act.put, sA, sZ, sS]
       refine Pz 27 (some 89) (cond bi6_13 (undef) (.bool (!(decide (a.t = b.t))))) rfl rfl (by cases bi6_13; (exact StepS.pure nP rfl fun _ => rfl); exact StepS.skip nP rfl) ?_
       try simp only [Act.put, sA, sZ, sS]
       obtain ⟨bF, hb9⟩ : ∃ zb : Bool, zb = ((!(a.as_.toList == b.as_.toList)) || (!(decide (a.t = b.t)))) := ⟨_, rfl⟩
       have HEbF := Lib.hid hb9
       clear hb9
       refine Pz 28 (some 90) (.bool (bF)) rfl rfl ?ywg1_30 ?rwg1_30
       case ywg1_30 =>
        refine StepS.pure nP (by rfl) (fun w9 => ?_)
        have e9 : (bi6_13 || (!(decide (a.t = b.t)))) = bF := by rw [HEbF.out, HEbi6_13.out]
        rw [← e9]
        clear e9
        cases bi6_13 <;> (first | rfl | (go_simp; done) | (go_simp; rfl))
       try simp only [Act.put, sA, sZ, sS]
       refine Ps.done (by kernel_rfl) (fun wg1 hS => ?_) _
       try generalize (cond bi6_13 (undef) (.pointer (some ⟨(w.heap.size + 1), 2, none⟩)) : Value) = zz31
       try generalize (cond bi6_13 (undef) (.pointer (some ⟨w.heap.size, 2, none⟩)) : Value) = zz32
       try generalize (cond bi6_13 (undef) (.pointer (some (ad2.add (i * 2)))) : Value) = zz33
       try generalize (cond bi6_13 (undef) (.pointer (some (ad.add (i * 2)))) : Value) = zz34
       try generalize (cond bi6_13 (undef) (.bool (!(decide (a.t = b.t)))) : Value) = zz35
       try generalize (cond bi6_13 (undef) (.bool (decide (a.t = b.t))) : Value) = zz36
       try generalize (cond bi6_13 (undef) (.slice (some ad2) i0 j02) : Value) = zz37
       try generalize (cond bi6_13 (undef) (.agg #[.slice A0 n0 c0]) : Value) = zz38
       try generalize (cond bi6_13 (undef) (.agg #[.slice B0 k0 d0]) : Value) = zz39
       try generalize (cond bi6_13 (undef) (.slice (some ad) i0 j0) : Value) = zz40
       try generalize (cond bi6_13 (undef) (.int .i64 (i)) : Value) = zz41
       have HQf := Lib.hid (show Below wr.heap.size wr wg1 from hS)
       clear hS
       obtain ⟨wf, rfl⟩ : ∃ x, x = wg1 := ⟨_, rfl⟩
       cases bF
       case true =>
        have HF := Lib.hid (show r = false from by
         rw [HR.out, decide_eq_false (show ¬ items = items2 from fun h => by
          have e : a = b := at_eq (by rw [← h]; exact HAX.out) HBI.out
          have h9 := HEbF.out
          rw [e] at h9
          simp at h9)]
         simp)
        go_wp2_with fail
        go_ret
        exact ⟨ret_bool (by rw [HF.out]), bl_ca HQ1.out (bl_ca HQr.out HQf.out)⟩
       case false =>
        have HAB := Lib.hid (show a = b from by
         have h9 := HEbF.out
         simp [ba_list] at h9
         exact qi_ext h9.2 h9.1)
        go_wp2_with fail
        go_roundg (gk - 1)
        · exact ⟨i + 1, by omega, by go_num, Lib.hid (bl_ca HQr.out HQf.out), Lib.hid (eq_step HEr.out HAX.out HBI.out HAB.out)⟩
        · omega
     · have hi1 : ¬ ((i : Int) < (i0 : Int)) := by omega
       have hie : i = i0 := by omega
       have HAe := Lib.hid (show items = items2 from list_ext_lt HLX.out.1 HLY.out.1 (by rw [← hie]; exact HEr.out))
       clear hie HEr
       go_wp2_with fail
       go_meet
       exact ⟨HQr, HAe⟩
   case rest =>
   obtain ⟨HQ2, HA2⟩ := hcut
   obtain ⟨w2, rfl⟩ : ∃ x, x = wc := ⟨_, rfl⟩
   have HBX2 := Lib.hid (HBX.out.ca HQ2.out)
   have HBY2 := Lib.hid (HBY.out.ca HQ2.out)
   have HRX2 := Lib.hid (HRX.out.below HQ2.out)
   have HRY2 := Lib.hid (HRY.out.below HQ2.out)
   have HQ02 := Lib.hid (bl_ca HQ1.out HQ2.out)
   have HR2 := Lib.hid (show r = (decide (grp = grp2) && (decide (joins = joins2) && (decide (wh = wh2) && decide (hv = hv2)))) from by rw [HR.out, HA2.out]; simp)
   clear HR HBX HBY HRX HRY HQ1 HQ2 HA2
   have x5 := HBX2.out.cell 5
   have y5 := HBY2.out.cell 5
   go_upto_block 2 with fail
   clear x5 y5
   go_cut [] (fun wx => Hid (Below w2.heap.size w2 wx) ∧ Hid (joins = joins2))
   case first =>
    go_wp2_with fail
    go_loopg [95] u0 (fun gk a wr => ∃ i : Nat, i + gk = u0 ∧ a = .int .i64 i ∧ Hid (Below w2.heap.size w2 wr) ∧ Hid (∀ (k : Nat) (x y : QJ), k < i → joins[k]? = some x → joins2[k]? = some y → x = y))
    case atStart => exact ⟨0, by omega, rfl, Lib.hid (Below.refl _ _), Lib.hid (fun k x y hk => by omega)⟩
    case round =>
     obtain ⟨i, hig, rfl, HQr, HEr⟩ := hrel
     by_cases hlt : i < u0
     · have hi1 : (i : Int) < (u0 : Int) := by omega
       obtain ⟨ad, a, A0, n0, c0, rfl, hax, s1⟩ := LQJ_at (Lay.rd_below HRX2.out.2.1.1 HQr.out) hlt
       obtain ⟨ad2, b, B0, k0, d0, rfl, hbx, s2⟩ := LQJ_at (Lay.rd_below HRY2.out.2.1.1 HQr.out) hlt
       have HS1 := Lib.hid s1
       have HS2 := Lib.hid s2
       have HAX := Lib.hid hax
       have HBI := Lib.hid hbx
       have qd : Below wr.heap.size wr wr.drew := bl_dr (Below.refl _ _) 1
       have qa : Below wr.heap.size wr (wr.alloc (.cells #[.bool false, .string ⟨#[]⟩, .string ⟨#[]⟩, .slice none 0 0] 85)).drew := bl_dr (bl_al (Below.refl _ _) _) 1
       have qb : Below wr.heap.size wr ((wr.alloc (.cells #[.bool false, .string ⟨#[]⟩, .string ⟨#[]⟩, .slice none 0 0] 85)).alloc (.cells #[.bool false, .string ⟨#[]⟩, .string ⟨#[]⟩, .slice none 0 0] 85)).drew := bl_dr (bl_al (bl_al (Below.refl _ _) _) _) 1
       have qe : Below wr.heap.size wr (wr.alloc (.cells #[.bool a.left, .string a.tb, .string a.as_, .slice A0 n0 c0] 85)).drew := bl_dr (bl_al (Below.refl _ _) _) 1
       have qf : Below wr.heap.size wr ((wr.alloc (.cells #[.bool a.left, .string a.tb, .string a.as_, .slice A0 n0 c0] 85)).alloc (.cells #[.bool false, .string ⟨#[]⟩, .string ⟨#[]⟩, .slice none 0 0] 85)).drew := bl_dr (bl_al (bl_al (Below.refl _ _) _) _) 1
       have qg : Below wr.heap.size wr ((wr.alloc (.cells #[.bool false, .string ⟨#[]⟩, .string ⟨#[]⟩, .slice none 0 0] 85)).alloc (.cells #[.bool a.left, .string a.tb, .string a.as_, .slice A0 n0 c0] 85)).drew := bl_dr (bl_al (bl_al (Below.refl _ _) _) _) 1
       have x5qd := ((HBX2.out.ca HQr.out).ca qd).cell 5
       have y5qd := ((HBY2.out.ca HQr.out).ca qd).cell 5
       have e0qd := ce s1.z0 qd
       have g0qd := ce s2.z0 qd
       have e1qd := ce s1.z1 qd
       have g1qd := ce s2.z1 qd
       have e2qd := ce s1.z2 qd
       have g2qd := ce s2.z2 qd
       have e3qd := ce s1.z3 qd
       have g3qd := ce s2.z3 qd
       have x5qa := ((HBX2.out.ca HQr.out).ca qa).cell 5
       have y5qa := ((HBY2.out.ca HQr.out).ca qa).cell 5
       have e0qa := ce s1.z0 qa
       have g0qa := ce s2.z0 qa
       have e1qa := ce s1.z1 qa
       have g1qa := ce s2.z1 qa
       have e2qa := ce s1.z2 qa
       have g2qa := ce s2.z2 qa
       have e3qa := ce s1.z3 qa
       have g3qa := ce s2.z3 qa
       have x5qb := ((HBX2.out.ca HQr.out).ca qb).cell 5
       have y5qb := ((HBY2.out.ca HQr.out).ca qb).cell 5
       have e0qb := ce s1.z0 qb
       have g0qb := ce s2.z0 qb
       have e1qb := ce s1.z1 qb
       have g1qb := ce s2.z1 qb
       have e2qb := ce s1.z2 qb
       have g2qb := ce s2.z2 qb
       have e3qb := ce s1.z3 qb
       have g3qb := ce s2.z3 qb
       have x5qe := ((HBX2.out.ca HQr.out).ca qe).cell 5
       have y5qe := ((HBY2.out.ca HQr.out).ca qe).cell 5
       have e0qe := ce s1.z0 qe
       have g0qe := ce s2.z0 qe
       have e1qe := ce s1.z1 qe
       have g1qe := ce s2.z1 qe
       have e2qe := ce s1.z2 qe
       have g2qe := ce s2.z2 qe
       have e3qe := ce s1.z3 qe
       have g3qe := ce s2.z3 qe
       have x5qf := ((HBX2.out.ca HQr.out).ca qf).cell 5
       have y5qf := ((HBY2.out.ca HQr.out).ca qf).cell 5
       have e0qf := ce s1.z0 qf
       have g0qf := ce s2.z0 qf
       have e1qf := ce s1.z1 qf
       have g1qf := ce s2.z1 qf
       have e2qf := ce s1.z2 qf
       have g2qf := ce s2.z2 qf
       have e3qf := ce s1.z3 qf
       have g3qf := ce s2.z3 qf
       have x5qg := ((HBX2.out.ca HQr.out).ca qg).cell 5
       have y5qg := ((HBY2.out.ca HQr.out).ca qg).cell 5
       have e0qg := ce s1.z0 qg
       have g0qg := ce s2.z0 qg
       have e1qg := ce s1.z1 qg
       have g1qg := ce s2.z1 qg
       have e2qg := ce s1.z2 qg
       have g2qg := ce s2.z2 qg
       have e3qg := ce s1.z3 qg
       have g3qg := ce s2.z3 qg
       clear hax hbx s1 s2 qd qa qb qe qf qg
       go_upto_region 12 with fail
       have HNE := Lib.hid (show ¬ a = b → r = false from fun hab => by rw [HR2.out, decide_eq_false (show ¬ joins = joins2 from fun h => hab (at_eq (by rw [← h]; exact HAX.out) HBI.out))]; simp)
       go_region
       all_goals clear x5qd y5qd e0qd e1qd e2qd e3qd g0qd g1qd g2qd g3qd x5qa y5qa e0qa e1qa e2qa e3qa g0qa g1qa g2qa g3qa x5qb y5qb e0qb e1qb e2qb e3qb g0qb g1qb g2qb g3qb x5qe y5qe e0qe e1qe e2qe e3qe g0qe g1qe g2qe g3qe x5qf y5qf e0qf e1qf e2qf e3qf g0qf g1qf g2qf g3qf x5qg y5qg e0qg e1qg e2qg e3qg g0qg g1qg g2qg g3qg
       · have HQZ := Lib.hid (show Below wr.heap.size wr ((wr.alloc (.cells #[.bool a.left, .string a.tb, .string a.as_, .slice A0 n0 c0] 85)).alloc (.cells #[.bool b.left, .string b.tb, .string b.as_, .slice B0 k0 d0] 85)).drew from bl_dr (bl_al (bl_al (Below.refl wr.heap.size wr) _) _) 1)
         have HZA := Lib.hid (show Blk ((wr.alloc (.cells #[.bool a.left, .string a.tb, .string a.as_, .slice A0 n0 c0] 85)).alloc (.cells #[.bool b.left, .string b.tb, .string b.as_, .slice B0 k0 d0] 85)).drew wr.heap.size 85 #[.bool a.left, .string a.tb, .string a.as_, .slice A0 n0 c0] from ((Blk.new wr 85 #[.bool a.left, .string a.tb, .string a.as_, .slice A0 n0 c0]).alloc _).drew)
         have HZB := Lib.hid (show Blk ((wr.alloc (.cells #[.bool a.left, .string a.tb, .string a.as_, .slice A0 n0 c0] 85)).alloc (.cells #[.bool b.left, .string b.tb, .string b.as_, .slice B0 k0 d0] 85)).drew (wr.heap.size + 1) 85 #[.bool b.left, .string b.tb, .string b.as_, .slice B0 k0 d0] from by
          have h := Blk.new (wr.alloc (.cells #[.bool a.left, .string a.tb, .string a.as_, .slice A0 n0 c0] 85)) 85 #[.bool b.left, .string b.tb, .string b.as_, .slice B0 k0 d0]
          rw [alloc_size] at h
          exact h.drew)
         generalize ((wr.alloc (.cells #[.bool a.left, .string a.tb, .string a.as_, .slice A0 n0 c0] 85)).alloc (.cells #[.bool b.left, .string b.tb, .string b.as_, .slice B0 k0 d0] 85)).drew = wz at *
         have x0 := HZA.out.cell 0
         have x1 := HZA.out.cell 1
         have x2 := HZA.out.cell 2
         have x3 := HZA.out.cell 3
         have y0 := HZB.out.cell 0
         have y1 := HZB.out.cell 1
         have y2 := HZB.out.cell 2
         have y3 := HZB.out.cell 3
         by_cases hl : a.left = b.left
         case neg =>
          have d1 : (a.left == b.left) = false := by simpa using hl
          have HF := Lib.hid (HNE.out (fun h => hl (by rw [h])))
          clear hl
          go_wp2_with fail
          go_ret
          exact ⟨ret_bool (by rw [HF.out]), bl_ca HQ02.out (bl_ca HQr.out HQZ.out)⟩
         have d1 : (a.left == b.left) = true := by simpa using hl
         have HL9 := Lib.hid hl
         clear hl
         cases hs : (decide (a.tb = b.tb) && decide (a.as_ = b.as_))
         · have HQS : ∀ W, (Op.equalIn 10000 72 (.agg #[.string a.tb, .string a.as_]) (.agg #[.string b.tb, .string b.as_])).run Tryz.prog W = .ok false W := fun W => by rw [run_eqSrc, hs]
           have HF := Lib.hid (HNE.out (fun h => by rw [h] at hs; simp at hs))
           clear hs
           go_wp2_with fail
           go_ret
           exact ⟨ret_bool (by rw [HF.out]), bl_ca HQ02.out (bl_ca HQr.out HQZ.out)⟩
         · have HQS : ∀ W, (Op.equalIn 10000 72 (.agg #[.string a.tb, .string a.as_]) (.agg #[.string b.tb, .string b.as_])).run Tryz.prog W = .ok true W := fun W => by rw [run_eqSrc, hs]
           have HS9 := Lib.hid hs
           clear hs
           go_wp2_with fail
           refine (rsame_any F G a.on b.on A0 n0 c0 B0 k0 d0 wz (Lay.rd_below HS1.out.r0 HQZ.out) (Lay.rd_below HS2.out.r0 HQZ.out) (by have := HS1.out.k0; omega)).mono ?_
           rintro e wy ⟨rfl, qq⟩
           have HQY := Lib.hid (bl_ca HQr.out (bl_ca HQZ.out qq))
           clear qq x0 x1 x2 x3 y0 y1 y2 y3 d1 HQS
           cases ho : decide (a.on = b.on)
           · have HF := Lib.hid (HNE.out (fun h => by rw [h] at ho; simp at ho))
             clear ho
             go_wp2_with fail
             go_ret
             exact ⟨ret_bool (by rw [HF.out]), bl_ca HQ02.out HQY.out⟩
           · have HAB := Lib.hid (show a = b from by
              have h9 := HS9.out
              rw [Bool.and_eq_true, decide_eq_true_eq, decide_eq_true_eq] at h9
              exact qj_ext HL9.out h9.1 h9.2 (of_decide_eq_true ho))
             clear ho
             go_wp2_with fail
             go_roundg (gk - 1)
             · exact ⟨i + 1, by omega, by go_num, HQY, Lib.hid (eq_step HEr.out HAX.out HBI.out HAB.out)⟩
             · omega
       · have HQZ := Lib.hid (show Below wr.heap.size wr ((wr.alloc (.cells #[.bool b.left, .string b.tb, .string b.as_, .slice B0 k0 d0] 85)).alloc (.cells #[.bool a.left, .string a.tb, .string a.as_, .slice A0 n0 c0] 85)).drew from bl_dr (bl_al (bl_al (Below.refl wr.heap.size wr) _) _) 1)
         have HZB := Lib.hid (show Blk ((wr.alloc (.cells #[.bool b.left, .string b.tb, .string b.as_, .slice B0 k0 d0] 85)).alloc (.cells #[.bool a.left, .string a.tb, .string a.as_, .slice A0 n0 c0] 85)).drew wr.heap.size 85 #[.bool b.left, .string b.tb, .string b.as_, .slice B0 k0 d0] from ((Blk.new wr 85 #[.bool b.left, .string b.tb, .string b.as_, .slice B0 k0 d0]).alloc _).drew)
         have HZA := Lib.hid (show Blk ((wr.alloc (.cells #[.bool b.left, .string b.tb, .string b.as_, .slice B0 k0 d0] 85)).alloc (.cells #[.bool a.left, .string a.tb, .string a.as_, .slice A0 n0 c0] 85)).drew (wr.heap.size + 1) 85 #[.bool a.left, .string a.tb, .string a.as_, .slice A0 n0 c0] from by
          have h := Blk.new (wr.alloc (.cells #[.bool b.left, .string b.tb, .string b.as_, .slice B0 k0 d0] 85)) 85 #[.bool a.left, .string a.tb, .string a.as_, .slice A0 n0 c0]
          rw [alloc_size] at h
          exact h.drew)
         generalize ((wr.alloc (.cells #[.bool b.left, .string b.tb, .string b.as_, .slice B0 k0 d0] 85)).alloc (.cells #[.bool a.left, .string a.tb, .string a.as_, .slice A0 n0 c0] 85)).drew = wz at *
         have x0 := HZA.out.cell 0
         have x1 := HZA.out.cell 1
         have x2 := HZA.out.cell 2
         have x3 := HZA.out.cell 3
         have y0 := HZB.out.cell 0
         have y1 := HZB.out.cell 1
         have y2 := HZB.out.cell 2
         have y3 := HZB.out.cell 3
         by_cases hl : a.left = b.left
         case neg =>
          have d1 : (a.left == b.left) = false := by simpa using hl
          have HF := Lib.hid (HNE.out (fun h => hl (by rw [h])))
          clear hl
          go_wp2_with fail
          go_ret
          exact ⟨ret_bool (by rw [HF.out]), bl_ca HQ02.out (bl_ca HQr.out HQZ.out)⟩
         have d1 : (a.left == b.left) = true := by simpa using hl
         have HL9 := Lib.hid hl
         clear hl
         cases hs : (decide (a.tb = b.tb) && decide (a.as_ = b.as_))
         · have HQS : ∀ W, (Op.equalIn 10000 72 (.agg #[.string a.tb, .string a.as_]) (.agg #[.string b.tb, .string b.as_])).run Tryz.prog W = .ok false W := fun W => by rw [run_eqSrc, hs]
           have HF := Lib.hid (HNE.out (fun h => by rw [h] at hs; simp at hs))
           clear hs
           go_wp2_with fail
           go_ret
           exact ⟨ret_bool (by rw [HF.out]), bl_ca HQ02.out (bl_ca HQr.out HQZ.out)⟩
         · have HQS : ∀ W, (Op.equalIn 10000 72 (.agg #[.string a.tb, .string a.as_]) (.agg #[.string b.tb, .string b.as_])).run Tryz.prog W = .ok true W := fun W => by rw [run_eqSrc, hs]
           have HS9 := Lib.hid hs
           clear hs
           go_wp2_with fail
           refine (rsame_any F G a.on b.on A0 n0 c0 B0 k0 d0 wz (Lay.rd_below HS1.out.r0 HQZ.out) (Lay.rd_below HS2.out.r0 HQZ.out) (by have := HS1.out.k0; omega)).mono ?_
           rintro e wy ⟨rfl, qq⟩
           have HQY := Lib.hid (bl_ca HQr.out (bl_ca HQZ.out qq))
           clear qq x0 x1 x2 x3 y0 y1 y2 y3 d1 HQS
           cases ho : decide (a.on = b.on)
           · have HF := Lib.hid (HNE.out (fun h => by rw [h] at ho; simp at ho))
             clear ho
             go_wp2_with fail
             go_ret
             exact ⟨ret_bool (by rw [HF.out]), bl_ca HQ02.out HQY.out⟩
           · have HAB := Lib.hid (show a = b from by
              have h9 := HS9.out
              rw [Bool.and_eq_true, decide_eq_true_eq, decide_eq_true_eq] at h9
              exact qj_ext HL9.out h9.1 h9.2 (of_decide_eq_true ho))
             clear ho
             go_wp2_with fail
             go_roundg (gk - 1)
             · exact ⟨i + 1, by omega, by go_num, HQY, Lib.hid (eq_step HEr.out HAX.out HBI.out HAB.out)⟩
             · omega
     · have hi1 : ¬ ((i : Int) < (u0 : Int)) := by omega
       have hie : i = u0 := by omega
       have HAe := Lib.hid (show joins = joins2 from list_ext_lt HLX.out.2.1 HLY.out.2.1 (by rw [← hie]; exact HEr.out))
       clear hie HEr
       go_wp2_with fail
       go_meet
       exact ⟨HQr, HAe⟩
   case rest =>
   obtain ⟨HQ3, HA3⟩ := hcut
   obtain ⟨w3, rfl⟩ : ∃ x, x = wc := ⟨_, rfl⟩
   have HBX3 := Lib.hid (HBX2.out.ca HQ3.out)
   have HBY3 := Lib.hid (HBY2.out.ca HQ3.out)
   have HRX3 := Lib.hid (HRX2.out.below HQ3.out)
   have HRY3 := Lib.hid (HRY2.out.below HQ3.out)
   have HQ03 := Lib.hid (bl_ca HQ02.out HQ3.out)
   have HR3 := Lib.hid (show r = (decide (grp = grp2) && (decide (wh = wh2) && decide (hv = hv2))) from by rw [HR2.out, HA3.out]; simp)
   clear HR2 HBX2 HBY2 HRX2 HRY2 HQ02 HQ3 HA3
   have x8 := HBX3.out.cell 8
   have y8 := HBY3.out.cell 8
   go_upto_block 4 with fail
   clear x8 y8
   go_cut [] (fun wx => Hid (Below w3.heap.size w3 wx) ∧ Hid (grp = grp2))
   case first =>
    go_wp2_with fail
    go_loopg [132] p0 (fun gk a wr => ∃ i : Nat, i + gk = p0 ∧ a = .int .i64 i ∧ Hid (Below w3.heap.size w3 wr) ∧ Hid (∀ (k : Nat) (x y : QN), k < i → grp[k]? = some x → grp2[k]? = some y → x = y))
    case atStart => exact ⟨0, by omega, rfl, Lib.hid (Below.refl _ _), Lib.hid (fun k x y hk => by omega)⟩
    case round =>
     obtain ⟨i, hig, rfl, HQr, HEr⟩ := hrel
     by_cases hlt : i < p0
     · have hi1 : (i : Int) < (p0 : Int) := by omega
       obtain ⟨ad, a, rfl, hax, s1⟩ := LQN_at (Lay.rd_below HRX3.out.2.2.2.2.1 HQr.out) hlt
       obtain ⟨ad2, b, rfl, hbx, s2⟩ := LQN_at (Lay.rd_below HRY3.out.2.2.2.2.1 HQr.out) hlt
       have HAX := Lib.hid hax
       have HBI := Lib.hid hbx
       have x8 := (HBX3.out.ca HQr.out).cell 8
       have y8 := (HBY3.out.ca HQr.out).cell 8
       have e0 := s1.z0
       have e1 := s1.z1
       have g0 := s2.z0
       have g1 := s2.z1
       clear hax hbx s1 s2
       by_cases hab : a = b
       · have HQ : ∀ W, (Op.equalIn 10000 88 (.agg #[.string a.tb, .string a.nm]) (.agg #[.string b.tb, .string b.nm])).run Tryz.prog W = .ok true W := fun W => by rw [run_eqQN, decide_eq_true hab]
         have HAB := Lib.hid hab
         clear hab
         go_wp2_with fail
         go_quiet (fail)
         go_wp2
         go_roundg (gk - 1)
         · exact ⟨i + 1, by omega, by go_num, Lib.hid (bl_dr HQr.out _), Lib.hid (eq_step HEr.out HAX.out HBI.out HAB.out)⟩
         · omega
       · have HQ : ∀ W, (Op.equalIn 10000 88 (.agg #[.string a.tb, .string a.nm]) (.agg #[.string b.tb, .string b.nm])).run Tryz.prog W = .ok false W := fun W => by rw [run_eqQN, decide_eq_false hab]
         have HF := Lib.hid (show r = false from by rw [HR3.out, decide_eq_false (show ¬ grp = grp2 from fun h => hab (at_eq (by rw [← h]; exact HAX.out) HBI.out))]; simp)
         clear hab
         go_wp2_with fail
         go_quiet (fail)
         go_wp2
         go_ret
         exact ⟨ret_bool (by rw [HF.out]), bl_ca HQ03.out (bl_dr HQr.out _)⟩
     · have hi1 : ¬ ((i : Int) < (p0 : Int)) := by omega
       have hie : i = p0 := by omega
       have HAe := Lib.hid (show grp = grp2 from list_ext_lt HLX.out.2.2 HLY.out.2.2 (by rw [← hie]; exact HEr.out))
       clear hie HEr
       go_wp2_with fail
       go_meet
       exact ⟨HQr, HAe⟩
   case rest =>
   obtain ⟨HQ4, HA4⟩ := hcut
   obtain ⟨w4, rfl⟩ : ∃ x, x = wc := ⟨_, rfl⟩
   have HBX4 := Lib.hid (HBX3.out.ca HQ4.out)
   have HBY4 := Lib.hid (HBY3.out.ca HQ4.out)
   have HRX4 := Lib.hid (HRX3.out.below HQ4.out)
   have HRY4 := Lib.hid (HRY3.out.below HQ4.out)
   have HQ04 := Lib.hid (bl_ca HQ03.out HQ4.out)
   have HR4 := Lib.hid (show r = (decide (wh = wh2) && decide (hv = hv2)) from by rw [HR3.out, HA4.out]; simp)
   clear HR3 HBX3 HBY3 HRX3 HRY3 HQ03 HQ4 HA4
   have x6 := HBX4.out.cell 6
   have y6 := HBY4.out.cell 6
   go_wp2_with fail
   refine (rsame_any F G wh wh2 W0 a0 b0 W02 a02 b02 w4 HRX4.out.2.2.1.1 HRY4.out.2.2.1.1 (by have := HRX4.out.2.2.1.2; omega)).mono ?_
   rintro e w5 ⟨rfl, qq⟩
   have HBX5 := Lib.hid (HBX4.out.ca qq)
   have HBY5 := Lib.hid (HBY4.out.ca qq)
   have HRX5 := Lib.hid (HRX4.out.below qq)
   have HRY5 := Lib.hid (HRY4.out.below qq)
   have HQ05 := Lib.hid (bl_ca HQ04.out qq)
   clear qq x6 y6
   generalize decide (wh = wh2) = z5 at *
   cases z5
   · have HF := Lib.hid (show r = false from by rw [HR4.out]; rfl)
     go_wp2_with fail
     go_ret
     exact ⟨ret_bool (by rw [HF.out]), HQ05.out⟩
   · have x7 := HBX5.out.cell 7
     have y7 := HBY5.out.cell 7
     go_wp2_with fail
     refine (rsame_any F G hv hv2 H0 e0 f0 H02 e02 f02 w5 HRX5.out.2.2.2.1.1 HRY5.out.2.2.2.1.1 (by have := HRX5.out.2.2.2.1.2; omega)).mono ?_
     rintro e w6 ⟨rfl, qq⟩
     have HQ06 := Lib.hid (bl_ca HQ05.out qq)
     clear qq x7 y7
     generalize decide (hv = hv2) = z6 at *
     have HF := Lib.hid (show r = z6 from by rw [HR4.out]; rfl)
     go_wp2_with fail
     go_ret
     exact ⟨ret_bool (by rw [HF.out]), HQ06.out⟩
end Go.Proofs.YtoaggmldekejoaaGreatDoor
/- The reference: when two queries are one. Conditions: both read so. -/
namespace Go.Proofs.YtoaggmldekejoaaGreatDoor
open Go.RowKit
set_option maxRecDepth 100000 in
set_option maxHeartbeats 16000000 in
theorem rsameq_any (F G : Nat → Prop) (p q : QC) (A : Option Addr) (n c : Nat) (B : Option Addr) (m d : Nat) (A2 : Option Addr) (n2 c2 : Nat) (B2 : Option Addr) (m2 d2 : Nat) (w : World) (hS : LQS.rd w F A n p.sels) (hK : LQK.rd w F B m p.keys) (hS2 : LQS.rd w G A2 n2 q.sels) (hK2 : LQK.rd w G B2 m2 q.keys) (hn : n ≤ 1000) (hm : m ≤ 1000) :
 Calls Tryz.prog 20 #[p.val A n c B m d, q.val A2 n2 c2 B2 m2 d2] w fun e w' => e = .returned (.bool (decide (p = q))) ∧ Below w.heap.size w w' := by
 obtain ⟨r, hr⟩ : ∃ r, r = decide (p = q) := ⟨_, rfl⟩
 rw [← hr]
 have HR := Lib.hid (show r = (decide (p.lim = q.lim) && (decide (p.keys = q.keys) && decide (p.sels = q.sels))) from by
  rw [hr, Bool.eq_iff_iff]
  obtain ⟨a, b, e⟩ := p
  obtain ⟨a', b', e'⟩ := q
  simp only [QC.mk.injEq, Bool.and_eq_true, decide_eq_true_eq]
  exact ⟨fun ⟨a, b, c⟩ => ⟨c, b, a⟩, fun ⟨a, b, c⟩ => ⟨c, b, a⟩⟩)
 have HQ1 := Lib.hid (bl_al (bl_al (Below.refl w.heap.size w) (.cells #[.slice A n c, .slice B m d, .int .i64 p.lim] 43)) (.cells #[.slice A2 n2 c2, .slice B2 m2 d2, .int .i64 q.lim] 43))
 have HBX := Lib.hid ((Blk.new w 43 #[.slice A n c, .slice B m d, .int .i64 p.lim]).alloc (.cells #[.slice A2 n2 c2, .slice B2 m2 d2, .int .i64 q.lim] 43))
 have h1 := alloc_size w (.cells #[.slice A n c, .slice B m d, .int .i64 p.lim] 43)
 have HBY := Lib.hid (show Blk ((w.alloc (.cells #[.slice A n c, .slice B m d, .int .i64 p.lim] 43)).alloc (.cells #[.slice A2 n2 c2, .slice B2 m2 d2, .int .i64 q.lim] 43)) (w.heap.size + 1) 43 #[.slice A2 n2 c2, .slice B2 m2 d2, .int .i64 q.lim] from by rw [← h1]; exact Blk.new (w.alloc (.cells #[.slice A n c, .slice B m d, .int .i64 p.lim] 43)) 43 #[.slice A2 n2 c2, .slice B2 m2 d2, .int .i64 q.lim])
 have HS := Lib.hid (Lay.rd_below hS HQ1.out)
 have HK := Lib.hid (Lay.rd_below hK HQ1.out)
 have HS2 := Lib.hid (Lay.rd_below hS2 HQ1.out)
 have HK2 := Lib.hid (Lay.rd_below hK2 HQ1.out)
 have HLX := Lib.hid (And.intro (Lay.rd_len hS) (Lay.rd_len hK))
 have HLY := Lib.hid (And.intro (Lay.rd_len hS2) (Lay.rd_len hK2))
 clear hr hS hK hS2 hK2 h1
 go_enter Tryz.func20, Tryz.ntmps20
 go_upto_region 1 with fail
 generalize ((w.alloc (.cells #[.slice A n c, .slice B m d, .int .i64 p.lim] 43)).alloc (.cells #[.slice A2 n2 c2, .slice B2 m2 d2, .int .i64 q.lim] 43)) = w1 at *
 have x0 := HBX.out.cell 0
 have x1 := HBX.out.cell 1
 have x2 := HBX.out.cell 2
 have y0 := HBY.out.cell 0
 have y1 := HBY.out.cell 1
 have y2 := HBY.out.cell 2
 by_cases hl : p.lim = q.lim
 case neg =>
  have d1 : (p.lim == q.lim) = false := by simpa using hl
  have d0 : (p.lim != q.lim) = true := by simpa using hl
  have HF := Lib.hid (show r = false from by rw [HR.out, decide_eq_false hl, Bool.false_and])
  clear hl
  go_wp2_with fail
  go_ret
  exact ⟨ret_bool (by rw [HF.out]), HQ1.out⟩
 have d1 : (p.lim == q.lim) = true := by simpa using hl
 have d0 : (p.lim != q.lim) = false := by simpa using hl
 rw [decide_eq_true hl, Bool.true_and] at HR
 clear hl
 by_cases hd : n = n2
 case neg =>
  have e2 : ((n : Int) != (n2 : Int)) = true := by simp; omega
  have HF := Lib.hid (show r = false from by rw [HR.out, decide_eq_false (show ¬ p.sels = q.sels from fun h => hd (by rw [← HLX.out.1, ← HLY.out.1, h]))]; simp)
  clear hd
  go_wp2_with fail
  go_ret
  exact ⟨ret_bool (by rw [HF.out]), HQ1.out⟩
 subst hd
 by_cases hd : m = m2
 case neg =>
  have e2 : ((m : Int) != (m2 : Int)) = true := by simp; omega
  have HF := Lib.hid (show r = false from by rw [HR.out, decide_eq_false (show ¬ p.keys = q.keys from fun h => hd (by rw [← HLX.out.2, ← HLY.out.2, h]))]; simp)
  clear hd
  go_wp2_with fail
  go_ret
  exact ⟨ret_bool (by rw [HF.out]), HQ1.out⟩
 subst hd
 go_upto_block 0 with fail
 clear x0 x1 x2 y0 y1 y2 d1 d0
 go_cut [] (fun wx => Hid (Below w1.heap.size w1 wx) ∧ Hid (p.sels = q.sels))
 case first =>
  go_wp2_with fail
  go_loopg [33] n (fun gk a wr => ∃ i : Nat, i + gk = n ∧ a = .int .i64 i ∧ Hid (Below w1.heap.size w1 wr) ∧ Hid (∀ (k : Nat) (x y : QS), k < i → p.sels[k]? = some x → q.sels[k]? = some y → x = y))
  case atStart => exact ⟨0, by omega, rfl, Lib.hid (Below.refl _ _), Lib.hid (fun k x y hk => by omega)⟩
  case round =>
   obtain ⟨i, hig, rfl, HQr, HEr⟩ := hrel
   by_cases hlt : i < n
   · have hi1 : (i : Int) < (n : Int) := by omega
     obtain ⟨ad, a, I0, i0, j0, J0, u0, v0, W0, a0, b0, H0, e0, f0, G0, p0, q0, rfl, hax, s1⟩ := LQS_at (Lay.rd_below HS.out HQr.out) hlt
     obtain ⟨ad2, b, I02, i02, j02, J02, u02, v02, W02, a02, b02, H02, e02, f02, G02, p02, q02, rfl, hbx, s2⟩ := LQS_at (Lay.rd_below HS2.out HQr.out) hlt
     have HS1 := Lib.hid s1
     have HSS := Lib.hid s2
     have HAX := Lib.hid hax
     have HBI := Lib.hid hbx
     have HBXr := Lib.hid (HBX.out.ca HQr.out)
     have HBYr := Lib.hid (HBY.out.ca HQr.out)
     clear hax hbx s1 s2
     go_upto_region 6 with fail
     refine wp_region_ps (S := fun _ _ w' => Below wr.heap.size wr w') (by kernel_rfl) ?spswg1 ?ppswg1
     case spswg1 =>
      exact (Below.refl wr.heap.size wr).drew
     refine Pz 0 (some 36) (.pointer (some ⟨w.heap.size, 0, none⟩)) rfl rfl (by exact StepS.pure nP rfl fun _ => rfl) ?_
     try simp only [Act.put, sA, sZ, sS]
     refine Pz 1 (some 37) (.slice (some ad) n c) rfl rfl ?ywg1_3 ?rwg1_3
     case ywg1_3 =>
      refine StepS.read [] (by kernel_rfl) nP (by rfl) (fun L9 m9 w9 hSh hAt hDn hS => ?_)
      have hT : Below _ _ w9 := hS
      have x0 : w9.cell? ⟨w.heap.size, 0, none⟩ = some (.slice (some ad) n c) := (HBXr.out.ca hT).cell 0
      clear hT hS
      go_simp
      try rfl
     try simp only [Act.put, sA, sZ, sS]
     refine Pz 2 (some 38) (.int .i64 (i)) rfl rfl (by exact StepS.pure nP rfl fun _ => rfl) ?_
     try simp only [Act.put, sA, sZ, sS]
     refine Pz 3 (some 39) (.pointer (some (ad.add (i * 9)))) rfl rfl (by exact StepS.pure nP rfl fun _ => by first | rfl | (go_simp; done) | (go_simp; rfl)) ?_
     try simp only [Act.put, sA, sZ, sS]
     refine Pz 4 (some 40) (.agg #[.bool (a.dis), .bool (a.star), .slice I0 i0 j0, .string a.ftb, .string a.fas, .slice J0 u0 v0, .slice W0 a0 b0, .slice H0 e0 f0, .slice G0 p0 q0]) rfl rfl ?ywg1_6 ?rwg1_6
     case ywg1_6 =>
      refine StepS.read [] (by kernel_rfl) nP (by rfl) (fun L9 m9 w9 hSh hAt hDn hS => ?_)
      have hT : Below _ _ w9 := hS
      have x0 : w9.cell? (ad.add (i * 9)) = some (.bool (a.dis)) := ce HS1.out.z0 hT
      have x1 : w9.cell? ⟨(ad.add (i * 9)).block, (ad.add (i * 9)).off + 1, none⟩ = some (.bool (a.star)) := ce HS1.out.z1 hT
      have x2 : w9.cell? ⟨(ad.add (i * 9)).block, (ad.add (i * 9)).off + 2, none⟩ = some (.slice I0 i0 j0) := ce HS1.out.z2 hT
      have x3 : w9.cell? ⟨(ad.add (i * 9)).block, (ad.add (i * 9)).off + 3, none⟩ = some (.string a.ftb) := ce HS1.out.z3 hT
      have x4 : w9.cell? ⟨(ad.add (i * 9)).block, (ad.add (i * 9)).off + 4, none⟩ = some (.string a.fas) := ce HS1.out.z4 hT
      have x5 : w9.cell? ⟨(ad.add (i * 9)).block, (ad.add (i * 9)).off + 5, none⟩ = some (.slice J0 u0 v0) := ce HS1.out.z5 hT
      have x6 : w9.cell? ⟨(ad.add (i * 9)).block, (ad.add (i * 9)).off + 6, none⟩ = some (.slice W0 a0 b0) := ce HS1.out.z6 hT
      have x7 : w9.cell? ⟨(ad.add (i * 9)).block, (ad.add (i * 9)).off + 7, none⟩ = some (.slice H0 e0 f0) := ce HS1.out.z7 hT
      have x8 : w9.cell? ⟨(ad.add (i * 9)).block, (ad.add (i * 9)).off + 8, none⟩ = some (.slice G0 p0 q0) := ce HS1.out.z8 hT
      clear hT hS
      go_simp
      try rfl
     try simp only [Act.put, sA, sZ, sS]
     refine Pz 5 (some 41) (.pointer (some ⟨(w.heap.size + 1), 0, none⟩)) rfl rfl (by exact StepS.pure nP rfl fun _ => rfl) ?_
     try simp only [Act.put, sA, sZ, sS]
     refine Pz 6 (some 42) (.slice (some ad2) n c2) rfl rfl ?ywg1_8 ?rwg1_8
     case ywg1_8 =>
      refine StepS.read [] (by kernel_rfl) nP (by rfl) (fun L9 m9 w9 hSh hAt hDn hS => ?_)
      have hT : Below _ _ w9 := hS
      have x0 : w9.cell? ⟨(w.heap.size + 1), 0, none⟩ = some (.slice (some ad2) n c2) := (HBYr.out.ca hT).cell 0
      clear hT hS
      go_simp
      try rfl
     try simp only [Act.put, sA, sZ, sS]
     refine Pz 7 (some 43) (.int .i64 (i)) rfl rfl (by exact StepS.pure nP rfl fun _ => rfl) ?_
     try simp only [Act.put, sA, sZ, sS]
     refine Pz 8 (some 44) (.pointer (some (ad2.add (i * 9)))) rfl rfl (by exact StepS.pure nP rfl fun _ => by first | rfl | (go_simp; done) | (go_simp; rfl)) ?_
     try simp only [Act.put, sA, sZ, sS]
     refine Pz 9 (some 45) (.agg #[.bool (b.dis), .bool (b.star), .slice I02 i02 j02, .string b.ftb, .string b.fas, .slice J02 u02 v02, .slice W02 a02 b02, .slice H02 e02 f02, .slice G02 p02 q02]) rfl rfl ?ywg1_11 ?rwg1_11
     case ywg1_11 =>
      refine StepS.read [] (by kernel_rfl) nP (by rfl) (fun L9 m9 w9 hSh hAt hDn hS => ?_)
      have hT : Below _ _ w9 := hS
      have x0 : w9.cell? (ad2.add (i * 9)) = some (.bool (b.dis)) := ce HSS.out.z0 hT
      have x1 : w9.cell? ⟨(ad2.add (i * 9)).block, (ad2.add (i * 9)).off + 1, none⟩ = some (.bool (b.star)) := ce HSS.out.z1 hT
      have x2 : w9.cell? ⟨(ad2.add (i * 9)).block, (ad2.add (i * 9)).off + 2, none⟩ = some (.slice I02 i02 j02) := ce HSS.out.z2 hT
      have x3 : w9.cell? ⟨(ad2.add (i * 9)).block, (ad2.add (i * 9)).off + 3, none⟩ = some (.string b.ftb) := ce HSS.out.z3 hT
      have x4 : w9.cell? ⟨(ad2.add (i * 9)).block, (ad2.add (i * 9)).off + 4, none⟩ = some (.string b.fas) := ce HSS.out.z4 hT
      have x5 : w9.cell? ⟨(ad2.add (i * 9)).block, (ad2.add (i * 9)).off + 5, none⟩ = some (.slice J02 u02 v02) := ce HSS.out.z5 hT
      have x6 : w9.cell? ⟨(ad2.add (i * 9)).block, (ad2.add (i * 9)).off + 6, none⟩ = some (.slice W02 a02 b02) := ce HSS.out.z6 hT
      have x7 : w9.cell? ⟨(ad2.add (i * 9)).block, (ad2.add (i * 9)).off + 7, none⟩ = some (.slice H02 e02 f02) := ce HSS.out.z7 hT
      have x8 : w9.cell? ⟨(ad2.add (i * 9)).block, (ad2.add (i * 9)).off + 8, none⟩ = some (.slice G02 p02 q02) := ce HSS.out.z8 hT
      clear hT hS
      go_simp
      try rfl
     try simp only [Act.put, sA, sZ, sS]
     refine Pz 10 (some 46) (.bool (decide (a = b))) rfl rfl ?ywg1_12 ?rwg1_12
     case ywg1_12 =>
      refine StepS.call ?fwg1_12 ?awg1_12 [] (by kernel_rfl) (by rfl) (fun w9 => ?hwg1_12) (fun L9 m9 w9 hSh hAt hDn hS => ?cwg1_12)
      case hwg1_12 => go_simp; refine ⟨?_, ?_⟩ <;> rfl
      case cwg1_12 =>
       have hT : Below _ _ w9 := hS
       refine (rsames_any F G a b I0 i0 j0 J0 u0 v0 W0 a0 b0 H0 e0 f0 G0 p0 q0 I02 i02 j02 J02 u02 v02 W02 a02 b02 H02 e02 f02 G02 p02 q02 w9 ((RdS.of HS1.out).below hT) ((RdS.of HSS.out).below hT)).mono ?_
       rintro e w8 ⟨rfl, q8⟩
       exact ⟨rfl, bl_ca hT q8⟩
     try simp only [Act.put, sA, sZ, sS]
     obtain ⟨bF, hb9⟩ : ∃ zb : Bool, zb = (!(decide (a = b))) := ⟨_, rfl⟩
     have HEbF := Lib.hid hb9
     clear hb9
     refine Pz 11 (some 47) (.bool (bF)) rfl rfl ?ywg1_13 ?rwg1_13
     case ywg1_13 =>
      refine StepS.pure nP (by rfl) (fun w9 => ?_)
      have e9 : (!(decide (a = b))) = bF := by rw [HEbF.out]
      rw [← e9]
      clear e9
      first | rfl | (go_simp; done) | (go_simp; rfl)
     try simp only [Act.put, sA, sZ, sS]
     refine Ps.done (by kernel_rfl) (fun wg1 hS => ?_) _
     have HQf := Lib.hid (show Below wr.heap.size wr wg1 from hS)
     clear hS
     obtain ⟨wf, rfl⟩ : ∃ x, x = wg1 := ⟨_, rfl⟩
     cases hab : decide (a = b)
     · have HBF := Lib.hid (show bF = true from by rw [HEbF.out, hab]; rfl)
       have HF := Lib.hid (show r = false from by rw [HR.out, decide_eq_false (show ¬ p.sels = q.sels from fun h => of_decide_eq_false hab (at_eq (by rw [← h]; exact HAX.out) HBI.out))]; simp)
       clear hab HEbF
       obtain rfl := HBF.out
       go_wp2_with fail
       go_ret
       exact ⟨ret_bool (by rw [HF.out]), bl_ca HQ1.out (bl_ca HQr.out HQf.out)⟩
     · have HBF := Lib.hid (show bF = false from by rw [HEbF.out, hab]; rfl)
       have HAB := Lib.hid (of_decide_eq_true hab)
       clear hab HEbF
       obtain rfl := HBF.out
       go_wp2_with fail
       go_roundg (gk - 1)
       · exact ⟨i + 1, by omega, by go_num, Lib.hid (bl_ca HQr.out HQf.out), Lib.hid (eq_step HEr.out HAX.out HBI.out HAB.out)⟩
       · omega
   · have hi1 : ¬ ((i : Int) < (n : Int)) := by omega
     have hie : i = n := by omega
     have HAe := Lib.hid (show p.sels = q.sels from list_ext_lt HLX.out.1 HLY.out.1 (by rw [← hie]; exact HEr.out))
     clear hie HEr
     go_wp2_with fail
     go_meet
     exact ⟨HQr, HAe⟩
 case rest =>
 obtain ⟨HQ3, HA3⟩ := hcut
 obtain ⟨w3, rfl⟩ : ∃ x, x = wc := ⟨_, rfl⟩
 have HBX3 := Lib.hid (HBX.out.ca HQ3.out)
 have HBY3 := Lib.hid (HBY.out.ca HQ3.out)
 have HK3 := Lib.hid (Lay.rd_below HK.out HQ3.out)
 have HK23 := Lib.hid (Lay.rd_below HK2.out HQ3.out)
 have HQ03 := Lib.hid (bl_ca HQ1.out HQ3.out)
 have HR3 := Lib.hid (show r = decide (p.keys = q.keys) from by rw [HR.out, HA3.out]; simp)
 clear HR HBX HBY HS HS2 HK HK2 HQ1 HQ3 HA3
 have x1 := HBX3.out.cell 1
 have y1 := HBY3.out.cell 1
 go_wp2_with fail
 clear x1 y1
 go_loopg [52] m (fun gk a wr => ∃ i : Nat, i + gk = m ∧ a = .int .i64 i ∧ Hid (Below w3.heap.size w3 wr) ∧ Hid (∀ (k : Nat) (x y : QK), k < i → p.keys[k]? = some x → q.keys[k]? = some y → x = y))
 case atStart => exact ⟨0, by omega, rfl, Lib.hid (Below.refl _ _), Lib.hid (fun k x y hk => by omega)⟩
 case round =>
  obtain ⟨i, hig, rfl, HQr, HEr⟩ := hrel
  by_cases hlt : i < m
  · have hi1 : (i : Int) < (m : Int) := by omega
    obtain ⟨ad, a, rfl, hax, s1⟩ := LQK_at (Lay.rd_below HK3.out HQr.out) hlt
    obtain ⟨ad2, b, rfl, hbx, s2⟩ := LQK_at (Lay.rd_below HK23.out HQr.out) hlt
    have HAX := Lib.hid hax
    have HBI := Lib.hid hbx
    have x1 := (HBX3.out.ca HQr.out).cell 1
    have y1 := (HBY3.out.ca HQr.out).cell 1
    have e0 := s1.z0
    have e1 := s1.z1
    have e2 := s1.z2
    have g0 := s2.z0
    have g1 := s2.z1
    have g2 := s2.z2
    clear hax hbx s1 s2
    by_cases hab : a = b
    · have HQ : ∀ W, (Op.equalIn 10000 79 (.agg #[.string a.nm, .int .i64 a.num, .bool a.desc]) (.agg #[.string b.nm, .int .i64 b.num, .bool b.desc])).run Tryz.prog W = .ok true W := fun W => by rw [run_eqQK, decide_eq_true hab]
      have HAB := Lib.hid hab
      clear hab
      go_wp2_with fail
      go_quiet (fail)
      go_wp2
      go_roundg (gk - 1)
      · exact ⟨i + 1, by omega, by go_num, Lib.hid (bl_dr HQr.out _), Lib.hid (eq_step HEr.out HAX.out HBI.out HAB.out)⟩
      · omega
    · have HQ : ∀ W, (Op.equalIn 10000 79 (.agg #[.string a.nm, .int .i64 a.num, .bool a.desc]) (.agg #[.string b.nm, .int .i64 b.num, .bool b.desc])).run Tryz.prog W = .ok false W := fun W => by rw [run_eqQK, decide_eq_false hab]
      have HF := Lib.hid (show r = false from by rw [HR3.out, decide_eq_false (show ¬ p.keys = q.keys from fun h => hab (at_eq (by rw [← h]; exact HAX.out) HBI.out))])
      clear hab
      go_wp2_with fail
      go_quiet (fail)
      go_wp2
      go_ret
      exact ⟨ret_bool (by rw [HF.out]), bl_ca HQ03.out (bl_dr HQr.out _)⟩
  · have hi1 : ¬ ((i : Int) < (m : Int)) := by omega
    have hie : i = m := by omega
    have HF := Lib.hid (show r = true from by rw [HR3.out]; exact decide_eq_true (list_ext_lt HLX.out.2 HLY.out.2 (by rw [← hie]; exact HEr.out)))
    clear hie HEr
    go_wp2_with fail
    go_ret
    exact ⟨ret_bool (by rw [HF.out]), bl_ca HQ03.out HQr.out⟩
end Go.Proofs.YtoaggmldekejoaaGreatDoor
/- The program's Print, its small parts. -/
namespace Go.Proofs.YtoaggmldekejoaaGreatDoor
open Go.RowKit
set_option maxRecDepth 100000 in
theorem when_any (z : Bool) (s : ByteArray) (w : World) : Calls Tryz.prog 54 #[.bool z, .string s] w fun e w' => e = .returned (.string (if z then s else ⟨#[]⟩)) ∧ w = w' := by
 cases z
 · go_enter Tryz.func54, Tryz.ntmps54
   go_wp2
   go_ret
   exact ⟨rfl, rfl⟩
 · go_enter Tryz.func54, Tryz.ntmps54
   go_wp2
   go_ret
   exact ⟨rfl, rfl⟩
end Go.Proofs.YtoaggmldekejoaaGreatDoor
