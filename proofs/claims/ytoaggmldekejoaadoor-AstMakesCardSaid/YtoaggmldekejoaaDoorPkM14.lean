/- The reference's Part. Conditions: the nodes read so, a tree that may be. -/
import Derived.Test.YtoaggmldekejoaaDoorPkM13
namespace Go.Proofs.YtoaggmldekejoaaDoor
open Go.RowKit
theorem size_where {xs : List Nd} {t : Tr} (h : treeF cntB xs = some t) {k : Nat} (hk : k < t.size) (f : Nat) (hf : f = xs.length) : sizeF cntB xs f (k + 1) = ((t.sub k).size, (t.sub k).depth) := by
  subst hf
  exact size_at h hk
set_option maxRecDepth 100000 in
set_option maxHeartbeats 16000000 in
theorem rpartn_any (F : Nat → Prop) (xs : List Nd) (A : Option Addr) (n c k : Nat) (w : World) (h : LN.rd w F A n xs) (hn : n ≤ 100000) (hc : n ≤ c) (hc2 : c ≤ 9223372036854775807) (hS : ∀ x ∈ xs, SmP x.p) (hok : okF xs = true) (hk : k < n) :
    Calls Tryd.prog 17 #[.agg #[.slice A n c], .int .i64 (k : Int)] w fun e w' => ∃ A' n' c', e = .returned (.agg #[.slice A' n' c']) ∧ LN.rd w' (fun b => w.heap.size ≤ b) A' n' (partN xs k) ∧ n' ≤ c' ∧ c' ≤ 9223372036854775807 ∧ Below w.heap.size w w' := by
  obtain ⟨t, ht⟩ := okF_ex hok
  have hlen := Lay.rd_len h
  have hkt : k < t.size := by rw [← tree_len ht, hlen]; exact hk
  have HQ1 := Lib.hid (bl_al (bl_al (Below.refl w.heap.size w) (.cells #[.slice A n c] 30)) (.cells #[.slice none 0 0] 30))
  have HB1 := Lib.hid ((Blk.new w 30 #[.slice A n c]).alloc (.cells #[.slice none 0 0] 30))
  have HB2 := Lib.hid (show Blk ((w.alloc (.cells #[.slice A n c] 30)).alloc (.cells #[.slice none 0 0] 30)) (w.heap.size + 1) 30 #[.slice none 0 0] from by
    have := Blk.new (w.alloc (.cells #[.slice A n c] 30)) 30 #[.slice none 0 0]
    rwa [World.size_alloc] at this)
  have HRD := Lib.hid (Lay.rd_below h HQ1.out)
  have HSZ := Lib.hid (rsize_any F xs A n c hn hS n (k + 1) (k : Int) _ (by omega) (by omega) (by omega) HRD.out)
  rw [size_where ht hkt n hlen.symm] at HSZ
  have hsub := t.sub_size k hkt
  have hsp := (t.sub k).size_pos
  have hpt := part_at ht hkt
  have hrng := tree_rng ht
  obtain ⟨z, hz⟩ : ∃ z, z = (t.sub k).size := ⟨_, rfl⟩
  rw [← hz] at HSZ hpt hsub hsp
  obtain ⟨o, ho⟩ : ∃ o, o = k + 1 - z := ⟨_, rfl⟩
  rw [← ho] at hpt
  have HPT := Lib.hid hpt
  have hco : ¬ c = o := by omega
  have hsl : (xs.take (k + 1)).drop o = (xs.drop o).take z := by
    rw [List.drop_take, show k + 1 - o = z from by omega]
  have HSL := Lib.hid (fun w' (q : Below w.heap.size w w') => Lay.rd_cut (Lay.rd_take (Lay.rd_below h q) (show k + 1 ≤ n by omega)) (show o ≤ k + 1 by omega) (show k + 1 ≤ c by omega))
  rw [if_neg hco, hsl, show k + 1 - o = z from by omega] at HSL
  have HRG := Lib.hid (fun (i : Nat) (x : Nd) (hx : ((xs.drop o).take z)[i]? = some x) => hrng x (List.mem_of_mem_drop (List.mem_of_mem_take (List.mem_of_getElem? hx))))
  obtain ⟨ys, hys⟩ : ∃ ys, ys = (xs.drop o).take z := ⟨_, rfl⟩
  rw [← hys] at HPT HSL HRG
  have HYL := Lib.hid (show ys.length = z from by rw [hys, List.length_take, List.length_drop, hlen]; omega)
  obtain ⟨R, hR⟩ : ∃ R, R = partN xs k := ⟨_, rfl⟩
  rw [← hR] at HPT ⊢
  have g1 : (k : Int) + 1 - (z : Int) = (o : Int) := by omega
  have g2 : 0 ≤ (o : Int) := by omega
  have g3' : (o : Int) ≤ (k : Int) + 1 := by omega
  have g4 : (k : Int) + 1 ≤ (c : Int) := by omega
  have g5 : (k : Int) ≤ 100000 := by omega
  have g6 : (z : Int) ≤ 100000 := by omega
  have g7 : (k : Int) + 1 - (o : Int) = (z : Int) := by omega
  have HO := Lib.hid (show o ≤ 100000 from by omega)
  have HKO := Lib.hid (show k + 1 - o = z from by omega)
  clear h hn hc hS hok hk ht hlen hkt hsub hsp hpt hrng hz ho hsl hys hR
  go_enter Tryd.func17, Tryd.ntmps17
  go_upto_region 1 with fail
  generalize (w.alloc (.cells #[.slice A n c] 30)).alloc (.cells #[.slice none 0 0] 30) = w1 at *
  generalize hg2 : w.heap.size + 1 = g2' at *
  have l1 : w.heap.size < g2' := by omega
  have x0 := HB1.out.cell 0
  simp at x0
  clear hg2
  go_wp2_with fail
  refine HSZ.out.mono ?_
  rintro e w2 ⟨rfl, q2⟩
  have HQ2 := Lib.hid (bl_ca HQ1.out q2)
  have HC1 := Lib.hid (HB1.out.ca q2)
  have HC2 := Lib.hid (HB2.out.ca q2)
  clear q2 x0 HSZ
  go_upto_region 4 with fail
  obtain ⟨D, hD⟩ : ∃ D : Int, D = ((t.sub k).depth : Int) := ⟨_, rfl⟩
  rw [← hD]
  clear hD
  have HQ3 := Lib.hid (bl_al HQ2.out (.cells #[.slice none 0 0] 30))
  have HA3 := bl_al (Below.refl w2.heap.size w2) (.cells #[.slice none 0 0] 30)
  have HD1 := Lib.hid (HC1.out.ca HA3)
  have HD2 := Lib.hid (HC2.out.ca HA3)
  have HD3 := Lib.hid (Blk.new w2 30 #[.slice none 0 0])
  have l2 := HC2.out.lt
  obtain ⟨g3, hg3⟩ : ∃ g, g = w2.heap.size := ⟨_, rfl⟩
  rw [← hg3] at HD3 l2 ⊢
  clear hg3
  generalize w2.alloc (.cells #[.slice none 0 0] 30) = w3 at *
  have l3 := HD3.out.lt
  have x0 : w3.cell? ⟨w.heap.size, 0, none⟩ = some (.slice A n c) := HD1.out.cell 0
  clear HA3 HC1 HC2
  go_wp2_with fail
  obtain ⟨A3, hA3⟩ : ∃ A3, A3 = Option.map (fun x : Addr => x.add (o * LN.size)) A := ⟨_, rfl⟩
  rw [← hA3] at HSL
  have hA4 : Option.map (fun x : Addr => x.add (o * 9)) A = A3 := hA3.symm
  clear hA3
  rw [hA4, HKO.out]
  clear hA4
  go_loopg [28] z (fun g a wr => ∃ (i : Nat) (Ao : Option Addr) (no co : Nat), i + g = z ∧ a = .int .i64 (i : Int) ∧ Hid (Blk wr g3 30 #[.slice Ao no co]) ∧ Hid (LN.own 27 wr w3.heap.size (fun _ => False) Ao no co ((ys.take i).map (mv (-(o : Int))))) ∧ Hid (Blk wr g2' 30 #[.slice none 0 0]) ∧ Hid (Below w.heap.size w wr) ∧ Hid (w3.heap.size ≤ wr.heap.size))
  case atStart => exact ⟨0, none, 0, 0, by omega, rfl, HD3, Lib.hid (Lay.own_nil _ _), HD2, HQ3, Lib.hid (Nat.le_refl _)⟩
  case round =>
    obtain ⟨i, Ao, no, co, hig, rfl, HC3, HOO, HC2, HQB, HZ⟩ := hrel
    have hno : no ≤ z := by have h1 := Lay.own_len HOO.out; rw [List.length_map, List.length_take] at h1; omega
    have hnz : no ≤ 100000 := by omega
    have hz1 := HZ.out
    by_cases hlt : i < z
    · have hi1 : (i : Int) < (z : Int) := by omega
      have hi0 : 0 ≤ (i : Int) := by omega
      obtain ⟨p, x, hAe, hx, s1⟩ := LN_at (HSL.out _ HQB.out) hlt
      obtain rfl : A3 = some p := hAe
      have e0 := s1.c0
      have e1 := s1.c1
      have e2 := s1.c2
      have e3 := s1.c3
      have e4 := s1.c4
      have e5 := s1.c5
      have e6 := s1.c6
      have e7 := s1.c7
      have e8 := s1.c8
      have HX := Lib.hid hx
      have HR9 := Lib.hid (HRG.out i x hx)
      have HBN := Lib.hid (Blk.new wr 27 (Nd.cells x))
      have HQ4 := Lib.hid (bl_al (Below.refl wr.heap.size wr) (.cells (Nd.cells x) 27))
      clear hx s1
      go_upto_region 7 with fail
      clear e0 e1 e2 e3 e4 e5 e6 e7 e8
      generalize wr.alloc (.cells #[.int .i64 x.p.tag, .int .i64 x.l, .int .i64 x.r, .int .i64 x.p.k, .int .i64 x.p.n, .int .u64 x.p.u, .string x.p.s, .string x.p.tb, .string x.p.nm] 27) = w4 at *
      have r1 : w4.cell? ⟨wr.heap.size, 1, none⟩ = some (.int .i64 x.l) := HBN.out.cell 1
      have r1z := HBN.out.frozen 1
      have hll : x.l ≤ 300 := HR9.out.1
      have ho1 := HO.out
      by_cases hl : 0 ≤ x.l
      · go_upto_region 9 with fail
        have HB5 := Lib.hid (show Blk (w4.setCell ⟨wr.heap.size, 1, none⟩ (.int .i64 (x.l - (o : Int)))) wr.heap.size 27 (Nd.cells ⟨x.p, x.l - (o : Int), x.r⟩) from HBN.out.set_ 1 _)
        have HG5 := Lib.hid (show w4.grownBy (w4.setCell ⟨wr.heap.size, 1, none⟩ (.int .i64 (x.l - (o : Int)))) (some wr.heap.size) from only_setCell (p := ⟨wr.heap.size, 1, none⟩) (World.grownBy.refl w4 _) (.inl rfl) _)
        generalize w4.setCell ⟨wr.heap.size, 1, none⟩ (.int .i64 (x.l - (o : Int))) = w5 at *
        obtain ⟨x1, hx1⟩ : ∃ x1, x1 = (⟨x.p, x.l - (o : Int), x.r⟩ : Nd) := ⟨_, rfl⟩
        have HX1 := Lib.hid (show x1.p = x.p ∧ x1.l = (if 0 ≤ x.l then x.l + -(o : Int) else x.l) ∧ x1.r = x.r from by rw [hx1, if_pos hl]; exact ⟨rfl, rfl, rfl⟩)
        rw [← hx1] at HB5
        clear hx1 r1 r1z hl hll
        have r2 : w5.cell? ⟨wr.heap.size, 2, none⟩ = some (.int .i64 x1.r) := HB5.out.cell 2
        have r2z := HB5.out.frozen 2
        have hrr : x1.r ≤ 300 := by rw [HX1.out.2.2]; exact HR9.out.2
        by_cases hr : 0 ≤ x1.r
        · have HMV := Lib.hid (show mv (-(o : Int)) x = ⟨x1.p, x1.l, x1.r - (o : Int)⟩ from by
            have h9 := hr
            rw [HX1.out.2.2] at h9
            unfold mv
            rw [if_pos h9, ← HX1.out.2.1, ← HX1.out.1, ← HX1.out.2.2]; rfl)
          go_upto_region 11 with fail
          have HB8 := Lib.hid (show Blk (w5.setCell ⟨wr.heap.size, 2, none⟩ (.int .i64 (x1.r - (o : Int)))) wr.heap.size 27 (Nd.cells ⟨x1.p, x1.l, x1.r - (o : Int)⟩) from HB5.out.set_ 2 _)
          have HG8 := Lib.hid (show w4.grownBy (w5.setCell ⟨wr.heap.size, 2, none⟩ (.int .i64 (x1.r - (o : Int)))) (some wr.heap.size) from only_setCell (p := ⟨wr.heap.size, 2, none⟩) HG5.out (.inl rfl) _)
          generalize w5.setCell ⟨wr.heap.size, 2, none⟩ (.int .i64 (x1.r - (o : Int))) = w6 at *
          obtain ⟨y, hy⟩ : ∃ y, y = (⟨x1.p, x1.l, x1.r - (o : Int)⟩ : Nd) := ⟨_, rfl⟩
          rw [← hy] at HB8 HMV
          clear hy r2 r2z
          have HST := Lib.hid (show (ys.take (i + 1)).map (mv (-(o : Int))) = (ys.take i).map (mv (-(o : Int))) ++ [y] from by
            rw [List.take_add_one, HX.out, List.map_append]
            show _ ++ [mv (-(o : Int)) x] = _
            rw [show mv (-(o : Int)) x = y from HMV.out])
          have HY3 := Lib.hid ((HC3.out.ca HQ4.out).apart HG8.out (by omega))
          have HY2 := Lib.hid ((HC2.out.ca HQ4.out).apart HG8.out (by omega))
          have HYO := Lib.hid (own_via HOO.out HQ4.out HG8.out (Nat.le_refl _))
          have HYQ := Lib.hid ((bl_ca HQB.out HQ4.out).grown HG8.out (bl_ca HQB.out HQ4.out).size (fun k e => by injection e with e; have := HQB.out.size; omega))
          have hz3 := HG8.out.size
          have hz2 := HQ4.out.size
          have r0 := HB8.out.cell 0
          have r1 := HB8.out.cell 1
          have r2 := HB8.out.cell 2
          have r3 := HB8.out.cell 3
          have r4 := HB8.out.cell 4
          have r5 := HB8.out.cell 5
          have r6 := HB8.out.cell 6
          have r7 := HB8.out.cell 7
          have r8 := HB8.out.cell 8
          have x3 : w6.cell? ⟨g3, 0, none⟩ = some (.slice Ao no co) := HY3.out.cell 0
          simp at r0 r1 r2 r3 r4 r5 r6 r7 r8
          have HBZ := Lib.hid (Blk.new w6 27 (Nd.cells y))
          have HQZ := Lib.hid (bl_al (Below.refl w6.heap.size w6) (.cells (Nd.cells y) 27))
          have HOZ := Lib.hid (Lay.own_below HYO.out HQZ.out)
          have hzy := HQZ.out.size
          have hzz : w3.heap.size ≤ w6.heap.size := by omega
          have HDZ := Lib.hid (HY3.out.ca HQZ.out)
          have HDZ2 := Lib.hid (HY2.out.ca HQZ.out)
          have HZQ := Lib.hid (bl_ca HYQ.out HQZ.out)
          go_wp2_with (at_builtin; refine wpList_appG (L := LN) (e := 27) rfl (.tmp 49) (.tmp 51) 28 rfl (.agg #[.int .i64 0, .int .i64 0, .int .i64 0, .int .i64 0, .int .i64 0, .int .u64 0, .string ⟨#[]⟩, .string ⟨#[]⟩, .string ⟨#[]⟩]) 9 96 Tryd.underlying28 infoN rfl rfl (by decide) w3.heap.size (fun _ => False) Ao no co ((ys.take i).map (mv (-(o : Int)))) w6.heap.size 1 27 (Nd.cells y) y rfl rfl rfl HOZ.out HBZ.out rfl (fun b h => h.elim) (by omega) (by unfold maxLen; omega) (Nat.le_trans hzz hzy) ?_; intro A9 c9 w9 o9 g9 k9; have HO9 := Lib.hid o9; have HG9 := Lib.hid g9; have HN3 := Lib.hid (show Blk w9 g3 30 #[.slice Ao no co] from (g9.block g3 HDZ.out.lt (fun e => by have := (Lay.own_base HOZ.out g3 e.symm).1; omega)).trans HDZ.out); have n6 : w9.cell? ⟨g3, 0, none⟩ = some (.slice Ao no co) := HN3.out.cell 0; have n7 := HN3.out.frozen 0; clear o9 g9 k9)
          have hgr9 : w9.grownBy (w9.setCell ⟨g3, 0, none⟩ (.slice A9 (no + 1) c9)) (some g3) := only_setCell (p := ⟨g3, 0, none⟩) (World.grownBy.refl w9 _) (.inl rfl) _
          have q3 : Blk (w9.setCell ⟨g3, 0, none⟩ (.slice A9 (no + 1) c9)) g3 30 #[.slice A9 (no + 1) c9] := HN3.out.set_ 0 _
          have q2 : Blk (w9.setCell ⟨g3, 0, none⟩ (.slice A9 (no + 1) c9)) g2' 30 #[.slice none 0 0] := Blk.apart (show Blk w9 g2' 30 #[.slice none 0 0] from (HG9.out.block g2' HDZ2.out.lt (fun e => by have := (Lay.own_base HOZ.out g2' e.symm).1; omega)).trans HDZ2.out) hgr9 (by omega)
          have q9 := Lay.own_same (w' := w9.setCell ⟨g3, 0, none⟩ (.slice A9 (no + 1) c9)) HO9.out (fun k hk => Below.heap_setCell _ _ _ _ (by have := (Lay.own_base HO9.out k hk).1; show k ≠ g3; omega)) (fun _ h => h.elim)
          have qb : Below w.heap.size w (w9.setCell ⟨g3, 0, none⟩ (.slice A9 (no + 1) c9)) := bl_set (HZQ.out.grown HG9.out HZQ.out.size (fun k e => by have := (Lay.own_base HOZ.out k e).1; omega)) (p := ⟨g3, 0, none⟩) (by show _ ≤ g3; omega) _
          have qz : w3.heap.size ≤ (w9.setCell ⟨g3, 0, none⟩ (.slice A9 (no + 1) c9)).heap.size := Nat.le_trans (Nat.le_trans hzz hzy) (Nat.le_trans HG9.out.size hgr9.size)
          rw [← HST.out] at q9
          clear hgr9 r0 r1 r2 r3 r4 r5 r6 r7 r8 x3 n6 n7
          have HP3 := Lib.hid q3
          have HP2 := Lib.hid q2
          have HP9 := Lib.hid q9
          have HPB := Lib.hid qb
          have HPZ := Lib.hid qz
          clear q3 q2 q9 qb qz
          generalize w9.setCell ⟨g3, 0, none⟩ (.slice A9 (no + 1) c9) = w10 at *
          go_roundg (gk - 1)
          · exact ⟨i + 1, A9, no + 1, c9, by omega, by go_num, HP3, HP9, HP2, HPB, HPZ⟩
          · omega
        · have HMV := Lib.hid (show mv (-(o : Int)) x = x1 from by
            have h9 := hr
            rw [HX1.out.2.2] at h9
            unfold mv
            rw [if_neg h9, ← HX1.out.2.1, ← HX1.out.1, ← HX1.out.2.2])
          have hr1 : x1.r < 0 := by omega
          clear hr
          go_upto_region 11 with fail
          have HB8 := HB5
          have HG8 := HG5
          obtain ⟨y, hy⟩ : ∃ y, y = x1 := ⟨_, rfl⟩
          obtain ⟨w6, hw6⟩ : ∃ w6, w6 = w5 := ⟨_, rfl⟩
          rw [← hy] at HB8 HMV
          rw [← hw6] at HB8 HG8 ⊢
          clear hy hw6 r2 r2z
          have HST := Lib.hid (show (ys.take (i + 1)).map (mv (-(o : Int))) = (ys.take i).map (mv (-(o : Int))) ++ [y] from by
            rw [List.take_add_one, HX.out, List.map_append]
            show _ ++ [mv (-(o : Int)) x] = _
            rw [show mv (-(o : Int)) x = y from HMV.out])
          have HY3 := Lib.hid ((HC3.out.ca HQ4.out).apart HG8.out (by omega))
          have HY2 := Lib.hid ((HC2.out.ca HQ4.out).apart HG8.out (by omega))
          have HYO := Lib.hid (own_via HOO.out HQ4.out HG8.out (Nat.le_refl _))
          have HYQ := Lib.hid ((bl_ca HQB.out HQ4.out).grown HG8.out (bl_ca HQB.out HQ4.out).size (fun k e => by injection e with e; have := HQB.out.size; omega))
          have hz3 := HG8.out.size
          have hz2 := HQ4.out.size
          have r0 := HB8.out.cell 0
          have r1 := HB8.out.cell 1
          have r2 := HB8.out.cell 2
          have r3 := HB8.out.cell 3
          have r4 := HB8.out.cell 4
          have r5 := HB8.out.cell 5
          have r6 := HB8.out.cell 6
          have r7 := HB8.out.cell 7
          have r8 := HB8.out.cell 8
          have x3 : w6.cell? ⟨g3, 0, none⟩ = some (.slice Ao no co) := HY3.out.cell 0
          simp at r0 r1 r2 r3 r4 r5 r6 r7 r8
          have HBZ := Lib.hid (Blk.new w6 27 (Nd.cells y))
          have HQZ := Lib.hid (bl_al (Below.refl w6.heap.size w6) (.cells (Nd.cells y) 27))
          have HOZ := Lib.hid (Lay.own_below HYO.out HQZ.out)
          have hzy := HQZ.out.size
          have hzz : w3.heap.size ≤ w6.heap.size := by omega
          have HDZ := Lib.hid (HY3.out.ca HQZ.out)
          have HDZ2 := Lib.hid (HY2.out.ca HQZ.out)
          have HZQ := Lib.hid (bl_ca HYQ.out HQZ.out)
          go_wp2_with (at_builtin; refine wpList_appG (L := LN) (e := 27) rfl (.tmp 49) (.tmp 51) 28 rfl (.agg #[.int .i64 0, .int .i64 0, .int .i64 0, .int .i64 0, .int .i64 0, .int .u64 0, .string ⟨#[]⟩, .string ⟨#[]⟩, .string ⟨#[]⟩]) 9 96 Tryd.underlying28 infoN rfl rfl (by decide) w3.heap.size (fun _ => False) Ao no co ((ys.take i).map (mv (-(o : Int)))) w6.heap.size 1 27 (Nd.cells y) y rfl rfl rfl HOZ.out HBZ.out rfl (fun b h => h.elim) (by omega) (by unfold maxLen; omega) (Nat.le_trans hzz hzy) ?_; intro A9 c9 w9 o9 g9 k9; have HO9 := Lib.hid o9; have HG9 := Lib.hid g9; have HN3 := Lib.hid (show Blk w9 g3 30 #[.slice Ao no co] from (g9.block g3 HDZ.out.lt (fun e => by have := (Lay.own_base HOZ.out g3 e.symm).1; omega)).trans HDZ.out); have n6 : w9.cell? ⟨g3, 0, none⟩ = some (.slice Ao no co) := HN3.out.cell 0; have n7 := HN3.out.frozen 0; clear o9 g9 k9)
          have hgr9 : w9.grownBy (w9.setCell ⟨g3, 0, none⟩ (.slice A9 (no + 1) c9)) (some g3) := only_setCell (p := ⟨g3, 0, none⟩) (World.grownBy.refl w9 _) (.inl rfl) _
          have q3 : Blk (w9.setCell ⟨g3, 0, none⟩ (.slice A9 (no + 1) c9)) g3 30 #[.slice A9 (no + 1) c9] := HN3.out.set_ 0 _
          have q2 : Blk (w9.setCell ⟨g3, 0, none⟩ (.slice A9 (no + 1) c9)) g2' 30 #[.slice none 0 0] := Blk.apart (show Blk w9 g2' 30 #[.slice none 0 0] from (HG9.out.block g2' HDZ2.out.lt (fun e => by have := (Lay.own_base HOZ.out g2' e.symm).1; omega)).trans HDZ2.out) hgr9 (by omega)
          have q9 := Lay.own_same (w' := w9.setCell ⟨g3, 0, none⟩ (.slice A9 (no + 1) c9)) HO9.out (fun k hk => Below.heap_setCell _ _ _ _ (by have := (Lay.own_base HO9.out k hk).1; show k ≠ g3; omega)) (fun _ h => h.elim)
          have qb : Below w.heap.size w (w9.setCell ⟨g3, 0, none⟩ (.slice A9 (no + 1) c9)) := bl_set (HZQ.out.grown HG9.out HZQ.out.size (fun k e => by have := (Lay.own_base HOZ.out k e).1; omega)) (p := ⟨g3, 0, none⟩) (by show _ ≤ g3; omega) _
          have qz : w3.heap.size ≤ (w9.setCell ⟨g3, 0, none⟩ (.slice A9 (no + 1) c9)).heap.size := Nat.le_trans (Nat.le_trans hzz hzy) (Nat.le_trans HG9.out.size hgr9.size)
          rw [← HST.out] at q9
          clear hgr9 r0 r1 r2 r3 r4 r5 r6 r7 r8 x3 n6 n7
          have HP3 := Lib.hid q3
          have HP2 := Lib.hid q2
          have HP9 := Lib.hid q9
          have HPB := Lib.hid qb
          have HPZ := Lib.hid qz
          clear q3 q2 q9 qb qz
          generalize w9.setCell ⟨g3, 0, none⟩ (.slice A9 (no + 1) c9) = w10 at *
          go_roundg (gk - 1)
          · exact ⟨i + 1, A9, no + 1, c9, by omega, by go_num, HP3, HP9, HP2, HPB, HPZ⟩
          · omega
      · have hl1 : x.l < 0 := by omega
        have HX1 := Lib.hid (show x.p = x.p ∧ x.l = (if 0 ≤ x.l then x.l + -(o : Int) else x.l) ∧ x.r = x.r from by rw [if_neg hl]; exact ⟨rfl, rfl, rfl⟩)
        clear hl
        go_upto_region 9 with fail
        have HB5 := HBN
        have HG5 := Lib.hid (World.grownBy.refl w4 (some wr.heap.size))
        obtain ⟨w5, hw5⟩ : ∃ w5, w5 = w4 := ⟨_, rfl⟩
        rw [← hw5] at HB5 ⊢
        have HG5 : Hid (w4.grownBy w5 (some wr.heap.size)) := by rw [hw5]; exact HG5
        obtain ⟨x1, hx1⟩ : ∃ x1, x1 = x := ⟨_, rfl⟩
        have HX1 : Hid (x1.p = x.p ∧ x1.l = (if 0 ≤ x.l then x.l + -(o : Int) else x.l) ∧ x1.r = x.r) := by rw [hx1]; exact HX1
        rw [← hx1] at HB5
        clear hx1 hw5 r1 r1z hll
        have r2 : w5.cell? ⟨wr.heap.size, 2, none⟩ = some (.int .i64 x1.r) := HB5.out.cell 2
        have r2z := HB5.out.frozen 2
        have hrr : x1.r ≤ 300 := by rw [HX1.out.2.2]; exact HR9.out.2
        by_cases hr : 0 ≤ x1.r
        · have HMV := Lib.hid (show mv (-(o : Int)) x = ⟨x1.p, x1.l, x1.r - (o : Int)⟩ from by
            have h9 := hr
            rw [HX1.out.2.2] at h9
            unfold mv
            rw [if_pos h9, ← HX1.out.2.1, ← HX1.out.1, ← HX1.out.2.2]; rfl)
          go_upto_region 11 with fail
          have HB8 := Lib.hid (show Blk (w5.setCell ⟨wr.heap.size, 2, none⟩ (.int .i64 (x1.r - (o : Int)))) wr.heap.size 27 (Nd.cells ⟨x1.p, x1.l, x1.r - (o : Int)⟩) from HB5.out.set_ 2 _)
          have HG8 := Lib.hid (show w4.grownBy (w5.setCell ⟨wr.heap.size, 2, none⟩ (.int .i64 (x1.r - (o : Int)))) (some wr.heap.size) from only_setCell (p := ⟨wr.heap.size, 2, none⟩) HG5.out (.inl rfl) _)
          generalize w5.setCell ⟨wr.heap.size, 2, none⟩ (.int .i64 (x1.r - (o : Int))) = w6 at *
          obtain ⟨y, hy⟩ : ∃ y, y = (⟨x1.p, x1.l, x1.r - (o : Int)⟩ : Nd) := ⟨_, rfl⟩
          rw [← hy] at HB8 HMV
          clear hy r2 r2z
          have HST := Lib.hid (show (ys.take (i + 1)).map (mv (-(o : Int))) = (ys.take i).map (mv (-(o : Int))) ++ [y] from by
            rw [List.take_add_one, HX.out, List.map_append]
            show _ ++ [mv (-(o : Int)) x] = _
            rw [show mv (-(o : Int)) x = y from HMV.out])
          have HY3 := Lib.hid ((HC3.out.ca HQ4.out).apart HG8.out (by omega))
          have HY2 := Lib.hid ((HC2.out.ca HQ4.out).apart HG8.out (by omega))
          have HYO := Lib.hid (own_via HOO.out HQ4.out HG8.out (Nat.le_refl _))
          have HYQ := Lib.hid ((bl_ca HQB.out HQ4.out).grown HG8.out (bl_ca HQB.out HQ4.out).size (fun k e => by injection e with e; have := HQB.out.size; omega))
          have hz3 := HG8.out.size
          have hz2 := HQ4.out.size
          have r0 := HB8.out.cell 0
          have r1 := HB8.out.cell 1
          have r2 := HB8.out.cell 2
          have r3 := HB8.out.cell 3
          have r4 := HB8.out.cell 4
          have r5 := HB8.out.cell 5
          have r6 := HB8.out.cell 6
          have r7 := HB8.out.cell 7
          have r8 := HB8.out.cell 8
          have x3 : w6.cell? ⟨g3, 0, none⟩ = some (.slice Ao no co) := HY3.out.cell 0
          simp at r0 r1 r2 r3 r4 r5 r6 r7 r8
          have HBZ := Lib.hid (Blk.new w6 27 (Nd.cells y))
          have HQZ := Lib.hid (bl_al (Below.refl w6.heap.size w6) (.cells (Nd.cells y) 27))
          have HOZ := Lib.hid (Lay.own_below HYO.out HQZ.out)
          have hzy := HQZ.out.size
          have hzz : w3.heap.size ≤ w6.heap.size := by omega
          have HDZ := Lib.hid (HY3.out.ca HQZ.out)
          have HDZ2 := Lib.hid (HY2.out.ca HQZ.out)
          have HZQ := Lib.hid (bl_ca HYQ.out HQZ.out)
          go_wp2_with (at_builtin; refine wpList_appG (L := LN) (e := 27) rfl (.tmp 49) (.tmp 51) 28 rfl (.agg #[.int .i64 0, .int .i64 0, .int .i64 0, .int .i64 0, .int .i64 0, .int .u64 0, .string ⟨#[]⟩, .string ⟨#[]⟩, .string ⟨#[]⟩]) 9 96 Tryd.underlying28 infoN rfl rfl (by decide) w3.heap.size (fun _ => False) Ao no co ((ys.take i).map (mv (-(o : Int)))) w6.heap.size 1 27 (Nd.cells y) y rfl rfl rfl HOZ.out HBZ.out rfl (fun b h => h.elim) (by omega) (by unfold maxLen; omega) (Nat.le_trans hzz hzy) ?_; intro A9 c9 w9 o9 g9 k9; have HO9 := Lib.hid o9; have HG9 := Lib.hid g9; have HN3 := Lib.hid (show Blk w9 g3 30 #[.slice Ao no co] from (g9.block g3 HDZ.out.lt (fun e => by have := (Lay.own_base HOZ.out g3 e.symm).1; omega)).trans HDZ.out); have n6 : w9.cell? ⟨g3, 0, none⟩ = some (.slice Ao no co) := HN3.out.cell 0; have n7 := HN3.out.frozen 0; clear o9 g9 k9)
          have hgr9 : w9.grownBy (w9.setCell ⟨g3, 0, none⟩ (.slice A9 (no + 1) c9)) (some g3) := only_setCell (p := ⟨g3, 0, none⟩) (World.grownBy.refl w9 _) (.inl rfl) _
          have q3 : Blk (w9.setCell ⟨g3, 0, none⟩ (.slice A9 (no + 1) c9)) g3 30 #[.slice A9 (no + 1) c9] := HN3.out.set_ 0 _
          have q2 : Blk (w9.setCell ⟨g3, 0, none⟩ (.slice A9 (no + 1) c9)) g2' 30 #[.slice none 0 0] := Blk.apart (show Blk w9 g2' 30 #[.slice none 0 0] from (HG9.out.block g2' HDZ2.out.lt (fun e => by have := (Lay.own_base HOZ.out g2' e.symm).1; omega)).trans HDZ2.out) hgr9 (by omega)
          have q9 := Lay.own_same (w' := w9.setCell ⟨g3, 0, none⟩ (.slice A9 (no + 1) c9)) HO9.out (fun k hk => Below.heap_setCell _ _ _ _ (by have := (Lay.own_base HO9.out k hk).1; show k ≠ g3; omega)) (fun _ h => h.elim)
          have qb : Below w.heap.size w (w9.setCell ⟨g3, 0, none⟩ (.slice A9 (no + 1) c9)) := bl_set (HZQ.out.grown HG9.out HZQ.out.size (fun k e => by have := (Lay.own_base HOZ.out k e).1; omega)) (p := ⟨g3, 0, none⟩) (by show _ ≤ g3; omega) _
          have qz : w3.heap.size ≤ (w9.setCell ⟨g3, 0, none⟩ (.slice A9 (no + 1) c9)).heap.size := Nat.le_trans (Nat.le_trans hzz hzy) (Nat.le_trans HG9.out.size hgr9.size)
          rw [← HST.out] at q9
          clear hgr9 r0 r1 r2 r3 r4 r5 r6 r7 r8 x3 n6 n7
          have HP3 := Lib.hid q3
          have HP2 := Lib.hid q2
          have HP9 := Lib.hid q9
          have HPB := Lib.hid qb
          have HPZ := Lib.hid qz
          clear q3 q2 q9 qb qz
          generalize w9.setCell ⟨g3, 0, none⟩ (.slice A9 (no + 1) c9) = w10 at *
          go_roundg (gk - 1)
          · exact ⟨i + 1, A9, no + 1, c9, by omega, by go_num, HP3, HP9, HP2, HPB, HPZ⟩
          · omega
        · have HMV := Lib.hid (show mv (-(o : Int)) x = x1 from by
            have h9 := hr
            rw [HX1.out.2.2] at h9
            unfold mv
            rw [if_neg h9, ← HX1.out.2.1, ← HX1.out.1, ← HX1.out.2.2])
          have hr1 : x1.r < 0 := by omega
          clear hr
          go_upto_region 11 with fail
          have HB8 := HB5
          have HG8 := HG5
          obtain ⟨y, hy⟩ : ∃ y, y = x1 := ⟨_, rfl⟩
          obtain ⟨w6, hw6⟩ : ∃ w6, w6 = w5 := ⟨_, rfl⟩
          rw [← hy] at HB8 HMV
          rw [← hw6] at HB8 HG8 ⊢
          clear hy hw6 r2 r2z
          have HST := Lib.hid (show (ys.take (i + 1)).map (mv (-(o : Int))) = (ys.take i).map (mv (-(o : Int))) ++ [y] from by
            rw [List.take_add_one, HX.out, List.map_append]
            show _ ++ [mv (-(o : Int)) x] = _
            rw [show mv (-(o : Int)) x = y from HMV.out])
          have HY3 := Lib.hid ((HC3.out.ca HQ4.out).apart HG8.out (by omega))
          have HY2 := Lib.hid ((HC2.out.ca HQ4.out).apart HG8.out (by omega))
          have HYO := Lib.hid (own_via HOO.out HQ4.out HG8.out (Nat.le_refl _))
          have HYQ := Lib.hid ((bl_ca HQB.out HQ4.out).grown HG8.out (bl_ca HQB.out HQ4.out).size (fun k e => by injection e with e; have := HQB.out.size; omega))
          have hz3 := HG8.out.size
          have hz2 := HQ4.out.size
          have r0 := HB8.out.cell 0
          have r1 := HB8.out.cell 1
          have r2 := HB8.out.cell 2
          have r3 := HB8.out.cell 3
          have r4 := HB8.out.cell 4
          have r5 := HB8.out.cell 5
          have r6 := HB8.out.cell 6
          have r7 := HB8.out.cell 7
          have r8 := HB8.out.cell 8
          have x3 : w6.cell? ⟨g3, 0, none⟩ = some (.slice Ao no co) := HY3.out.cell 0
          simp at r0 r1 r2 r3 r4 r5 r6 r7 r8
          have HBZ := Lib.hid (Blk.new w6 27 (Nd.cells y))
          have HQZ := Lib.hid (bl_al (Below.refl w6.heap.size w6) (.cells (Nd.cells y) 27))
          have HOZ := Lib.hid (Lay.own_below HYO.out HQZ.out)
          have hzy := HQZ.out.size
          have hzz : w3.heap.size ≤ w6.heap.size := by omega
          have HDZ := Lib.hid (HY3.out.ca HQZ.out)
          have HDZ2 := Lib.hid (HY2.out.ca HQZ.out)
          have HZQ := Lib.hid (bl_ca HYQ.out HQZ.out)
          go_wp2_with (at_builtin; refine wpList_appG (L := LN) (e := 27) rfl (.tmp 49) (.tmp 51) 28 rfl (.agg #[.int .i64 0, .int .i64 0, .int .i64 0, .int .i64 0, .int .i64 0, .int .u64 0, .string ⟨#[]⟩, .string ⟨#[]⟩, .string ⟨#[]⟩]) 9 96 Tryd.underlying28 infoN rfl rfl (by decide) w3.heap.size (fun _ => False) Ao no co ((ys.take i).map (mv (-(o : Int)))) w6.heap.size 1 27 (Nd.cells y) y rfl rfl rfl HOZ.out HBZ.out rfl (fun b h => h.elim) (by omega) (by unfold maxLen; omega) (Nat.le_trans hzz hzy) ?_; intro A9 c9 w9 o9 g9 k9; have HO9 := Lib.hid o9; have HG9 := Lib.hid g9; have HN3 := Lib.hid (show Blk w9 g3 30 #[.slice Ao no co] from (g9.block g3 HDZ.out.lt (fun e => by have := (Lay.own_base HOZ.out g3 e.symm).1; omega)).trans HDZ.out); have n6 : w9.cell? ⟨g3, 0, none⟩ = some (.slice Ao no co) := HN3.out.cell 0; have n7 := HN3.out.frozen 0; clear o9 g9 k9)
          have hgr9 : w9.grownBy (w9.setCell ⟨g3, 0, none⟩ (.slice A9 (no + 1) c9)) (some g3) := only_setCell (p := ⟨g3, 0, none⟩) (World.grownBy.refl w9 _) (.inl rfl) _
          have q3 : Blk (w9.setCell ⟨g3, 0, none⟩ (.slice A9 (no + 1) c9)) g3 30 #[.slice A9 (no + 1) c9] := HN3.out.set_ 0 _
          have q2 : Blk (w9.setCell ⟨g3, 0, none⟩ (.slice A9 (no + 1) c9)) g2' 30 #[.slice none 0 0] := Blk.apart (show Blk w9 g2' 30 #[.slice none 0 0] from (HG9.out.block g2' HDZ2.out.lt (fun e => by have := (Lay.own_base HOZ.out g2' e.symm).1; omega)).trans HDZ2.out) hgr9 (by omega)
          have q9 := Lay.own_same (w' := w9.setCell ⟨g3, 0, none⟩ (.slice A9 (no + 1) c9)) HO9.out (fun k hk => Below.heap_setCell _ _ _ _ (by have := (Lay.own_base HO9.out k hk).1; show k ≠ g3; omega)) (fun _ h => h.elim)
          have qb : Below w.heap.size w (w9.setCell ⟨g3, 0, none⟩ (.slice A9 (no + 1) c9)) := bl_set (HZQ.out.grown HG9.out HZQ.out.size (fun k e => by have := (Lay.own_base HOZ.out k e).1; omega)) (p := ⟨g3, 0, none⟩) (by show _ ≤ g3; omega) _
          have qz : w3.heap.size ≤ (w9.setCell ⟨g3, 0, none⟩ (.slice A9 (no + 1) c9)).heap.size := Nat.le_trans (Nat.le_trans hzz hzy) (Nat.le_trans HG9.out.size hgr9.size)
          rw [← HST.out] at q9
          clear hgr9 r0 r1 r2 r3 r4 r5 r6 r7 r8 x3 n6 n7
          have HP3 := Lib.hid q3
          have HP2 := Lib.hid q2
          have HP9 := Lib.hid q9
          have HPB := Lib.hid qb
          have HPZ := Lib.hid qz
          clear q3 q2 q9 qb qz
          generalize w9.setCell ⟨g3, 0, none⟩ (.slice A9 (no + 1) c9) = w10 at *
          go_roundg (gk - 1)
          · exact ⟨i + 1, A9, no + 1, c9, by omega, by go_num, HP3, HP9, HP2, HPB, HPZ⟩
          · omega
    · obtain rfl : i = z := by omega
      have hi1 : (i : Int) ≤ (i : Int) := by omega
      have HT := Lib.hid (show (ys.take i).map (mv (-(o : Int))) = R from by rw [List.take_of_length_le (by rw [HYL.out]; exact Nat.le_refl _)]; exact HPT.out)
      rw [HT.out] at HOO
      have hcap := Lay.own_caps HOO.out
      have x3 : wr.cell? ⟨g3, 0, none⟩ = some (.slice Ao no co) := HC3.out.cell 0
      have y0 : wr.cell? ⟨g2', 0, none⟩ = some (.slice none 0 0) := HC2.out.cell 0
      have y1 := HC2.out.frozen 0
      have HZW := HQ3.out.size
      go_wp2
      exact bodyPost_ret (res1 Tryd.results17 rfl (HC2.out.set_ 0 (.slice Ao no co)) Tryd.underlying30 rfl treeI) rfl ⟨Ao, no, co, rfl, Lay.rd_weak (fun b hb _ => Nat.le_trans HZW hb) (Lay.rd_keep (fun b hb _ => Below.heap_setCell _ _ _ _ (by have h7 : w3.heap.size ≤ b := hb; show b ≠ g2'; omega)) (Lay.own_rd2 (F := fun b => w3.heap.size ≤ b) HOO.out (fun b e => (Lay.own_base HOO.out b e).1) (fun b h _ => h.elim))), hcap.1, hcap.2, bl_set HQB.out (p := ⟨g2', 0, none⟩) (by show _ ≤ g2'; omega) _⟩
end Go.Proofs.YtoaggmldekejoaaDoor
/- What the law's wakes comes to, in plain Lean. Conditions: none. -/
namespace Go.Proofs.YtoaggmldekejoaaDoor
def p1 : Py := ⟨1, 2, 1, 0, eB, eB, eB⟩
def pA (b : UInt8) : Py := ⟨2, 0, 0, 0, eB, eB, bS [b]⟩
def N1 : List Nd := [⟨p1, -1, -1⟩]
def NA (b : UInt8) : List Nd := [⟨pA b, -1, -1⟩]
def N2 : List Nd := [⟨pA 97, -1, -1⟩, ⟨p1, -1, -1⟩, ⟨zP 12, 0, 1⟩]
def N3 : List Nd := [⟨pA 97, -1, -1⟩, ⟨p1, -1, -1⟩, ⟨zP 12, 0, 1⟩, ⟨pA 98, -1, -1⟩, ⟨zP 16, 2, 3⟩]
def T3 : Tr := .two (zP 16) (.two (zP 12) (.leaf (pA 97)) (.leaf p1)) (.leaf (pA 98))
theorem w1E : madeE p1 [] = 0 := by decide +kernel
theorem w1R : madeR p1 [] = N1 := by decide +kernel
theorem w2E : madeE (zP 12) [NA 97, N1] = 0 := by decide +kernel
theorem w2R : madeR (zP 12) [NA 97, N1] = N2 := by decide +kernel
theorem w3E : madeE (zP 16) [N2, NA 98] = 0 := by decide +kernel
theorem w3R : madeR (zP 16) [N2, NA 98] = N3 := by decide +kernel
theorem w3T : treeF cntB N3 = some T3 := rfl
theorem w3O : okF N3 = true := okF_of w3T
theorem w3D : depF N3 = 3 := by rw [depF_of w3T]; rfl
theorem w3P : prT T3 = [40, 97, 32, 43, 32, 49, 41, 32, 61, 32, 98] := by
  have h1 : Lib.decDigits 1 = [49] := by rw [Lib.decDigits]; rfl
  have h2 : leafU p1 = [49] := by
    show Lib.decDigits (1 : Int).toNat = [49]
    exact h1
  unfold T3
  rw [pr_two, par_bare (show bareT (.leaf (pA 98)) = true from rfl), par_not (show bareT (.two (zP 12) (.leaf (pA 97)) (.leaf p1)) = false from rfl), pr_two, par_bare (show bareT (.leaf (pA 97)) = true from rfl), par_bare (show bareT (.leaf p1) = true from rfl), pr_leaf, pr_leaf, pr_leaf, h2]
  rfl
end Go.Proofs.YtoaggmldekejoaaDoor
/- Regions that draw, with a variable made beside two calls. Conditions: none. -/
namespace Go.Proofs.YtoaggmldekejoaaDoor
open Go.RowKit
def WtA (B : Option Nat → Nat → (Nat → Value) → World → Prop) : Array Bool → (Nat → Value) → World → Prop := fun L m w =>
  ∃ al : Option Nat, (Dn L 6 = true → ∃ g, al = some g ∧ m 6 = .pointer (some ⟨g, 0, none⟩)) ∧ (Dn L 6 = false → al = none) ∧ SeqN [0, 2, 7] (B al) L m w
section
variable {B : Option Nat → Nat → (Nat → Value) → World → Prop} {L : Array Bool} {m m' : Nat → Value} {w w' : World}
theorem WtA.start {n : Nat} (hn : 7 < n) (h : B none 0 m w) : WtA B (Array.replicate n false) m w := by
  refine ⟨none, fun e => ?_, fun _ => rfl, SeqN.start (by simp; omega) h⟩
  unfold Dn at e
  rw [Array.getD_eq_getD_getElem?, Array.getElem?_replicate, if_pos (by omega)] at e
  cases e
theorem WtA.pass {i : Nat} (h8 : (6 != i) = true) (h : ([0, 2, 7].all fun k => k != i) = true) : Pass (WtA B) i := fun L m w hS => by
  obtain ⟨al, h1, h2, hS⟩ := hS
  have e : Dn (L.setIfInBounds i true) 6 = Dn L 6 := dn_ne (by simpa using h8)
  exact ⟨al, by rw [e]; exact h1, by rw [e]; exact h2, SeqN.pass h L m w hS⟩
/-- whatever is done -/
theorem WtA.any {T : World → Prop} (t : ∀ al j m w, B al j m w → T w) (hS : WtA B L m w) : T w := by
  obtain ⟨al, _, _, hS⟩ := hS
  exact t _ _ _ _ hS
theorem WtA.lt {T : World → Prop} (h9 : Dn L 7 = false) (t : ∀ al j m w, j < 3 → B al j m w → T w) (hS : WtA B L m w) : T w := by
  obtain ⟨al, _, _, hS⟩ := hS
  unfold SeqN cntD cntD cntD cntD at hS
  rw [h9] at hS
  refine t _ _ _ _ ?_ hS
  cases Dn L 0 <;> cases Dn L 2 <;> simp
/-- the variable is made -/
theorem WtA.made {v : Value} {g : Nat} (h8 : Dn L 6 = false) (h9 : Dn L 7 = false) (hv : v = .pointer (some ⟨g, 0, none⟩)) (t : ∀ j, j < 3 → B none j m w → B (some g) j (upd m 6 v) w') (hS : WtA B L m w) : WtA B (L.setIfInBounds 6 true) (upd m 6 v) w' := by
  obtain ⟨al, _, h2, hS⟩ := hS
  obtain rfl := h2 h8
  refine ⟨some g, fun _ => ⟨g, rfl, by rw [upd_same]; exact hv⟩, fun e => ?_, ?_⟩
  · rw [dn_eq] at e
    cases e
  · have hS2 := SeqN.pass (i := 6) (by decide) L m w hS
    unfold SeqN cntD cntD cntD cntD at *
    rw [dn_ne (by decide), dn_ne (by decide), dn_ne (by decide), h9] at *
    refine t _ ?_ hS2
    cases Dn L 0 <;> cases Dn L 2 <;> simp
theorem WtA.on2 (h2 : Dn L 0 = false) (h3 : Dn L 2 = false) (h9 : Dn L 7 = false) (hS : WtA B L m w) : ∃ al, B al 0 m w ∧ ∀ v w', B al 1 (upd m 0 v) w' → WtA B (L.setIfInBounds 0 true) (upd m 0 v) w' := by
  obtain ⟨al, a1, a2, hS⟩ := hS
  unfold SeqN cntD cntD cntD cntD at hS
  rw [h2, h3, h9] at hS
  refine ⟨al, hS, fun v w' hB => ⟨al, ?_, ?_, ?_⟩⟩
  · rw [dn_ne (by decide), upd_ne (by decide)]; exact a1
  · rw [dn_ne (by decide)]; exact a2
  · unfold SeqN cntD cntD cntD cntD
    rw [dn_eq, dn_ne (by decide), dn_ne (by decide), h3, h9]
    exact hB
theorem WtA.on3 (h2 : Dn L 0 = true) (h3 : Dn L 2 = false) (h9 : Dn L 7 = false) (hS : WtA B L m w) : ∃ al, B al 1 m w ∧ ∀ v w', B al 2 (upd m 2 v) w' → WtA B (L.setIfInBounds 2 true) (upd m 2 v) w' := by
  obtain ⟨al, a1, a2, hS⟩ := hS
  unfold SeqN cntD cntD cntD cntD at hS
  rw [h2, h3, h9] at hS
  refine ⟨al, hS, fun v w' hB => ⟨al, ?_, ?_, ?_⟩⟩
  · rw [dn_ne (by decide), upd_ne (by decide)]; exact a1
  · rw [dn_ne (by decide)]; exact a2
  · unfold SeqN cntD cntD cntD cntD
    rw [dn_eq, dn_ne (by decide), dn_ne (by decide), h2, h9]
    exact hB
theorem WtA.on9 (h2 : Dn L 0 = true) (h3 : Dn L 2 = true) (h8 : Dn L 6 = true) (h9 : Dn L 7 = false) (hS : WtA B L m w) : ∃ g, m 6 = .pointer (some ⟨g, 0, none⟩) ∧ B (some g) 2 m w ∧ ∀ w', B (some g) 3 m w' → WtA B (L.setIfInBounds 7 true) m w' := by
  obtain ⟨al, a1, a2, hS⟩ := hS
  obtain ⟨g, rfl, hm⟩ := a1 h8
  unfold SeqN cntD cntD cntD cntD at hS
  rw [h2, h3, h9] at hS
  refine ⟨g, hm, hS, fun w' hB => ⟨some g, ?_, ?_, ?_⟩⟩
  · exact fun _ => ⟨g, rfl, hm⟩
  · rw [dn_ne (by decide)]; exact a2
  · unfold SeqN cntD cntD cntD cntD
    rw [dn_eq, dn_ne (by decide), dn_ne (by decide), h2, h3]
    exact hB
theorem WtA.fin (h8 : Dn L 6 = true) (h : ([0, 2, 7].all fun x => Dn L x) = true) (hS : WtA B L m w) : ∃ g, m 6 = .pointer (some ⟨g, 0, none⟩) ∧ B (some g) 3 m w := by
  obtain ⟨al, a1, _, hS⟩ := hS
  obtain ⟨g, rfl, hm⟩ := a1 h8
  exact ⟨g, hm, SeqN.fin h hS⟩
end
def WtB (B : Option Nat → Nat → (Nat → Value) → World → Prop) : Array Bool → (Nat → Value) → World → Prop := fun L m w =>
  ∃ al : Option Nat, (Dn L 6 = true → ∃ g, al = some g ∧ m 6 = .pointer (some ⟨g, 0, none⟩)) ∧ (Dn L 6 = false → al = none) ∧ SeqN [1, 2, 7] (B al) L m w
section
variable {B : Option Nat → Nat → (Nat → Value) → World → Prop} {L : Array Bool} {m m' : Nat → Value} {w w' : World}
theorem WtB.start {n : Nat} (hn : 7 < n) (h : B none 0 m w) : WtB B (Array.replicate n false) m w := by
  refine ⟨none, fun e => ?_, fun _ => rfl, SeqN.start (by simp; omega) h⟩
  unfold Dn at e
  rw [Array.getD_eq_getD_getElem?, Array.getElem?_replicate, if_pos (by omega)] at e
  cases e
theorem WtB.pass {i : Nat} (h8 : (6 != i) = true) (h : ([1, 2, 7].all fun k => k != i) = true) : Pass (WtB B) i := fun L m w hS => by
  obtain ⟨al, h1, h2, hS⟩ := hS
  have e : Dn (L.setIfInBounds i true) 6 = Dn L 6 := dn_ne (by simpa using h8)
  exact ⟨al, by rw [e]; exact h1, by rw [e]; exact h2, SeqN.pass h L m w hS⟩
/-- whatever is done -/
theorem WtB.any {T : World → Prop} (t : ∀ al j m w, B al j m w → T w) (hS : WtB B L m w) : T w := by
  obtain ⟨al, _, _, hS⟩ := hS
  exact t _ _ _ _ hS
theorem WtB.lt {T : World → Prop} (h9 : Dn L 7 = false) (t : ∀ al j m w, j < 3 → B al j m w → T w) (hS : WtB B L m w) : T w := by
  obtain ⟨al, _, _, hS⟩ := hS
  unfold SeqN cntD cntD cntD cntD at hS
  rw [h9] at hS
  refine t _ _ _ _ ?_ hS
  cases Dn L 1 <;> cases Dn L 2 <;> simp
/-- the variable is made -/
theorem WtB.made {v : Value} {g : Nat} (h8 : Dn L 6 = false) (h9 : Dn L 7 = false) (hv : v = .pointer (some ⟨g, 0, none⟩)) (t : ∀ j, j < 3 → B none j m w → B (some g) j (upd m 6 v) w') (hS : WtB B L m w) : WtB B (L.setIfInBounds 6 true) (upd m 6 v) w' := by
  obtain ⟨al, _, h2, hS⟩ := hS
  obtain rfl := h2 h8
  refine ⟨some g, fun _ => ⟨g, rfl, by rw [upd_same]; exact hv⟩, fun e => ?_, ?_⟩
  · rw [dn_eq] at e
    cases e
  · have hS2 := SeqN.pass (i := 6) (by decide) L m w hS
    unfold SeqN cntD cntD cntD cntD at *
    rw [dn_ne (by decide), dn_ne (by decide), dn_ne (by decide), h9] at *
    refine t _ ?_ hS2
    cases Dn L 1 <;> cases Dn L 2 <;> simp
theorem WtB.on2 (h2 : Dn L 1 = false) (h3 : Dn L 2 = false) (h9 : Dn L 7 = false) (hS : WtB B L m w) : ∃ al, B al 0 m w ∧ ∀ v w', B al 1 (upd m 1 v) w' → WtB B (L.setIfInBounds 1 true) (upd m 1 v) w' := by
  obtain ⟨al, a1, a2, hS⟩ := hS
  unfold SeqN cntD cntD cntD cntD at hS
  rw [h2, h3, h9] at hS
  refine ⟨al, hS, fun v w' hB => ⟨al, ?_, ?_, ?_⟩⟩
  · rw [dn_ne (by decide), upd_ne (by decide)]; exact a1
  · rw [dn_ne (by decide)]; exact a2
  · unfold SeqN cntD cntD cntD cntD
    rw [dn_eq, dn_ne (by decide), dn_ne (by decide), h3, h9]
    exact hB
theorem WtB.on3 (h2 : Dn L 1 = true) (h3 : Dn L 2 = false) (h9 : Dn L 7 = false) (hS : WtB B L m w) : ∃ al, B al 1 m w ∧ ∀ v w', B al 2 (upd m 2 v) w' → WtB B (L.setIfInBounds 2 true) (upd m 2 v) w' := by
  obtain ⟨al, a1, a2, hS⟩ := hS
  unfold SeqN cntD cntD cntD cntD at hS
  rw [h2, h3, h9] at hS
  refine ⟨al, hS, fun v w' hB => ⟨al, ?_, ?_, ?_⟩⟩
  · rw [dn_ne (by decide), upd_ne (by decide)]; exact a1
  · rw [dn_ne (by decide)]; exact a2
  · unfold SeqN cntD cntD cntD cntD
    rw [dn_eq, dn_ne (by decide), dn_ne (by decide), h2, h9]
    exact hB
theorem WtB.on9 (h2 : Dn L 1 = true) (h3 : Dn L 2 = true) (h8 : Dn L 6 = true) (h9 : Dn L 7 = false) (hS : WtB B L m w) : ∃ g, m 6 = .pointer (some ⟨g, 0, none⟩) ∧ B (some g) 2 m w ∧ ∀ w', B (some g) 3 m w' → WtB B (L.setIfInBounds 7 true) m w' := by
  obtain ⟨al, a1, a2, hS⟩ := hS
  obtain ⟨g, rfl, hm⟩ := a1 h8
  unfold SeqN cntD cntD cntD cntD at hS
  rw [h2, h3, h9] at hS
  refine ⟨g, hm, hS, fun w' hB => ⟨some g, ?_, ?_, ?_⟩⟩
  · exact fun _ => ⟨g, rfl, hm⟩
  · rw [dn_ne (by decide)]; exact a2
  · unfold SeqN cntD cntD cntD cntD
    rw [dn_eq, dn_ne (by decide), dn_ne (by decide), h2, h3]
    exact hB
theorem WtB.fin (h8 : Dn L 6 = true) (h : ([1, 2, 7].all fun x => Dn L x) = true) (hS : WtB B L m w) : ∃ g, m 6 = .pointer (some ⟨g, 0, none⟩) ∧ B (some g) 3 m w := by
  obtain ⟨al, a1, _, hS⟩ := hS
  obtain ⟨g, rfl, hm⟩ := a1 h8
  exact ⟨g, hm, SeqN.fin h hS⟩
end
end Go.Proofs.YtoaggmldekejoaaDoor
/- A region whose order Go leaves open, with several operations of unknown yield side by side; what follows is said once. Conditions: none. -/
namespace Go.Proofs.YtoaggmldekejoaaDoor
open Go.RowKit
section
variable {P : Program} {ops : Array Oper} {Q Q' : Exit → Act → World → Prop} {md : Region.Mode} {S : Array Bool → (Nat → Value) → World → Prop}
theorem Ps.weak (h : ∀ a w, Q' .normal a w → Q .normal a w) : ∀ (f : Nat) (m : Nat → Value) (L : Array Bool) (a : Act), Ps P md ops Q' S f m L a → Ps P md ops Q S f m L a
  | 0, _, _, _, k => ⟨k.1, fun w hS => h _ _ (k.2 w hS)⟩
  | f + 1, m, L, a, k => ⟨fun e w hS => h _ _ (k.1 e w hS), fun i hi => by
    obtain ⟨o, ho, ⟨u, hs, hg⟩ | ⟨V, hs, hg⟩⟩ := k.2 i hi
    · exact ⟨o, ho, .inl ⟨u, hs, Ps.weak h f _ _ _ hg⟩⟩
    · exact ⟨o, ho, .inr ⟨V, hs, fun v hV => Ps.weak h f _ _ _ (hg v hV)⟩⟩⟩
/-- one of several that come next -/
def Turns (P : Program) (md : Region.Mode) (ops : Array Oper) (Q : Exit → Act → World → Prop) (S : Array Bool → (Nat → Value) → World → Prop) (f : Nat) (m : Nat → Value) (L : Array Bool) (a : Act) (i : Nat) : Prop :=
  ∃ o, ops[i]? = some o ∧ ∃ V, TurnS P md ops S m i o V a ∧ ∀ v, V v → Ps P md ops Q S f (upd m i v) (L.setIfInBounds i true) (a.put o.dst v)
theorem Turns.mk {f : Nat} {m : Nat → Value} {L : Array Bool} {a : Act} {i : Nat} {o : Oper} {d : Option Tmp} (ho : ops[i]? = some o) (hd : o.dst = d) {V : Value → Prop} (ht : TurnS P md ops S m i o V a)
    (h : ∀ v, V v → Ps P md ops Q S f (upd m i v) (L.setIfInBounds i true) (a.put d v)) : Turns P md ops Q S f m L a i := by subst hd; exact ⟨o, ho, V, ht, h⟩
theorem Ps.some1 {f : Nat} {m : Nat → Value} {L : Array Bool} {a : Act} {i : Nat} (hr : Region.ready md ops L = [i]) (h1 : Turns P md ops Q S f m L a i) : Ps P md ops Q S (f + 1) m L a := by
  refine ⟨fun e => (by rw [hr] at e; cases e), fun x hx => ?_⟩
  rw [hr] at hx
  rcases List.mem_cons.1 hx with rfl | hx
  · obtain ⟨o, ho, V, ht, h⟩ := h1; exact ⟨o, ho, .inr ⟨V, ht, h⟩⟩
  · cases hx
theorem Ps.some2 {f : Nat} {m : Nat → Value} {L : Array Bool} {a : Act} {i j : Nat} (hr : Region.ready md ops L = [i, j]) (h1 : Turns P md ops Q S f m L a i) (h2 : Turns P md ops Q S f m L a j) : Ps P md ops Q S (f + 1) m L a := by
  refine ⟨fun e => (by rw [hr] at e; cases e), fun x hx => ?_⟩
  rw [hr] at hx
  rcases List.mem_cons.1 hx with rfl | hx
  · obtain ⟨o, ho, V, ht, h⟩ := h1; exact ⟨o, ho, .inr ⟨V, ht, h⟩⟩
  rcases List.mem_cons.1 hx with rfl | hx
  · obtain ⟨o, ho, V, ht, h⟩ := h2; exact ⟨o, ho, .inr ⟨V, ht, h⟩⟩
  · cases hx
theorem Ps.some3 {f : Nat} {m : Nat → Value} {L : Array Bool} {a : Act} {i j k : Nat} (hr : Region.ready md ops L = [i, j, k]) (h1 : Turns P md ops Q S f m L a i) (h2 : Turns P md ops Q S f m L a j) (h3 : Turns P md ops Q S f m L a k) : Ps P md ops Q S (f + 1) m L a := by
  refine ⟨fun e => (by rw [hr] at e; cases e), fun x hx => ?_⟩
  rw [hr] at hx
  rcases List.mem_cons.1 hx with rfl | hx
  · obtain ⟨o, ho, V, ht, h⟩ := h1; exact ⟨o, ho, .inr ⟨V, ht, h⟩⟩
  rcases List.mem_cons.1 hx with rfl | hx
  · obtain ⟨o, ho, V, ht, h⟩ := h2; exact ⟨o, ho, .inr ⟨V, ht, h⟩⟩
  rcases List.mem_cons.1 hx with rfl | hx
  · obtain ⟨o, ho, V, ht, h⟩ := h3; exact ⟨o, ho, .inr ⟨V, ht, h⟩⟩
  · cases hx
/-- what follows is said once: F tells how the region ends, of the act at its start -/
theorem wp_region_psF {id : Nat} {a : Act} {w : World} (F : Act → Act → World → Prop) (S : Array Bool → (Nat → Value) → World → Prop) (hm : P.follows .mixedOrders = true) (hS : S (Array.replicate ops.size false) (fun _ => undef) w.drew)
    (h : Ps P .any ops (fun _ a' w' => F a a' w') S ops.size (fun _ => undef) (Array.replicate ops.size false) a) (hk : ∀ a' w', F a a' w' → Q .normal a' w') : (Code.region id ops true).wp P Q a w :=
  wp_region_ps S hm hS (Ps.weak hk _ _ _ _ h)
end
end Go.Proofs.YtoaggmldekejoaaDoor
