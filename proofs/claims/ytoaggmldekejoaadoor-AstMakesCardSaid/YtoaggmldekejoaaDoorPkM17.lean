/- The reference's Made. Conditions: the trees read so. -/
import Derived.Test.YtoaggmldekejoaaDoorPkM16
namespace Go.Proofs.YtoaggmldekejoaaDoor
open Go.RowKit
/-- what the reference's Made gives back -/
def RMadeO (w0 : World) (ok : Bool) (R : List Nd) (e : Ending) (w' : World) : Prop :=
  ∃ A n c, e = .returned (.tuple #[.agg #[.slice A n c], .bool ok]) ∧ LN.rd w' (fun b => w0.heap.size ≤ b) A n R ∧ n ≤ c ∧ c ≤ 9223372036854775807 ∧ Below w0.heap.size w0 w'
set_option maxRecDepth 100000 in
set_option maxHeartbeats 16000000 in
theorem rmade_any (F : Nat → Prop) (tag : Int) (ls : List (List Nd)) (A : Option Addr) (m c : Nat) (w : World) (h : LTr.rd w F A m ls) (hm : m ≤ 2) (hlen : ∀ x ∈ ls, x.length ≤ 100000) (hS : ∀ xs ∈ ls, ∀ x ∈ xs, SmP x.p) :
    Calls Tryd.prog 14 #[.int .i64 tag, .slice A m c] w fun e w' => RMadeO w (madeOk (zP tag) ls) (madeR (zP tag) ls) e w' := by
  have HLEN := Lib.hid (Lay.rd_len h)
  have HLN := Lib.hid hlen
  have HSM := Lib.hid hS
  have HR := Lib.hid (show madeR (zP tag) ls = if madeOk (zP tag) ls then madeN (zP tag) ls else [] from rfl)
  generalize madeR (zP tag) ls = R at *
  have HK := Lib.hid (show madeOk (zP tag) ls = (ls.all okF && okF (madeN (zP tag) ls)) from rfl)
  generalize madeOk (zP tag) ls = ok at *
  have HRD := Lib.hid h
  clear h hlen hS
  have HQ1 := Lib.hid (bl_al (bl_al (bl_al (Below.refl w.heap.size w) (.cells #[.slice none 0 0] 30)) (.cells #[.slice none 0 0] 30)) (.cells #[.int .i64 tag, .int .i64 (-1), .int .i64 (-1), .int .i64 0, .int .i64 0, .int .u64 0, .string ⟨#[]⟩, .string ⟨#[]⟩, .string ⟨#[]⟩] 27))
  have HB4 := Lib.hid (((Blk.new w 30 #[.slice none 0 0]).alloc (.cells #[.slice none 0 0] 30)).alloc (.cells #[.int .i64 tag, .int .i64 (-1), .int .i64 (-1), .int .i64 0, .int .i64 0, .int .u64 0, .string ⟨#[]⟩, .string ⟨#[]⟩, .string ⟨#[]⟩] 27))
  have HB6 := Lib.hid (show Blk (((w.alloc (.cells #[.slice none 0 0] 30)).alloc (.cells #[.slice none 0 0] 30)).alloc (.cells #[.int .i64 tag, .int .i64 (-1), .int .i64 (-1), .int .i64 0, .int .i64 0, .int .u64 0, .string ⟨#[]⟩, .string ⟨#[]⟩, .string ⟨#[]⟩] 27)) (w.heap.size + 1) 30 #[.slice none 0 0] from by
    have := (Blk.new (w.alloc (.cells #[.slice none 0 0] 30)) 30 #[.slice none 0 0]).alloc (.cells #[.int .i64 tag, .int .i64 (-1), .int .i64 (-1), .int .i64 0, .int .i64 0, .int .u64 0, .string ⟨#[]⟩, .string ⟨#[]⟩, .string ⟨#[]⟩] 27)
    rwa [World.size_alloc] at this)
  have HB7 := Lib.hid (show Blk (((w.alloc (.cells #[.slice none 0 0] 30)).alloc (.cells #[.slice none 0 0] 30)).alloc (.cells #[.int .i64 tag, .int .i64 (-1), .int .i64 (-1), .int .i64 0, .int .i64 0, .int .u64 0, .string ⟨#[]⟩, .string ⟨#[]⟩, .string ⟨#[]⟩] 27)) (w.heap.size + 1 + 1) 27 #[.int .i64 tag, .int .i64 (-1), .int .i64 (-1), .int .i64 0, .int .i64 0, .int .u64 0, .string ⟨#[]⟩, .string ⟨#[]⟩, .string ⟨#[]⟩] from by
    have := Blk.new ((w.alloc (.cells #[.slice none 0 0] 30)).alloc (.cells #[.slice none 0 0] 30)) 27 #[.int .i64 tag, .int .i64 (-1), .int .i64 (-1), .int .i64 0, .int .i64 0, .int .u64 0, .string ⟨#[]⟩, .string ⟨#[]⟩, .string ⟨#[]⟩]
    rwa [World.size_alloc, World.size_alloc] at this)
  go_enter Tryd.func14, Tryd.ntmps14
  go_upto_region 3 with fail
  generalize ((w.alloc (.cells #[.slice none 0 0] 30)).alloc (.cells #[.slice none 0 0] 30)).alloc (.cells #[.int .i64 tag, .int .i64 (-1), .int .i64 (-1), .int .i64 0, .int .i64 0, .int .u64 0, .string ⟨#[]⟩, .string ⟨#[]⟩, .string ⟨#[]⟩] 27) = w1 at *
  generalize hg7 : w.heap.size + 1 + 1 = g7 at *
  generalize hg6 : w.heap.size + 1 = g6 at *
  obtain ⟨g4, hg4⟩ : ∃ g, g = w.heap.size := ⟨_, rfl⟩
  have l0 : w.heap.size ≤ g4 := by omega
  have l1 : g4 < g6 := by omega
  have l2 : g6 < g7 := by omega
  have l4 : g7 < w1.heap.size := HB7.out.lt
  have HB4 : Hid (Blk w1 g4 30 #[.slice none 0 0]) := by rw [hg4]; exact HB4
  have HR4 : Blk w1 w.heap.size 30 #[.slice none 0 0] := by rw [← hg4]; exact HB4.out
  clear hg7 hg6 HR4
  go_wp2_with fail
  rw [← hg4]
  clear hg4
  go_loopg [17] m (fun g a wr => ∃ (i : Nat) (Ao : Option Addr) (no co : Nat), i + g = m ∧ a = .int .i64 (i : Int) ∧ Hid ((ls.take i).all okF = true) ∧ Hid (Blk wr g6 30 #[.slice Ao no co]) ∧ Hid (LN.own 27 wr w1.heap.size (fun _ => False) Ao no co (catN (ls.take i))) ∧
    Hid (Blk wr g7 27 (Nd.cells ⟨zP tag, endL (ls.take i), endR (ls.take i)⟩)) ∧ Hid (Blk wr g4 30 #[.slice none 0 0]) ∧ Hid (Below w.heap.size w wr) ∧ Hid (w1.heap.size ≤ wr.heap.size))
  case atStart => exact ⟨0, none, 0, 0, by omega, rfl, Lib.hid rfl, HB6, Lib.hid (Lay.own_nil _ _), HB7, HB4, HQ1, Lib.hid (Nat.le_refl _)⟩
  case round =>
    obtain ⟨i, Ao, no, co, hig, rfl, HAL, HC6, HOO, HC7, HC4, HQB, HZ⟩ := hrel
    by_cases hlt : i < m
    · have hi1 : (i : Int) < (m : Int) := by omega
      have hi2 : (i : Int) < 2 := by omega
      have hi0 : 0 ≤ (i : Int) := by omega
      obtain ⟨pa, x, Bx, mx, cx, hAe, hx, xc0, hrx, hmc, hc9⟩ := LTr_at HRD.out hlt
      obtain rfl : A = some pa := hAe
      have xc := ce xc0 HQB.out
      have HX := Lib.hid hx
      have HRX := Lib.hid hrx
      have hmx : mx ≤ 100000 := by rw [← Lay.rd_len hrx]; exact HLN.out x (List.mem_of_getElem? hx)
      have HMX := Lib.hid (Lay.rd_len hrx)
      have HB9 := Lib.hid (Blk.new wr 30 #[.slice Bx mx cx])
      have HQA := Lib.hid (bl_al (Below.refl wr.heap.size wr) (.cells #[.slice Bx mx cx] 30))
      clear hx hrx xc0
      go_wp2_with fail
      obtain ⟨g9, hg9⟩ : ∃ g, g = wr.heap.size := ⟨_, rfl⟩
      rw [← hg9] at HB9 ⊢
      clear hg9
      generalize wr.alloc (.cells #[.slice Bx mx cx] 30) = w2 at *
      have HRT := Lib.hid (rright_any F x Bx mx cx w2 (Lay.rd_below HRX.out (bl_ca HQB.out HQA.out)) hmx (HSM.out x (List.mem_of_getElem? HX.out)))
      obtain ⟨ox, hox⟩ : ∃ b, b = okF x := ⟨_, rfl⟩
      rw [← hox] at HRT
      refine HRT.out.mono ?_
      rintro e w3 ⟨rfl, q3⟩
      have HQ3 := Lib.hid (bl_ca HQA.out q3)
      have HD9 := Lib.hid (HB9.out.ca q3)
      clear q3 xc HB9 HQA HRT
      cases ox
      · have HNO := Lib.hid (all_no HX.out hox.symm)
        have HOK := Lib.hid (show ok = false from by rw [HK.out, HNO.out]; rfl)
        have HR2 := Lib.hid (show R = [] from by rw [HR.out, HOK.out]; rfl)
        have HE4 := Lib.hid (HC4.out.ca HQ3.out)
        have y0 := HE4.out.cell 0
        have y1 := HE4.out.frozen 0
        simp at y0
        clear hox
        go_wp2
        exact bodyPost_ret (res2 Tryd.results14 rfl rfl (HE4.out.set_ 0 (.slice none 0 0)) Tryd.underlying30 rfl treeI) rfl ⟨none, 0, 0, by rw [HOK.out]; rfl, by rw [HR2.out]; exact Lay.rd_nil _, Nat.le_refl _, by omega, bl_set (bl_ca HQB.out HQ3.out) (p := ⟨g4, 0, none⟩) (by show _ ≤ g4; omega) _⟩
      have HAL2 := Lib.hid (all_step HAL.out HX.out hox.symm)
      have hz3 := HQ3.out.size
      have HD6 := Lib.hid (HC6.out.ca HQ3.out)
      have HD7 := Lib.hid (HC7.out.ca HQ3.out)
      have HD4 := Lib.hid (HC4.out.ca HQ3.out)
      have HOO3 := Lib.hid (Lay.own_below HOO.out HQ3.out)
      have HQB3 := Lib.hid (bl_ca HQB.out HQ3.out)
      have hzz : w1.heap.size ≤ w3.heap.size := by have := HZ.out; omega
      have hno : no ≤ 600 := by have := all_len HAL.out; have := Lay.own_len HOO.out; omega
      obtain ⟨t, ht⟩ := okF_ex hox.symm
      have hmx3 : mx ≤ 300 := by
        have := tree_len ht
        have := (treeF_some.1 ht).2.2.1
        have := HMX.out
        omega
      have HRG := Lib.hid (show ∀ y ∈ x, y.l ≤ 300 ∧ y.r ≤ 300 from fun y hy => by
        have := tree_rng ht y hy
        omega)
      clear hox ht HAL HC6 HC7 HC4 HOO HQB HQ3 HZ
      obtain ⟨ys, hys⟩ : ∃ ys, ys = catN (ls.take i) := ⟨_, rfl⟩
      rw [← hys] at HOO3
      have HYS := Lib.hid hys
      have HYL := Lib.hid (Lay.own_len HOO3.out)
      obtain ⟨rt, hrt⟩ : ∃ rt : Nd, rt = ⟨zP tag, endL (ls.take i), endR (ls.take i)⟩ := ⟨_, rfl⟩
      rw [← hrt] at HD7
      have HRT := Lib.hid hrt
      clear hys hrt
      have x6 : w3.cell? ⟨g6, 0, none⟩ = some (.slice Ao no co) := HD6.out.cell 0
      have x9 : w3.cell? ⟨g9, 0, none⟩ = some (.slice Bx mx cx) := HD9.out.cell 0
      go_wp2_with fail
      clear x6 x9
      obtain ⟨gk0, rfl⟩ : ∃ g1, g1 = gk := ⟨_, rfl⟩
      go_loopg [32] mx (fun g a wr => ∃ (j : Nat) (Aj : Option Addr) (nj cj : Nat), j + g = mx ∧ a = .int .i64 (j : Int) ∧ Hid (Blk wr g6 30 #[.slice Aj nj cj]) ∧ Hid (LN.own 27 wr w1.heap.size (fun _ => False) Aj nj cj (ys ++ (x.take j).map (mv (no : Int)))) ∧
        Hid (Blk wr g7 27 (Nd.cells rt)) ∧ Hid (Blk wr g4 30 #[.slice none 0 0]) ∧ Hid (Below w.heap.size w wr) ∧ Hid (w1.heap.size ≤ wr.heap.size))
      case atStart => exact ⟨0, Ao, no, co, by omega, rfl, HD6, Lib.hid (by rw [List.take_zero, List.map_nil, List.append_nil]; exact HOO3.out), HD7, HD4, HQB3, Lib.hid hzz⟩
      case round =>
        obtain ⟨j, Aj, nj, cj, hjg, rfl, HE6, HOJ, HE7, HE4, HQJ, HZJ⟩ := hrel
        have hnj : nj ≤ 900 := by have h1 := Lay.own_len HOJ.out; rw [List.length_append, List.length_map, List.length_take, HYL.out] at h1; omega
        have hz1 := HZJ.out
        by_cases hlt2 : j < mx
        · have hj1 : (j : Int) < (mx : Int) := by omega
          have hj0 : 0 ≤ (j : Int) := by omega
          obtain ⟨p, z, hAe, hxj, s1⟩ := LN_at (Lay.rd_below HRX.out HQJ.out) hlt2
          obtain rfl : Bx = some p := hAe
          have e0 := s1.c0
          have e1 := s1.c1
          have e2 := s1.c2
          have e3 := s1.c3
          have e4 := s1.c4
          have e5 := s1.c5
          have e6 := s1.c6
          have e7 := s1.c7
          have e8 := s1.c8
          have HXJ := Lib.hid hxj
          have HR9 := Lib.hid (HRG.out z (List.mem_of_getElem? hxj))
          have HBN := Lib.hid (Blk.new wr 27 (Nd.cells z))
          have HQ4 := Lib.hid (bl_al (Below.refl wr.heap.size wr) (.cells (Nd.cells z) 27))
          clear hxj s1
          go_upto_region 12 with fail
          clear e0 e1 e2 e3 e4 e5 e6 e7 e8
          generalize wr.alloc (.cells #[.int .i64 z.p.tag, .int .i64 z.l, .int .i64 z.r, .int .i64 z.p.k, .int .i64 z.p.n, .int .u64 z.p.u, .string z.p.s, .string z.p.tb, .string z.p.nm] 27) = w4 at *
          have r1 : w4.cell? ⟨wr.heap.size, 1, none⟩ = some (.int .i64 z.l) := HBN.out.cell 1
          have r1z := HBN.out.frozen 1
          have hll : z.l ≤ 300 := HR9.out.1
          have hn6 : (no : Int) ≤ 600 := by omega
          have hn0 : 0 ≤ (no : Int) := by omega
          by_cases hl : 0 ≤ z.l
          · go_upto_region 14 with fail
            have HB5 := Lib.hid (show Blk (w4.setCell ⟨wr.heap.size, 1, none⟩ (.int .i64 (z.l + (no : Int)))) wr.heap.size 27 (Nd.cells ⟨z.p, z.l + (no : Int), z.r⟩) from HBN.out.set_ 1 _)
            have HG5 := Lib.hid (show w4.grownBy (w4.setCell ⟨wr.heap.size, 1, none⟩ (.int .i64 (z.l + (no : Int)))) (some wr.heap.size) from only_setCell (p := ⟨wr.heap.size, 1, none⟩) (World.grownBy.refl w4 _) (.inl rfl) _)
            generalize w4.setCell ⟨wr.heap.size, 1, none⟩ (.int .i64 (z.l + (no : Int))) = w5 at *
            obtain ⟨x1, hx1⟩ : ∃ x1, x1 = (⟨z.p, z.l + (no : Int), z.r⟩ : Nd) := ⟨_, rfl⟩
            have HX1 := Lib.hid (show x1.p = z.p ∧ x1.l = (if 0 ≤ z.l then z.l + (no : Int) else z.l) ∧ x1.r = z.r from by rw [hx1, if_pos hl]; exact ⟨rfl, rfl, rfl⟩)
            rw [← hx1] at HB5
            clear hx1 r1 r1z hl hll
            have r2 : w5.cell? ⟨wr.heap.size, 2, none⟩ = some (.int .i64 x1.r) := HB5.out.cell 2
            have r2z := HB5.out.frozen 2
            have hrr : x1.r ≤ 300 := by rw [HX1.out.2.2]; exact HR9.out.2
            by_cases hr : 0 ≤ x1.r
            · have HMV := Lib.hid (show mv (no : Int) z = ⟨x1.p, x1.l, x1.r + (no : Int)⟩ from by
                have h9 := hr
                rw [HX1.out.2.2] at h9
                unfold mv
                rw [if_pos h9, ← HX1.out.2.1, ← HX1.out.1, ← HX1.out.2.2])
              go_upto_region 16 with fail
              have HB8 := Lib.hid (show Blk (w5.setCell ⟨wr.heap.size, 2, none⟩ (.int .i64 (x1.r + (no : Int)))) wr.heap.size 27 (Nd.cells ⟨x1.p, x1.l, x1.r + (no : Int)⟩) from HB5.out.set_ 2 _)
              have HG8 := Lib.hid (show w4.grownBy (w5.setCell ⟨wr.heap.size, 2, none⟩ (.int .i64 (x1.r + (no : Int)))) (some wr.heap.size) from only_setCell (p := ⟨wr.heap.size, 2, none⟩) HG5.out (.inl rfl) _)
              generalize w5.setCell ⟨wr.heap.size, 2, none⟩ (.int .i64 (x1.r + (no : Int))) = w6 at *
              obtain ⟨y, hy⟩ : ∃ y, y = (⟨x1.p, x1.l, x1.r + (no : Int)⟩ : Nd) := ⟨_, rfl⟩
              rw [← hy] at HB8 HMV
              clear hy r2 r2z
              have HST := Lib.hid (show (x.take (j + 1)).map (mv (no : Int)) = (x.take j).map (mv (no : Int)) ++ [y] from by
                rw [List.take_add_one, HXJ.out, List.map_append]
                show _ ++ [mv (no : Int) z] = _
                rw [show mv (no : Int) z = y from HMV.out])
              have HY3 := Lib.hid ((HE6.out.ca HQ4.out).apart HG8.out (by omega))
              have HY7 := Lib.hid ((HE7.out.ca HQ4.out).apart HG8.out (by omega))
              have HY4 := Lib.hid ((HE4.out.ca HQ4.out).apart HG8.out (by omega))
              have HYO := Lib.hid (own_via HOJ.out HQ4.out HG8.out (Nat.le_refl _))
              have HYQ := Lib.hid ((bl_ca HQJ.out HQ4.out).grown HG8.out (bl_ca HQJ.out HQ4.out).size (fun k e => by injection e with e; have := HQJ.out.size; omega))
              have hz3 := HG8.out.size
              have hz2 := HQ4.out.size
              have r0 := HB8.out.cell 0
              have r1 := HB8.out.cell 1
              have r2 := HB8.out.cell 2
              have r3 := HB8.out.cell 3
              have r4 := HB8.out.cell 4
              have r5 := HB8.out.cell 5
              have r6 := HB8.out.cell 6
              have r7 := HB8.out.cell 7
              have r8 := HB8.out.cell 8
              have x3 : w6.cell? ⟨g6, 0, none⟩ = some (.slice Aj nj cj) := HY3.out.cell 0
              simp at r0 r1 r2 r3 r4 r5 r6 r7 r8
              have HBZ := Lib.hid (Blk.new w6 27 (Nd.cells y))
              have HQZ := Lib.hid (bl_al (Below.refl w6.heap.size w6) (.cells (Nd.cells y) 27))
              have HOZ := Lib.hid (Lay.own_below HYO.out HQZ.out)
              have hzy := HQZ.out.size
              have hzz9 : w1.heap.size ≤ w6.heap.size := by omega
              have HDZ := Lib.hid (HY3.out.ca HQZ.out)
              have HDY0 := Lib.hid (HY7.out.ca HQZ.out)
              have HDY1 := Lib.hid (HY4.out.ca HQZ.out)
              have HZQ := Lib.hid (bl_ca HYQ.out HQZ.out)
              go_wp2_with (at_builtin; refine wpList_appG (L := LN) (e := 27) rfl (.tmp 53) (.tmp 55) 28 rfl (.agg #[.int .i64 0, .int .i64 0, .int .i64 0, .int .i64 0, .int .i64 0, .int .u64 0, .string ⟨#[]⟩, .string ⟨#[]⟩, .string ⟨#[]⟩]) 9 96 Tryd.underlying28 infoN rfl rfl (by decide) w1.heap.size (fun _ => False) Aj nj cj (ys ++ (x.take j).map (mv (no : Int))) w6.heap.size 1 27 (Nd.cells y) y rfl rfl rfl HOZ.out HBZ.out rfl (fun b h => h.elim) (by omega) (by unfold maxLen; omega) (Nat.le_trans hzz9 hzy) ?_; intro A9 c9 w9 o9 g9w k9; have HO9 := Lib.hid o9; have HG9 := Lib.hid g9w; have HN3 := Lib.hid (show Blk w9 g6 30 #[.slice Aj nj cj] from (g9w.block g6 HDZ.out.lt (fun e => by have := (Lay.own_base HOZ.out g6 e.symm).1; omega)).trans HDZ.out); have n6 : w9.cell? ⟨g6, 0, none⟩ = some (.slice Aj nj cj) := HN3.out.cell 0; have n7 := HN3.out.frozen 0; clear o9 g9w k9)
              have hgr9 : w9.grownBy (w9.setCell ⟨g6, 0, none⟩ (.slice A9 (nj + 1) c9)) (some g6) := only_setCell (p := ⟨g6, 0, none⟩) (World.grownBy.refl w9 _) (.inl rfl) _
              have q3 : Blk (w9.setCell ⟨g6, 0, none⟩ (.slice A9 (nj + 1) c9)) g6 30 #[.slice A9 (nj + 1) c9] := HN3.out.set_ 0 _
              have q_0 : Blk (w9.setCell ⟨g6, 0, none⟩ (.slice A9 (nj + 1) c9)) g7 27 (Nd.cells rt) := Blk.apart (show Blk w9 g7 27 (Nd.cells rt) from (HG9.out.block g7 HDY0.out.lt (fun e => by have := (Lay.own_base HOZ.out g7 e.symm).1; omega)).trans HDY0.out) hgr9 (by omega)
              have q_1 : Blk (w9.setCell ⟨g6, 0, none⟩ (.slice A9 (nj + 1) c9)) g4 30 #[.slice none 0 0] := Blk.apart (show Blk w9 g4 30 #[.slice none 0 0] from (HG9.out.block g4 HDY1.out.lt (fun e => by have := (Lay.own_base HOZ.out g4 e.symm).1; omega)).trans HDY1.out) hgr9 (by omega)
              have q9 := Lay.own_same (w' := w9.setCell ⟨g6, 0, none⟩ (.slice A9 (nj + 1) c9)) HO9.out (fun k hk => Below.heap_setCell _ _ _ _ (by have := (Lay.own_base HO9.out k hk).1; show k ≠ g6; omega)) (fun _ h => h.elim)
              have qb : Below w.heap.size w (w9.setCell ⟨g6, 0, none⟩ (.slice A9 (nj + 1) c9)) := bl_set (HZQ.out.grown HG9.out HZQ.out.size (fun k e => by have := (Lay.own_base HOZ.out k e).1; omega)) (p := ⟨g6, 0, none⟩) (by show _ ≤ g6; omega) _
              have qz : w1.heap.size ≤ (w9.setCell ⟨g6, 0, none⟩ (.slice A9 (nj + 1) c9)).heap.size := Nat.le_trans (Nat.le_trans hzz9 hzy) (Nat.le_trans HG9.out.size hgr9.size)
              rw [List.append_assoc, ← HST.out] at q9
              clear hgr9 r0 r1 r2 r3 r4 r5 r6 r7 r8 x3 n6 n7
              have HP3 := Lib.hid q3
              have HPY0 := Lib.hid q_0
              have HPY1 := Lib.hid q_1
              have HP9 := Lib.hid q9
              have HPB := Lib.hid qb
              have HPZ := Lib.hid qz
              clear q3 q_0 q_1 q9 qb qz
              generalize w9.setCell ⟨g6, 0, none⟩ (.slice A9 (nj + 1) c9) = w10 at *
              go_roundg (gk - 1)
              · exact ⟨j + 1, A9, nj + 1, c9, by omega, by go_num, HP3, HP9, HPY0, HPY1, HPB, HPZ⟩
              · omega
            · have HMV := Lib.hid (show mv (no : Int) z = x1 from by
                have h9 := hr
                rw [HX1.out.2.2] at h9
                unfold mv
                rw [if_neg h9, ← HX1.out.2.1, ← HX1.out.1, ← HX1.out.2.2])
              have hr1 : x1.r < 0 := by omega
              clear hr
              go_upto_region 16 with fail
              have HB8 := HB5
              have HG8 := HG5
              obtain ⟨y, hy⟩ : ∃ y, y = x1 := ⟨_, rfl⟩
              obtain ⟨w6, hw6⟩ : ∃ w6, w6 = w5 := ⟨_, rfl⟩
              rw [← hy] at HB8 HMV
              rw [← hw6] at HB8 HG8 ⊢
              clear hy hw6 r2 r2z
              have HST := Lib.hid (show (x.take (j + 1)).map (mv (no : Int)) = (x.take j).map (mv (no : Int)) ++ [y] from by
                rw [List.take_add_one, HXJ.out, List.map_append]
                show _ ++ [mv (no : Int) z] = _
                rw [show mv (no : Int) z = y from HMV.out])
              have HY3 := Lib.hid ((HE6.out.ca HQ4.out).apart HG8.out (by omega))
              have HY7 := Lib.hid ((HE7.out.ca HQ4.out).apart HG8.out (by omega))
              have HY4 := Lib.hid ((HE4.out.ca HQ4.out).apart HG8.out (by omega))
              have HYO := Lib.hid (own_via HOJ.out HQ4.out HG8.out (Nat.le_refl _))
              have HYQ := Lib.hid ((bl_ca HQJ.out HQ4.out).grown HG8.out (bl_ca HQJ.out HQ4.out).size (fun k e => by injection e with e; have := HQJ.out.size; omega))
              have hz3 := HG8.out.size
              have hz2 := HQ4.out.size
              have r0 := HB8.out.cell 0
              have r1 := HB8.out.cell 1
              have r2 := HB8.out.cell 2
              have r3 := HB8.out.cell 3
              have r4 := HB8.out.cell 4
              have r5 := HB8.out.cell 5
              have r6 := HB8.out.cell 6
              have r7 := HB8.out.cell 7
              have r8 := HB8.out.cell 8
              have x3 : w6.cell? ⟨g6, 0, none⟩ = some (.slice Aj nj cj) := HY3.out.cell 0
              simp at r0 r1 r2 r3 r4 r5 r6 r7 r8
              have HBZ := Lib.hid (Blk.new w6 27 (Nd.cells y))
              have HQZ := Lib.hid (bl_al (Below.refl w6.heap.size w6) (.cells (Nd.cells y) 27))
              have HOZ := Lib.hid (Lay.own_below HYO.out HQZ.out)
              have hzy := HQZ.out.size
              have hzz9 : w1.heap.size ≤ w6.heap.size := by omega
              have HDZ := Lib.hid (HY3.out.ca HQZ.out)
              have HDY0 := Lib.hid (HY7.out.ca HQZ.out)
              have HDY1 := Lib.hid (HY4.out.ca HQZ.out)
              have HZQ := Lib.hid (bl_ca HYQ.out HQZ.out)
              go_wp2_with (at_builtin; refine wpList_appG (L := LN) (e := 27) rfl (.tmp 53) (.tmp 55) 28 rfl (.agg #[.int .i64 0, .int .i64 0, .int .i64 0, .int .i64 0, .int .i64 0, .int .u64 0, .string ⟨#[]⟩, .string ⟨#[]⟩, .string ⟨#[]⟩]) 9 96 Tryd.underlying28 infoN rfl rfl (by decide) w1.heap.size (fun _ => False) Aj nj cj (ys ++ (x.take j).map (mv (no : Int))) w6.heap.size 1 27 (Nd.cells y) y rfl rfl rfl HOZ.out HBZ.out rfl (fun b h => h.elim) (by omega) (by unfold maxLen; omega) (Nat.le_trans hzz9 hzy) ?_; intro A9 c9 w9 o9 g9w k9; have HO9 := Lib.hid o9; have HG9 := Lib.hid g9w; have HN3 := Lib.hid (show Blk w9 g6 30 #[.slice Aj nj cj] from (g9w.block g6 HDZ.out.lt (fun e => by have := (Lay.own_base HOZ.out g6 e.symm).1; omega)).trans HDZ.out); have n6 : w9.cell? ⟨g6, 0, none⟩ = some (.slice Aj nj cj) := HN3.out.cell 0; have n7 := HN3.out.frozen 0; clear o9 g9w k9)
              have hgr9 : w9.grownBy (w9.setCell ⟨g6, 0, none⟩ (.slice A9 (nj + 1) c9)) (some g6) := only_setCell (p := ⟨g6, 0, none⟩) (World.grownBy.refl w9 _) (.inl rfl) _
              have q3 : Blk (w9.setCell ⟨g6, 0, none⟩ (.slice A9 (nj + 1) c9)) g6 30 #[.slice A9 (nj + 1) c9] := HN3.out.set_ 0 _
              have q_0 : Blk (w9.setCell ⟨g6, 0, none⟩ (.slice A9 (nj + 1) c9)) g7 27 (Nd.cells rt) := Blk.apart (show Blk w9 g7 27 (Nd.cells rt) from (HG9.out.block g7 HDY0.out.lt (fun e => by have := (Lay.own_base HOZ.out g7 e.symm).1; omega)).trans HDY0.out) hgr9 (by omega)
              have q_1 : Blk (w9.setCell ⟨g6, 0, none⟩ (.slice A9 (nj + 1) c9)) g4 30 #[.slice none 0 0] := Blk.apart (show Blk w9 g4 30 #[.slice none 0 0] from (HG9.out.block g4 HDY1.out.lt (fun e => by have := (Lay.own_base HOZ.out g4 e.symm).1; omega)).trans HDY1.out) hgr9 (by omega)
              have q9 := Lay.own_same (w' := w9.setCell ⟨g6, 0, none⟩ (.slice A9 (nj + 1) c9)) HO9.out (fun k hk => Below.heap_setCell _ _ _ _ (by have := (Lay.own_base HO9.out k hk).1; show k ≠ g6; omega)) (fun _ h => h.elim)
              have qb : Below w.heap.size w (w9.setCell ⟨g6, 0, none⟩ (.slice A9 (nj + 1) c9)) := bl_set (HZQ.out.grown HG9.out HZQ.out.size (fun k e => by have := (Lay.own_base HOZ.out k e).1; omega)) (p := ⟨g6, 0, none⟩) (by show _ ≤ g6; omega) _
              have qz : w1.heap.size ≤ (w9.setCell ⟨g6, 0, none⟩ (.slice A9 (nj + 1) c9)).heap.size := Nat.le_trans (Nat.le_trans hzz9 hzy) (Nat.le_trans HG9.out.size hgr9.size)
              rw [List.append_assoc, ← HST.out] at q9
              clear hgr9 r0 r1 r2 r3 r4 r5 r6 r7 r8 x3 n6 n7
              have HP3 := Lib.hid q3
              have HPY0 := Lib.hid q_0
              have HPY1 := Lib.hid q_1
              have HP9 := Lib.hid q9
              have HPB := Lib.hid qb
              have HPZ := Lib.hid qz
              clear q3 q_0 q_1 q9 qb qz
              generalize w9.setCell ⟨g6, 0, none⟩ (.slice A9 (nj + 1) c9) = w10 at *
              go_roundg (gk - 1)
              · exact ⟨j + 1, A9, nj + 1, c9, by omega, by go_num, HP3, HP9, HPY0, HPY1, HPB, HPZ⟩
              · omega
          · have hl1 : z.l < 0 := by omega
            have HX1 := Lib.hid (show z.p = z.p ∧ z.l = (if 0 ≤ z.l then z.l + (no : Int) else z.l) ∧ z.r = z.r from by rw [if_neg hl]; exact ⟨rfl, rfl, rfl⟩)
            clear hl
            go_upto_region 14 with fail
            have HB5 := HBN
            have HG5 := Lib.hid (World.grownBy.refl w4 (some wr.heap.size))
            obtain ⟨w5, hw5⟩ : ∃ w5, w5 = w4 := ⟨_, rfl⟩
            rw [← hw5] at HB5 ⊢
            have HG5 : Hid (w4.grownBy w5 (some wr.heap.size)) := by rw [hw5]; exact HG5
            obtain ⟨x1, hx1⟩ : ∃ x1, x1 = z := ⟨_, rfl⟩
            have HX1 : Hid (x1.p = z.p ∧ x1.l = (if 0 ≤ z.l then z.l + (no : Int) else z.l) ∧ x1.r = z.r) := by rw [hx1]; exact HX1
            rw [← hx1] at HB5
            clear hx1 hw5 r1 r1z hll
            have r2 : w5.cell? ⟨wr.heap.size, 2, none⟩ = some (.int .i64 x1.r) := HB5.out.cell 2
            have r2z := HB5.out.frozen 2
            have hrr : x1.r ≤ 300 := by rw [HX1.out.2.2]; exact HR9.out.2
            by_cases hr : 0 ≤ x1.r
            · have HMV := Lib.hid (show mv (no : Int) z = ⟨x1.p, x1.l, x1.r + (no : Int)⟩ from by
                have h9 := hr
                rw [HX1.out.2.2] at h9
                unfold mv
                rw [if_pos h9, ← HX1.out.2.1, ← HX1.out.1, ← HX1.out.2.2])
              go_upto_region 16 with fail
              have HB8 := Lib.hid (show Blk (w5.setCell ⟨wr.heap.size, 2, none⟩ (.int .i64 (x1.r + (no : Int)))) wr.heap.size 27 (Nd.cells ⟨x1.p, x1.l, x1.r + (no : Int)⟩) from HB5.out.set_ 2 _)
              have HG8 := Lib.hid (show w4.grownBy (w5.setCell ⟨wr.heap.size, 2, none⟩ (.int .i64 (x1.r + (no : Int)))) (some wr.heap.size) from only_setCell (p := ⟨wr.heap.size, 2, none⟩) HG5.out (.inl rfl) _)
              generalize w5.setCell ⟨wr.heap.size, 2, none⟩ (.int .i64 (x1.r + (no : Int))) = w6 at *
              obtain ⟨y, hy⟩ : ∃ y, y = (⟨x1.p, x1.l, x1.r + (no : Int)⟩ : Nd) := ⟨_, rfl⟩
              rw [← hy] at HB8 HMV
              clear hy r2 r2z
              have HST := Lib.hid (show (x.take (j + 1)).map (mv (no : Int)) = (x.take j).map (mv (no : Int)) ++ [y] from by
                rw [List.take_add_one, HXJ.out, List.map_append]
                show _ ++ [mv (no : Int) z] = _
                rw [show mv (no : Int) z = y from HMV.out])
              have HY3 := Lib.hid ((HE6.out.ca HQ4.out).apart HG8.out (by omega))
              have HY7 := Lib.hid ((HE7.out.ca HQ4.out).apart HG8.out (by omega))
              have HY4 := Lib.hid ((HE4.out.ca HQ4.out).apart HG8.out (by omega))
              have HYO := Lib.hid (own_via HOJ.out HQ4.out HG8.out (Nat.le_refl _))
              have HYQ := Lib.hid ((bl_ca HQJ.out HQ4.out).grown HG8.out (bl_ca HQJ.out HQ4.out).size (fun k e => by injection e with e; have := HQJ.out.size; omega))
              have hz3 := HG8.out.size
              have hz2 := HQ4.out.size
              have r0 := HB8.out.cell 0
              have r1 := HB8.out.cell 1
              have r2 := HB8.out.cell 2
              have r3 := HB8.out.cell 3
              have r4 := HB8.out.cell 4
              have r5 := HB8.out.cell 5
              have r6 := HB8.out.cell 6
              have r7 := HB8.out.cell 7
              have r8 := HB8.out.cell 8
              have x3 : w6.cell? ⟨g6, 0, none⟩ = some (.slice Aj nj cj) := HY3.out.cell 0
              simp at r0 r1 r2 r3 r4 r5 r6 r7 r8
              have HBZ := Lib.hid (Blk.new w6 27 (Nd.cells y))
              have HQZ := Lib.hid (bl_al (Below.refl w6.heap.size w6) (.cells (Nd.cells y) 27))
              have HOZ := Lib.hid (Lay.own_below HYO.out HQZ.out)
              have hzy := HQZ.out.size
              have hzz9 : w1.heap.size ≤ w6.heap.size := by omega
              have HDZ := Lib.hid (HY3.out.ca HQZ.out)
              have HDY0 := Lib.hid (HY7.out.ca HQZ.out)
              have HDY1 := Lib.hid (HY4.out.ca HQZ.out)
              have HZQ := Lib.hid (bl_ca HYQ.out HQZ.out)
              go_wp2_with (at_builtin; refine wpList_appG (L := LN) (e := 27) rfl (.tmp 53) (.tmp 55) 28 rfl (.agg #[.int .i64 0, .int .i64 0, .int .i64 0, .int .i64 0, .int .i64 0, .int .u64 0, .string ⟨#[]⟩, .string ⟨#[]⟩, .string ⟨#[]⟩]) 9 96 Tryd.underlying28 infoN rfl rfl (by decide) w1.heap.size (fun _ => False) Aj nj cj (ys ++ (x.take j).map (mv (no : Int))) w6.heap.size 1 27 (Nd.cells y) y rfl rfl rfl HOZ.out HBZ.out rfl (fun b h => h.elim) (by omega) (by unfold maxLen; omega) (Nat.le_trans hzz9 hzy) ?_; intro A9 c9 w9 o9 g9w k9; have HO9 := Lib.hid o9; have HG9 := Lib.hid g9w; have HN3 := Lib.hid (show Blk w9 g6 30 #[.slice Aj nj cj] from (g9w.block g6 HDZ.out.lt (fun e => by have := (Lay.own_base HOZ.out g6 e.symm).1; omega)).trans HDZ.out); have n6 : w9.cell? ⟨g6, 0, none⟩ = some (.slice Aj nj cj) := HN3.out.cell 0; have n7 := HN3.out.frozen 0; clear o9 g9w k9)
              have hgr9 : w9.grownBy (w9.setCell ⟨g6, 0, none⟩ (.slice A9 (nj + 1) c9)) (some g6) := only_setCell (p := ⟨g6, 0, none⟩) (World.grownBy.refl w9 _) (.inl rfl) _
              have q3 : Blk (w9.setCell ⟨g6, 0, none⟩ (.slice A9 (nj + 1) c9)) g6 30 #[.slice A9 (nj + 1) c9] := HN3.out.set_ 0 _
              have q_0 : Blk (w9.setCell ⟨g6, 0, none⟩ (.slice A9 (nj + 1) c9)) g7 27 (Nd.cells rt) := Blk.apart (show Blk w9 g7 27 (Nd.cells rt) from (HG9.out.block g7 HDY0.out.lt (fun e => by have := (Lay.own_base HOZ.out g7 e.symm).1; omega)).trans HDY0.out) hgr9 (by omega)
              have q_1 : Blk (w9.setCell ⟨g6, 0, none⟩ (.slice A9 (nj + 1) c9)) g4 30 #[.slice none 0 0] := Blk.apart (show Blk w9 g4 30 #[.slice none 0 0] from (HG9.out.block g4 HDY1.out.lt (fun e => by have := (Lay.own_base HOZ.out g4 e.symm).1; omega)).trans HDY1.out) hgr9 (by omega)
              have q9 := Lay.own_same (w' := w9.setCell ⟨g6, 0, none⟩ (.slice A9 (nj + 1) c9)) HO9.out (fun k hk => Below.heap_setCell _ _ _ _ (by have := (Lay.own_base HO9.out k hk).1; show k ≠ g6; omega)) (fun _ h => h.elim)
              have qb : Below w.heap.size w (w9.setCell ⟨g6, 0, none⟩ (.slice A9 (nj + 1) c9)) := bl_set (HZQ.out.grown HG9.out HZQ.out.size (fun k e => by have := (Lay.own_base HOZ.out k e).1; omega)) (p := ⟨g6, 0, none⟩) (by show _ ≤ g6; omega) _
              have qz : w1.heap.size ≤ (w9.setCell ⟨g6, 0, none⟩ (.slice A9 (nj + 1) c9)).heap.size := Nat.le_trans (Nat.le_trans hzz9 hzy) (Nat.le_trans HG9.out.size hgr9.size)
              rw [List.append_assoc, ← HST.out] at q9
              clear hgr9 r0 r1 r2 r3 r4 r5 r6 r7 r8 x3 n6 n7
              have HP3 := Lib.hid q3
              have HPY0 := Lib.hid q_0
              have HPY1 := Lib.hid q_1
              have HP9 := Lib.hid q9
              have HPB := Lib.hid qb
              have HPZ := Lib.hid qz
              clear q3 q_0 q_1 q9 qb qz
              generalize w9.setCell ⟨g6, 0, none⟩ (.slice A9 (nj + 1) c9) = w10 at *
              go_roundg (gk - 1)
              · exact ⟨j + 1, A9, nj + 1, c9, by omega, by go_num, HP3, HP9, HPY0, HPY1, HPB, HPZ⟩
              · omega
            · have HMV := Lib.hid (show mv (no : Int) z = x1 from by
                have h9 := hr
                rw [HX1.out.2.2] at h9
                unfold mv
                rw [if_neg h9, ← HX1.out.2.1, ← HX1.out.1, ← HX1.out.2.2])
              have hr1 : x1.r < 0 := by omega
              clear hr
              go_upto_region 16 with fail
              have HB8 := HB5
              have HG8 := HG5
              obtain ⟨y, hy⟩ : ∃ y, y = x1 := ⟨_, rfl⟩
              obtain ⟨w6, hw6⟩ : ∃ w6, w6 = w5 := ⟨_, rfl⟩
              rw [← hy] at HB8 HMV
              rw [← hw6] at HB8 HG8 ⊢
              clear hy hw6 r2 r2z
              have HST := Lib.hid (show (x.take (j + 1)).map (mv (no : Int)) = (x.take j).map (mv (no : Int)) ++ [y] from by
                rw [List.take_add_one, HXJ.out, List.map_append]
                show _ ++ [mv (no : Int) z] = _
                rw [show mv (no : Int) z = y from HMV.out])
              have HY3 := Lib.hid ((HE6.out.ca HQ4.out).apart HG8.out (by omega))
              have HY7 := Lib.hid ((HE7.out.ca HQ4.out).apart HG8.out (by omega))
              have HY4 := Lib.hid ((HE4.out.ca HQ4.out).apart HG8.out (by omega))
              have HYO := Lib.hid (own_via HOJ.out HQ4.out HG8.out (Nat.le_refl _))
              have HYQ := Lib.hid ((bl_ca HQJ.out HQ4.out).grown HG8.out (bl_ca HQJ.out HQ4.out).size (fun k e => by injection e with e; have := HQJ.out.size; omega))
              have hz3 := HG8.out.size
              have hz2 := HQ4.out.size
              have r0 := HB8.out.cell 0
              have r1 := HB8.out.cell 1
              have r2 := HB8.out.cell 2
              have r3 := HB8.out.cell 3
              have r4 := HB8.out.cell 4
              have r5 := HB8.out.cell 5
              have r6 := HB8.out.cell 6
              have r7 := HB8.out.cell 7
              have r8 := HB8.out.cell 8
              have x3 : w6.cell? ⟨g6, 0, none⟩ = some (.slice Aj nj cj) := HY3.out.cell 0
              simp at r0 r1 r2 r3 r4 r5 r6 r7 r8
              have HBZ := Lib.hid (Blk.new w6 27 (Nd.cells y))
              have HQZ := Lib.hid (bl_al (Below.refl w6.heap.size w6) (.cells (Nd.cells y) 27))
              have HOZ := Lib.hid (Lay.own_below HYO.out HQZ.out)
              have hzy := HQZ.out.size
              have hzz9 : w1.heap.size ≤ w6.heap.size := by omega
              have HDZ := Lib.hid (HY3.out.ca HQZ.out)
              have HDY0 := Lib.hid (HY7.out.ca HQZ.out)
              have HDY1 := Lib.hid (HY4.out.ca HQZ.out)
              have HZQ := Lib.hid (bl_ca HYQ.out HQZ.out)
              go_wp2_with (at_builtin; refine wpList_appG (L := LN) (e := 27) rfl (.tmp 53) (.tmp 55) 28 rfl (.agg #[.int .i64 0, .int .i64 0, .int .i64 0, .int .i64 0, .int .i64 0, .int .u64 0, .string ⟨#[]⟩, .string ⟨#[]⟩, .string ⟨#[]⟩]) 9 96 Tryd.underlying28 infoN rfl rfl (by decide) w1.heap.size (fun _ => False) Aj nj cj (ys ++ (x.take j).map (mv (no : Int))) w6.heap.size 1 27 (Nd.cells y) y rfl rfl rfl HOZ.out HBZ.out rfl (fun b h => h.elim) (by omega) (by unfold maxLen; omega) (Nat.le_trans hzz9 hzy) ?_; intro A9 c9 w9 o9 g9w k9; have HO9 := Lib.hid o9; have HG9 := Lib.hid g9w; have HN3 := Lib.hid (show Blk w9 g6 30 #[.slice Aj nj cj] from (g9w.block g6 HDZ.out.lt (fun e => by have := (Lay.own_base HOZ.out g6 e.symm).1; omega)).trans HDZ.out); have n6 : w9.cell? ⟨g6, 0, none⟩ = some (.slice Aj nj cj) := HN3.out.cell 0; have n7 := HN3.out.frozen 0; clear o9 g9w k9)
              have hgr9 : w9.grownBy (w9.setCell ⟨g6, 0, none⟩ (.slice A9 (nj + 1) c9)) (some g6) := only_setCell (p := ⟨g6, 0, none⟩) (World.grownBy.refl w9 _) (.inl rfl) _
              have q3 : Blk (w9.setCell ⟨g6, 0, none⟩ (.slice A9 (nj + 1) c9)) g6 30 #[.slice A9 (nj + 1) c9] := HN3.out.set_ 0 _
              have q_0 : Blk (w9.setCell ⟨g6, 0, none⟩ (.slice A9 (nj + 1) c9)) g7 27 (Nd.cells rt) := Blk.apart (show Blk w9 g7 27 (Nd.cells rt) from (HG9.out.block g7 HDY0.out.lt (fun e => by have := (Lay.own_base HOZ.out g7 e.symm).1; omega)).trans HDY0.out) hgr9 (by omega)
              have q_1 : Blk (w9.setCell ⟨g6, 0, none⟩ (.slice A9 (nj + 1) c9)) g4 30 #[.slice none 0 0] := Blk.apart (show Blk w9 g4 30 #[.slice none 0 0] from (HG9.out.block g4 HDY1.out.lt (fun e => by have := (Lay.own_base HOZ.out g4 e.symm).1; omega)).trans HDY1.out) hgr9 (by omega)
              have q9 := Lay.own_same (w' := w9.setCell ⟨g6, 0, none⟩ (.slice A9 (nj + 1) c9)) HO9.out (fun k hk => Below.heap_setCell _ _ _ _ (by have := (Lay.own_base HO9.out k hk).1; show k ≠ g6; omega)) (fun _ h => h.elim)
              have qb : Below w.heap.size w (w9.setCell ⟨g6, 0, none⟩ (.slice A9 (nj + 1) c9)) := bl_set (HZQ.out.grown HG9.out HZQ.out.size (fun k e => by have := (Lay.own_base HOZ.out k e).1; omega)) (p := ⟨g6, 0, none⟩) (by show _ ≤ g6; omega) _
              have qz : w1.heap.size ≤ (w9.setCell ⟨g6, 0, none⟩ (.slice A9 (nj + 1) c9)).heap.size := Nat.le_trans (Nat.le_trans hzz9 hzy) (Nat.le_trans HG9.out.size hgr9.size)
              rw [List.append_assoc, ← HST.out] at q9
              clear hgr9 r0 r1 r2 r3 r4 r5 r6 r7 r8 x3 n6 n7
              have HP3 := Lib.hid q3
              have HPY0 := Lib.hid q_0
              have HPY1 := Lib.hid q_1
              have HP9 := Lib.hid q9
              have HPB := Lib.hid qb
              have HPZ := Lib.hid qz
              clear q3 q_0 q_1 q9 qb qz
              generalize w9.setCell ⟨g6, 0, none⟩ (.slice A9 (nj + 1) c9) = w10 at *
              go_roundg (gk - 1)
              · exact ⟨j + 1, A9, nj + 1, c9, by omega, by go_num, HP3, HP9, HPY0, HPY1, HPB, HPZ⟩
              · omega
        · obtain rfl : j = mx := by omega
          have hj1 : (j : Int) ≤ (j : Int) := by omega
          have HT := Lib.hid (show ys ++ (x.take j).map (mv (no : Int)) = catN (ls.take (i + 1)) from by
            rw [cat_step (show i < 2 by omega) HX.out, ← HYS.out, HYL.out, List.take_of_length_le (by rw [HMX.out]; exact Nat.le_refl _)])
          have HNJ := Lib.hid (show nj = no + j from by have h1 := Lay.own_len HOJ.out; rw [List.length_append, List.length_map, List.length_take, HYL.out, HMX.out, Nat.min_self] at h1; exact h1.symm)
          rw [HT.out] at HOJ
          have HST := Lib.hid (end_step (show i < 2 by omega) HX.out)
          have x6 : wr.cell? ⟨g6, 0, none⟩ = some (.slice Aj nj cj) := HE6.out.cell 0
          have f1 := HE7.out.frozen 1
          have f2 := HE7.out.frozen 2
          have c1 : wr.cell? ⟨g7, 1, none⟩ = some (.int .i64 rt.l) := HE7.out.cell 1
          have c2 : wr.cell? ⟨g7, 2, none⟩ = some (.int .i64 rt.r) := HE7.out.cell 2
          have hk3 : (nj : Int) ≤ 900 := by omega
          have hk4 : 0 ≤ (nj : Int) := by omega
          by_cases hi00 : i = 0
          · subst hi00
            go_upto_region 21 with fail
            have h9 : Blk (wr.setCell ⟨g7, 1, none⟩ (.int .i64 ((nj : Int) - 1))) g7 27 (Nd.cells ⟨zP tag, endL (ls.take (0 + 1)), endR (ls.take (0 + 1))⟩) := by
              have hs := HE7.out.set_ 1 (.int .i64 ((nj : Int) - 1))
              have hnj2 := HNJ.out
              have hml := HMX.out
              have hyl := HYL.out
              rw [HYS.out] at hyl
              obtain ⟨e1, e2⟩ := HST.out.1 rfl
              have hp : rt.p = zP tag := by rw [HRT.out]
              rw [show endL (ls.take (0 + 1)) = (nj : Int) - 1 from by rw [e1]; omega, show endR (ls.take (0 + 1)) = rt.r from by rw [show endR (ls.take (0 + 1)) = -1 from e2, HRT.out]; rfl]
              rw [← hp]
              exact hs
            have hgr : wr.grownBy (wr.setCell ⟨g7, 1, none⟩ (.int .i64 ((nj : Int) - 1))) (some g7) := only_setCell (p := ⟨g7, 1, none⟩) (World.grownBy.refl wr _) (.inl rfl) _
            have ho9 := Lay.own_same (w' := wr.setCell ⟨g7, 1, none⟩ (.int .i64 ((nj : Int) - 1))) HOJ.out (fun k hk => Below.heap_setCell _ _ _ _ (by have := (Lay.own_base HOJ.out k hk).1; show k ≠ g7; omega)) (fun _ h => h.elim)
            have q6 := HE6.out.apart hgr (by omega)
            have q4 := HE4.out.apart hgr (by omega)
            have qb := bl_set HQJ.out (p := ⟨g7, 1, none⟩) (by show _ ≤ g7; omega) (.int .i64 ((nj : Int) - 1))
            have qz := Nat.le_trans HZJ.out hgr.size
            have HG7 := Lib.hid h9
            have HGO := Lib.hid ho9
            have HG6 := Lib.hid q6
            have HG4 := Lib.hid q4
            have HGQ := Lib.hid qb
            have HGZ := Lib.hid qz
            clear h9 hgr ho9 q6 q4 qb qz c1 c2 f1 f2 x6
            generalize wr.setCell ⟨g7, 1, none⟩ (.int .i64 ((nj : Int) - 1)) = w5 at *
            go_wp2
            go_roundg (gk0 - 1)
            · exact ⟨0 + 1, Aj, nj, cj, by omega, by go_num, HAL2, HG6, HGO, HG7, HG4, HGQ, HGZ⟩
            · omega
          · obtain rfl : i = 1 := by omega
            go_upto_region 21 with fail
            have h9 : Blk (wr.setCell ⟨g7, 2, none⟩ (.int .i64 ((nj : Int) - 1))) g7 27 (Nd.cells ⟨zP tag, endL (ls.take (1 + 1)), endR (ls.take (1 + 1))⟩) := by
              have hs := HE7.out.set_ 2 (.int .i64 ((nj : Int) - 1))
              have hnj2 := HNJ.out
              have hml := HMX.out
              have hyl := HYL.out
              rw [HYS.out] at hyl
              obtain ⟨e1, e2⟩ := HST.out.2 rfl
              have hp : rt.p = zP tag := by rw [HRT.out]
              rw [show endL (ls.take (1 + 1)) = rt.l from by rw [show endL (ls.take (1 + 1)) = endL (ls.take 1) from e1, HRT.out], show endR (ls.take (1 + 1)) = (nj : Int) - 1 from by rw [e2]; omega]
              rw [← hp]
              exact hs
            have hgr : wr.grownBy (wr.setCell ⟨g7, 2, none⟩ (.int .i64 ((nj : Int) - 1))) (some g7) := only_setCell (p := ⟨g7, 2, none⟩) (World.grownBy.refl wr _) (.inl rfl) _
            have ho9 := Lay.own_same (w' := wr.setCell ⟨g7, 2, none⟩ (.int .i64 ((nj : Int) - 1))) HOJ.out (fun k hk => Below.heap_setCell _ _ _ _ (by have := (Lay.own_base HOJ.out k hk).1; show k ≠ g7; omega)) (fun _ h => h.elim)
            have q6 := HE6.out.apart hgr (by omega)
            have q4 := HE4.out.apart hgr (by omega)
            have qb := bl_set HQJ.out (p := ⟨g7, 2, none⟩) (by show _ ≤ g7; omega) (.int .i64 ((nj : Int) - 1))
            have qz := Nat.le_trans HZJ.out hgr.size
            have HG7 := Lib.hid h9
            have HGO := Lib.hid ho9
            have HG6 := Lib.hid q6
            have HG4 := Lib.hid q4
            have HGQ := Lib.hid qb
            have HGZ := Lib.hid qz
            clear h9 hgr ho9 q6 q4 qb qz c1 c2 f1 f2 x6
            generalize wr.setCell ⟨g7, 2, none⟩ (.int .i64 ((nj : Int) - 1)) = w5 at *
            go_wp2
            go_roundg (gk0 - 1)
            · exact ⟨1 + 1, Aj, nj, cj, by omega, by go_num, HAL2, HG6, HGO, HG7, HG4, HGQ, HGZ⟩
            · omega
    · obtain rfl : i = m := by omega
      have hi1 : (i : Int) ≤ (i : Int) := by omega
      have htk : ls.take i = ls := List.take_of_length_le (by rw [HLEN.out]; exact Nat.le_refl _)
      have hno : no ≤ 600 := by have := all_len HAL.out; have := Lay.own_len HOO.out; omega
      rw [htk] at HAL HOO HC7
      clear htk
      have HMC := Lib.hid (made_cat (zP tag) ls)
      obtain ⟨eL, hL⟩ : ∃ e, e = endL ls := ⟨_, rfl⟩
      obtain ⟨eR, hR⟩ : ∃ e, e = endR ls := ⟨_, rfl⟩
      rw [← hL, ← hR] at HMC HC7
      clear hL hR
      obtain ⟨y, hy⟩ : ∃ y : Nd, y = ⟨zP tag, eL, eR⟩ := ⟨_, rfl⟩
      rw [← hy] at HMC HC7
      have HYP := Lib.hid (show SmP y.p from by rw [hy]; exact smz tag)
      clear hy
      have hz := HZ.out
      have r0 := HC7.out.cell 0
      have r1 := HC7.out.cell 1
      have r2 := HC7.out.cell 2
      have r3 := HC7.out.cell 3
      have r4 := HC7.out.cell 4
      have r5 := HC7.out.cell 5
      have r6 := HC7.out.cell 6
      have r7 := HC7.out.cell 7
      have r8 := HC7.out.cell 8
      have x3 : wr.cell? ⟨g6, 0, none⟩ = some (.slice Ao no co) := HC6.out.cell 0
      simp at r0 r1 r2 r3 r4 r5 r6 r7 r8
      have HBZ := Lib.hid (Blk.new wr 27 (Nd.cells y))
      have HQZ := Lib.hid (bl_al (Below.refl wr.heap.size wr) (.cells (Nd.cells y) 27))
      have HOZ := Lib.hid (Lay.own_below HOO.out HQZ.out)
      have hzy := HQZ.out.size
      have hzz9 : w1.heap.size ≤ wr.heap.size := by omega
      have HDZ := Lib.hid (HC6.out.ca HQZ.out)
      have HDY0 := Lib.hid (HC4.out.ca HQZ.out)
      have HZQ := Lib.hid (bl_ca HQB.out HQZ.out)
      go_wp2_with (at_builtin; refine wpList_appG (L := LN) (e := 27) rfl (.tmp 73) (.tmp 75) 28 rfl (.agg #[.int .i64 0, .int .i64 0, .int .i64 0, .int .i64 0, .int .i64 0, .int .u64 0, .string ⟨#[]⟩, .string ⟨#[]⟩, .string ⟨#[]⟩]) 9 96 Tryd.underlying28 infoN rfl rfl (by decide) w1.heap.size (fun _ => False) Ao no co (catN ls) wr.heap.size 1 27 (Nd.cells y) y rfl rfl rfl HOZ.out HBZ.out rfl (fun b h => h.elim) (by omega) (by unfold maxLen; omega) (Nat.le_trans hzz9 hzy) ?_; intro A9 c9 w9 o9 g9w k9; have HO9 := Lib.hid o9; have HG9 := Lib.hid g9w; have HN3 := Lib.hid (show Blk w9 g6 30 #[.slice Ao no co] from (g9w.block g6 HDZ.out.lt (fun e => by have := (Lay.own_base HOZ.out g6 e.symm).1; omega)).trans HDZ.out); have n6 : w9.cell? ⟨g6, 0, none⟩ = some (.slice Ao no co) := HN3.out.cell 0; have n7 := HN3.out.frozen 0; clear o9 g9w k9)
      have hgr9 : w9.grownBy (w9.setCell ⟨g6, 0, none⟩ (.slice A9 (no + 1) c9)) (some g6) := only_setCell (p := ⟨g6, 0, none⟩) (World.grownBy.refl w9 _) (.inl rfl) _
      have q3 : Blk (w9.setCell ⟨g6, 0, none⟩ (.slice A9 (no + 1) c9)) g6 30 #[.slice A9 (no + 1) c9] := HN3.out.set_ 0 _
      have q_0 : Blk (w9.setCell ⟨g6, 0, none⟩ (.slice A9 (no + 1) c9)) g4 30 #[.slice none 0 0] := Blk.apart (show Blk w9 g4 30 #[.slice none 0 0] from (HG9.out.block g4 HDY0.out.lt (fun e => by have := (Lay.own_base HOZ.out g4 e.symm).1; omega)).trans HDY0.out) hgr9 (by omega)
      have q9 := Lay.own_same (w' := w9.setCell ⟨g6, 0, none⟩ (.slice A9 (no + 1) c9)) HO9.out (fun k hk => Below.heap_setCell _ _ _ _ (by have := (Lay.own_base HO9.out k hk).1; show k ≠ g6; omega)) (fun _ h => h.elim)
      have qb : Below w.heap.size w (w9.setCell ⟨g6, 0, none⟩ (.slice A9 (no + 1) c9)) := bl_set (HZQ.out.grown HG9.out HZQ.out.size (fun k e => by have := (Lay.own_base HOZ.out k e).1; omega)) (p := ⟨g6, 0, none⟩) (by show _ ≤ g6; omega) _
      have qz : w1.heap.size ≤ (w9.setCell ⟨g6, 0, none⟩ (.slice A9 (no + 1) c9)).heap.size := Nat.le_trans (Nat.le_trans hzz9 hzy) (Nat.le_trans HG9.out.size hgr9.size)
      rw [← HMC.out] at q9
      clear hgr9 r0 r1 r2 r3 r4 r5 r6 r7 r8 x3 n6 n7
      have HP3 := Lib.hid q3
      have HPY0 := Lib.hid q_0
      have HP9 := Lib.hid q9
      have HPB := Lib.hid qb
      have HPZ := Lib.hid qz
      clear q3 q_0 q9 qb qz
      generalize w9.setCell ⟨g6, 0, none⟩ (.slice A9 (no + 1) c9) = w10 at *
      have hl9 := Lay.own_len HP9.out
      have hcap := Lay.own_caps HP9.out
      have HCK := Lib.hid (rright_any (fun b => w1.heap.size ≤ b) (madeN (zP tag) ls) A9 (no + 1) c9 w10 (Lay.own_rd2 HP9.out (fun b e => (Lay.own_base HP9.out b e).1) (fun b h _ => h.elim)) (by omega) (fun y hy => by
        rw [HMC.out] at hy
        rcases List.mem_append.1 hy with hy | hy
        · obtain ⟨l, hl, z, hz, e⟩ := cat_mem hy
          rw [e]; exact HSM.out l hl z hz
        · rw [List.mem_singleton] at hy
          subst hy
          exact HYP.out))
      have HOKE := Lib.hid (show ok = okF (madeN (zP tag) ls) from by rw [HK.out, HAL.out]; rfl)
      rw [← HOKE.out] at HCK
      have x6 : w10.cell? ⟨g6, 0, none⟩ = some (.slice A9 (no + 1) c9) := HP3.out.cell 0
      go_wp2_with fail
      refine HCK.out.mono ?_
      rintro e w11 ⟨rfl, q10⟩
      have HD6 := Lib.hid (HP3.out.ca q10)
      have HD4 := Lib.hid (HPY0.out.ca q10)
      have HDO := Lib.hid (Lay.own_below HP9.out q10)
      have HDB := Lib.hid (bl_ca HPB.out q10)
      clear x6
      have x6 : w11.cell? ⟨g6, 0, none⟩ = some (.slice A9 (no + 1) c9) := HD6.out.cell 0
      have x4 : w11.cell? ⟨g4, 0, none⟩ = some (.slice none 0 0) := HD4.out.cell 0
      have f4 := HD4.out.frozen 0
      have HZ1 := HQ1.out.size
      clear q10 HCK
      cases ok
      · have HR2 := Lib.hid (show R = [] from by rw [HR.out]; rfl)
        go_wp2
        exact bodyPost_ret (res2 Tryd.results14 rfl rfl (HD4.out.set_ 0 (.slice none 0 0)) Tryd.underlying30 rfl treeI) rfl ⟨none, 0, 0, rfl, by rw [HR2.out]; exact Lay.rd_nil _, Nat.le_refl _, by omega, bl_set HDB.out (p := ⟨g4, 0, none⟩) (by show _ ≤ g4; omega) _⟩
      · have HR2 := Lib.hid (show R = madeN (zP tag) ls from by rw [HR.out]; rfl)
        go_wp2
        exact bodyPost_ret (res2 Tryd.results14 rfl rfl (HD4.out.set_ 0 (.slice A9 (no + 1) c9)) Tryd.underlying30 rfl treeI) rfl ⟨A9, no + 1, c9, rfl, by
          rw [HR2.out]
          exact Lay.rd_weak (fun b hb _ => Nat.le_trans HZ1 hb) (Lay.rd_keep (fun b hb _ => Below.heap_setCell _ _ _ _ (by have h7 : w1.heap.size ≤ b := hb; show b ≠ g4; omega)) (Lay.own_rd2 (F := fun b => w1.heap.size ≤ b) HDO.out (fun b e => (Lay.own_base HDO.out b e).1) (fun b h _ => h.elim))), hcap.1, hcap.2, bl_set HDB.out (p := ⟨g4, 0, none⟩) (by show _ ≤ g4; omega) _⟩
end Go.Proofs.YtoaggmldekejoaaDoor
/- Is what is made what the document says? Conditions: both trees read so. -/
namespace Go.Proofs.YtoaggmldekejoaaDoor
open Go.RowKit
set_option maxRecDepth 100000 in
theorem mlaw_any (F G : Nat → Prop) (p : Py) (l : List (List Nd)) (A : Option Addr) (m c : Nat) (B : Option Addr) (n d : Nat) (w : World) (h : LN.rd w F A m (madeR p l)) (k : madeOk p l = true → LN.rd w G B n (madeR p l)) (hm : m ≤ 9223372036854775807) :
    Calls Tryd.prog 10 #[.agg #[.slice A m c], .int .i64 (madeE p l), .agg #[.slice B n d], .bool (madeOk p l)] w fun e w' => e = .returned (.bool true) ∧ Below w.heap.size w w' := by
  have hE : madeE p l = if madeOk p l then 0 else 180 := rfl
  have hR : madeR p l = if madeOk p l then madeN p l else [] := rfl
  generalize madeE p l = E at *
  generalize madeR p l = R at *
  generalize madeN p l = N at *
  have HQ := Lib.hid (bl_al (bl_al (Below.refl w.heap.size w) (.cells #[.slice A m c] 30)) (.cells #[.slice B n d] 30))
  have HBA := Lib.hid ((Blk.new w 30 #[.slice A m c]).alloc (.cells #[.slice B n d] 30))
  have HBB := Lib.hid (show Blk ((w.alloc (.cells #[.slice A m c] 30)).alloc (.cells #[.slice B n d] 30)) (w.heap.size + 1) 30 #[.slice B n d] from by
    have := Blk.new (w.alloc (.cells #[.slice A m c] 30)) 30 #[.slice B n d]
    rwa [World.size_alloc] at this)
  have HL := Lib.hid (Lay.rd_len h)
  cases hok : madeOk p l
  · rw [hok] at hE hR
    have hm0 : m = 0 := by have := HL.out; rw [hR] at this; exact this.symm
    have he : E = 180 := hE
    subst hm0
    subst he
    clear h k hm hE hR hok
    go_enter Tryd.func10, Tryd.ntmps10
    go_upto_region 1 with fail
    generalize (w.alloc (.cells #[.slice A 0 c] 30)).alloc (.cells #[.slice B n d] 30) = w1 at *
    have x0 := HBA.out.cell 0
    simp at x0
    go_wp2
    go_ret
    exact ⟨rfl, HQ.out⟩
  · rw [hok] at hE
    have HS := Lib.hid (rsame_any F G R R A m c B n d _ (Lay.rd_below h HQ.out) (Lay.rd_below (k hok) HQ.out) hm)
    rw [decide_eq_true (show R = R from rfl)] at HS
    have he : E = 0 := hE
    subst he
    clear h k hm hE hR hok
    go_enter Tryd.func10, Tryd.ntmps10
    go_upto_region 1 with fail
    generalize (w.alloc (.cells #[.slice A m c] 30)).alloc (.cells #[.slice B n d] 30) = w1 at *
    have x0 := HBA.out.cell 0
    have x1 := HBB.out.cell 0
    simp at x0 x1
    go_wp2_with fail
    refine HS.out.mono ?_
    rintro e w2 ⟨rfl, q2⟩
    clear x0 x1
    go_wp2
    go_ret
    exact ⟨rfl, bl_ca HQ.out q2⟩
theorem field_tree (A : Option Addr) (n c : Nat) (W : World) : (Instr.field 30 (.agg #[.slice A n c]) 0).run Tryd.prog W = .ok (.slice A n c) W := by kernel_rfl
theorem add0 (a : Addr) : a.add (0 * 9) = a := by
  rw [Nat.zero_mul]
  exact rfl
/-- a row of one node, just laid -/
theorem rd_one {w : World} {g : Nat} {y : Nd} (h : Blk w g 27 (Nd.cells y)) : LN.rd w AllB (some ⟨g, 0, none⟩) 1 [y] :=
  Lay.rd_blk (L := LN) (F := AllB) h rfl (LN_reps.2 (by simp [nd9])) trivial
/-- a row of one tree, of two trees, just laid -/
theorem rd_tr1 {w : World} {g : Nat} {A : Option Addr} {n c : Nat} {x : List Nd} (h : Blk w g 30 #[.slice A n c]) (hr : LN.rd w AllB A n x) (h1 : n ≤ c) (h2 : c ≤ 9223372036854775807) : LTr.rd w AllB (some ⟨g, 0, none⟩) 1 [x] :=
  Lay.rd_blk (L := LTr) (F := AllB) h rfl ⟨[.slice A n c], [], rfl, ⟨A, n, c, rfl, h1, h2, hr⟩, rfl⟩ trivial
theorem rd_tr2 {w : World} {g : Nat} {A : Option Addr} {n c : Nat} {x : List Nd} {B : Option Addr} {m d : Nat} {y : List Nd} (h : Blk w g 30 #[.slice A n c, .slice B m d]) (hr : LN.rd w AllB A n x) (h1 : n ≤ c) (h2 : c ≤ 9223372036854775807) (kr : LN.rd w AllB B m y) (k1 : m ≤ d) (k2 : d ≤ 9223372036854775807) : LTr.rd w AllB (some ⟨g, 0, none⟩) 2 [x, y] :=
  Lay.rd_blk (L := LTr) (F := AllB) h rfl ⟨[.slice A n c], [.slice B m d], rfl, ⟨A, n, c, rfl, h1, h2, hr⟩, ⟨[.slice B m d], [], rfl, ⟨B, m, d, rfl, k1, k2, kr⟩, rfl⟩⟩ trivial
/-- what stays where it is, whatever is written into one block -/
structure KP (w : World) (g4 g5 g8 h8 : Nat) (c5 : Array Value) (V5 V6 : Value) (A : Option Addr) (n : Nat) (L : List Nd) (B : Option Addr) (m : Nat) (R : List Nd) (W : World) : Prop where
  b5 : Blk W g5 31 c5
  b8 : Blk W g8 30 #[V5]
  b9 : Blk W h8 30 #[V6]
  r5 : LN.rd W (fun x => x ≠ g4) A n L
  r6 : LN.rd W (fun x => x ≠ g4) B m R
  q : Below w.heap.size w W
  h : w.heap.size ≤ g4
  ne : g5 ≠ g4 ∧ g8 ≠ g4 ∧ h8 ≠ g4
section
variable {w : World} {g4 g5 g8 h8 : Nat} {c5 : Array Value} {V5 V6 : Value} {A : Option Addr} {n : Nat} {L : List Nd} {B : Option Addr} {m : Nat} {R : List Nd} {W W' : World}
theorem KP.ca (k : KP w g4 g5 g8 h8 c5 V5 V6 A n L B m R W) (q : Below W.heap.size W W') : KP w g4 g5 g8 h8 c5 V5 V6 A n L B m R W' :=
  ⟨k.b5.ca q, k.b8.ca q, k.b9.ca q, Lay.rd_below k.r5 q, Lay.rd_below k.r6 q, bl_ca k.q q, k.h, k.ne⟩
theorem KP.gr (k : KP w g4 g5 g8 h8 c5 V5 V6 A n L B m R W) (q : W.grownBy W' (some g4)) : KP w g4 g5 g8 h8 c5 V5 V6 A n L B m R W' :=
  ⟨k.b5.apart q k.ne.1, k.b8.apart q k.ne.2.1, k.b9.apart q k.ne.2.2, rd_grownH k.r5 q (fun _ hx e => hx e), rd_grownH k.r6 q (fun _ hx e => hx e), bl_gr k.q q k.h, k.h, k.ne⟩
end
theorem gr_set9 (w : World) (g : Nat) (v0 v1 v2 v3 v4 v5 v6 v7 v8 : Value) : w.grownBy (((((((((w.setCell ⟨g, 0, none⟩ v0).setCell ⟨g, 1, none⟩ v1).setCell ⟨g, 2, none⟩ v2).setCell ⟨g, 3, none⟩ v3).setCell ⟨g, 4, none⟩ v4).setCell ⟨g, 5, none⟩ v5).setCell ⟨g, 6, none⟩ v6).setCell ⟨g, 7, none⟩ v7).setCell ⟨g, 8, none⟩ v8) (some g) := (only_setCell (p := ⟨g, 8, none⟩) (only_setCell (p := ⟨g, 7, none⟩) (only_setCell (p := ⟨g, 6, none⟩) (only_setCell (p := ⟨g, 5, none⟩) (only_setCell (p := ⟨g, 4, none⟩) (only_setCell (p := ⟨g, 3, none⟩) (only_setCell (p := ⟨g, 2, none⟩) (only_setCell (p := ⟨g, 1, none⟩) (only_setCell (p := ⟨g, 0, none⟩) (World.grownBy.refl w _) (.inl rfl) _) (.inl rfl) _) (.inl rfl) _) (.inl rfl) _) (.inl rfl) _) (.inl rfl) _) (.inl rfl) _) (.inl rfl) _) (.inl rfl) _)
end Go.Proofs.YtoaggmldekejoaaDoor
