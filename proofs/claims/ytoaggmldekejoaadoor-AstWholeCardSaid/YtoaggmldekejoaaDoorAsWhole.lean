/- AstWhole: made of its parts a tree is itself. Conditions: the nodes read so; what the tables hold. -/
import Derived.Test.YtoaggmldekejoaaDoorAsY
namespace Go.Proofs.YtoaggmldekejoaaDoor
open Go.RowKit
theorem part_sm {xs : List Nd} (hS : ∀ x ∈ xs, SmP x.p) {t : Tr} (ht : treeF cntB xs = some t) {i : Nat} (hi : i < t.size) : (∀ y ∈ partN xs i, SmP y.p) ∧ (partN xs i).length ≤ 300 := by
  constructor
  · intro y hy
    rw [← part_at ht hi] at hy
    obtain ⟨z, hz, rfl⟩ := List.mem_map.1 hy
    exact hS z (List.mem_of_mem_drop (List.mem_of_mem_take hz))
  · rw [partN_of ht, Tr.flat_len]
    have := t.sub_size i hi
    have := (treeF_some.1 ht).2.2.1
    omega
theorem partE_in {xs : List Nd} {i : Int} (h : partE xs i = 0) : okF xs = true ∧ 0 ≤ i ∧ i < (xs.length : Int) := by
  unfold partE at h
  split at h
  · rename_i h1
    split at h
    · rename_i h2; exact ⟨h1, h2⟩
    · cases h
  · cases h
/-- a part of a tree, where the program asks for it -/
theorem part_get (xs : List Nd) (A : Option Addr) (n c : Nat) (i : Int) (w : World) (h : LN.rd w AllB A n xs) (hn : n ≤ 100000) (hc : n ≤ c) (hc2 : c ≤ 9223372036854775807) (hT : Tab w) (hS : ∀ x ∈ xs, SmP x.p) (hE : partE xs i = 0) :
    Calls Tryd.prog 16 #[.agg #[.slice A n c], .int .i64 i] w fun e w' => ∃ A' n' c', e = .returned (.tuple #[.agg #[.slice A' n' c'], .int .i64 0]) ∧ LN.rd w' AllB A' n' (partN xs i.toNat) ∧ n' ≤ c' ∧ c' ≤ 9223372036854775807 ∧ Below w.heap.size w w' := by
  have hp := part_any AllB xs A n c i w h hn hc hc2 hT hS
  unfold partR at hp
  rw [hE, if_pos rfl] at hp
  refine hp.mono ?_
  rintro e w' ⟨A', n', c', rfl, hr, h1, h2, q⟩
  exact ⟨A', n', c', rfl, rd_all hr, h1, h2, q⟩
theorem made_get {w0 w' : World} {p : Py} {l : List (List Nd)} {e : Ending} {X : List Nd} (hok : madeOk p l = true) (hX : madeN p l = X) (h : MadeO w0 (madeE p l) (madeR p l) e w') : ∃ A n c, e = .returned (.tuple #[.agg #[.slice A n c], .int .i64 0]) ∧ LN.rd w' (fun b => w0.heap.size ≤ b) A n X ∧ n ≤ c ∧ c ≤ 9223372036854775807 ∧ Below w0.heap.size w0 w' := by
  unfold madeE madeR at h
  rw [hok, if_pos rfl, if_pos rfl, hX] at h
  exact h
/-- the fresh tree behind the store into a block that was there -/
theorem made_put {w0 w1 : World} {g : Nat} {A : Option Addr} {n : Nat} {X : List Nd} (h : LN.rd w1 (fun b => w0.heap.size ≤ b) A n X) (hg : g < w0.heap.size) (v : Value) : LN.rd (w1.setCell ⟨g, 0, none⟩ v) AllB A n X :=
  rd_all (Lay.rd_keep (w' := w1.setCell ⟨g, 0, none⟩ v) (fun b hb _ => Below.heap_setCell _ _ _ _ (by show b ≠ g; have : w0.heap.size ≤ b := hb; omega)) h)
theorem same_get (xs : List Nd) (A : Option Addr) (m c : Nat) (B : Option Addr) (n d : Nat) (w : World) (h : LN.rd w AllB A m xs) (k : LN.rd w AllB B n xs) (hm : m ≤ 9223372036854775807) : Calls Tryd.prog 19 #[.agg #[.slice A m c], .agg #[.slice B n d]] w fun e w' => e = .returned (.bool true) ∧ Below w.heap.size w w' := by
  have := sametree_any AllB AllB xs xs A m c B n d w h k hm
  rwa [decide_eq_true (show xs = xs from rfl)] at this
set_option maxRecDepth 100000 in
set_option maxHeartbeats 16000000 in
theorem whole_walk (xs0 : List Nd) (A0 : Option Addr) (n0 c0 : Nat) (w : World) (h : LN.rd w AllB A0 n0 xs0) (hn : n0 ≤ 9223372036854775807) (hT : Tab w) (hS : ∀ x ∈ xs0, SmP x.p) :
    Calls Tryd.prog 6 #[.agg #[.slice A0 n0 c0]] w fun e w' => e = .returned (.bool true) ∧ Below w.heap.size w w' := by
  have HQ1 := Lib.hid (bl_al (Below.refl w.heap.size w) (.cells #[.slice A0 n0 c0] 30))
  have HB1 := Lib.hid (Blk.new w 30 #[.slice A0 n0 c0])
  have HX := Lib.hid (Lay.rd_below h HQ1.out)
  have HT := Lib.hid (hT.below HQ1.out)
  have HSX := Lib.hid hS
  have HN := Lib.hid hn
  clear h hT hS hn
  go_enter Tryd.func6, Tryd.ntmps6
  go_wp2_with fail
  generalize w.alloc (.cells #[.slice A0 n0 c0] 30) = w1 at *
  refine (wakes_any w1 HT.out).mono ?_
  rintro e w2 ⟨rfl, q2⟩
  have HQ2 := Lib.hid (bl_ca HQ1.out q2)
  have HX2 := Lib.hid (Lay.rd_below HX.out q2)
  have HT2 := Lib.hid (HT.out.below q2)
  have x0 := (HB1.out.ca q2).cell 0
  simp at x0
  have HSH := Lib.hid (short_any AllB xs0 A0 n0 c0 w2 HX2.out HN.out HSX.out)
  have HSM := Lib.hid (short_sm (xs := xs0))
  have HSL := Lib.hid (short_len xs0)
  generalize shortN xs0 = xs at *
  clear q2
  go_wp2_with fail
  refine HSH.out.mono ?_
  rintro e w3 ⟨A, n, c, rfl, hr3, hc1, hc2, q3⟩
  have hn301 : n ≤ 301 := by have := Lay.rd_len hr3; have := HSL.out; omega
  have HQ3 := Lib.hid (bl_al (bl_ca HQ2.out q3) (.cells #[.slice A n c] 30))
  have HB3 := Lib.hid (Blk.new w3 30 #[.slice A n c])
  have HR3 := Lib.hid (Lay.rd_below (rd_all hr3) (bl_al (Below.refl w3.heap.size w3) (.cells #[.slice A n c] 30)))
  have HT3 := Lib.hid ((HT2.out.below q3).below (bl_al (Below.refl w3.heap.size w3) (.cells #[.slice A n c] 30)))
  have HCC := Lib.hid (And.intro hc1 hc2)
  have HLN := Lib.hid (Lay.rd_len hr3)
  clear hr3 q3 x0 HSH
  go_upto_region 4 with fail
  obtain ⟨g3, hg3⟩ : ∃ g, g = w3.heap.size := ⟨_, rfl⟩
  rw [← hg3] at HB3 ⊢
  generalize w3.alloc (.cells #[.slice A n c] 30) = w4 at *
  clear hg3
  have x3 : w4.cell? ⟨g3, 0, none⟩ = some (.slice A n c) := HB3.out.cell 0
  have HCT := Lib.hid (checktree_any AllB xs A n c w4 HR3.out (by omega) HT3.out HSM.out)
  obtain ⟨ce, hce⟩ : ∃ ce, ce = chkE xs := ⟨_, rfl⟩
  have HCE := Lib.hid (show ce = if okF xs then 0 else 180 from hce)
  rw [← hce] at HCT
  clear hce
  go_wp2_with fail
  refine HCT.out.mono ?_
  rintro e w5 ⟨rfl, q5⟩
  have HQ5 := Lib.hid (bl_ca HQ3.out q5)
  have HB5 := Lib.hid (HB3.out.ca q5)
  have HR5 := Lib.hid (Lay.rd_below HR3.out q5)
  have HT5 := Lib.hid (HT3.out.below q5)
  clear q5 x3 HCT
  cases hok : okF xs
  · have hc : ce = 180 := by rw [HCE.out, hok]; rfl
    subst hc
    clear hok
    go_wp2
    go_ret
    exact ⟨rfl, HQ5.out⟩
  have hc : ce = 0 := by rw [HCE.out, hok]; rfl
  subst hc
  obtain ⟨t, ht⟩ := okF_ex hok
  have HTR := Lib.hid ht
  obtain ⟨hw1, hw2, hw3⟩ := whole_last ht
  have HTL := Lib.hid (tree_len ht)
  rw [HLN.out] at hw1 hw3 HTL
  rw [HLN.out] at hw2
  have hn3 : (n : Int) ≤ 301 := by omega
  have hn1 : 1 ≤ (n : Int) := by omega
  obtain ⟨n1, hnn⟩ : ∃ n1, n = n1 + 1 := ⟨n - 1, by omega⟩
  have hlast : (n : Int) - 1 = (n1 : Int) := by omega
  have HPG := Lib.hid (fun (i : Int) (hE : partE xs i = 0) w' (q : Below w5.heap.size w5 w') => part_get xs A n c i w' (Lay.rd_below HR5.out q) (by omega) HCC.out.1 HCC.out.2 (HT5.out.below q) HSM.out hE)
  have x5 : w5.cell? ⟨g3, 0, none⟩ = some (.slice A n c) := HB5.out.cell 0
  rw [hlast] at hw1
  have HL0 := Lib.hid (HPG.out (n1 : Int) hw1 w5 (Below.refl _ _))
  rw [Int.toNat_natCast, show n1 = n - 1 from by omega, hw2] at HL0
  rw [show n - 1 = n1 from by omega] at HL0
  have HNN := Lib.hid hnn
  clear hw1 hw2 hw3 hok ht hnn
  go_wp2_with fail
  refine HL0.out.mono ?_
  rintro e w6 ⟨A6, n6, c6, rfl, hr6, h6a, h6b, q6⟩
  have HR6 := Lib.hid (Lay.rd_below hr6 (bl_al (Below.refl w6.heap.size w6) (.cells #[.slice A6 n6 c6] 30)))
  have HQ6 := Lib.hid (bl_al q6 (.cells #[.slice A6 n6 c6] 30))
  have HB6 := Lib.hid (Blk.new w6 30 #[.slice A6 n6 c6])
  have hn6 : n6 ≤ 301 := by have := Lay.rd_len hr6; have := HSL.out; omega
  clear hr6 q6 x5 HL0
  go_upto_region 8 with fail
  generalize w6.alloc (.cells #[.slice A6 n6 c6] 30) = w7 at *
  have x3 : w7.cell? ⟨g3, 0, none⟩ = some (.slice A n c) := (HB5.out.ca HQ6.out).cell 0
  have x6 : w7.cell? ⟨w6.heap.size, 0, none⟩ = some (.slice A6 n6 c6) := HB6.out.cell 0
  have HSG := Lib.hid (same_get xs A6 n6 c6 A n c w7 HR6.out (Lay.rd_below HR5.out HQ6.out) (by omega))
  go_wp2_with fail
  refine HSG.out.mono ?_
  rintro e w8 ⟨rfl, q8⟩
  have HQ8 := Lib.hid (bl_ca HQ6.out q8)
  have x8 : w8.cell? ⟨g3, 0, none⟩ = some (.slice A n c) := (HB5.out.ca HQ8.out).cell 0
  clear q8 x3 x6 HSG HR6 HB6
  go_wp2_with fail
  go_loopg [46] n (fun g a wr => ∃ i : Nat, i + g = n ∧ a = .int .i64 (i : Int) ∧ Hid (Below w5.heap.size w5 wr))
  case atStart => exact ⟨0, by omega, rfl, HQ8⟩
  case round =>
    obtain ⟨i, hig, rfl, HQR⟩ := hrel
    by_cases hlt : i < n
    · have hi1 : (i : Int) < (n : Int) := by omega
      have hi0 : 0 ≤ (i : Int) := by omega
      have hit : i < t.size := by rw [← HTL.out]; exact hlt
      have HWA := Lib.hid (whole_at HTR.out hit)
      have HPS := Lib.hid (part_sm HSM.out HTR.out hit)
      have HPI := Lib.hid (part_in HTR.out hit (i := (i : Int)) rfl)
      have HPO := Lib.hid (HPG.out (i : Int) HPI.out)
      rw [Int.toNat_natCast] at HPO
      obtain ⟨p, x, hAe, hx, s1⟩ := LN_at (Lay.rd_below HR5.out HQR.out) hlt
      obtain rfl : A = some p := hAe
      have HXX := Lib.hid hx
      have e0 := s1.c0
      have e1 := s1.c1
      have e2 := s1.c2
      have e3 := s1.c3
      have e4 := s1.c4
      have e5 := s1.c5
      have e6 := s1.c6
      have e7 := s1.c7
      have e8 := s1.c8
      have HBN := Lib.hid (Blk.new wr 27 (Nd.cells x))
      have HQN := Lib.hid (bl_al HQR.out (.cells (Nd.cells x) 27))
      clear hx s1
      go_upto_region 13 with fail
      clear e0 e1 e2 e3 e4 e5 e6 e7 e8
      obtain ⟨gn, hgn⟩ : ∃ g, g = wr.heap.size := ⟨_, rfl⟩
      rw [← hgn] at HBN ⊢
      generalize wr.alloc (.cells #[.int .i64 x.p.tag, .int .i64 x.l, .int .i64 x.r, .int .i64 x.p.k, .int .i64 x.p.n, .int .u64 x.p.u, .string x.p.s, .string x.p.tb, .string x.p.nm] 27) = wa at *
      clear hgn
      have x3 : wa.cell? ⟨g3, 0, none⟩ = some (.slice (some p) n c) := (HB5.out.ca HQN.out).cell 0
      go_wp2_with fail
      refine (HPO.out wa HQN.out).mono ?_
      rintro e wb ⟨A9, n9, c9, rfl, hr9, h9a, h9b, q9⟩
      have HRo := Lib.hid (Lay.rd_below hr9 (bl_al (Below.refl wb.heap.size wb) (.cells #[.slice A9 n9 c9] 30)))
      have HQo := Lib.hid (bl_al (bl_ca HQN.out q9) (.cells #[.slice A9 n9 c9] 30))
      have HBo := Lib.hid (Blk.new wb 30 #[.slice A9 n9 c9])
      have HBn := Lib.hid (HBN.out.ca (bl_al q9 (.cells #[.slice A9 n9 c9] 30)))
      have hn9 : n9 ≤ 300 := by have := Lay.rd_len hr9; have := HPS.out.2; omega
      have HL9 := Lib.hid (Lay.rd_len hr9)
      clear hr9 q9 x3 HBN HPO
      go_upto_region 14 with fail
      obtain ⟨g9, hg9⟩ : ∃ g, g = wb.heap.size := ⟨_, rfl⟩
      rw [← hg9] at HBo ⊢
      generalize wb.alloc (.cells #[.slice A9 n9 c9] 30) = wc at *
      clear hg9
      have x9 : wc.cell? ⟨g9, 0, none⟩ = some (.slice A9 n9 c9) := HBo.out.cell 0
      have HCK := Lib.hid (checktree_any AllB (partN xs i) A9 n9 c9 wc HRo.out (by omega) (HT5.out.below HQo.out) HPS.out.1)
      rw [show chkE (partN xs i) = 0 from by unfold chkE; rw [HWA.out.ok]; rfl] at HCK
      go_wp2_with fail
      refine HCK.out.mono ?_
      rintro e wd ⟨rfl, qd⟩
      have HQd := Lib.hid (bl_ca HQo.out qd)
      have HBod := Lib.hid (HBo.out.ca qd)
      have HBnd := Lib.hid (HBn.out.ca qd)
      have HRod := Lib.hid (Lay.rd_below HRo.out qd)
      have HDo := Lib.hid (fun w' (q : Below wd.heap.size wd w') => depth_any AllB (partN xs i) A9 n9 c9 w' (Lay.rd_below HRod.out q) (by omega) ((HT5.out.below HQd.out).below q) HPS.out.1)
      obtain ⟨D3, hD3⟩ : ∃ D, D = depF (partN xs i) := ⟨_, rfl⟩
      rw [← hD3] at HDo
      have hd20 : D3 ≤ 20 := by rw [hD3]; exact HWA.out.dep
      have HD3 := Lib.hid hD3
      have y9 : wd.cell? ⟨g9, 0, none⟩ = some (.slice A9 n9 c9) := HBod.out.cell 0
      have hd21 : (D3 : Int) ≤ 20 := by omega
      clear qd x9 HCK HBo HBn HRo hD3
      by_cases hil : i < n1
      case neg =>
        have hil1 : (n1 : Int) ≤ (i : Int) := by omega
        clear hil
        go_upto_region 16 with fail
        have HQD := HQd
        have HBO := HBod
        have HBN := HBnd
        have HRO := HRod
        have HDO := HDo
        obtain ⟨wD, hwD⟩ : ∃ W, W = wd := ⟨_, rfl⟩
        rw [← hwD] at HQD HBO HBN HRO HDO ⊢
        clear hwD y9
        have hA1 := bl_al (Below.refl wD.heap.size wD) (.cells #[.slice none 0 0] 30)
        have HBE := Lib.hid (Blk.new wD 30 #[.slice none 0 0])
        go_upto_region 22 with fail
        obtain ⟨ge, hge⟩ : ∃ g, g = wD.heap.size := ⟨_, rfl⟩
        rw [← hge] at HBE ⊢
        obtain ⟨wE, hwE⟩ : ∃ W, W = wD.alloc (.cells #[.slice none 0 0] 30) := ⟨_, rfl⟩
        rw [← hwE] at hA1 HBE ⊢
        have hgf := Nat.le_of_eq hge.symm
        have HAwE := Lib.hid hA1
        have HEwE := Lib.hid (Below.refl wE.heap.size wE)
        clear hwE hA1 hge
        have hge := hgf
        clear hgf
        have z1 : wE.cell? ⟨gn, 1, none⟩ = some (.int .i64 x.l) := (HBN.out.ca HAwE.out).cell 1
        have z2 : wE.cell? ⟨gn, 2, none⟩ = some (.int .i64 x.r) := (HBN.out.ca HAwE.out).cell 2
        by_cases hl : x.l < 0
        case pos =>
          obtain ⟨hmo, hmn⟩ := HWA.out.leaf x HXX.out hl
          have z0 : wE.cell? ⟨gn, 0, none⟩ = some (.int .i64 x.p.tag) := (HBN.out.ca HAwE.out).cell 0
          have z3 : wE.cell? ⟨gn, 3, none⟩ = some (.int .i64 x.p.k) := (HBN.out.ca HAwE.out).cell 3
          have z4 : wE.cell? ⟨gn, 4, none⟩ = some (.int .i64 x.p.n) := (HBN.out.ca HAwE.out).cell 4
          have z5 : wE.cell? ⟨gn, 5, none⟩ = some (.int .u64 x.p.u) := (HBN.out.ca HAwE.out).cell 5
          have z6 : wE.cell? ⟨gn, 6, none⟩ = some (.string x.p.s) := (HBN.out.ca HAwE.out).cell 6
          have z7 : wE.cell? ⟨gn, 7, none⟩ = some (.string x.p.tb) := (HBN.out.ca HAwE.out).cell 7
          have z8 : wE.cell? ⟨gn, 8, none⟩ = some (.string x.p.nm) := (HBN.out.ca HAwE.out).cell 8
          have HMO := Lib.hid (And.intro hmo hmn)
          have HLF := Lib.hid (leaf_any x.p x.l x.r wE (HT5.out.below (bl_ca HQD.out HAwE.out)) (HSM.out x (List.mem_of_getElem? HXX.out)))
          clear hmo hmn
          go_wp2_with fail
          refine (HLF.out).mono ?_
          rintro e wF hmk
          obtain ⟨A4, n4, c4, rfl, hr4, h4a, h4b, q4⟩ := made_get (HMO.out.1) (HMO.out.2) hmk
          clear hmk
          have HA4 := Lib.hid (bl_ca HAwE.out q4)
          have hlt := Nat.lt_of_lt_of_le HBE.out.lt HEwE.out.size
          have HRK := Lib.hid (made_put hr4 hlt (.slice A4 n4 c4))
          have HBF := Lib.hid (HBE.out.ca (bl_ca HEwE.out q4))
          have HAG := Lib.hid (bl_set HA4.out (p := ⟨ge, 0, none⟩) hge (.slice A4 n4 c4))
          have HLE := Lib.hid (Lay.rd_len hr4)
          have xg : wF.cell? ⟨ge, 0, none⟩ = some (.slice none 0 0) := HBF.out.cell 0
          have fg := HBF.out.frozen 0
          have HBG := Lib.hid (HBF.out.set_ 0 (.slice A4 n4 c4))
          clear hr4 q4 hlt z0 z1 z2 z3 z4 z5 z6 z7 z8 HLF
          go_upto_region 29 with fail
          clear xg fg
          obtain ⟨wG, hwG⟩ : ∃ W, W = wF.setCell ⟨ge, 0, none⟩ (.slice A4 n4 c4) := ⟨_, rfl⟩
          rw [← hwG] at HRK HAG HBG ⊢
          clear hwG
          have xg : wG.cell? ⟨ge, 0, none⟩ = some (.slice A4 n4 c4) := HBG.out.cell 0
          have x9 : wG.cell? ⟨g9, 0, none⟩ = some (.slice A9 n9 c9) := (HBO.out.ca HAG.out).cell 0
          have HSM2 := Lib.hid (same_get (partN xs i) A4 n4 c4 A9 n9 c9 wG HRK.out (Lay.rd_below HRO.out HAG.out) (by have := HLE.out; have := HPS.out.2; omega))
          go_wp2_with fail
          refine HSM2.out.mono ?_
          rintro e wH ⟨rfl, qH⟩
          have HQH := Lib.hid (bl_ca (bl_ca HQD.out HAG.out) qH)
          clear qH xg x9
          go_wp2
          go_roundg (gk - 1)
          · exact ⟨i + 1, by omega, by go_num, HQH⟩
          · omega
        case neg =>
          have hl2 : 0 ≤ x.l := by omega
          clear hl
          by_cases hr : x.r < 0
          case pos =>
            obtain ⟨hpe, hdd, hmo, hmn⟩ := HWA.out.one x HXX.out hl2 hr
            have HMO := Lib.hid (And.intro hmo hmn)
            have HPE := Lib.hid hpe
            have hpr := partE_in hpe
            have HP1 := Lib.hid (part_sm HSM.out HTR.out (i := x.l.toNat) (by have := HTL.out; have := Lay.rd_len HR5.out; omega))
            have HDD := Lib.hid hdd
            clear hmo hmn hpe hdd hpr
            go_upto_region 25 with fail
            clear z1 z2
            have x3 : wE.cell? ⟨g3, 0, none⟩ = some (.slice (some p) n c) := (HB5.out.ca (bl_ca HQD.out HAwE.out)).cell 0
            have xn : wE.cell? ⟨gn, 1, none⟩ = some (.int .i64 x.l) := (HBN.out.ca HAwE.out).cell 1
            have HPC := Lib.hid (HPG.out x.l HPE.out wE (bl_ca HQD.out HAwE.out))
            obtain ⟨PwJ, hPwJ⟩ : ∃ P, P = partN xs x.l.toNat := ⟨_, rfl⟩
            rw [← hPwJ] at HPC
            have HPwJ := Lib.hid hPwJ
            clear hPwJ
            go_wp2_with fail
            refine HPC.out.mono ?_
            rintro e vwJ ⟨AwJ, nwJ, cwJ, rfl, hrwJ, hwJa, hwJb, qwJ⟩
            have hx := bl_al qwJ (.cells #[.slice AwJ nwJ cwJ] 30)
            have HAwJ := Lib.hid (bl_ca HAwE.out hx)
            have HEwJ := Lib.hid (bl_ca HEwE.out hx)
            have HNwJ := Lib.hid hx
            have HBwJ := Lib.hid (Blk.new vwJ 30 #[.slice AwJ nwJ cwJ])
            have HRwJ := Lib.hid (Lay.rd_below hrwJ (bl_al (Below.refl vwJ.heap.size vwJ) (.cells #[.slice AwJ nwJ cwJ] 30)))
            have HLwJ := Lib.hid (Lay.rd_len hrwJ)
            clear hrwJ qwJ hx x3 xn HPC
            go_upto_region 26 with fail
            obtain ⟨gwJ, hgwJ⟩ : ∃ g, g = vwJ.heap.size := ⟨_, rfl⟩
            rw [← hgwJ] at HBwJ ⊢
            generalize vwJ.alloc (.cells #[.slice AwJ nwJ cwJ] 30) = wJ at *
            clear hgwJ
            rw [← HPwJ.out] at HP1 HDD HMO
            obtain ⟨D1, hD1⟩ : ∃ D, D = depF PwJ := ⟨_, rfl⟩
            have HDJ := Lib.hid (fun w' (q : Below wJ.heap.size wJ w') => depth_any AllB PwJ AwJ nwJ cwJ w' (Lay.rd_below HRwJ.out q) (by have := HLwJ.out; have := HP1.out.2; omega) (HT5.out.below (bl_ca (bl_ca HQD.out HAwJ.out) q)) HP1.out.1)
            have HDK := Lib.hid (fun w' (q : Below wJ.heap.size wJ w') => HDO.out w' (bl_ca HAwJ.out q))
            have HBK := Lib.hid (HBO.out.ca HAwJ.out)
            rw [← hD1] at HDJ HDD
            have HD13 := Lib.hid (show (D3 : Int) - 1 = (D1 : Int) from by have := HDD.out; rw [← HD3.out] at this; omega)
            have hd1 : (D1 : Int) ≤ 20 := by have := HD13.out; omega
            clear hD1
            refine wp_region_ps (S := fun _ _ w' => Below wJ.heap.size wJ w') (by kernel_rfl) ?spswg1 ?ppswg1
            case spswg1 =>
              exact (Below.refl wJ.heap.size wJ).drew
            refine Ps.st (i := 0) (d := some 147) (u := (.int .i64 (0))) rfl rfl (by exact StepS.pure nP rfl fun _ => rfl) ?_
            try simp only [Act.put, sA, sZ, sS]
            refine Ps.st (i := 1) (d := some 148) (u := (.bool (false))) rfl rfl ?ywg1_3 ?rwg1_3
            case ywg1_3 =>
              refine StepS.pure nP (by rfl) (fun w9 => ?_)
              first | rfl | (go_simp; done) | (go_simp; rfl)
            try simp only [Act.put, sA, sZ, sS]
            refine Ps.st (i := 2) (d := some 149) (u := (.bool (false))) rfl rfl (by exact StepS.pure nP rfl fun _ => rfl) ?_
            try simp only [Act.put, sA, sZ, sS]
            refine Ps.st (i := 3) (d := some 150) (u := (.agg #[.slice AwJ nwJ cwJ])) rfl rfl ?ywg1_5 ?rwg1_5
            case ywg1_5 =>
              refine StepS.read [] (by kernel_rfl) nP (by rfl) (fun L9 m9 w9 hSh hAt hDn hS => ?_)
              have hT : Below wJ.heap.size wJ w9 := hS
              have x0 : w9.cell? ⟨gwJ, 0, none⟩ = some (.slice AwJ nwJ cwJ) := (HBwJ.out.ca hT).cell 0
              clear hT hS
              go_simp
              try rfl
            try simp only [Act.put, sA, sZ, sS]
            refine Ps.st (i := 4) (d := some 151) (u := (.int .i64 ((D1 : Int)))) rfl rfl ?ywg1_6 ?rwg1_6
            case ywg1_6 =>
              refine StepS.call ?fwg1_6 ?awg1_6 [] (by kernel_rfl) (by rfl) (fun w9 => ?hwg1_6) (fun L9 m9 w9 hSh hAt hDn hS => ?cwg1_6)
              case hwg1_6 => go_simp; refine ⟨?_, ?_⟩ <;> rfl
              case cwg1_6 =>
                have hT : Below wJ.heap.size wJ w9 := hS
                refine (HDJ.out w9 hT).mono ?_
                rintro e w8 ⟨rfl, q8⟩
                exact ⟨rfl, bl_ca hT q8⟩
            try simp only [Act.put, sA, sZ, sS]
            refine Ps.st (i := 5) (d := some 152) (u := (.agg #[.slice A9 n9 c9])) rfl rfl ?ywg1_7 ?rwg1_7
            case ywg1_7 =>
              refine StepS.read [] (by kernel_rfl) nP (by rfl) (fun L9 m9 w9 hSh hAt hDn hS => ?_)
              have hT : Below wJ.heap.size wJ w9 := hS
              have x0 : w9.cell? ⟨g9, 0, none⟩ = some (.slice A9 n9 c9) := (HBK.out.ca hT).cell 0
              clear hT hS
              go_simp
              try rfl
            try simp only [Act.put, sA, sZ, sS]
            refine Ps.st (i := 6) (d := some 153) (u := (.int .i64 ((D3 : Int)))) rfl rfl ?ywg1_8 ?rwg1_8
            case ywg1_8 =>
              refine StepS.call ?fwg1_8 ?awg1_8 [] (by kernel_rfl) (by rfl) (fun w9 => ?hwg1_8) (fun L9 m9 w9 hSh hAt hDn hS => ?cwg1_8)
              case hwg1_8 => go_simp; refine ⟨?_, ?_⟩ <;> rfl
              case cwg1_8 =>
                have hT : Below wJ.heap.size wJ w9 := hS
                refine (HDK.out w9 hT).mono ?_
                rintro e w8 ⟨rfl, q8⟩
                exact ⟨rfl, bl_ca hT q8⟩
            try simp only [Act.put, sA, sZ, sS]
            refine Ps.st (i := 7) (d := some 154) (u := (.int .i64 ((D1 : Int)))) rfl rfl ?ywg1_9 ?rwg1_9
            case ywg1_9 =>
              refine StepS.pure nP (by rfl) (fun w9 => ?_)
              have e9 := HD13.out
              first | (go_simp; done) | (go_simp; simp [IntKind.wrap, IntKind.signed, IntKind.bits]; omega)
            try simp only [Act.put, sA, sZ, sS]
            refine Ps.st (i := 8) (d := some 155) (u := (.bool (false))) rfl rfl ?ywg1_10 ?rwg1_10
            case ywg1_10 =>
              refine StepS.pure nP (by rfl) (fun w9 => ?_)
              first | rfl | (go_simp; done) | (go_simp; rfl)
            try simp only [Act.put, sA, sZ, sS]
            refine Ps.st (i := 9) (d := some 156) (u := (.bool (false))) rfl rfl (by exact StepS.pure nP rfl fun _ => rfl) ?_
            try simp only [Act.put, sA, sZ, sS]
            refine Ps.done (by kernel_rfl) (fun wg1 hS => ?_) _
            have HW := Lib.hid (show Below wJ.heap.size wJ wg1 from hS)
            clear hS
            obtain ⟨wI, rfl⟩ : ∃ x, x = wg1 := ⟨_, rfl⟩
            have HAwI := Lib.hid (bl_ca HAwJ.out HW.out)
            have HEwI := Lib.hid (bl_ca HEwJ.out HW.out)
            have xj : wI.cell? ⟨gwJ, 0, none⟩ = some (.slice AwJ nwJ cwJ) := (HBwJ.out.ca HW.out).cell 0
            have xn : wI.cell? ⟨gn, 0, none⟩ = some (.int .i64 x.p.tag) := (HBN.out.ca HAwI.out).cell 0
            have HON := Lib.hid (one_any AllB x.p.tag PwJ AwJ nwJ cwJ wI (Lay.rd_below HRwJ.out HW.out) (by have := HLwJ.out; have := HP1.out.2; omega) hwJa hwJb (HT5.out.below (bl_ca HQD.out HAwI.out)) HP1.out.1)
            go_wp2_with fail
            refine (HON.out).mono ?_
            rintro e wF hmk
            obtain ⟨A4, n4, c4, rfl, hr4, h4a, h4b, q4⟩ := made_get (HMO.out.1) (HMO.out.2) hmk
            clear hmk
            have HA4 := Lib.hid (bl_ca HAwI.out q4)
            have hlt := Nat.lt_of_lt_of_le HBE.out.lt HEwI.out.size
            have HRK := Lib.hid (made_put hr4 hlt (.slice A4 n4 c4))
            have HBF := Lib.hid (HBE.out.ca (bl_ca HEwI.out q4))
            have HAG := Lib.hid (bl_set HA4.out (p := ⟨ge, 0, none⟩) hge (.slice A4 n4 c4))
            have HLE := Lib.hid (Lay.rd_len hr4)
            have xg : wF.cell? ⟨ge, 0, none⟩ = some (.slice none 0 0) := HBF.out.cell 0
            have fg := HBF.out.frozen 0
            have HBG := Lib.hid (HBF.out.set_ 0 (.slice A4 n4 c4))
            clear hr4 q4 hlt xj xn HON
            go_upto_region 29 with fail
            clear xg fg
            obtain ⟨wG, hwG⟩ : ∃ W, W = wF.setCell ⟨ge, 0, none⟩ (.slice A4 n4 c4) := ⟨_, rfl⟩
            rw [← hwG] at HRK HAG HBG ⊢
            clear hwG
            have xg : wG.cell? ⟨ge, 0, none⟩ = some (.slice A4 n4 c4) := HBG.out.cell 0
            have x9 : wG.cell? ⟨g9, 0, none⟩ = some (.slice A9 n9 c9) := (HBO.out.ca HAG.out).cell 0
            have HSM2 := Lib.hid (same_get (partN xs i) A4 n4 c4 A9 n9 c9 wG HRK.out (Lay.rd_below HRO.out HAG.out) (by have := HLE.out; have := HPS.out.2; omega))
            go_wp2_with fail
            refine HSM2.out.mono ?_
            rintro e wH ⟨rfl, qH⟩
            have HQH := Lib.hid (bl_ca (bl_ca HQD.out HAG.out) qH)
            clear qH xg x9
            go_wp2
            go_roundg (gk - 1)
            · exact ⟨i + 1, by omega, by go_num, HQH⟩
            · omega
          case neg =>
            have hr2 : 0 ≤ x.r := by omega
            clear hr
            obtain ⟨hpe, hpf, hdd, hll, hmo, hmn⟩ := HWA.out.two x HXX.out hl2 hr2
            have HMO := Lib.hid (And.intro hmo hmn)
            have HPE := Lib.hid hpe
            have HPF := Lib.hid hpf
            have hpr := partE_in hpe
            have hps := partE_in hpf
            have HP1 := Lib.hid (part_sm HSM.out HTR.out (i := x.l.toNat) (by have := HTL.out; have := Lay.rd_len HR5.out; omega))
            have HP2 := Lib.hid (part_sm HSM.out HTR.out (i := x.r.toNat) (by have := HTL.out; have := Lay.rd_len HR5.out; omega))
            have HDD := Lib.hid hdd
            have HLL := Lib.hid hll
            clear hmo hmn hpe hpf hdd hll hpr hps
            go_upto_region 17 with fail
            clear z1 z2
            have x3 : wE.cell? ⟨g3, 0, none⟩ = some (.slice (some p) n c) := (HB5.out.ca (bl_ca HQD.out HAwE.out)).cell 0
            have xn : wE.cell? ⟨gn, 1, none⟩ = some (.int .i64 x.l) := (HBN.out.ca HAwE.out).cell 1
            have HPC := Lib.hid (HPG.out x.l HPE.out wE (bl_ca HQD.out HAwE.out))
            obtain ⟨PwJ, hPwJ⟩ : ∃ P, P = partN xs x.l.toNat := ⟨_, rfl⟩
            rw [← hPwJ] at HPC
            have HPwJ := Lib.hid hPwJ
            clear hPwJ
            go_wp2_with fail
            refine HPC.out.mono ?_
            rintro e vwJ ⟨AwJ, nwJ, cwJ, rfl, hrwJ, hwJa, hwJb, qwJ⟩
            have hx := bl_al qwJ (.cells #[.slice AwJ nwJ cwJ] 30)
            have HAwJ := Lib.hid (bl_ca HAwE.out hx)
            have HEwJ := Lib.hid (bl_ca HEwE.out hx)
            have HNwJ := Lib.hid hx
            have HBwJ := Lib.hid (Blk.new vwJ 30 #[.slice AwJ nwJ cwJ])
            have HRwJ := Lib.hid (Lay.rd_below hrwJ (bl_al (Below.refl vwJ.heap.size vwJ) (.cells #[.slice AwJ nwJ cwJ] 30)))
            have HLwJ := Lib.hid (Lay.rd_len hrwJ)
            clear hrwJ qwJ hx x3 xn HPC
            go_upto_region 18 with fail
            obtain ⟨gwJ, hgwJ⟩ : ∃ g, g = vwJ.heap.size := ⟨_, rfl⟩
            rw [← hgwJ] at HBwJ ⊢
            generalize vwJ.alloc (.cells #[.slice AwJ nwJ cwJ] 30) = wJ at *
            clear hgwJ
            have x3 : wJ.cell? ⟨g3, 0, none⟩ = some (.slice (some p) n c) := (HB5.out.ca (bl_ca HQD.out HAwJ.out)).cell 0
            have xn : wJ.cell? ⟨gn, 2, none⟩ = some (.int .i64 x.r) := (HBN.out.ca HAwJ.out).cell 2
            have HPC := Lib.hid (HPG.out x.r HPF.out wJ (bl_ca HQD.out HAwJ.out))
            obtain ⟨PwK, hPwK⟩ : ∃ P, P = partN xs x.r.toNat := ⟨_, rfl⟩
            rw [← hPwK] at HPC
            have HPwK := Lib.hid hPwK
            clear hPwK
            go_wp2_with fail
            refine HPC.out.mono ?_
            rintro e vwK ⟨AwK, nwK, cwK, rfl, hrwK, hwKa, hwKb, qwK⟩
            have hx := bl_al qwK (.cells #[.slice AwK nwK cwK] 30)
            have HAwK := Lib.hid (bl_ca HAwJ.out hx)
            have HEwK := Lib.hid (bl_ca HEwJ.out hx)
            have HNwK := Lib.hid hx
            have HBwK := Lib.hid (Blk.new vwK 30 #[.slice AwK nwK cwK])
            have HRwK := Lib.hid (Lay.rd_below hrwK (bl_al (Below.refl vwK.heap.size vwK) (.cells #[.slice AwK nwK cwK] 30)))
            have HLwK := Lib.hid (Lay.rd_len hrwK)
            clear hrwK qwK hx x3 xn HPC
            go_upto_region 19 with fail
            obtain ⟨gwK, hgwK⟩ : ∃ g, g = vwK.heap.size := ⟨_, rfl⟩
            rw [← hgwK] at HBwK ⊢
            generalize vwK.alloc (.cells #[.slice AwK nwK cwK] 30) = wK at *
            clear hgwK
            rw [← HPwJ.out, ← HPwK.out] at HDD HLL HMO
            rw [← HPwJ.out] at HP1
            rw [← HPwK.out] at HP2
            obtain ⟨D1, hD1⟩ : ∃ D, D = depF PwJ := ⟨_, rfl⟩
            obtain ⟨D2, hD2⟩ : ∃ D, D = depF PwK := ⟨_, rfl⟩
            have HDJ := Lib.hid (fun w' (q : Below wK.heap.size wK w') => depth_any AllB PwJ AwJ nwJ cwJ w' (Lay.rd_below HRwJ.out (bl_ca HNwK.out q)) (by have := HLwJ.out; have := HP1.out.2; omega) (HT5.out.below (bl_ca (bl_ca HQD.out HAwK.out) q)) HP1.out.1)
            have HDI := Lib.hid (fun w' (q : Below wK.heap.size wK w') => depth_any AllB PwK AwK nwK cwK w' (Lay.rd_below HRwK.out q) (by have := HLwK.out; have := HP2.out.2; omega) (HT5.out.below (bl_ca (bl_ca HQD.out HAwK.out) q)) HP2.out.1)
            have HDK := Lib.hid (fun w' (q : Below wK.heap.size wK w') => HDO.out w' (bl_ca HAwK.out q))
            have HBK := Lib.hid (HBO.out.ca HAwK.out)
            have HBJ := Lib.hid (HBwJ.out.ca HNwK.out)
            rw [← hD1] at HDJ HDD
            rw [← hD2] at HDI HDD
            obtain ⟨DM, hDM⟩ : ∃ D : Nat, D = max D1 D2 := ⟨_, rfl⟩
            rw [← hDM] at HDD
            have HMX := Lib.hid (show max (D1 : Int) (D2 : Int) = (DM : Int) from by omega)
            have HD13 := Lib.hid (show (D3 : Int) - 1 = (DM : Int) from by have := HDD.out; rw [← HD3.out] at this; omega)
            have hd1 : (DM : Int) ≤ 20 := by have := HD13.out; omega
            have hda : (D1 : Int) ≤ 20 := by omega
            have hdb : (D2 : Int) ≤ 20 := by omega
            obtain ⟨NS, hNS⟩ : ∃ D : Nat, D = nwJ + nwK := ⟨_, rfl⟩
            have HNS := Lib.hid (show (nwJ : Int) + (nwK : Int) = (NS : Int) from by omega)
            have HNT := Lib.hid (show (NS : Int) + 1 = (n9 : Int) from by have := HLL.out; have := HLwJ.out; have := HLwK.out; have := HL9.out; omega)
            have hn9a : (n9 : Int) ≤ 300 := by omega
            have hnsa : (NS : Int) ≤ 300 := by have := HNT.out; omega
            have hja : (nwJ : Int) ≤ 300 := by omega
            have hka : (nwK : Int) ≤ 300 := by omega
            clear hD1 hD2 hDM hNS
            refine wp_region_ps (S := fun _ _ w' => Below wK.heap.size wK w') (by kernel_rfl) ?spswg12 ?ppswg12
            case spswg12 =>
              exact (Below.refl wK.heap.size wK).drew
            refine Ps.st (i := 0) (d := some 88) (u := (.int .i64 (0))) rfl rfl (by exact StepS.pure nP rfl fun _ => rfl) ?_
            try simp only [Act.put, sA, sZ, sS]
            refine Ps.st (i := 1) (d := some 89) (u := (.bool (false))) rfl rfl ?ywg12_14 ?rwg12_14
            case ywg12_14 =>
              refine StepS.pure nP (by rfl) (fun w9 => ?_)
              first | rfl | (go_simp; done) | (go_simp; rfl)
            try simp only [Act.put, sA, sZ, sS]
            refine Ps.st (i := 2) (d := some 90) (u := (.bool (false))) rfl rfl (by exact StepS.pure nP rfl fun _ => rfl) ?_
            try simp only [Act.put, sA, sZ, sS]
            refine Ps.st (i := 3) (d := some 91) (u := (.int .i64 (0))) rfl rfl (by exact StepS.pure nP rfl fun _ => rfl) ?_
            try simp only [Act.put, sA, sZ, sS]
            refine Ps.st (i := 4) (d := some 92) (u := (.bool (false))) rfl rfl ?ywg12_17 ?rwg12_17
            case ywg12_17 =>
              refine StepS.pure nP (by rfl) (fun w9 => ?_)
              first | rfl | (go_simp; done) | (go_simp; rfl)
            try simp only [Act.put, sA, sZ, sS]
            refine Ps.st (i := 5) (d := some 93) (u := (.bool (false))) rfl rfl (by exact StepS.pure nP rfl fun _ => rfl) ?_
            try simp only [Act.put, sA, sZ, sS]
            refine Ps.st (i := 6) (d := some 94) (u := (.bool (false))) rfl rfl (by exact StepS.pure nP rfl fun _ => rfl) ?_
            try simp only [Act.put, sA, sZ, sS]
            refine Ps.st (i := 7) (d := some 95) (u := (.agg #[.slice AwJ nwJ cwJ])) rfl rfl ?ywg12_20 ?rwg12_20
            case ywg12_20 =>
              refine StepS.read [] (by kernel_rfl) nP (by rfl) (fun L9 m9 w9 hSh hAt hDn hS => ?_)
              have hT : Below wK.heap.size wK w9 := hS
              have x0 : w9.cell? ⟨gwJ, 0, none⟩ = some (.slice AwJ nwJ cwJ) := (HBJ.out.ca hT).cell 0
              clear hT hS
              go_simp
              try rfl
            try simp only [Act.put, sA, sZ, sS]
            refine Ps.st (i := 8) (d := some 96) (u := (.int .i64 ((D1 : Int)))) rfl rfl ?ywg12_21 ?rwg12_21
            case ywg12_21 =>
              refine StepS.call ?fwg12_21 ?awg12_21 [] (by kernel_rfl) (by rfl) (fun w9 => ?hwg12_21) (fun L9 m9 w9 hSh hAt hDn hS => ?cwg12_21)
              case hwg12_21 => go_simp; refine ⟨?_, ?_⟩ <;> rfl
              case cwg12_21 =>
                have hT : Below wK.heap.size wK w9 := hS
                refine (HDJ.out w9 hT).mono ?_
                rintro e w8 ⟨rfl, q8⟩
                exact ⟨rfl, bl_ca hT q8⟩
            try simp only [Act.put, sA, sZ, sS]
            refine Ps.st (i := 9) (d := some 97) (u := (.agg #[.slice AwK nwK cwK])) rfl rfl ?ywg12_22 ?rwg12_22
            case ywg12_22 =>
              refine StepS.read [] (by kernel_rfl) nP (by rfl) (fun L9 m9 w9 hSh hAt hDn hS => ?_)
              have hT : Below wK.heap.size wK w9 := hS
              have x0 : w9.cell? ⟨gwK, 0, none⟩ = some (.slice AwK nwK cwK) := (HBwK.out.ca hT).cell 0
              clear hT hS
              go_simp
              try rfl
            try simp only [Act.put, sA, sZ, sS]
            refine Ps.st (i := 10) (d := some 98) (u := (.int .i64 ((D2 : Int)))) rfl rfl ?ywg12_23 ?rwg12_23
            case ywg12_23 =>
              refine StepS.call ?fwg12_23 ?awg12_23 [] (by kernel_rfl) (by rfl) (fun w9 => ?hwg12_23) (fun L9 m9 w9 hSh hAt hDn hS => ?cwg12_23)
              case hwg12_23 => go_simp; refine ⟨?_, ?_⟩ <;> rfl
              case cwg12_23 =>
                have hT : Below wK.heap.size wK w9 := hS
                refine (HDI.out w9 hT).mono ?_
                rintro e w8 ⟨rfl, q8⟩
                exact ⟨rfl, bl_ca hT q8⟩
            try simp only [Act.put, sA, sZ, sS]
            refine Ps.st (i := 11) (d := some 99) (u := (.int .i64 ((DM : Int)))) rfl rfl ?ywg12_24 ?rwg12_24
            case ywg12_24 =>
              refine StepS.pure nP (by rfl) (fun w9 => ?_)
              have e9 := HMX.out
              first | rfl | (go_simp; done) | (go_simp; rfl)
            try simp only [Act.put, sA, sZ, sS]
            refine Ps.st (i := 12) (d := some 100) (u := (.agg #[.slice A9 n9 c9])) rfl rfl ?ywg12_25 ?rwg12_25
            case ywg12_25 =>
              refine StepS.read [] (by kernel_rfl) nP (by rfl) (fun L9 m9 w9 hSh hAt hDn hS => ?_)
              have hT : Below wK.heap.size wK w9 := hS
              have x0 : w9.cell? ⟨g9, 0, none⟩ = some (.slice A9 n9 c9) := (HBK.out.ca hT).cell 0
              clear hT hS
              go_simp
              try rfl
            try simp only [Act.put, sA, sZ, sS]
            refine Ps.st (i := 13) (d := some 101) (u := (.int .i64 ((D3 : Int)))) rfl rfl ?ywg12_26 ?rwg12_26
            case ywg12_26 =>
              refine StepS.call ?fwg12_26 ?awg12_26 [] (by kernel_rfl) (by rfl) (fun w9 => ?hwg12_26) (fun L9 m9 w9 hSh hAt hDn hS => ?cwg12_26)
              case hwg12_26 => go_simp; refine ⟨?_, ?_⟩ <;> rfl
              case cwg12_26 =>
                have hT : Below wK.heap.size wK w9 := hS
                refine (HDK.out w9 hT).mono ?_
                rintro e w8 ⟨rfl, q8⟩
                exact ⟨rfl, bl_ca hT q8⟩
            try simp only [Act.put, sA, sZ, sS]
            refine Ps.st (i := 14) (d := some 102) (u := (.int .i64 ((DM : Int)))) rfl rfl ?ywg12_27 ?rwg12_27
            case ywg12_27 =>
              refine StepS.pure nP (by rfl) (fun w9 => ?_)
              have e9 := HD13.out
              first | (go_simp; done) | (go_simp; simp [IntKind.wrap, IntKind.signed, IntKind.bits]; omega)
            try simp only [Act.put, sA, sZ, sS]
            refine Ps.st (i := 15) (d := some 103) (u := (.bool (false))) rfl rfl ?ywg12_28 ?rwg12_28
            case ywg12_28 =>
              refine StepS.pure nP (by rfl) (fun w9 => ?_)
              first | rfl | (go_simp; done) | (go_simp; rfl)
            try simp only [Act.put, sA, sZ, sS]
            refine Ps.st (i := 16) (d := some 104) (u := (.bool (false))) rfl rfl (by exact StepS.pure nP rfl fun _ => rfl) ?_
            try simp only [Act.put, sA, sZ, sS]
            refine Ps.st (i := 17) (d := some 105) (u := (.bool (false))) rfl rfl (by exact StepS.pure nP rfl fun _ => rfl) ?_
            try simp only [Act.put, sA, sZ, sS]
            refine Ps.st (i := 18) (d := some 106) (u := (.pointer (some ⟨gwJ, 0, none⟩))) rfl rfl (by exact StepS.pure nP rfl fun _ => rfl) ?_
            try simp only [Act.put, sA, sZ, sS]
            refine Ps.st (i := 19) (d := some 107) (u := (.slice AwJ nwJ cwJ)) rfl rfl ?ywg12_32 ?rwg12_32
            case ywg12_32 =>
              refine StepS.read [] (by kernel_rfl) nP (by rfl) (fun L9 m9 w9 hSh hAt hDn hS => ?_)
              have hT : Below wK.heap.size wK w9 := hS
              have x0 : w9.cell? ⟨gwJ, 0, none⟩ = some (.slice AwJ nwJ cwJ) := (HBJ.out.ca hT).cell 0
              clear hT hS
              go_simp
              try rfl
            try simp only [Act.put, sA, sZ, sS]
            refine Ps.st (i := 20) (d := some 108) (u := (.int .i64 ((nwJ : Int)))) rfl rfl (by exact StepS.pure nP rfl fun _ => by first | rfl | (go_simp; done) | (go_simp; rfl)) ?_
            try simp only [Act.put, sA, sZ, sS]
            refine Ps.st (i := 21) (d := some 109) (u := (.pointer (some ⟨gwK, 0, none⟩))) rfl rfl (by exact StepS.pure nP rfl fun _ => rfl) ?_
            try simp only [Act.put, sA, sZ, sS]
            refine Ps.st (i := 22) (d := some 110) (u := (.slice AwK nwK cwK)) rfl rfl ?ywg12_35 ?rwg12_35
            case ywg12_35 =>
              refine StepS.read [] (by kernel_rfl) nP (by rfl) (fun L9 m9 w9 hSh hAt hDn hS => ?_)
              have hT : Below wK.heap.size wK w9 := hS
              have x0 : w9.cell? ⟨gwK, 0, none⟩ = some (.slice AwK nwK cwK) := (HBwK.out.ca hT).cell 0
              clear hT hS
              go_simp
              try rfl
            try simp only [Act.put, sA, sZ, sS]
            refine Ps.st (i := 23) (d := some 111) (u := (.int .i64 ((nwK : Int)))) rfl rfl (by exact StepS.pure nP rfl fun _ => by first | rfl | (go_simp; done) | (go_simp; rfl)) ?_
            try simp only [Act.put, sA, sZ, sS]
            refine Ps.st (i := 24) (d := some 112) (u := (.int .i64 ((NS : Int)))) rfl rfl ?ywg12_37 ?rwg12_37
            case ywg12_37 =>
              refine StepS.pure nP (by rfl) (fun w9 => ?_)
              have e9 := HNS.out
              first | (go_simp; done) | (go_simp; simp [IntKind.wrap, IntKind.signed, IntKind.bits]; omega)
            try simp only [Act.put, sA, sZ, sS]
            refine Ps.st (i := 25) (d := some 113) (u := (.int .i64 ((n9 : Int)))) rfl rfl ?ywg12_38 ?rwg12_38
            case ywg12_38 =>
              refine StepS.pure nP (by rfl) (fun w9 => ?_)
              have e9 := HNT.out
              first | (go_simp; done) | (go_simp; simp [IntKind.wrap, IntKind.signed, IntKind.bits]; omega)
            try simp only [Act.put, sA, sZ, sS]
            refine Ps.st (i := 26) (d := some 114) (u := (.pointer (some ⟨g9, 0, none⟩))) rfl rfl (by exact StepS.pure nP rfl fun _ => rfl) ?_
            try simp only [Act.put, sA, sZ, sS]
            refine Ps.st (i := 27) (d := some 115) (u := (.slice A9 n9 c9)) rfl rfl ?ywg12_40 ?rwg12_40
            case ywg12_40 =>
              refine StepS.read [] (by kernel_rfl) nP (by rfl) (fun L9 m9 w9 hSh hAt hDn hS => ?_)
              have hT : Below wK.heap.size wK w9 := hS
              have x0 : w9.cell? ⟨g9, 0, none⟩ = some (.slice A9 n9 c9) := (HBK.out.ca hT).cell 0
              clear hT hS
              go_simp
              try rfl
            try simp only [Act.put, sA, sZ, sS]
            refine Ps.st (i := 28) (d := some 116) (u := (.int .i64 ((n9 : Int)))) rfl rfl (by exact StepS.pure nP rfl fun _ => by first | rfl | (go_simp; done) | (go_simp; rfl)) ?_
            try simp only [Act.put, sA, sZ, sS]
            refine Ps.st (i := 29) (d := some 117) (u := (.bool (false))) rfl rfl ?ywg12_42 ?rwg12_42
            case ywg12_42 =>
              refine StepS.pure nP (by rfl) (fun w9 => ?_)
              first | rfl | (go_simp; done) | (go_simp; rfl)
            try simp only [Act.put, sA, sZ, sS]
            refine Ps.st (i := 30) (d := some 118) (u := (.bool (false))) rfl rfl (by exact StepS.pure nP rfl fun _ => rfl) ?_
            try simp only [Act.put, sA, sZ, sS]
            refine Ps.done (by kernel_rfl) (fun wg12 hS => ?_) _
            have HW := Lib.hid (show Below wK.heap.size wK wg12 from hS)
            clear hS
            obtain ⟨wI, rfl⟩ : ∃ x, x = wg12 := ⟨_, rfl⟩
            have HAwI := Lib.hid (bl_ca HAwK.out HW.out)
            have HEwI := Lib.hid (bl_ca HEwK.out HW.out)
            have xj : wI.cell? ⟨gwJ, 0, none⟩ = some (.slice AwJ nwJ cwJ) := (HBJ.out.ca HW.out).cell 0
            have xk : wI.cell? ⟨gwK, 0, none⟩ = some (.slice AwK nwK cwK) := (HBwK.out.ca HW.out).cell 0
            have xn : wI.cell? ⟨gn, 0, none⟩ = some (.int .i64 x.p.tag) := (HBN.out.ca HAwI.out).cell 0
            have HON := Lib.hid (two_any AllB AllB x.p.tag PwJ PwK AwJ nwJ cwJ AwK nwK cwK wI (Lay.rd_below HRwJ.out (bl_ca HNwK.out HW.out)) (by omega) hwJa hwJb (Lay.rd_below HRwK.out HW.out) (by omega) hwKa hwKb (HT5.out.below (bl_ca HQD.out HAwI.out)) HP1.out.1 HP2.out.1)
            go_wp2_with fail
            refine (HON.out).mono ?_
            rintro e wF hmk
            obtain ⟨A4, n4, c4, rfl, hr4, h4a, h4b, q4⟩ := made_get (HMO.out.1) (HMO.out.2) hmk
            clear hmk
            have HA4 := Lib.hid (bl_ca HAwI.out q4)
            have hlt := Nat.lt_of_lt_of_le HBE.out.lt HEwI.out.size
            have HRK := Lib.hid (made_put hr4 hlt (.slice A4 n4 c4))
            have HBF := Lib.hid (HBE.out.ca (bl_ca HEwI.out q4))
            have HAG := Lib.hid (bl_set HA4.out (p := ⟨ge, 0, none⟩) hge (.slice A4 n4 c4))
            have HLE := Lib.hid (Lay.rd_len hr4)
            have xg : wF.cell? ⟨ge, 0, none⟩ = some (.slice none 0 0) := HBF.out.cell 0
            have fg := HBF.out.frozen 0
            have HBG := Lib.hid (HBF.out.set_ 0 (.slice A4 n4 c4))
            clear hr4 q4 hlt xj xk xn HON
            go_upto_region 29 with fail
            clear xg fg
            obtain ⟨wG, hwG⟩ : ∃ W, W = wF.setCell ⟨ge, 0, none⟩ (.slice A4 n4 c4) := ⟨_, rfl⟩
            rw [← hwG] at HRK HAG HBG ⊢
            clear hwG
            have xg : wG.cell? ⟨ge, 0, none⟩ = some (.slice A4 n4 c4) := HBG.out.cell 0
            have x9 : wG.cell? ⟨g9, 0, none⟩ = some (.slice A9 n9 c9) := (HBO.out.ca HAG.out).cell 0
            have HSM2 := Lib.hid (same_get (partN xs i) A4 n4 c4 A9 n9 c9 wG HRK.out (Lay.rd_below HRO.out HAG.out) (by have := HLE.out; have := HPS.out.2; omega))
            go_wp2_with fail
            refine HSM2.out.mono ?_
            rintro e wH ⟨rfl, qH⟩
            have HQH := Lib.hid (bl_ca (bl_ca HQD.out HAG.out) qH)
            clear qH xg x9
            go_wp2
            go_roundg (gk - 1)
            · exact ⟨i + 1, by omega, by go_num, HQH⟩
            · omega
      case pos =>
        have hil1 : (i : Int) < (n1 : Int) := by omega
        clear hil
        go_wp2_with fail
        refine (HDo.out wd (Below.refl _ _)).mono ?_
        rintro e wD ⟨rfl, qD⟩
        have HQD := Lib.hid (bl_ca HQd.out qD)
        have HBO := Lib.hid (HBod.out.ca qD)
        have HBN := Lib.hid (HBnd.out.ca qD)
        have HRO := Lib.hid (Lay.rd_below HRod.out qD)
        have HDO := Lib.hid (fun w' (q : Below wD.heap.size wD w') => HDo.out w' (bl_ca qD q))
        clear qD y9
        go_upto_region 16 with fail
        have hA1 := bl_al (Below.refl wD.heap.size wD) (.cells #[.slice none 0 0] 30)
        have HBE := Lib.hid (Blk.new wD 30 #[.slice none 0 0])
        go_upto_region 22 with fail
        obtain ⟨ge, hge⟩ : ∃ g, g = wD.heap.size := ⟨_, rfl⟩
        rw [← hge] at HBE ⊢
        obtain ⟨wE, hwE⟩ : ∃ W, W = wD.alloc (.cells #[.slice none 0 0] 30) := ⟨_, rfl⟩
        rw [← hwE] at hA1 HBE ⊢
        have hgf := Nat.le_of_eq hge.symm
        have HAwE := Lib.hid hA1
        have HEwE := Lib.hid (Below.refl wE.heap.size wE)
        clear hwE hA1 hge
        have hge := hgf
        clear hgf
        have z1 : wE.cell? ⟨gn, 1, none⟩ = some (.int .i64 x.l) := (HBN.out.ca HAwE.out).cell 1
        have z2 : wE.cell? ⟨gn, 2, none⟩ = some (.int .i64 x.r) := (HBN.out.ca HAwE.out).cell 2
        by_cases hl : x.l < 0
        case pos =>
          obtain ⟨hmo, hmn⟩ := HWA.out.leaf x HXX.out hl
          have z0 : wE.cell? ⟨gn, 0, none⟩ = some (.int .i64 x.p.tag) := (HBN.out.ca HAwE.out).cell 0
          have z3 : wE.cell? ⟨gn, 3, none⟩ = some (.int .i64 x.p.k) := (HBN.out.ca HAwE.out).cell 3
          have z4 : wE.cell? ⟨gn, 4, none⟩ = some (.int .i64 x.p.n) := (HBN.out.ca HAwE.out).cell 4
          have z5 : wE.cell? ⟨gn, 5, none⟩ = some (.int .u64 x.p.u) := (HBN.out.ca HAwE.out).cell 5
          have z6 : wE.cell? ⟨gn, 6, none⟩ = some (.string x.p.s) := (HBN.out.ca HAwE.out).cell 6
          have z7 : wE.cell? ⟨gn, 7, none⟩ = some (.string x.p.tb) := (HBN.out.ca HAwE.out).cell 7
          have z8 : wE.cell? ⟨gn, 8, none⟩ = some (.string x.p.nm) := (HBN.out.ca HAwE.out).cell 8
          have HMO := Lib.hid (And.intro hmo hmn)
          have HLF := Lib.hid (leaf_any x.p x.l x.r wE (HT5.out.below (bl_ca HQD.out HAwE.out)) (HSM.out x (List.mem_of_getElem? HXX.out)))
          clear hmo hmn
          go_wp2_with fail
          refine (HLF.out).mono ?_
          rintro e wF hmk
          obtain ⟨A4, n4, c4, rfl, hr4, h4a, h4b, q4⟩ := made_get (HMO.out.1) (HMO.out.2) hmk
          clear hmk
          have HA4 := Lib.hid (bl_ca HAwE.out q4)
          have hlt := Nat.lt_of_lt_of_le HBE.out.lt HEwE.out.size
          have HRK := Lib.hid (made_put hr4 hlt (.slice A4 n4 c4))
          have HBF := Lib.hid (HBE.out.ca (bl_ca HEwE.out q4))
          have HAG := Lib.hid (bl_set HA4.out (p := ⟨ge, 0, none⟩) hge (.slice A4 n4 c4))
          have HLE := Lib.hid (Lay.rd_len hr4)
          have xg : wF.cell? ⟨ge, 0, none⟩ = some (.slice none 0 0) := HBF.out.cell 0
          have fg := HBF.out.frozen 0
          have HBG := Lib.hid (HBF.out.set_ 0 (.slice A4 n4 c4))
          clear hr4 q4 hlt z0 z1 z2 z3 z4 z5 z6 z7 z8 HLF
          go_upto_region 29 with fail
          clear xg fg
          obtain ⟨wG, hwG⟩ : ∃ W, W = wF.setCell ⟨ge, 0, none⟩ (.slice A4 n4 c4) := ⟨_, rfl⟩
          rw [← hwG] at HRK HAG HBG ⊢
          clear hwG
          have xg : wG.cell? ⟨ge, 0, none⟩ = some (.slice A4 n4 c4) := HBG.out.cell 0
          have x9 : wG.cell? ⟨g9, 0, none⟩ = some (.slice A9 n9 c9) := (HBO.out.ca HAG.out).cell 0
          have HSM2 := Lib.hid (same_get (partN xs i) A4 n4 c4 A9 n9 c9 wG HRK.out (Lay.rd_below HRO.out HAG.out) (by have := HLE.out; have := HPS.out.2; omega))
          go_wp2_with fail
          refine HSM2.out.mono ?_
          rintro e wH ⟨rfl, qH⟩
          have HQH := Lib.hid (bl_ca (bl_ca HQD.out HAG.out) qH)
          clear qH xg x9
          go_wp2
          go_roundg (gk - 1)
          · exact ⟨i + 1, by omega, by go_num, HQH⟩
          · omega
        case neg =>
          have hl2 : 0 ≤ x.l := by omega
          clear hl
          by_cases hr : x.r < 0
          case pos =>
            obtain ⟨hpe, hdd, hmo, hmn⟩ := HWA.out.one x HXX.out hl2 hr
            have HMO := Lib.hid (And.intro hmo hmn)
            have HPE := Lib.hid hpe
            have hpr := partE_in hpe
            have HP1 := Lib.hid (part_sm HSM.out HTR.out (i := x.l.toNat) (by have := HTL.out; have := Lay.rd_len HR5.out; omega))
            have HDD := Lib.hid hdd
            clear hmo hmn hpe hdd hpr
            go_upto_region 25 with fail
            clear z1 z2
            have x3 : wE.cell? ⟨g3, 0, none⟩ = some (.slice (some p) n c) := (HB5.out.ca (bl_ca HQD.out HAwE.out)).cell 0
            have xn : wE.cell? ⟨gn, 1, none⟩ = some (.int .i64 x.l) := (HBN.out.ca HAwE.out).cell 1
            have HPC := Lib.hid (HPG.out x.l HPE.out wE (bl_ca HQD.out HAwE.out))
            obtain ⟨PwJ, hPwJ⟩ : ∃ P, P = partN xs x.l.toNat := ⟨_, rfl⟩
            rw [← hPwJ] at HPC
            have HPwJ := Lib.hid hPwJ
            clear hPwJ
            go_wp2_with fail
            refine HPC.out.mono ?_
            rintro e vwJ ⟨AwJ, nwJ, cwJ, rfl, hrwJ, hwJa, hwJb, qwJ⟩
            have hx := bl_al qwJ (.cells #[.slice AwJ nwJ cwJ] 30)
            have HAwJ := Lib.hid (bl_ca HAwE.out hx)
            have HEwJ := Lib.hid (bl_ca HEwE.out hx)
            have HNwJ := Lib.hid hx
            have HBwJ := Lib.hid (Blk.new vwJ 30 #[.slice AwJ nwJ cwJ])
            have HRwJ := Lib.hid (Lay.rd_below hrwJ (bl_al (Below.refl vwJ.heap.size vwJ) (.cells #[.slice AwJ nwJ cwJ] 30)))
            have HLwJ := Lib.hid (Lay.rd_len hrwJ)
            clear hrwJ qwJ hx x3 xn HPC
            go_upto_region 26 with fail
            obtain ⟨gwJ, hgwJ⟩ : ∃ g, g = vwJ.heap.size := ⟨_, rfl⟩
            rw [← hgwJ] at HBwJ ⊢
            generalize vwJ.alloc (.cells #[.slice AwJ nwJ cwJ] 30) = wJ at *
            clear hgwJ
            rw [← HPwJ.out] at HP1 HDD HMO
            obtain ⟨D1, hD1⟩ : ∃ D, D = depF PwJ := ⟨_, rfl⟩
            have HDJ := Lib.hid (fun w' (q : Below wJ.heap.size wJ w') => depth_any AllB PwJ AwJ nwJ cwJ w' (Lay.rd_below HRwJ.out q) (by have := HLwJ.out; have := HP1.out.2; omega) (HT5.out.below (bl_ca (bl_ca HQD.out HAwJ.out) q)) HP1.out.1)
            have HDK := Lib.hid (fun w' (q : Below wJ.heap.size wJ w') => HDO.out w' (bl_ca HAwJ.out q))
            have HBK := Lib.hid (HBO.out.ca HAwJ.out)
            rw [← hD1] at HDJ HDD
            have HD13 := Lib.hid (show (D3 : Int) - 1 = (D1 : Int) from by have := HDD.out; rw [← HD3.out] at this; omega)
            have hd1 : (D1 : Int) ≤ 20 := by have := HD13.out; omega
            clear hD1
            refine wp_region_ps (S := fun _ _ w' => Below wJ.heap.size wJ w') (by kernel_rfl) ?spswg44 ?ppswg44
            case spswg44 =>
              exact (Below.refl wJ.heap.size wJ).drew
            refine Ps.st (i := 0) (d := some 147) (u := (.int .i64 (0))) rfl rfl (by exact StepS.pure nP rfl fun _ => rfl) ?_
            try simp only [Act.put, sA, sZ, sS]
            refine Ps.st (i := 1) (d := some 148) (u := (.bool (false))) rfl rfl ?ywg44_46 ?rwg44_46
            case ywg44_46 =>
              refine StepS.pure nP (by rfl) (fun w9 => ?_)
              first | rfl | (go_simp; done) | (go_simp; rfl)
            try simp only [Act.put, sA, sZ, sS]
            refine Ps.st (i := 2) (d := some 149) (u := (.bool (false))) rfl rfl (by exact StepS.pure nP rfl fun _ => rfl) ?_
            try simp only [Act.put, sA, sZ, sS]
            refine Ps.st (i := 3) (d := some 150) (u := (.agg #[.slice AwJ nwJ cwJ])) rfl rfl ?ywg44_48 ?rwg44_48
            case ywg44_48 =>
              refine StepS.read [] (by kernel_rfl) nP (by rfl) (fun L9 m9 w9 hSh hAt hDn hS => ?_)
              have hT : Below wJ.heap.size wJ w9 := hS
              have x0 : w9.cell? ⟨gwJ, 0, none⟩ = some (.slice AwJ nwJ cwJ) := (HBwJ.out.ca hT).cell 0
              clear hT hS
              go_simp
              try rfl
            try simp only [Act.put, sA, sZ, sS]
            refine Ps.st (i := 4) (d := some 151) (u := (.int .i64 ((D1 : Int)))) rfl rfl ?ywg44_49 ?rwg44_49
            case ywg44_49 =>
              refine StepS.call ?fwg44_49 ?awg44_49 [] (by kernel_rfl) (by rfl) (fun w9 => ?hwg44_49) (fun L9 m9 w9 hSh hAt hDn hS => ?cwg44_49)
              case hwg44_49 => go_simp; refine ⟨?_, ?_⟩ <;> rfl
              case cwg44_49 =>
                have hT : Below wJ.heap.size wJ w9 := hS
                refine (HDJ.out w9 hT).mono ?_
                rintro e w8 ⟨rfl, q8⟩
                exact ⟨rfl, bl_ca hT q8⟩
            try simp only [Act.put, sA, sZ, sS]
            refine Ps.st (i := 5) (d := some 152) (u := (.agg #[.slice A9 n9 c9])) rfl rfl ?ywg44_50 ?rwg44_50
            case ywg44_50 =>
              refine StepS.read [] (by kernel_rfl) nP (by rfl) (fun L9 m9 w9 hSh hAt hDn hS => ?_)
              have hT : Below wJ.heap.size wJ w9 := hS
              have x0 : w9.cell? ⟨g9, 0, none⟩ = some (.slice A9 n9 c9) := (HBK.out.ca hT).cell 0
              clear hT hS
              go_simp
              try rfl
            try simp only [Act.put, sA, sZ, sS]
            refine Ps.st (i := 6) (d := some 153) (u := (.int .i64 ((D3 : Int)))) rfl rfl ?ywg44_51 ?rwg44_51
            case ywg44_51 =>
              refine StepS.call ?fwg44_51 ?awg44_51 [] (by kernel_rfl) (by rfl) (fun w9 => ?hwg44_51) (fun L9 m9 w9 hSh hAt hDn hS => ?cwg44_51)
              case hwg44_51 => go_simp; refine ⟨?_, ?_⟩ <;> rfl
              case cwg44_51 =>
                have hT : Below wJ.heap.size wJ w9 := hS
                refine (HDK.out w9 hT).mono ?_
                rintro e w8 ⟨rfl, q8⟩
                exact ⟨rfl, bl_ca hT q8⟩
            try simp only [Act.put, sA, sZ, sS]
            refine Ps.st (i := 7) (d := some 154) (u := (.int .i64 ((D1 : Int)))) rfl rfl ?ywg44_52 ?rwg44_52
            case ywg44_52 =>
              refine StepS.pure nP (by rfl) (fun w9 => ?_)
              have e9 := HD13.out
              first | (go_simp; done) | (go_simp; simp [IntKind.wrap, IntKind.signed, IntKind.bits]; omega)
            try simp only [Act.put, sA, sZ, sS]
            refine Ps.st (i := 8) (d := some 155) (u := (.bool (false))) rfl rfl ?ywg44_53 ?rwg44_53
            case ywg44_53 =>
              refine StepS.pure nP (by rfl) (fun w9 => ?_)
              first | rfl | (go_simp; done) | (go_simp; rfl)
            try simp only [Act.put, sA, sZ, sS]
            refine Ps.st (i := 9) (d := some 156) (u := (.bool (false))) rfl rfl (by exact StepS.pure nP rfl fun _ => rfl) ?_
            try simp only [Act.put, sA, sZ, sS]
            refine Ps.done (by kernel_rfl) (fun wg44 hS => ?_) _
            have HW := Lib.hid (show Below wJ.heap.size wJ wg44 from hS)
            clear hS
            obtain ⟨wI, rfl⟩ : ∃ x, x = wg44 := ⟨_, rfl⟩
            have HAwI := Lib.hid (bl_ca HAwJ.out HW.out)
            have HEwI := Lib.hid (bl_ca HEwJ.out HW.out)
            have xj : wI.cell? ⟨gwJ, 0, none⟩ = some (.slice AwJ nwJ cwJ) := (HBwJ.out.ca HW.out).cell 0
            have xn : wI.cell? ⟨gn, 0, none⟩ = some (.int .i64 x.p.tag) := (HBN.out.ca HAwI.out).cell 0
            have HON := Lib.hid (one_any AllB x.p.tag PwJ AwJ nwJ cwJ wI (Lay.rd_below HRwJ.out HW.out) (by have := HLwJ.out; have := HP1.out.2; omega) hwJa hwJb (HT5.out.below (bl_ca HQD.out HAwI.out)) HP1.out.1)
            go_wp2_with fail
            refine (HON.out).mono ?_
            rintro e wF hmk
            obtain ⟨A4, n4, c4, rfl, hr4, h4a, h4b, q4⟩ := made_get (HMO.out.1) (HMO.out.2) hmk
            clear hmk
            have HA4 := Lib.hid (bl_ca HAwI.out q4)
            have hlt := Nat.lt_of_lt_of_le HBE.out.lt HEwI.out.size
            have HRK := Lib.hid (made_put hr4 hlt (.slice A4 n4 c4))
            have HBF := Lib.hid (HBE.out.ca (bl_ca HEwI.out q4))
            have HAG := Lib.hid (bl_set HA4.out (p := ⟨ge, 0, none⟩) hge (.slice A4 n4 c4))
            have HLE := Lib.hid (Lay.rd_len hr4)
            have xg : wF.cell? ⟨ge, 0, none⟩ = some (.slice none 0 0) := HBF.out.cell 0
            have fg := HBF.out.frozen 0
            have HBG := Lib.hid (HBF.out.set_ 0 (.slice A4 n4 c4))
            clear hr4 q4 hlt xj xn HON
            go_upto_region 29 with fail
            clear xg fg
            obtain ⟨wG, hwG⟩ : ∃ W, W = wF.setCell ⟨ge, 0, none⟩ (.slice A4 n4 c4) := ⟨_, rfl⟩
            rw [← hwG] at HRK HAG HBG ⊢
            clear hwG
            have xg : wG.cell? ⟨ge, 0, none⟩ = some (.slice A4 n4 c4) := HBG.out.cell 0
            have x9 : wG.cell? ⟨g9, 0, none⟩ = some (.slice A9 n9 c9) := (HBO.out.ca HAG.out).cell 0
            have HSM2 := Lib.hid (same_get (partN xs i) A4 n4 c4 A9 n9 c9 wG HRK.out (Lay.rd_below HRO.out HAG.out) (by have := HLE.out; have := HPS.out.2; omega))
            go_wp2_with fail
            refine HSM2.out.mono ?_
            rintro e wH ⟨rfl, qH⟩
            have HQH := Lib.hid (bl_ca (bl_ca HQD.out HAG.out) qH)
            clear qH xg x9
            go_wp2
            go_roundg (gk - 1)
            · exact ⟨i + 1, by omega, by go_num, HQH⟩
            · omega
          case neg =>
            have hr2 : 0 ≤ x.r := by omega
            clear hr
            obtain ⟨hpe, hpf, hdd, hll, hmo, hmn⟩ := HWA.out.two x HXX.out hl2 hr2
            have HMO := Lib.hid (And.intro hmo hmn)
            have HPE := Lib.hid hpe
            have HPF := Lib.hid hpf
            have hpr := partE_in hpe
            have hps := partE_in hpf
            have HP1 := Lib.hid (part_sm HSM.out HTR.out (i := x.l.toNat) (by have := HTL.out; have := Lay.rd_len HR5.out; omega))
            have HP2 := Lib.hid (part_sm HSM.out HTR.out (i := x.r.toNat) (by have := HTL.out; have := Lay.rd_len HR5.out; omega))
            have HDD := Lib.hid hdd
            have HLL := Lib.hid hll
            clear hmo hmn hpe hpf hdd hll hpr hps
            go_upto_region 17 with fail
            clear z1 z2
            have x3 : wE.cell? ⟨g3, 0, none⟩ = some (.slice (some p) n c) := (HB5.out.ca (bl_ca HQD.out HAwE.out)).cell 0
            have xn : wE.cell? ⟨gn, 1, none⟩ = some (.int .i64 x.l) := (HBN.out.ca HAwE.out).cell 1
            have HPC := Lib.hid (HPG.out x.l HPE.out wE (bl_ca HQD.out HAwE.out))
            obtain ⟨PwJ, hPwJ⟩ : ∃ P, P = partN xs x.l.toNat := ⟨_, rfl⟩
            rw [← hPwJ] at HPC
            have HPwJ := Lib.hid hPwJ
            clear hPwJ
            go_wp2_with fail
            refine HPC.out.mono ?_
            rintro e vwJ ⟨AwJ, nwJ, cwJ, rfl, hrwJ, hwJa, hwJb, qwJ⟩
            have hx := bl_al qwJ (.cells #[.slice AwJ nwJ cwJ] 30)
            have HAwJ := Lib.hid (bl_ca HAwE.out hx)
            have HEwJ := Lib.hid (bl_ca HEwE.out hx)
            have HNwJ := Lib.hid hx
            have HBwJ := Lib.hid (Blk.new vwJ 30 #[.slice AwJ nwJ cwJ])
            have HRwJ := Lib.hid (Lay.rd_below hrwJ (bl_al (Below.refl vwJ.heap.size vwJ) (.cells #[.slice AwJ nwJ cwJ] 30)))
            have HLwJ := Lib.hid (Lay.rd_len hrwJ)
            clear hrwJ qwJ hx x3 xn HPC
            go_upto_region 18 with fail
            obtain ⟨gwJ, hgwJ⟩ : ∃ g, g = vwJ.heap.size := ⟨_, rfl⟩
            rw [← hgwJ] at HBwJ ⊢
            generalize vwJ.alloc (.cells #[.slice AwJ nwJ cwJ] 30) = wJ at *
            clear hgwJ
            have x3 : wJ.cell? ⟨g3, 0, none⟩ = some (.slice (some p) n c) := (HB5.out.ca (bl_ca HQD.out HAwJ.out)).cell 0
            have xn : wJ.cell? ⟨gn, 2, none⟩ = some (.int .i64 x.r) := (HBN.out.ca HAwJ.out).cell 2
            have HPC := Lib.hid (HPG.out x.r HPF.out wJ (bl_ca HQD.out HAwJ.out))
            obtain ⟨PwK, hPwK⟩ : ∃ P, P = partN xs x.r.toNat := ⟨_, rfl⟩
            rw [← hPwK] at HPC
            have HPwK := Lib.hid hPwK
            clear hPwK
            go_wp2_with fail
            refine HPC.out.mono ?_
            rintro e vwK ⟨AwK, nwK, cwK, rfl, hrwK, hwKa, hwKb, qwK⟩
            have hx := bl_al qwK (.cells #[.slice AwK nwK cwK] 30)
            have HAwK := Lib.hid (bl_ca HAwJ.out hx)
            have HEwK := Lib.hid (bl_ca HEwJ.out hx)
            have HNwK := Lib.hid hx
            have HBwK := Lib.hid (Blk.new vwK 30 #[.slice AwK nwK cwK])
            have HRwK := Lib.hid (Lay.rd_below hrwK (bl_al (Below.refl vwK.heap.size vwK) (.cells #[.slice AwK nwK cwK] 30)))
            have HLwK := Lib.hid (Lay.rd_len hrwK)
            clear hrwK qwK hx x3 xn HPC
            go_upto_region 19 with fail
            obtain ⟨gwK, hgwK⟩ : ∃ g, g = vwK.heap.size := ⟨_, rfl⟩
            rw [← hgwK] at HBwK ⊢
            generalize vwK.alloc (.cells #[.slice AwK nwK cwK] 30) = wK at *
            clear hgwK
            rw [← HPwJ.out, ← HPwK.out] at HDD HLL HMO
            rw [← HPwJ.out] at HP1
            rw [← HPwK.out] at HP2
            obtain ⟨D1, hD1⟩ : ∃ D, D = depF PwJ := ⟨_, rfl⟩
            obtain ⟨D2, hD2⟩ : ∃ D, D = depF PwK := ⟨_, rfl⟩
            have HDJ := Lib.hid (fun w' (q : Below wK.heap.size wK w') => depth_any AllB PwJ AwJ nwJ cwJ w' (Lay.rd_below HRwJ.out (bl_ca HNwK.out q)) (by have := HLwJ.out; have := HP1.out.2; omega) (HT5.out.below (bl_ca (bl_ca HQD.out HAwK.out) q)) HP1.out.1)
            have HDI := Lib.hid (fun w' (q : Below wK.heap.size wK w') => depth_any AllB PwK AwK nwK cwK w' (Lay.rd_below HRwK.out q) (by have := HLwK.out; have := HP2.out.2; omega) (HT5.out.below (bl_ca (bl_ca HQD.out HAwK.out) q)) HP2.out.1)
            have HDK := Lib.hid (fun w' (q : Below wK.heap.size wK w') => HDO.out w' (bl_ca HAwK.out q))
            have HBK := Lib.hid (HBO.out.ca HAwK.out)
            have HBJ := Lib.hid (HBwJ.out.ca HNwK.out)
            rw [← hD1] at HDJ HDD
            rw [← hD2] at HDI HDD
            obtain ⟨DM, hDM⟩ : ∃ D : Nat, D = max D1 D2 := ⟨_, rfl⟩
            rw [← hDM] at HDD
            have HMX := Lib.hid (show max (D1 : Int) (D2 : Int) = (DM : Int) from by omega)
            have HD13 := Lib.hid (show (D3 : Int) - 1 = (DM : Int) from by have := HDD.out; rw [← HD3.out] at this; omega)
            have hd1 : (DM : Int) ≤ 20 := by have := HD13.out; omega
            have hda : (D1 : Int) ≤ 20 := by omega
            have hdb : (D2 : Int) ≤ 20 := by omega
            obtain ⟨NS, hNS⟩ : ∃ D : Nat, D = nwJ + nwK := ⟨_, rfl⟩
            have HNS := Lib.hid (show (nwJ : Int) + (nwK : Int) = (NS : Int) from by omega)
            have HNT := Lib.hid (show (NS : Int) + 1 = (n9 : Int) from by have := HLL.out; have := HLwJ.out; have := HLwK.out; have := HL9.out; omega)
            have hn9a : (n9 : Int) ≤ 300 := by omega
            have hnsa : (NS : Int) ≤ 300 := by have := HNT.out; omega
            have hja : (nwJ : Int) ≤ 300 := by omega
            have hka : (nwK : Int) ≤ 300 := by omega
            clear hD1 hD2 hDM hNS
            refine wp_region_ps (S := fun _ _ w' => Below wK.heap.size wK w') (by kernel_rfl) ?spswg55 ?ppswg55
            case spswg55 =>
              exact (Below.refl wK.heap.size wK).drew
            refine Ps.st (i := 0) (d := some 88) (u := (.int .i64 (0))) rfl rfl (by exact StepS.pure nP rfl fun _ => rfl) ?_
            try simp only [Act.put, sA, sZ, sS]
            refine Ps.st (i := 1) (d := some 89) (u := (.bool (false))) rfl rfl ?ywg55_57 ?rwg55_57
            case ywg55_57 =>
              refine StepS.pure nP (by rfl) (fun w9 => ?_)
              first | rfl | (go_simp; done) | (go_simp; rfl)
            try simp only [Act.put, sA, sZ, sS]
            refine Ps.st (i := 2) (d := some 90) (u := (.bool (false))) rfl rfl (by exact StepS.pure nP rfl fun _ => rfl) ?_
            try simp only [Act.put, sA, sZ, sS]
            refine Ps.st (i := 3) (d := some 91) (u := (.int .i64 (0))) rfl rfl (by exact StepS.pure nP rfl fun _ => rfl) ?_
            try simp only [Act.put, sA, sZ, sS]
            refine Ps.st (i := 4) (d := some 92) (u := (.bool (false))) rfl rfl ?ywg55_60 ?rwg55_60
            case ywg55_60 =>
              refine StepS.pure nP (by rfl) (fun w9 => ?_)
              first | rfl | (go_simp; done) | (go_simp; rfl)
            try simp only [Act.put, sA, sZ, sS]
            refine Ps.st (i := 5) (d := some 93) (u := (.bool (false))) rfl rfl (by exact StepS.pure nP rfl fun _ => rfl) ?_
            try simp only [Act.put, sA, sZ, sS]
            refine Ps.st (i := 6) (d := some 94) (u := (.bool (false))) rfl rfl (by exact StepS.pure nP rfl fun _ => rfl) ?_
            try simp only [Act.put, sA, sZ, sS]
            refine Ps.st (i := 7) (d := some 95) (u := (.agg #[.slice AwJ nwJ cwJ])) rfl rfl ?ywg55_63 ?rwg55_63
            case ywg55_63 =>
              refine StepS.read [] (by kernel_rfl) nP (by rfl) (fun L9 m9 w9 hSh hAt hDn hS => ?_)
              have hT : Below wK.heap.size wK w9 := hS
              have x0 : w9.cell? ⟨gwJ, 0, none⟩ = some (.slice AwJ nwJ cwJ) := (HBJ.out.ca hT).cell 0
              clear hT hS
              go_simp
              try rfl
            try simp only [Act.put, sA, sZ, sS]
            refine Ps.st (i := 8) (d := some 96) (u := (.int .i64 ((D1 : Int)))) rfl rfl ?ywg55_64 ?rwg55_64
            case ywg55_64 =>
              refine StepS.call ?fwg55_64 ?awg55_64 [] (by kernel_rfl) (by rfl) (fun w9 => ?hwg55_64) (fun L9 m9 w9 hSh hAt hDn hS => ?cwg55_64)
              case hwg55_64 => go_simp; refine ⟨?_, ?_⟩ <;> rfl
              case cwg55_64 =>
                have hT : Below wK.heap.size wK w9 := hS
                refine (HDJ.out w9 hT).mono ?_
                rintro e w8 ⟨rfl, q8⟩
                exact ⟨rfl, bl_ca hT q8⟩
            try simp only [Act.put, sA, sZ, sS]
            refine Ps.st (i := 9) (d := some 97) (u := (.agg #[.slice AwK nwK cwK])) rfl rfl ?ywg55_65 ?rwg55_65
            case ywg55_65 =>
              refine StepS.read [] (by kernel_rfl) nP (by rfl) (fun L9 m9 w9 hSh hAt hDn hS => ?_)
              have hT : Below wK.heap.size wK w9 := hS
              have x0 : w9.cell? ⟨gwK, 0, none⟩ = some (.slice AwK nwK cwK) := (HBwK.out.ca hT).cell 0
              clear hT hS
              go_simp
              try rfl
            try simp only [Act.put, sA, sZ, sS]
            refine Ps.st (i := 10) (d := some 98) (u := (.int .i64 ((D2 : Int)))) rfl rfl ?ywg55_66 ?rwg55_66
            case ywg55_66 =>
              refine StepS.call ?fwg55_66 ?awg55_66 [] (by kernel_rfl) (by rfl) (fun w9 => ?hwg55_66) (fun L9 m9 w9 hSh hAt hDn hS => ?cwg55_66)
              case hwg55_66 => go_simp; refine ⟨?_, ?_⟩ <;> rfl
              case cwg55_66 =>
                have hT : Below wK.heap.size wK w9 := hS
                refine (HDI.out w9 hT).mono ?_
                rintro e w8 ⟨rfl, q8⟩
                exact ⟨rfl, bl_ca hT q8⟩
            try simp only [Act.put, sA, sZ, sS]
            refine Ps.st (i := 11) (d := some 99) (u := (.int .i64 ((DM : Int)))) rfl rfl ?ywg55_67 ?rwg55_67
            case ywg55_67 =>
              refine StepS.pure nP (by rfl) (fun w9 => ?_)
              have e9 := HMX.out
              first | rfl | (go_simp; done) | (go_simp; rfl)
            try simp only [Act.put, sA, sZ, sS]
            refine Ps.st (i := 12) (d := some 100) (u := (.agg #[.slice A9 n9 c9])) rfl rfl ?ywg55_68 ?rwg55_68
            case ywg55_68 =>
              refine StepS.read [] (by kernel_rfl) nP (by rfl) (fun L9 m9 w9 hSh hAt hDn hS => ?_)
              have hT : Below wK.heap.size wK w9 := hS
              have x0 : w9.cell? ⟨g9, 0, none⟩ = some (.slice A9 n9 c9) := (HBK.out.ca hT).cell 0
              clear hT hS
              go_simp
              try rfl
            try simp only [Act.put, sA, sZ, sS]
            refine Ps.st (i := 13) (d := some 101) (u := (.int .i64 ((D3 : Int)))) rfl rfl ?ywg55_69 ?rwg55_69
            case ywg55_69 =>
              refine StepS.call ?fwg55_69 ?awg55_69 [] (by kernel_rfl) (by rfl) (fun w9 => ?hwg55_69) (fun L9 m9 w9 hSh hAt hDn hS => ?cwg55_69)
              case hwg55_69 => go_simp; refine ⟨?_, ?_⟩ <;> rfl
              case cwg55_69 =>
                have hT : Below wK.heap.size wK w9 := hS
                refine (HDK.out w9 hT).mono ?_
                rintro e w8 ⟨rfl, q8⟩
                exact ⟨rfl, bl_ca hT q8⟩
            try simp only [Act.put, sA, sZ, sS]
            refine Ps.st (i := 14) (d := some 102) (u := (.int .i64 ((DM : Int)))) rfl rfl ?ywg55_70 ?rwg55_70
            case ywg55_70 =>
              refine StepS.pure nP (by rfl) (fun w9 => ?_)
              have e9 := HD13.out
              first | (go_simp; done) | (go_simp; simp [IntKind.wrap, IntKind.signed, IntKind.bits]; omega)
            try simp only [Act.put, sA, sZ, sS]
            refine Ps.st (i := 15) (d := some 103) (u := (.bool (false))) rfl rfl ?ywg55_71 ?rwg55_71
            case ywg55_71 =>
              refine StepS.pure nP (by rfl) (fun w9 => ?_)
              first | rfl | (go_simp; done) | (go_simp; rfl)
            try simp only [Act.put, sA, sZ, sS]
            refine Ps.st (i := 16) (d := some 104) (u := (.bool (false))) rfl rfl (by exact StepS.pure nP rfl fun _ => rfl) ?_
            try simp only [Act.put, sA, sZ, sS]
            refine Ps.st (i := 17) (d := some 105) (u := (.bool (false))) rfl rfl (by exact StepS.pure nP rfl fun _ => rfl) ?_
            try simp only [Act.put, sA, sZ, sS]
            refine Ps.st (i := 18) (d := some 106) (u := (.pointer (some ⟨gwJ, 0, none⟩))) rfl rfl (by exact StepS.pure nP rfl fun _ => rfl) ?_
            try simp only [Act.put, sA, sZ, sS]
            refine Ps.st (i := 19) (d := some 107) (u := (.slice AwJ nwJ cwJ)) rfl rfl ?ywg55_75 ?rwg55_75
            case ywg55_75 =>
              refine StepS.read [] (by kernel_rfl) nP (by rfl) (fun L9 m9 w9 hSh hAt hDn hS => ?_)
              have hT : Below wK.heap.size wK w9 := hS
              have x0 : w9.cell? ⟨gwJ, 0, none⟩ = some (.slice AwJ nwJ cwJ) := (HBJ.out.ca hT).cell 0
              clear hT hS
              go_simp
              try rfl
            try simp only [Act.put, sA, sZ, sS]
            refine Ps.st (i := 20) (d := some 108) (u := (.int .i64 ((nwJ : Int)))) rfl rfl (by exact StepS.pure nP rfl fun _ => by first | rfl | (go_simp; done) | (go_simp; rfl)) ?_
            try simp only [Act.put, sA, sZ, sS]
            refine Ps.st (i := 21) (d := some 109) (u := (.pointer (some ⟨gwK, 0, none⟩))) rfl rfl (by exact StepS.pure nP rfl fun _ => rfl) ?_
            try simp only [Act.put, sA, sZ, sS]
            refine Ps.st (i := 22) (d := some 110) (u := (.slice AwK nwK cwK)) rfl rfl ?ywg55_78 ?rwg55_78
            case ywg55_78 =>
              refine StepS.read [] (by kernel_rfl) nP (by rfl) (fun L9 m9 w9 hSh hAt hDn hS => ?_)
              have hT : Below wK.heap.size wK w9 := hS
              have x0 : w9.cell? ⟨gwK, 0, none⟩ = some (.slice AwK nwK cwK) := (HBwK.out.ca hT).cell 0
              clear hT hS
              go_simp
              try rfl
            try simp only [Act.put, sA, sZ, sS]
            refine Ps.st (i := 23) (d := some 111) (u := (.int .i64 ((nwK : Int)))) rfl rfl (by exact StepS.pure nP rfl fun _ => by first | rfl | (go_simp; done) | (go_simp; rfl)) ?_
            try simp only [Act.put, sA, sZ, sS]
            refine Ps.st (i := 24) (d := some 112) (u := (.int .i64 ((NS : Int)))) rfl rfl ?ywg55_80 ?rwg55_80
            case ywg55_80 =>
              refine StepS.pure nP (by rfl) (fun w9 => ?_)
              have e9 := HNS.out
              first | (go_simp; done) | (go_simp; simp [IntKind.wrap, IntKind.signed, IntKind.bits]; omega)
            try simp only [Act.put, sA, sZ, sS]
            refine Ps.st (i := 25) (d := some 113) (u := (.int .i64 ((n9 : Int)))) rfl rfl ?ywg55_81 ?rwg55_81
            case ywg55_81 =>
              refine StepS.pure nP (by rfl) (fun w9 => ?_)
              have e9 := HNT.out
              first | (go_simp; done) | (go_simp; simp [IntKind.wrap, IntKind.signed, IntKind.bits]; omega)
            try simp only [Act.put, sA, sZ, sS]
            refine Ps.st (i := 26) (d := some 114) (u := (.pointer (some ⟨g9, 0, none⟩))) rfl rfl (by exact StepS.pure nP rfl fun _ => rfl) ?_
            try simp only [Act.put, sA, sZ, sS]
            refine Ps.st (i := 27) (d := some 115) (u := (.slice A9 n9 c9)) rfl rfl ?ywg55_83 ?rwg55_83
            case ywg55_83 =>
              refine StepS.read [] (by kernel_rfl) nP (by rfl) (fun L9 m9 w9 hSh hAt hDn hS => ?_)
              have hT : Below wK.heap.size wK w9 := hS
              have x0 : w9.cell? ⟨g9, 0, none⟩ = some (.slice A9 n9 c9) := (HBK.out.ca hT).cell 0
              clear hT hS
              go_simp
              try rfl
            try simp only [Act.put, sA, sZ, sS]
            refine Ps.st (i := 28) (d := some 116) (u := (.int .i64 ((n9 : Int)))) rfl rfl (by exact StepS.pure nP rfl fun _ => by first | rfl | (go_simp; done) | (go_simp; rfl)) ?_
            try simp only [Act.put, sA, sZ, sS]
            refine Ps.st (i := 29) (d := some 117) (u := (.bool (false))) rfl rfl ?ywg55_85 ?rwg55_85
            case ywg55_85 =>
              refine StepS.pure nP (by rfl) (fun w9 => ?_)
              first | rfl | (go_simp; done) | (go_simp; rfl)
            try simp only [Act.put, sA, sZ, sS]
            refine Ps.st (i := 30) (d := some 118) (u := (.bool (false))) rfl rfl (by exact StepS.pure nP rfl fun _ => rfl) ?_
            try simp only [Act.put, sA, sZ, sS]
            refine Ps.done (by kernel_rfl) (fun wg55 hS => ?_) _
            have HW := Lib.hid (show Below wK.heap.size wK wg55 from hS)
            clear hS
            obtain ⟨wI, rfl⟩ : ∃ x, x = wg55 := ⟨_, rfl⟩
            have HAwI := Lib.hid (bl_ca HAwK.out HW.out)
            have HEwI := Lib.hid (bl_ca HEwK.out HW.out)
            have xj : wI.cell? ⟨gwJ, 0, none⟩ = some (.slice AwJ nwJ cwJ) := (HBJ.out.ca HW.out).cell 0
            have xk : wI.cell? ⟨gwK, 0, none⟩ = some (.slice AwK nwK cwK) := (HBwK.out.ca HW.out).cell 0
            have xn : wI.cell? ⟨gn, 0, none⟩ = some (.int .i64 x.p.tag) := (HBN.out.ca HAwI.out).cell 0
            have HON := Lib.hid (two_any AllB AllB x.p.tag PwJ PwK AwJ nwJ cwJ AwK nwK cwK wI (Lay.rd_below HRwJ.out (bl_ca HNwK.out HW.out)) (by omega) hwJa hwJb (Lay.rd_below HRwK.out HW.out) (by omega) hwKa hwKb (HT5.out.below (bl_ca HQD.out HAwI.out)) HP1.out.1 HP2.out.1)
            go_wp2_with fail
            refine (HON.out).mono ?_
            rintro e wF hmk
            obtain ⟨A4, n4, c4, rfl, hr4, h4a, h4b, q4⟩ := made_get (HMO.out.1) (HMO.out.2) hmk
            clear hmk
            have HA4 := Lib.hid (bl_ca HAwI.out q4)
            have hlt := Nat.lt_of_lt_of_le HBE.out.lt HEwI.out.size
            have HRK := Lib.hid (made_put hr4 hlt (.slice A4 n4 c4))
            have HBF := Lib.hid (HBE.out.ca (bl_ca HEwI.out q4))
            have HAG := Lib.hid (bl_set HA4.out (p := ⟨ge, 0, none⟩) hge (.slice A4 n4 c4))
            have HLE := Lib.hid (Lay.rd_len hr4)
            have xg : wF.cell? ⟨ge, 0, none⟩ = some (.slice none 0 0) := HBF.out.cell 0
            have fg := HBF.out.frozen 0
            have HBG := Lib.hid (HBF.out.set_ 0 (.slice A4 n4 c4))
            clear hr4 q4 hlt xj xk xn HON
            go_upto_region 29 with fail
            clear xg fg
            obtain ⟨wG, hwG⟩ : ∃ W, W = wF.setCell ⟨ge, 0, none⟩ (.slice A4 n4 c4) := ⟨_, rfl⟩
            rw [← hwG] at HRK HAG HBG ⊢
            clear hwG
            have xg : wG.cell? ⟨ge, 0, none⟩ = some (.slice A4 n4 c4) := HBG.out.cell 0
            have x9 : wG.cell? ⟨g9, 0, none⟩ = some (.slice A9 n9 c9) := (HBO.out.ca HAG.out).cell 0
            have HSM2 := Lib.hid (same_get (partN xs i) A4 n4 c4 A9 n9 c9 wG HRK.out (Lay.rd_below HRO.out HAG.out) (by have := HLE.out; have := HPS.out.2; omega))
            go_wp2_with fail
            refine HSM2.out.mono ?_
            rintro e wH ⟨rfl, qH⟩
            have HQH := Lib.hid (bl_ca (bl_ca HQD.out HAG.out) qH)
            clear qH xg x9
            go_wp2
            go_roundg (gk - 1)
            · exact ⟨i + 1, by omega, by go_num, HQH⟩
            · omega
    · obtain rfl : i = n := by omega
      have hi1 : (i : Int) ≤ (i : Int) := by omega
      go_wp2
      go_ret
      exact ⟨rfl, bl_ca HQ5.out HQR.out⟩
theorem whole_walkF (x : List Nd) (A : Option Addr) (n c : Nat) (w : World) (h : LN.rd w AllB A n x) (ha : n ≤ c) (hb : c ≤ 9223372036854775807) (hs : ∀ z ∈ x, SmP z.p ∧ RgP z.p) (hT : Tab w) :
    Calls Tryd.prog 6 #[.agg #[.slice A n c]] w fun e w' => e = .returned (.bool true) ∧ Below w.heap.size w w' :=
  whole_walk x A n c w h (Nat.le_trans ha hb) hT (fun z hz => (hs z hz).1)
end Go.Proofs.YtoaggmldekejoaaDoor
