/- The program's Print. Conditions: the query reads so, and is no longer than memory is. -/
import Derived.Test.YtoaggmldekejoaaGreatDoorPkQ25
namespace Go.Proofs.YtoaggmldekejoaaGreatDoor
open Go.RowKit
theorem itoa_any (k : Int) (h0 : 0 ≤ k) (h1 : k ≤ 2147483647) (w : World) (hT : Tab w) : Calls Tryz.prog 56 #[.int .i64 k] w fun e w' => e = .returned (.string (bS (Lib.decDigits k.toNat))) ∧ Below w.heap.size w w' :=
 (Tryz.strconv_Itoa k (by omega) (by omega) w hT.pw).mono fun e w' ⟨he, j, os, hw⟩ => ⟨by rw [he, Lib.itoa, if_neg (by omega)], by subst hw; exact Lib.below_grow _ w (Nat.le_refl _) j os⟩
set_option maxRecDepth 100000 in
set_option maxHeartbeats 32000000 in
theorem print_any (F : Nat → Prop) (q : QC) (A : Option Addr) (n c : Nat) (B : Option Addr) (m d : Nat) (w : World) (hS : LQS.rd w F A n q.sels) (hK : LQK.rd w F B m q.keys) (hp : QCp q) (hn : n ≤ 1000) (hm : m ≤ 1000) (hL : ∀ s ∈ q.sels, s.items.length ≤ 1000 ∧ s.joins.length ≤ 1000 ∧ s.grp.length ≤ 1000) (hT : Tab w) (hg : RgQ q) :
 Calls Tryz.prog 21 #[q.val A n c B m d] w fun e w' => e = .returned (.tuple #[.string (if qryB q then bS (prQ q) else ⟨#[]⟩), .int .i64 (if qryB q then 0 else 180)]) ∧ Below w.heap.size w w' := by
 have HQ1 := Lib.hid (bl_al (Below.refl w.heap.size w) (.cells #[.slice A n c, .slice B m d, .int .i64 q.lim] 43))
 have HB1 := Lib.hid (Blk.new w 43 #[.slice A n c, .slice B m d, .int .i64 q.lim])
 have HS1 := Lib.hid (Lay.rd_below hS HQ1.out)
 have HK1 := Lib.hid (Lay.rd_below hK HQ1.out)
 have HT1 := Lib.hid (hT.below HQ1.out)
 have HG := Lib.hid hg
 have HLN := Lib.hid (And.intro (Lay.rd_len hS) (Lay.rd_len hK))
 have HC := Lib.hid (Check_any F q A n c B m d _ HS1.out HK1.out hp hn hm hL HT1.out)
 clear hS hK hT hp hL hg
 cases hrr : qryB q
 case false =>
  rw [hrr] at HC
  have HCF := Lib.hid (show Calls Tryz.prog 18 #[.agg #[.slice A n c, .slice B m d, .int .i64 q.lim]] _ fun e w' => e = .returned (.int .i64 180) ∧ Below _ _ w' from HC.out)
  clear HC HG HS1 HK1 HT1 hrr
  have x0 := HB1.out.cell 0
  have x1 := HB1.out.cell 1
  have x2 := HB1.out.cell 2
  go_enter Tryz.func21, Tryz.ntmps21
  go_wp2_with fail
  refine HCF.out.mono ?_
  rintro e w2 ⟨rfl, q2⟩
  have HQ2 := Lib.hid (bl_ca HQ1.out q2)
  clear q2 HCF
  go_wp2
  go_ret2
  exact ⟨rfl, HQ2.out⟩
 case true =>
 rw [hrr] at HC
 have HCF := Lib.hid (show Calls Tryz.prog 18 #[.agg #[.slice A n c, .slice B m d, .int .i64 q.lim]] _ fun e w' => e = .returned (.int .i64 0) ∧ Below _ _ w' from HC.out)
 have HPQ := Lib.hid (qryP_pr hrr)
 have HLE := Lib.hid (Nat.le_trans (qryP_le hrr HG.out) (show 10000000 ≤ 140737488355328 by decide))
 unfold qryB at hrr
 simp only [Bool.and_eq_true, Bool.or_eq_true, decide_eq_true_eq] at hrr
 obtain ⟨⟨h0, h3, hk3, hl⟩, hk, hs⟩ := hrr
 have HSB := Lib.hid (And.intro (List.all_eq_true.1 hs) (List.all_eq_true.1 hk))
 have HLM := Lib.hid hl
 have hn3 : n ≤ 3 := by have := HLN.out.1; omega
 have hm3 : m ≤ 3 := by have := HLN.out.2; omega
 obtain ⟨S0, hS0⟩ : ∃ a, a = selsP 0 [] q.sels := ⟨_, rfl⟩
 obtain ⟨S1, hS1⟩ : ∃ a, a = rowP S0 wORDERBY (q.keys.map keyP) := ⟨_, rfl⟩
 have HQP := Lib.hid (show qryP q = if 0 ≤ q.lim then wordsP S1 [wLIMIT, Lib.decDigits q.lim.toNat] else S1 from by rw [hS1, hS0]; rfl)
 have HL1 := Lib.hid (show S1.length ≤ 140737488355328 from Nat.le_trans (by rw [HQP.out]; split; exact wordsP_len _ _; exact Nat.le_refl _) HLE.out)
 have HL0 := Lib.hid (show S0.length ≤ 140737488355328 from Nat.le_trans (by rw [hS1]; exact rowP_len _ _ _) HL1.out)
 have HA0 := Lib.hid hS0
 have HA1 := Lib.hid hS1
 have HNE := Lib.hid (show qryP q ≠ [] from by
  have hne : prQ q ≠ [] := by
   unfold prQ
   match q.sels, h0 with
   | s :: l, _ => intro e; have h1 := (List.append_eq_nil_iff.1 (List.append_eq_nil_iff.1 e).1).1; unfold selR at h1; exact absurd (List.append_eq_nil_iff.1 h1).1 (by decide)
  rw [HPQ.out]; exact hne)
 clear HC hS0 hS1 h0 h3 hk3 hl hk hs hn hm
 have x0 := HB1.out.cell 0
 have x1 := HB1.out.cell 1
 have x2 := HB1.out.cell 2
 go_enter Tryz.func21, Tryz.ntmps21
 go_wp2_with fail
 generalize w.alloc (.cells #[.slice A n c, .slice B m d, .int .i64 q.lim] 43) = w1 at *
 refine HCF.out.mono ?_
 rintro e w2 ⟨rfl, q2⟩
 have HS2 := Lib.hid (Lay.rd_below HS1.out q2)
 have HK2 := Lib.hid (Lay.rd_below HK1.out q2)
 have HT2 := Lib.hid (HT1.out.below q2)
 have HB2 := Lib.hid (HB1.out.ca q2)
 have HQ02 := Lib.hid (bl_ca HQ1.out q2)
 clear q2 HCF HS1 HK1 HT1 HB1 HQ1 x0 x1 x2
 have HQ3 := Lib.hid (bl_al (Below.refl w2.heap.size w2) (.cells #[.pointer none, .slice none 0 0] 106))
 have HW3 := Lib.hid (show WB w2.heap.size w2.heap.size [] (w2.alloc (.cells #[.pointer none, .slice none 0 0] 106)) from Lib.fresh_isBuilder 106 5 w2)
 have y0 := (HB2.out.ca HQ3.out).cell 0
 go_upto_block 0 with fail
 clear y0
 generalize w2.alloc (.cells #[.pointer none, .slice none 0 0] 106) = w3 at *
 go_cut [] (fun wx => Hid (WB w2.heap.size w2.heap.size S0 wx) ∧ Hid (Below w2.heap.size w2 wx))
 case first =>
  go_wp2_with fail
  go_loopg [20] n (fun gk a wr => ∃ i : Nat, i + gk = n ∧ a = .int .i64 i ∧ Hid (WB w2.heap.size w2.heap.size (selsP 0 [] (q.sels.take i)) wr) ∧ Hid (Below w2.heap.size w2 wr))
  case atStart => exact ⟨0, by omega, rfl, HW3, HQ3⟩
  case round =>
   obtain ⟨i, hig, rfl, HWr, HQr⟩ := hrel
   by_cases hlt : i < n
   · have hi1 : (i : Int) < (n : Int) := by omega
     obtain ⟨ad, z, I0, i0, j0, J0, u0, v0, W0, a0, b0, H0, e0, f0, G0, p0, q0, rfl, hax, sp⟩ := LQS_at HS2.out hlt
     have x0 := ce sp.z0 HQr.out
     have x1 := ce sp.z1 HQr.out
     have x2 := ce sp.z2 HQr.out
     have x3 := ce sp.z3 HQr.out
     have x4 := ce sp.z4 HQr.out
     have x5 := ce sp.z5 HQr.out
     have x6 := ce sp.z6 HQr.out
     have x7 := ce sp.z7 HQr.out
     have x8 := ce sp.z8 HQr.out
     have HRz := Lib.hid (RdS.of sp)
     have HST := Lib.hid (selsP_take hax)
     have HSL := Lib.hid (Nat.le_trans (selsP_takeLen q.sels (i + 1)) (by rw [← HA0.out]; exact HL0.out))
     have HZM := Lib.hid (List.mem_of_getElem? hax)
     have HQz := Lib.hid (bl_al (Below.refl wr.heap.size wr) (.cells (z.cells I0 i0 j0 J0 u0 v0 W0 a0 b0 H0 e0 f0 G0 p0 q0) 76))
     have HZ := Lib.hid (Blk.new wr 76 (z.cells I0 i0 j0 J0 u0 v0 W0 a0 b0 H0 e0 f0 G0 p0 q0))
     clear sp hax
     go_upto_region 8 with fail
     clear x0 x1 x2 x3 x4 x5 x6 x7 x8
     generalize wr.alloc (.cells (z.cells I0 i0 j0 J0 u0 v0 W0 a0 b0 H0 e0 f0 G0 p0 q0) 76) = wz at *
     have HWz := Lib.hid (HWr.out.keep HQz.out)
     have HQ2z := Lib.hid (bl_ca HQr.out HQz.out)
     have HSB9 := Lib.hid (HSB.out.1 z HZM.out)
     have HRG := Lib.hid (HG.out z HZM.out)
     obtain ⟨aJ, haJ⟩ : ∃ a, a = selsP 0 [] (q.sels.take (i + 1)) := ⟨_, rfl⟩
     rw [← haJ] at HSL HST
     have HAJ := Lib.hid haJ
     obtain ⟨aI, haI⟩ : ∃ a, a = selsP 0 [] (q.sels.take i) := ⟨_, rfl⟩
     rw [← haI] at HWz HST
     obtain ⟨aM, haM⟩ : ∃ a, a = wordsP aI [whenP (decide (0 < i)) wUNIONALL] := ⟨_, rfl⟩
     rw [← haM] at HST
     have HML := Lib.hid (show aM.length ≤ 140737488355328 from Nat.le_trans (by rw [HST.out]; exact selP_mono _ _) HSL.out)
     obtain ⟨du, hdu⟩ : ∃ du : ByteArray, du = (if (decide (0 < i)) then (⟨#[85, 78, 73, 79, 78, 32, 65, 76, 76]⟩ : ByteArray) else ⟨#[]⟩) := ⟨_, rfl⟩
     have HDU := Lib.hid hdu
     have HXM := Lib.hid (show aM = wordsP aI ([du].map (·.data.toList)) from by
      rw [haM]
      show _ = wordsP aI [du.data.toList]
      rw [hdu]
      by_cases h9 : 0 < i
      · rw [decide_eq_true h9]; rfl
      · rw [decide_eq_false h9]; rfl)
     have HBN := Lib.hid (Blk.new wz 9 #[.string du])
     have HQn := Lib.hid (bl_al (Below.refl wz.heap.size wz) (.cells #[.string du] 9))
     have HWC := Lib.hid (words_any w2.heap.size w2.heap.size wz.heap.size aI [du] _ (HWz.out.keep HQn.out) HBN.out (by simp) (bl_ca HQ2z.out HQn.out).size (by rw [← HXM.out]; exact HML.out))
     have HZn := Lib.hid (HZ.out.ca HQn.out)
     have HQ2n := Lib.hid (bl_ca HQ2z.out HQn.out)
     clear hdu haM haI haJ HWr HQr HQz HWz HZ HQn HBN HQ2z
     go_wp2_with fail
     refine (when_any _ _ wz).mono ?_
     rintro e we ⟨rfl, rfl⟩
     rw [← HDU.out]
     go_wp2_with fail
     refine HWC.out.mono ?_
     rintro e wu ⟨rfl, hu, qu, ku⟩
     have HWu := Lib.hid (show WB w2.heap.size w2.heap.size aM wu from by rw [HXM.out]; exact hu)
     have HQ2u := Lib.hid (HQ2n.out.trans qu)
     have HZu := Lib.hid (ku.blk HZn.out (by decide))
     clear hu qu ku HWC HZn HQ2n HXM HDU
     have y0 := HZu.out.cell 0
     have y1 := HZu.out.cell 1
     have y2 := HZu.out.cell 2
     have y3 := HZu.out.cell 3
     have y4 := HZu.out.cell 4
     have y5 := HZu.out.cell 5
     have y6 := HZu.out.cell 6
     have y7 := HZu.out.cell 7
     have y8 := HZu.out.cell 8
     go_wp2_with fail
     refine (wselects_any w2 w2.heap.size F aM z I0 i0 j0 J0 u0 v0 W0 a0 b0 H0 e0 f0 G0 p0 q0 wu HQ2u.out HWu.out HT2.out HRz.out HSB9.out HRG.out (by rw [← HST.out]; exact HSL.out)).mono ?_
     rintro e wv ⟨rfl, hv, qv, kv⟩
     have HWv := Lib.hid (show WB w2.heap.size w2.heap.size aJ wv from by rw [HST.out]; exact hv)
     have HQ2v := Lib.hid (HQ2u.out.trans qv)
     clear hv qv kv y0 y1 y2 y3 y4 y5 y6 y7 y8
     go_wp2_with fail
     go_roundg (gk - 1)
     · exact ⟨i + 1, by omega, by go_num, Lib.hid (by rw [← HAJ.out]; exact HWv.out), HQ2v⟩
     · omega
   · have hi1 : ¬ ((i : Int) < (n : Int)) := by omega
     have hie : i = n := by omega
     have HWe := Lib.hid (show WB w2.heap.size w2.heap.size S0 wr from by have h9 := HWr.out; rw [List.take_of_length_le (by rw [HLN.out.1]; omega), ← HA0.out] at h9; exact h9)
     clear hie HWr
     go_wp2_with fail
     go_meet
     exact ⟨HWe, HQr⟩
 case rest =>
 obtain ⟨HW4, HQ24⟩ := hcut
 obtain ⟨w4, rfl⟩ : ∃ x, x = wc := ⟨_, rfl⟩
 have y1 := (HB2.out.ca HQ24.out).cell 1
 go_upto_block 2 with fail
 clear y1
 go_cut [8] (fun ok wx => ∃ X c, ok = .slice X m c ∧ Hid (wx.ownsRow w4.heap.size 9 1 (.slice X m c) m ((q.keys.map kyS).map Value.string)) ∧ Hid (Below w4.heap.size w4 wx))
 case first =>
  go_wp2_with fail
  go_loopg [36, 8] m (fun gk a ok wr => ∃ (i : Nat) (X : Option Addr) (c : Nat), i + gk = m ∧ a = .int .i64 i ∧ ok = .slice X i c ∧ Hid (wr.ownsRow w4.heap.size 9 1 (.slice X i c) i (((q.keys.take i).map kyS).map Value.string)) ∧ Hid (Below w4.heap.size w4 wr))
  case atStart => exact ⟨0, none, 0, by omega, rfl, rfl, Lib.hid ⟨rfl, .inl ⟨rfl, rfl⟩⟩, Lib.hid (Below.refl _ _)⟩
  case round =>
   obtain ⟨i, X, cX, hig, rfl, rfl, HOr, HQr⟩ := hrel
   by_cases hlt : i < m
   · have hi1 : (i : Int) < (m : Int) := by omega
     have HQ2r := Lib.hid (bl_ca HQ24.out HQr.out)
     obtain ⟨ad, z, rfl, hax, sp⟩ := LQK_at HK2.out hlt
     have x0 := ce sp.z0 HQ2r.out
     have x1 := ce sp.z1 HQ2r.out
     have x2 := ce sp.z2 HQ2r.out
     have HAX := Lib.hid hax
     have HZM := Lib.hid (List.mem_of_getElem? hax)
     have HQz := Lib.hid (bl_al (Below.refl wr.heap.size wr) (.cells #[.string z.nm, .int .i64 z.num, .bool z.desc] 79))
     have HZ := Lib.hid (Blk.new wr 79 #[.string z.nm, .int .i64 z.num, .bool z.desc])
     clear sp hax
     have z0 := HZ.out.cell 0
     go_upto_region 16 with fail
     clear x0 x1 x2 z0
     have HOz := Lib.hid (ownsRow_below HOr.out HQz.out)
     generalize wr.alloc (.cells #[.string z.nm, .int .i64 z.num, .bool z.desc] 79) = wz at *
     have HQ4z := Lib.hid (bl_ca HQr.out HQz.out)
     have HTz := Lib.hid (HT2.out.below (bl_ca HQ2r.out HQz.out))
     have hkb := HSB.out.2 z HZM.out
     have hkn := key_num hkb
     have hks := key_size hkb
     have HZA := Lib.hid (take_mapS (f := kyS) HAX.out)
     obtain ⟨own, hown⟩ : ∃ o : ByteArray, o = (if z.nm.data.toList = [] then bS (Lib.decDigits z.num.toNat) else z.nm) := ⟨_, rfl⟩
     obtain ⟨dd, hdd⟩ : ∃ o : ByteArray, o = (if z.desc then ⟨#[32, 68, 69, 83, 67]⟩ else ⟨#[]⟩) := ⟨_, rfl⟩
     have hKS : own ++ dd = kyS z := by
      refine bS_of ?_
      rw [ByteArray.data_append, Array.toList_append, hown, hdd]
      unfold keyP
      by_cases h9 : z.nm.data.toList = []
      · rw [if_pos h9, if_pos h9]; cases z.desc <;> rfl
      · rw [if_neg h9, if_neg h9]; cases z.desc <;> rfl
     have hz1 : own.size ≤ 100 := by
      rw [hown]
      split
      · rw [bs_size]; exact dec_len _ (by omega)
      · omega
     have hz2 : dd.size ≤ 5 := by rw [hdd]; split; exact Nat.le_refl _; exact Nat.zero_le _
     have HDD := Lib.hid hdd
     have HKS := Lib.hid hKS
     clear hkb hKS hdd HOr HQz HAX HQr HQ2r
     by_cases h0 : z.nm.data.toList = []
     · have ht := ba_e h0
       have HOW := Lib.hid (show own = bS (Lib.decDigits z.num.toNat) from by rw [hown, if_pos h0])
       rw [ht] at HZ
       clear h0 hown
       have y1 := HZ.out.cell 1
       go_wp2_with fail
       refine (itoa_any z.num hkn.1 hkn.2 wz HTz.out).mono ?_
       rintro e wi ⟨rfl, qi⟩
       rw [← HOW.out]
       have HZi := Lib.hid (HZ.out.ca qi)
       have HOi := Lib.hid (ownsRow_below HOz.out qi)
       have HQ4i := Lib.hid (bl_ca HQ4z.out qi)
       clear qi y1
       have z2 := HZi.out.cell 2
       go_wp2_with fail
       refine (when_any _ _ wi).mono ?_
       rintro e we ⟨rfl, rfl⟩
       rw [← HDD.out]
       have HBN := Lib.hid (Blk.new wi 9 #[.string (kyS z)])
       have HQn := Lib.hid (bl_al (Below.refl wi.heap.size wi) (.cells #[.string (kyS z)] 9))
       have HOn := Lib.hid (ownsRow_below HOi.out HQn.out)
       have HQ4n := Lib.hid (bl_ca HQ4i.out HQn.out)
       go_wp2_with (first | rw [HKS.out] | (at_builtin; refine wpList_app1 rfl _ _ rfl rfl rfl HOn.out HBN.out (by omega) HQ4n.out.size ?_; intro Y y wa hy hq))
       rw [HZA.out] at hy
       have HY := Lib.hid hy
       have HQY := Lib.hid (HQ4n.out.trans hq)
       clear hy hq z2
       go_wp2_with fail
       go_roundg (gk - 1)
       · exact ⟨i + 1, Y, y, by omega, by go_num, rfl, HY, HQY⟩
       · omega
     · have HOW := Lib.hid (show own = z.nm from by rw [hown, if_neg h0])
       have e0 := ne_list h0
       have e1 : ¬ z.nm.toList = [] := by rw [toList_data]; exact h0
       have e2 : z.nm.toList.isEmpty = false := by rw [toList_data]; cases hh : z.nm.data.toList with | nil => exact absurd hh h0 | cons => rfl
       have e3 : (z.nm.toList == []) = false := by rw [toList_data]; simpa using h0
       clear h0 hown
       rw [HOW.out] at HKS hz1
       have z2 := HZ.out.cell 2
       go_wp2_with fail
       refine (when_any _ _ wz).mono ?_
       rintro e we ⟨rfl, rfl⟩
       rw [← HDD.out]
       have HBN := Lib.hid (Blk.new wz 9 #[.string (kyS z)])
       have HQn := Lib.hid (bl_al (Below.refl wz.heap.size wz) (.cells #[.string (kyS z)] 9))
       have HOn := Lib.hid (ownsRow_below HOz.out HQn.out)
       have HQ4n := Lib.hid (bl_ca HQ4z.out HQn.out)
       go_wp2_with (first | rw [HKS.out] | (at_builtin; refine wpList_app1 rfl _ _ rfl rfl rfl HOn.out HBN.out (by omega) HQ4n.out.size ?_; intro Y y wa hy hq))
       rw [HZA.out] at hy
       have HY := Lib.hid hy
       have HQY := Lib.hid (HQ4n.out.trans hq)
       clear hy hq z2
       go_wp2_with fail
       go_roundg (gk - 1)
       · exact ⟨i + 1, Y, y, by omega, by go_num, rfl, HY, HQY⟩
       · omega
   · have hi1 : ¬ ((i : Int) < (m : Int)) := by omega
     have hie : i = m := by omega
     subst hie
     have HOe := Lib.hid (show wr.ownsRow w4.heap.size 9 1 (.slice X i cX) i ((q.keys.map kyS).map Value.string) from by have h9 := HOr.out; rwa [List.take_of_length_le (by rw [HLN.out.2]; exact Nat.le_refl _)] at h9)
     go_wp2_with fail
     go_meet
     exact ⟨X, cX, rfl, HOe, HQr⟩
 case rest =>
 obtain ⟨XK, cK, rfl, HOK, HQ45⟩ := hcut
 obtain ⟨w5, rfl⟩ : ∃ x, x = wc := ⟨_, rfl⟩
 have HW5 := Lib.hid (HW4.out.keep HQ45.out)
 have HQ25 := Lib.hid (bl_ca HQ24.out HQ45.out)
 clear HW4 HQ24
 go_wp2_with fail
 refine (row_any w2.heap.size w2.heap.size w4.heap.size S0 ⟨#[79, 82, 68, 69, 82, 32, 66, 89]⟩ (q.keys.map kyS) XK m cK w5 HW5.out HOK.out (by rw [List.length_map, HLN.out.2]; omega) HQ25.out.size (by rw [kyS_map]; show (rowP S0 wORDERBY _).length ≤ _; rw [← HA1.out]; exact HL1.out)).mono ?_
 rintro e w6 ⟨rfl, h6, q6, k6⟩
 rw [kyS_map] at h6
 have HW6 := Lib.hid (show WB w2.heap.size w2.heap.size S1 w6 from by rw [HA1.out]; exact h6)
 have HQ26 := Lib.hid (HQ25.out.trans q6)
 clear h6 q6 k6 HW5 HQ25 HOK HQ45
 have HB6 := Lib.hid (HB2.out.ca HQ26.out)
 have y2 := HB6.out.cell 2
 by_cases hlm : 0 ≤ q.lim
 · have HQPL := Lib.hid (show qryP q = wordsP S1 [wLIMIT, Lib.decDigits q.lim.toNat] from by rw [HQP.out, if_pos hlm])
   go_wp2_with fail
   refine (itoa_any q.lim hlm (by have := HLM.out; omega) w6 (HT2.out.below HQ26.out)).mono ?_
   rintro e w7 ⟨rfl, q7⟩
   have HW7 := Lib.hid (HW6.out.keep q7)
   have HQ27 := Lib.hid (bl_ca HQ26.out q7)
   clear q7 y2
   obtain ⟨ds, hds⟩ : ∃ o : ByteArray, o = bS (Lib.decDigits q.lim.toNat) := ⟨_, rfl⟩
   rw [← hds]
   have HX := Lib.hid (show qryP q = wordsP S1 ([(⟨#[76, 73, 77, 73, 84]⟩ : ByteArray), ds].map (·.data.toList)) from by rw [HQPL.out, hds]; rfl)
   clear hds
   have HBN := Lib.hid (Blk.new w7 9 #[.string (⟨#[76, 73, 77, 73, 84]⟩ : ByteArray), .string ds])
   have HQn := Lib.hid (bl_al (Below.refl w7.heap.size w7) (.cells #[.string (⟨#[76, 73, 77, 73, 84]⟩ : ByteArray), .string ds] 9))
   have HWC := Lib.hid (words_any w2.heap.size w2.heap.size w7.heap.size S1 [(⟨#[76, 73, 77, 73, 84]⟩ : ByteArray), ds] _ (HW7.out.keep HQn.out) HBN.out (by simp) (bl_ca HQ27.out HQn.out).size (by rw [← HX.out]; exact HLE.out))
   have HQ2n := Lib.hid (bl_ca HQ27.out HQn.out)
   go_wp2_with fail
   refine HWC.out.mono ?_
   rintro e w8 ⟨rfl, h8, q8, k8⟩
   have HW8 := Lib.hid (show WB w2.heap.size w2.heap.size (qryP q) w8 from by rw [HX.out]; exact h8)
   have HQ28 := Lib.hid (HQ2n.out.trans q8)
   clear h8 q8 k8
   go_wp2_with fail
   refine (wstring_any w2.heap.size w2.heap.size (qryP q) w8 HW8.out HNE.out).mono ?_
   rintro e w9 ⟨rfl, q9⟩
   rw [HPQ.out]
   have HQF := Lib.hid (bl_ca HQ02.out (HQ28.out.trans q9))
   clear q9
   go_wp2
   go_ret2
   exact ⟨rfl, HQF.out⟩
 · have HQPL := Lib.hid (show qryP q = S1 from by rw [HQP.out, if_neg hlm])
   go_wp2_with fail
   refine (wstring_any w2.heap.size w2.heap.size S1 w6 HW6.out (by rw [← HQPL.out]; exact HNE.out)).mono ?_
   rintro e w9 ⟨rfl, q9⟩
   rw [← HQPL.out, HPQ.out]
   have HQF := Lib.hid (bl_ca HQ02.out (HQ26.out.trans q9))
   clear q9
   go_wp2
   go_ret2
   exact ⟨rfl, HQF.out⟩
end Go.Proofs.YtoaggmldekejoaaGreatDoor
/- few, as the laws of queries use it: what comes of it may be printed and compared. Conditions: the argument's texts are no longer than memory is. -/
namespace Go.Proofs.YtoaggmldekejoaaGreatDoor
open Go.RowKit
/-- a query reads so -/
def RQ (F : Nat → Prop) (w : World) (q : QC) (A : Option Addr) (n c : Nat) (B : Option Addr) (m d : Nat) : Prop := LQS.rd w F A n q.sels ∧ (n ≤ c ∧ c ≤ 9223372036854775807) ∧ LQK.rd w F B m q.keys ∧ (m ≤ d ∧ d ≤ 9223372036854775807)
theorem RQ.below {F : Nat → Prop} {w w' : World} {q : QC} {A : Option Addr} {n c : Nat} {B : Option Addr} {m d : Nat} (h : RQ F w q A n c B m d) (b : Below w.heap.size w w') : RQ F w' q A n c B m d := ⟨Lay.rd_below h.1 b, h.2.1, Lay.rd_below h.2.2.1 b, h.2.2.2⟩
/-- what is known of an argument's texts -/
def ZS (s : QS) : Prop := (∀ x ∈ s.items, Sz x.as_) ∧ (∀ x ∈ s.joins, Sz x.tb ∧ Sz x.as_) ∧ (∀ x ∈ s.grp, Sz x.tb ∧ Sz x.nm) ∧ Sz s.ftb ∧ Sz s.fas
def AQ (q : QC) : Prop := (∀ s ∈ q.sels, SmS s ∧ RgS s ∧ ZS s) ∧ ∀ k ∈ q.keys, Sz k.nm
theorem short_trp (t : List Nd) : TrP (shortN t) := ⟨short_sm, by have := short_len t; omega⟩
theorem few_ok {q : QC} (h : AQ q) : QCp (fewQ q) ∧ RgQ (fewQ q) ∧ (∀ s ∈ (fewQ q).sels, s.items.length ≤ 1000 ∧ s.joins.length ≤ 1000 ∧ s.grp.length ≤ 1000) := by
 have hs : ∀ s ∈ (fewQ q).sels, ∃ t ∈ q.sels, s = fewS t := fun s hs => by
  obtain ⟨t, ht, rfl⟩ := List.mem_map.1 hs
  exact ⟨t, List.mem_of_mem_take ht, rfl⟩
 refine ⟨⟨fun s hm => ?_, fun k hk => h.2 k (List.mem_of_mem_take hk)⟩, fun s hm => ?_, fun s hm => ?_⟩
 · obtain ⟨t, ht, rfl⟩ := hs s hm
   obtain ⟨_, _, z1, z2, z3, z4, z5⟩ := h.1 t ht
   refine ⟨⟨fun x hx => ?_, fun x hx => ?_, fun x hx => z3 x (List.mem_of_mem_take hx)⟩, ⟨short_trp _, short_trp _⟩, z4, z5⟩
   · obtain ⟨y, hy, rfl⟩ := List.mem_map.1 hx
     exact ⟨short_trp _, z1 y (List.mem_of_mem_take hy)⟩
   · obtain ⟨y, hy, rfl⟩ := List.mem_map.1 hx
     exact ⟨short_trp _, z2 y (List.mem_of_mem_take hy)⟩
 · obtain ⟨t, ht, rfl⟩ := hs s hm
   obtain ⟨_, ⟨g1, g2, g3, g4⟩, _⟩ := h.1 t ht
   refine ⟨fun x hx => ?_, fun x hx => ?_, fun x hx => short_rg g3 x hx, fun x hx => short_rg g4 x hx⟩
   · obtain ⟨y, hy, rfl⟩ := List.mem_map.1 hx
     exact fun z hz => short_rg (g1 y (List.mem_of_mem_take hy)) z hz
   · obtain ⟨y, hy, rfl⟩ := List.mem_map.1 hx
     exact fun z hz => short_rg (g2 y (List.mem_of_mem_take hy)) z hz
 · obtain ⟨t, ht, rfl⟩ := hs s hm
   refine ⟨?_, ?_, ?_⟩
   · show ((t.items.take 7).map fewI).length ≤ 1000
     rw [List.length_map, List.length_take]; omega
   · show ((t.joins.take 3).map fewJ).length ≤ 1000
     rw [List.length_map, List.length_take]; omega
   · show (t.grp.take 4).length ≤ 1000
     rw [List.length_take]; omega
theorem few_len {q : QC} : (fewQ q).sels.length ≤ 4 ∧ (fewQ q).keys.length ≤ 4 := by
 constructor
 · show ((q.sels.take 4).map fewS).length ≤ 4
   rw [List.length_map, List.length_take]; omega
 · show (q.keys.take 4).length ≤ 4
   rw [List.length_take]; omega
theorem fewq_any (F : Nat → Prop) (q : QC) (A : Option Addr) (n c : Nat) (B : Option Addr) (m d : Nat) (w : World) (h : RQ F w q A n c B m d) (hq : AQ q) :
 Calls Tryz.prog 16 #[.agg #[.slice A n c, .slice B m d, .int .i64 q.lim]] w fun e w' => ∃ V : Array Value, e = .returned (.agg V) ∧ LQC.rep w' AllB (fewQ q) V.toList ∧ Below w.heap.size w w' :=
 (few_any F q A n c B m d w h.1 h.2.1.1 h.2.1.2 h.2.2.1 h.2.2.2.1 h.2.2.2.2 (fun s hs => (hq.1 s hs).1)).mono fun _ _ ⟨A', n', c', B', m', d', he, h1, h2, h3, h4, h5⟩ => ⟨_, he, ⟨A', n', c', B', m', d', rfl, ⟨h2.1, h2.2, h1⟩, h4.1, h4.2, h3⟩, h5⟩
theorem LQC_rq {w : World} {q : QC} {V : Array Value} (h : LQC.rep w AllB q V.toList) : ∃ A n c B m d, V = #[.slice A n c, .slice B m d, .int .i64 q.lim] ∧ RQ AllB w q A n c B m d := by
 obtain ⟨A, n, c, B, m, d, e, ⟨h1, h2, h3⟩, h4, h5, h6⟩ := h
 exact ⟨A, n, c, B, m, d, by apply Array.ext'; exact e, h3, ⟨h1, h2⟩, h6, h4, h5⟩
end Go.Proofs.YtoaggmldekejoaaGreatDoor
/- A region that draws, with two variables (queries) made beside two calls. Conditions: none. -/
namespace Go.Proofs.YtoaggmldekejoaaGreatDoor
open Go.RowKit
def WQB (B : Option Nat → Option Nat → Nat → (Nat → Value) → World → Prop) : Array Bool → (Nat → Value) → World → Prop := fun L m w =>
 ∃ a b : Option Nat, (Dn L 6 = true → ∃ g, a = some g ∧ m 6 = .pointer (some ⟨g, 0, none⟩)) ∧ (Dn L 6 = false → a = none) ∧ (Dn L 7 = true → ∃ g, b = some g ∧ m 7 = .pointer (some ⟨g, 0, none⟩)) ∧ (Dn L 7 = false → b = none) ∧ SeqN [1, 5, 8, 9] (B a b) L m w
section
variable {B : Option Nat → Option Nat → Nat → (Nat → Value) → World → Prop} {L : Array Bool} {m m' : Nat → Value} {w w' : World}
theorem WQB.start {n : Nat} (hn : 9 < n) (h : B none none 0 m w) : WQB B (Array.replicate n false) m w := by
 have hf : ∀ i, i < n → Dn (Array.replicate n false) i = false := fun i hi => by
  unfold Dn
  rw [Array.getD_eq_getD_getElem?, Array.getElem?_replicate, if_pos hi]
  rfl
 exact ⟨none, none, (fun e => by rw [hf 6 (by omega)] at e; cases e), (fun _ => rfl), (fun e => by rw [hf 7 (by omega)] at e; cases e), (fun _ => rfl), SeqN.start (by simp; omega) h⟩
theorem WQB.pass {i : Nat} (h4 : (6 != i) = true) (h5 : (7 != i) = true) (h : ([1, 5, 8, 9].all fun k => k != i) = true) : Pass (WQB B) i := fun L m w hS => by
 obtain ⟨a, b, h1, h2, h3, h4', hS⟩ := hS
 have e : Dn (L.setIfInBounds i true) 6 = Dn L 6 := dn_ne (by simpa using h4)
 have e' : Dn (L.setIfInBounds i true) 7 = Dn L 7 := dn_ne (by simpa using h5)
 exact ⟨a, b, by rw [e]; exact h1, by rw [e]; exact h2, by rw [e']; exact h3, by rw [e']; exact h4', SeqN.pass h L m w hS⟩
theorem WQB.any {T : World → Prop} (t : ∀ a b j m w, B a b j m w → T w) (hS : WQB B L m w) : T w := by
 obtain ⟨a, b, _, _, _, _, hS⟩ := hS
 exact t _ _ _ _ _ hS
theorem WQB.made4 {v : Value} {g : Nat} (hd : Dn L 6 = false) (h6 : Dn L 8 = false) (h7 : Dn L 9 = false) (hv : v = .pointer (some ⟨g, 0, none⟩)) (t : ∀ b j, j < 3 → B none b j m w → B (some g) b j (upd m 6 v) w') (hS : WQB B L m w) : WQB B (L.setIfInBounds 6 true) (upd m 6 v) w' := by
 obtain ⟨a, b, _, h2, h3, h4, hS⟩ := hS
 obtain rfl := h2 hd
 refine ⟨some g, b, fun _ => ⟨g, rfl, by rw [upd_same]; exact hv⟩, fun e => ?_, ?_, ?_, ?_⟩
 · rw [dn_eq] at e; cases e
 · rw [dn_ne (by decide), upd_ne (by decide)]; exact h3
 · rw [dn_ne (by decide)]; exact h4
 · have hS2 := SeqN.pass (i := 6) (by decide) L m w hS
   unfold SeqN cntD cntD cntD cntD cntD at *
   rw [dn_ne (by decide), dn_ne (by decide), dn_ne (by decide), dn_ne (by decide), h6, h7] at *
   refine t _ _ ?_ hS2
   cases Dn L 1 <;> cases Dn L 5 <;> simp
theorem WQB.made5 {v : Value} {g : Nat} (hd : Dn L 7 = false) (h6 : Dn L 8 = false) (h7 : Dn L 9 = false) (hv : v = .pointer (some ⟨g, 0, none⟩)) (t : ∀ a j, j < 3 → B a none j m w → B a (some g) j (upd m 7 v) w') (hS : WQB B L m w) : WQB B (L.setIfInBounds 7 true) (upd m 7 v) w' := by
 obtain ⟨a, b, h1, h2, _, h4, hS⟩ := hS
 obtain rfl := h4 hd
 refine ⟨a, some g, ?_, ?_, fun _ => ⟨g, rfl, by rw [upd_same]; exact hv⟩, fun e => ?_, ?_⟩
 · rw [dn_ne (by decide), upd_ne (by decide)]; exact h1
 · rw [dn_ne (by decide)]; exact h2
 · rw [dn_eq] at e; cases e
 · have hS2 := SeqN.pass (i := 7) (by decide) L m w hS
   unfold SeqN cntD cntD cntD cntD cntD at *
   rw [dn_ne (by decide), dn_ne (by decide), dn_ne (by decide), dn_ne (by decide), h6, h7] at *
   refine t _ _ ?_ hS2
   cases Dn L 1 <;> cases Dn L 5 <;> simp
theorem WQB.on1 (h1 : Dn L 1 = false) (h3 : Dn L 5 = false) (h6 : Dn L 8 = false) (h7 : Dn L 9 = false) (hS : WQB B L m w) : ∃ a b, B a b 0 m w ∧ ∀ v w', B a b 1 (upd m 1 v) w' → WQB B (L.setIfInBounds 1 true) (upd m 1 v) w' := by
 obtain ⟨a, b, a1, a2, a3, a4, hS⟩ := hS
 unfold SeqN cntD cntD cntD cntD cntD at hS
 rw [h1, h3, h6, h7] at hS
 refine ⟨a, b, hS, fun v w' hB => ⟨a, b, ?_, ?_, ?_, ?_, ?_⟩⟩
 · rw [dn_ne (by decide), upd_ne (by decide)]; exact a1
 · rw [dn_ne (by decide)]; exact a2
 · rw [dn_ne (by decide), upd_ne (by decide)]; exact a3
 · rw [dn_ne (by decide)]; exact a4
 · unfold SeqN cntD cntD cntD cntD cntD
   rw [dn_eq, dn_ne (by decide), dn_ne (by decide), dn_ne (by decide), h3, h6, h7]
   exact hB
theorem WQB.on3 (h1 : Dn L 1 = true) (h3 : Dn L 5 = false) (h6 : Dn L 8 = false) (h7 : Dn L 9 = false) (hS : WQB B L m w) : ∃ a b, B a b 1 m w ∧ ∀ v w', B a b 2 (upd m 5 v) w' → WQB B (L.setIfInBounds 5 true) (upd m 5 v) w' := by
 obtain ⟨a, b, a1, a2, a3, a4, hS⟩ := hS
 unfold SeqN cntD cntD cntD cntD cntD at hS
 rw [h1, h3, h6, h7] at hS
 refine ⟨a, b, hS, fun v w' hB => ⟨a, b, ?_, ?_, ?_, ?_, ?_⟩⟩
 · rw [dn_ne (by decide), upd_ne (by decide)]; exact a1
 · rw [dn_ne (by decide)]; exact a2
 · rw [dn_ne (by decide), upd_ne (by decide)]; exact a3
 · rw [dn_ne (by decide)]; exact a4
 · unfold SeqN cntD cntD cntD cntD cntD
   rw [dn_eq, dn_ne (by decide), dn_ne (by decide), dn_ne (by decide), h1, h6, h7]
   exact hB
theorem WQB.on6 (h1 : Dn L 1 = true) (h3 : Dn L 5 = true) (h4 : Dn L 6 = true) (h5 : Dn L 7 = true) (h6 : Dn L 8 = false) (h7 : Dn L 9 = false) (hS : WQB B L m w) : ∃ g k, m 6 = .pointer (some ⟨g, 0, none⟩) ∧ m 7 = .pointer (some ⟨k, 0, none⟩) ∧ B (some g) (some k) 2 m w ∧ ∀ w', B (some g) (some k) 3 m w' → WQB B (L.setIfInBounds 8 true) m w' := by
 obtain ⟨a, b, a1, a2, a3, a4, hS⟩ := hS
 obtain ⟨g, rfl, hm⟩ := a1 h4
 obtain ⟨k, rfl, hk⟩ := a3 h5
 unfold SeqN cntD cntD cntD cntD cntD at hS
 rw [h1, h3, h6, h7] at hS
 refine ⟨g, k, hm, hk, hS, fun w' hB => ⟨some g, some k, fun _ => ⟨g, rfl, hm⟩, ?_, fun _ => ⟨k, rfl, hk⟩, ?_, ?_⟩⟩
 · rw [dn_ne (by decide)]; exact a2
 · rw [dn_ne (by decide)]; exact a4
 · unfold SeqN cntD cntD cntD cntD cntD
   rw [dn_eq, dn_ne (by decide), dn_ne (by decide), dn_ne (by decide), h1, h3, h7]
   exact hB
theorem WQB.on7 (h1 : Dn L 1 = true) (h3 : Dn L 5 = true) (h4 : Dn L 6 = true) (h5 : Dn L 7 = true) (h6 : Dn L 8 = true) (h7 : Dn L 9 = false) (hS : WQB B L m w) : ∃ g k, m 6 = .pointer (some ⟨g, 0, none⟩) ∧ m 7 = .pointer (some ⟨k, 0, none⟩) ∧ B (some g) (some k) 3 m w ∧ ∀ w', B (some g) (some k) 4 m w' → WQB B (L.setIfInBounds 9 true) m w' := by
 obtain ⟨a, b, a1, a2, a3, a4, hS⟩ := hS
 obtain ⟨g, rfl, hm⟩ := a1 h4
 obtain ⟨k, rfl, hk⟩ := a3 h5
 unfold SeqN cntD cntD cntD cntD cntD at hS
 rw [h1, h3, h6, h7] at hS
 refine ⟨g, k, hm, hk, hS, fun w' hB => ⟨some g, some k, fun _ => ⟨g, rfl, hm⟩, ?_, fun _ => ⟨k, rfl, hk⟩, ?_, ?_⟩⟩
 · rw [dn_ne (by decide)]; exact a2
 · rw [dn_ne (by decide)]; exact a4
 · unfold SeqN cntD cntD cntD cntD cntD
   rw [dn_eq, dn_ne (by decide), dn_ne (by decide), dn_ne (by decide), h1, h3, h6]
   exact hB
theorem WQB.fin (h4 : Dn L 6 = true) (h5 : Dn L 7 = true) (h : ([1, 5, 8, 9].all fun x => Dn L x) = true) (hS : WQB B L m w) : ∃ g k, m 6 = .pointer (some ⟨g, 0, none⟩) ∧ m 7 = .pointer (some ⟨k, 0, none⟩) ∧ B (some g) (some k) 4 m w := by
 obtain ⟨a, b, a1, _, a3, _, hS⟩ := hS
 obtain ⟨g, rfl, hm⟩ := a1 h4
 obtain ⟨k, rfl, hk⟩ := a3 h5
 exact ⟨g, k, hm, hk, SeqN.fin h hS⟩
end
/-- what is known of the two calls' queries and of the two variables -/
def WQKB (R1 R2 : QC) (tr : TypeId) (W : World) : Option Nat → Option Nat → Nat → (Nat → Value) → World → Prop := fun a b j m w' =>
 Below W.heap.size W w' ∧ match j with
 | 0 => ((∀ g, a = some g → W.heap.size ≤ g ∧ b ≠ some g ∧ Blk w' g tr zQ) ∧ (∀ g, b = some g → W.heap.size ≤ g ∧ Blk w' g tr zQ))
 | 1 => ((∀ g, a = some g → W.heap.size ≤ g ∧ b ≠ some g ∧ Blk w' g tr zQ) ∧ (∀ g, b = some g → W.heap.size ≤ g ∧ Blk w' g tr zQ)) ∧ ∃ V : Array Value, m 1 = .agg V ∧ LQC.rep w' (fun k => a ≠ some k ∧ b ≠ some k) R1 V.toList
 | 2 => ((∀ g, a = some g → W.heap.size ≤ g ∧ b ≠ some g ∧ Blk w' g tr zQ) ∧ (∀ g, b = some g → W.heap.size ≤ g ∧ Blk w' g tr zQ)) ∧ (∃ V : Array Value, m 1 = .agg V ∧ LQC.rep w' (fun k => a ≠ some k ∧ b ≠ some k) R1 V.toList) ∧ ∃ V : Array Value, m 5 = .agg V ∧ LQC.rep w' (fun k => a ≠ some k ∧ b ≠ some k) R2 V.toList
 | 3 => ∃ V : Array Value, (∀ g, a = some g → W.heap.size ≤ g ∧ b ≠ some g ∧ Blk w' g tr V) ∧ (∀ g, b = some g → W.heap.size ≤ g ∧ Blk w' g tr zQ) ∧ m 1 = .agg V ∧ LQC.rep w' (fun k => a ≠ some k ∧ b ≠ some k) R1 V.toList ∧ ∃ V : Array Value, m 5 = .agg V ∧ LQC.rep w' (fun k => a ≠ some k ∧ b ≠ some k) R2 V.toList
 | _ => ∃ V V' : Array Value, (∀ g, a = some g → W.heap.size ≤ g ∧ b ≠ some g ∧ Blk w' g tr V) ∧ (∀ g, b = some g → W.heap.size ≤ g ∧ Blk w' g tr V') ∧ m 1 = .agg V ∧ m 5 = .agg V' ∧ LQC.rep w' (fun k => a ≠ some k ∧ b ≠ some k) R1 V.toList ∧ LQC.rep w' (fun k => a ≠ some k ∧ b ≠ some k) R2 V'.toList
section
variable {R1 R2 : QC} {tr : TypeId} {W w w' : World} {a b : Option Nat} {m : Nat → Value}
theorem WQKB.m4 {v : Value} : ∀ (b : Option Nat) (j : Nat), j < 3 → WQKB R1 R2 tr W none b j m w → WQKB R1 R2 tr W (some w.heap.size) b j (upd m 6 v) (w.alloc (.cells zQ tr)) := fun b j hj hB => by
 obtain ⟨hT, hB⟩ := hB
 refine ⟨bl_al hT _, ?_⟩
 have ral := bl_al (Below.refl w.heap.size w) (.cells zQ tr)
 have VV : ∀ (_ : (∀ g, none = some g → W.heap.size ≤ g ∧ b ≠ some g ∧ Blk w g tr zQ) ∧ (∀ g, b = some g → W.heap.size ≤ g ∧ Blk w g tr zQ)),
  (∀ g, some w.heap.size = some g → W.heap.size ≤ g ∧ b ≠ some g ∧ Blk (w.alloc (.cells zQ tr)) g tr zQ) ∧ (∀ g, b = some g → W.heap.size ≤ g ∧ Blk (w.alloc (.cells zQ tr)) g tr zQ) := fun h =>
  ⟨fun g e => by
   injection e with e
   subst e
   exact ⟨hT.size, fun e => by have := (h.2 _ e).2.lt; omega, Blk.new w _ _⟩, fun g e => ⟨(h.2 g e).1, (h.2 g e).2.ca ral⟩⟩
 have RR : ∀ {q cs}, LQC.rep w (fun k => (none : Option Nat) ≠ some k ∧ b ≠ some k) q cs → LQC.rep (w.alloc (.cells zQ tr)) (fun k => some w.heap.size ≠ some k ∧ b ≠ some k) q cs := fun h =>
  LQC.keep (fun k _ hk => ral.block k hk) (LQC.weak (fun k hk hl => ⟨fun e => by injection e with e; omega, hk.2⟩) h)
 match j, hj, hB with
 | 0, _, h => exact VV h
 | 1, _, ⟨h, V, hv, hr⟩ => exact ⟨VV h, V, (upd_ne (by decide)).trans hv, RR hr⟩
 | 2, _, ⟨h, ⟨V, hv, hr⟩, V', hv', hr'⟩ => exact ⟨VV h, ⟨V, (upd_ne (by decide)).trans hv, RR hr⟩, V', (upd_ne (by decide)).trans hv', RR hr'⟩
 | _ + 3, hj, _ => exact absurd hj (by omega)
theorem WQKB.m5 {v : Value} : ∀ (a : Option Nat) (j : Nat), j < 3 → WQKB R1 R2 tr W a none j m w → WQKB R1 R2 tr W a (some w.heap.size) j (upd m 7 v) (w.alloc (.cells zQ tr)) := fun a j hj hB => by
 obtain ⟨hT, hB⟩ := hB
 refine ⟨bl_al hT _, ?_⟩
 have ral := bl_al (Below.refl w.heap.size w) (.cells zQ tr)
 have VV : ∀ (_ : (∀ g, a = some g → W.heap.size ≤ g ∧ (none : Option Nat) ≠ some g ∧ Blk w g tr zQ) ∧ (∀ g, none = some g → W.heap.size ≤ g ∧ Blk w g tr zQ)),
  (∀ g, a = some g → W.heap.size ≤ g ∧ some w.heap.size ≠ some g ∧ Blk (w.alloc (.cells zQ tr)) g tr zQ) ∧ (∀ g, some w.heap.size = some g → W.heap.size ≤ g ∧ Blk (w.alloc (.cells zQ tr)) g tr zQ) := fun h =>
  ⟨fun g e => ⟨(h.1 g e).1, fun e2 => by injection e2 with e2; have := (h.1 g e).2.2.lt; omega, (h.1 g e).2.2.ca ral⟩, fun g e => by
   injection e with e
   subst e
   exact ⟨hT.size, Blk.new w _ _⟩⟩
 have RR : ∀ {q cs}, LQC.rep w (fun k => a ≠ some k ∧ (none : Option Nat) ≠ some k) q cs → LQC.rep (w.alloc (.cells zQ tr)) (fun k => a ≠ some k ∧ some w.heap.size ≠ some k) q cs := fun h =>
  LQC.keep (fun k _ hk => ral.block k hk) (LQC.weak (fun k hk hl => ⟨hk.1, fun e => by injection e with e; omega⟩) h)
 match j, hj, hB with
 | 0, _, h => exact VV h
 | 1, _, ⟨h, V, hv, hr⟩ => exact ⟨VV h, V, (upd_ne (by decide)).trans hv, RR hr⟩
 | 2, _, ⟨h, ⟨V, hv, hr⟩, V', hv', hr'⟩ => exact ⟨VV h, ⟨V, (upd_ne (by decide)).trans hv, RR hr⟩, V', (upd_ne (by decide)).trans hv', RR hr'⟩
 | _ + 3, hj, _ => exact absurd hj (by omega)
theorem WQKB.away {q : QC} {cs : List Value} (hA : ∀ g, a = some g → Blk w' g tr zQ) (hb : ∀ g, b = some g → Blk w' g tr zQ) (h : LQC.rep w' AllB q cs) : LQC.rep w' (fun k => a ≠ some k ∧ b ≠ some k) q cs := by
 have h1 : LQC.rep w' (fun k => a ≠ some k) q cs := by
  cases ea : a with
  | none => exact LQC.weak (fun k _ _ e => by cases e) h
  | some g => exact LQC.weak (fun k hk _ e => hk.2 (by injection e with e; exact e.symm)) (LQC_shun zQ_is (hA g ea) h)
 cases eb : b with
 | none => exact LQC.weak (fun k hk _ => ⟨hk, fun e => by cases e⟩) h1
 | some g => exact LQC.weak (fun k hk _ => ⟨hk.1, fun e => hk.2 (by injection e with e; exact e.symm)⟩) (LQC_shun zQ_is (hb g eb) h1)
/-- the first call is done -/
theorem WQKB.c1 {V : Array Value} (hB : WQKB R1 R2 tr W a b 0 m w) (q : Below w.heap.size w w') (hr : LQC.rep w' AllB R1 V.toList) : WQKB R1 R2 tr W a b 1 (upd m 1 (.agg V)) w' := by
 obtain ⟨hT, hA, hb⟩ := hB
 have hA' : ∀ g, a = some g → W.heap.size ≤ g ∧ b ≠ some g ∧ Blk w' g tr zQ := fun g e => ⟨(hA g e).1, (hA g e).2.1, (hA g e).2.2.ca q⟩
 have hb' : ∀ g, b = some g → W.heap.size ≤ g ∧ Blk w' g tr zQ := fun g e => ⟨(hb g e).1, (hb g e).2.ca q⟩
 exact ⟨bl_ca hT q, ⟨hA', hb'⟩, V, upd_same _ _ _, WQKB.away (fun g e => (hA' g e).2.2) (fun g e => (hb' g e).2) hr⟩
/-- the second call is done -/
theorem WQKB.c3 {V : Array Value} (hB : WQKB R1 R2 tr W a b 1 m w) (q : Below w.heap.size w w') (hr : LQC.rep w' AllB R2 V.toList) : WQKB R1 R2 tr W a b 2 (upd m 5 (.agg V)) w' := by
 obtain ⟨hT, ⟨hA, hb⟩, V1, hv, hr1⟩ := hB
 have hA' : ∀ g, a = some g → W.heap.size ≤ g ∧ b ≠ some g ∧ Blk w' g tr zQ := fun g e => ⟨(hA g e).1, (hA g e).2.1, (hA g e).2.2.ca q⟩
 have hb' : ∀ g, b = some g → W.heap.size ≤ g ∧ Blk w' g tr zQ := fun g e => ⟨(hb g e).1, (hb g e).2.ca q⟩
 exact ⟨bl_ca hT q, ⟨hA', hb'⟩, ⟨V1, (upd_ne (by decide)).trans hv, LQC.keep (fun k _ hk => q.block k hk) hr1⟩, V, upd_same _ _ _, WQKB.away (fun g e => (hA' g e).2.2) (fun g e => (hb' g e).2) hr⟩
theorem WQKB.st6 {V : Array Value} {g k : Nat} (hB : WQKB R1 R2 tr W (some g) (some k) 2 m w) (hm : m 1 = .agg V) (hb : Blk w' g tr V) (hg : w.grownBy w' (some g)) : WQKB R1 R2 tr W (some g) (some k) 3 m w' := by
 obtain ⟨hT, ⟨hA, hb2⟩, ⟨V1, hv, hr1⟩, V2, hv2, hr2⟩ := hB
 obtain rfl : V = V1 := by have h9 : Value.agg V = .agg V1 := hm.symm.trans hv; injection h9
 have hgk : g ≠ k := fun e => (hA g rfl).2.1 (by rw [e])
 exact ⟨bl_gr hT hg (hA g rfl).1, V, fun x e => by
  injection e with e
  subst e
  exact ⟨(hA g rfl).1, (hA g rfl).2.1, hb⟩, fun x e => by
  injection e with e
  subst e
  exact ⟨(hb2 k rfl).1, (hb2 k rfl).2.apart hg (Ne.symm hgk)⟩, hm, LQC_grown hr1 hg (fun x hx e => hx.1 (by rw [e])), V2, hv2, LQC_grown hr2 hg (fun x hx e => hx.1 (by rw [e]))⟩
theorem WQKB.st7 {V : Array Value} {g k : Nat} (hB : WQKB R1 R2 tr W (some g) (some k) 3 m w) (hm : m 5 = .agg V) (hb : Blk w' k tr V) (hg : w.grownBy w' (some k)) : WQKB R1 R2 tr W (some g) (some k) 4 m w' := by
 obtain ⟨hT, V1, hA, hb2, hv, hr1, V2, hv2, hr2⟩ := hB
 obtain rfl : V = V2 := by have h9 : Value.agg V = .agg V2 := hm.symm.trans hv2; injection h9
 have hgk : g ≠ k := fun e => (hA g rfl).2.1 (by rw [e])
 exact ⟨bl_gr hT hg (hb2 k rfl).1, V1, V, fun x e => by
  injection e with e
  subst e
  exact ⟨(hA g rfl).1, (hA g rfl).2.1, (hA g rfl).2.2.apart hg hgk⟩, fun x e => by
  injection e with e
  subst e
  exact ⟨(hb2 k rfl).1, hb⟩, hv, hm, LQC_grown hr1 hg (fun x hx e => hx.2 (by rw [e])), LQC_grown hr2 hg (fun x hx e => hx.2 (by rw [e]))⟩
theorem WQKB.pair {V V' : Array Value} {g k : Nat} (hB : WQKB R1 R2 tr W (some g) (some k) 4 m w) (hm : m 1 = .agg V) (hm' : m 5 = .agg V') : Below W.heap.size W w ∧ (W.heap.size ≤ g ∧ W.heap.size ≤ k ∧ g ≠ k) ∧ Blk w g tr V ∧ Blk w k tr V' ∧ LQC.rep w AllB R1 V.toList ∧ LQC.rep w AllB R2 V'.toList := by
 obtain ⟨hT, V1, V2, hA, hb2, hv, hv2, hr1, hr2⟩ := hB
 obtain rfl : V = V1 := by have h9 : Value.agg V = .agg V1 := hm.symm.trans hv; injection h9
 obtain rfl : V' = V2 := by have h9 : Value.agg V' = .agg V2 := hm'.symm.trans hv2; injection h9
 exact ⟨hT, ⟨(hA g rfl).1, (hb2 k rfl).1, fun e => (hA g rfl).2.1 (by rw [e])⟩, (hA g rfl).2.2, (hb2 k rfl).2, LQC.weak (fun _ _ _ => trivial) hr1, LQC.weak (fun _ _ _ => trivial) hr2⟩
theorem WQKB.sz6 {V : Array Value} {g k : Nat} (hB : WQKB R1 R2 tr W (some g) (some k) 2 m w) (hm : m 1 = .agg V) : V.size = 3 ∧ V.all (·.oneCell') = true := by
 obtain ⟨_, _, ⟨V1, hv, hr1⟩, _⟩ := hB
 obtain rfl : V = V1 := by have h9 : Value.agg V = .agg V1 := hm.symm.trans hv; injection h9
 exact ⟨LQC_size hr1, LQC_one hr1⟩
theorem WQKB.sz7 {V : Array Value} {g k : Nat} (hB : WQKB R1 R2 tr W (some g) (some k) 3 m w) (hm : m 5 = .agg V) : V.size = 3 ∧ V.all (·.oneCell') = true := by
 obtain ⟨_, _, _, _, _, _, V2, hv2, hr2⟩ := hB
 obtain rfl : V = V2 := by have h9 : Value.agg V = .agg V2 := hm.symm.trans hv2; injection h9
 exact ⟨LQC_size hr2, LQC_one hr2⟩
end
theorem qIB : (Tryz.prog.info? 43).map (·.size) = some 3 := by kernel_rfl
end Go.Proofs.YtoaggmldekejoaaGreatDoor
