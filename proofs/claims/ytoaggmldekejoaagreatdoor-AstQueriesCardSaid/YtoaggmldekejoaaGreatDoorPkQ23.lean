/- The reference's sources and selects, as they are written. Conditions: a select that may be. -/
import Derived.Test.YtoaggmldekejoaaGreatDoorPkQ22
namespace Go.Proofs.YtoaggmldekejoaaGreatDoor
open Go.RowKit
theorem szo {o : ByteArray} {L : List UInt8} {K : Nat} (h : o.data.toList = L) (hl : L.length ≤ K) : o.size ≤ K := by rw [← h] at hl; exact hl
theorem cat_list {a b : ByteArray} {L M : List UInt8} (ha : a.data.toList = L) (hb : b.data.toList = M) : (a ++ b).data.toList = L ++ M := by rw [ByteArray.data_append, Array.toList_append, ha, hb]
theorem cat_size (a b : ByteArray) : (a ++ b).size = a.size + b.size := ByteArray.size_append
theorem joinC_snoc : ∀ (l : List (List UInt8)) (x : List UInt8), joinC (l ++ [x]) = joinC l ++ ((if l = [] then [] else [44, 32]) ++ x)
 | [], x => rfl
 | [y], x => by show y ++ ([44, 32] ++ joinC [x]) = y ++ ([44, 32] ++ x); rfl
 | y :: z :: l, x => by
  have h := joinC_snoc (z :: l) x
  rw [if_neg (by simp)] at h ⊢
  show y ++ ([44, 32] ++ joinC ((z :: l) ++ [x])) = (y ++ ([44, 32] ++ joinC (z :: l))) ++ ([44, 32] ++ x)
  rw [h]
  simp only [List.append_assoc]
theorem joinC_takeS {α : Type} {f : α → List UInt8} {l : List α} {i : Nat} {x : α} (h : l[i]? = some x) : joinC ((l.take (i + 1)).map f) = joinC ((l.take i).map f) ++ ((if i = 0 then [] else [44, 32]) ++ f x) := by
 have hi : i < l.length := by
  rcases Nat.lt_or_ge i l.length with h' | h'
  · exact h'
  · rw [List.getElem?_eq_none h'] at h; cases h
 rw [List.take_add_one, h, List.map_append]
 show joinC ((l.take i).map f ++ [f x]) = _
 rw [joinC_snoc]
 by_cases h0 : i = 0
 · subst h0; rfl
 · rw [if_neg h0, if_neg]
   intro e
   have := congrArg List.length e
   rw [List.length_map, List.length_take, Nat.min_eq_left (Nat.le_of_lt hi)] at this
   exact h0 this
theorem srcR_le {tb as_ : ByteArray} (h1 : nameB tb = true) (h2 : mayB as_ = true) : (srcR tb.data.toList as_.data.toList).length ≤ 40 := by
 have z1 := name_len h1
 have z2 := may_size h2
 have e1 : tb.data.toList.length = tb.size := rfl
 have e2 : as_.data.toList.length = as_.size := rfl
 unfold srcR
 split
 · omega
 · rw [List.length_append, List.length_cons]; omega
theorem joinR_le {j : QJ} (h : joinB j = true) (hr : RgT j.on) : (joinR j).length ≤ 37000 := by
 unfold joinB at h
 simp only [Bool.and_eq_true] at h
 have h1 := srcR_le h.2.1 h.2.2
 have h2 := prN_len h.1 hr
 unfold joinR
 simp only [List.length_append, List.length_cons]
 have h3 : wJOIN.length = 4 := rfl
 have h4 : wON.length = 2 := rfl
 have h5 : (if j.left = true then 32 :: wLEFT else []).length ≤ 5 := by cases j.left <;> decide
 omega
theorem joinsR_le : ∀ (l : List QJ), (∀ j ∈ l, (joinR j).length ≤ 37000) → ((l.map joinR).flatten).length ≤ l.length * 37000
 | [], _ => by simp
 | j :: l, h => by
  have h1 := h j (by simp)
  have h2 := joinsR_le l (fun k hk => h k (by simp [hk]))
  rw [List.map_cons, List.flatten_cons, List.length_append, List.length_cons, Nat.succ_mul]
  omega
theorem joinsR_take {l : List QJ} {i : Nat} {x : QJ} (h : l[i]? = some x) : ((l.take (i + 1)).map joinR).flatten = ((l.take i).map joinR).flatten ++ joinR x := by
 rw [List.take_add_one, h, List.map_append, List.flatten_append]
 simp
theorem rowR_le (w : List UInt8) (l : List (List UInt8)) : (rowR w l).length ≤ w.length + 2 + (joinC l).length := by
 unfold rowR
 split
 · exact Nat.zero_le _
 · simp only [List.length_append, List.length_cons]; omega
theorem rowR_take {α : Type} {f : α → List UInt8} {w : List UInt8} {l : List α} {i : Nat} {x : α} (h : l[i]? = some x) : rowR w ((l.take (i + 1)).map f) = rowR w ((l.take i).map f) ++ ((if i = 0 then (32 :: w) ++ [32] else [44, 32]) ++ f x) := by
 have hi : i < l.length := by
  rcases Nat.lt_or_ge i l.length with h' | h'
  · exact h'
  · rw [List.getElem?_eq_none h'] at h; cases h
 have hne : (l.take (i + 1)).map f ≠ [] := by
  intro e
  have := congrArg List.length e
  rw [List.length_map, List.length_take, Nat.min_eq_left (show i + 1 ≤ l.length by omega)] at this
  exact Nat.succ_ne_zero _ this
 have hj := joinC_takeS (f := f) h
 unfold rowR
 rw [if_neg hne, hj]
 by_cases h0 : i = 0
 · subst h0
   rw [List.take_zero, List.map_nil, if_pos rfl, if_pos rfl, if_pos rfl]
   show (32 :: w) ++ (32 :: ([] ++ ([] ++ f x))) = [] ++ (((32 :: w) ++ [32]) ++ f x)
   simp
 · have hn2 : (l.take i).map f ≠ [] := by
    intro e
    have := congrArg List.length e
    rw [List.length_map, List.length_take, Nat.min_eq_left (Nat.le_of_lt hi)] at this
    exact h0 this
   rw [if_neg hn2, if_neg h0, if_neg h0]
   simp only [List.append_assoc, List.cons_append]
theorem prF_list {t : List Nd} : (prF t).data.toList = prN t := by
 unfold prF prN
 cases treeF cntB t <;> rfl
set_option maxRecDepth 100000 in
set_option maxHeartbeats 4000000 in
theorem rsourced_any (tb as_ : ByteArray) (w : World) (h1 : tb.size ≤ 100) (h2 : as_.size ≤ 100) :
 Calls Tryz.prog 90 #[.agg #[.string tb, .string as_]] w fun e w' => e = .returned (.string (bS (srcR tb.data.toList as_.data.toList))) ∧ Below w.heap.size w w' := by
 have HQ := Lib.hid (bl_al (Below.refl w.heap.size w) (.cells #[.string tb, .string as_] 72))
 have HB := Lib.hid (Blk.new w 72 #[.string tb, .string as_])
 have y0 := HB.out.cell 0
 by_cases h0 : as_.data.toList = []
 · have HR := Lib.hid (show tb = bS (srcR tb.data.toList as_.data.toList) from bS_of (by unfold srcR; rw [if_pos h0]))
   have ht := ba_e h0
   rw [ht] at HB
   have y1 := HB.out.cell 1
   rw [← HR.out]
   subst ht
   clear h0
   go_enter Tryz.func90, Tryz.ntmps90
   go_wp2
   go_ret
   exact ⟨rfl, HQ.out⟩
 · have HR := Lib.hid (show (tb ++ ⟨#[32]⟩) ++ as_ = bS (srcR tb.data.toList as_.data.toList) from bS_of (by unfold srcR; rw [if_neg h0, ByteArray.data_append, Array.toList_append, ByteArray.data_append, Array.toList_append, List.append_assoc]; rfl))
   have y1 := HB.out.cell 1
   have e0 := ne_list h0
   have e1 : ¬ as_.toList = [] := by rw [toList_data]; exact h0
   have e2 : as_.toList.isEmpty = false := by rw [toList_data]; cases hh : as_.data.toList with | nil => exact absurd hh h0 | cons => rfl
   have e3 : (as_.toList == []) = false := by rw [toList_data]; simpa using h0
   have hz : (tb ++ ⟨#[32]⟩ : ByteArray).size ≤ 101 := by rw [ByteArray.size_append]; have h9 : (⟨#[32]⟩ : ByteArray).size = 1 := rfl; omega
   rw [← HR.out]
   clear h0
   go_enter Tryz.func90, Tryz.ntmps90
   go_wp2
   go_ret
   exact ⟨rfl, HQ.out⟩
set_option maxRecDepth 100000 in
set_option maxHeartbeats 32000000 in
theorem rselected_any (F : Nat → Prop) (x : QS) (I0 : Option Addr) (i0 j0 : Nat) (J0 : Option Addr) (u0 v0 : Nat) (W0 : Option Addr) (a0 b0 : Nat) (H0 : Option Addr) (e0 f0 : Nat) (G0 : Option Addr) (p0 q0 : Nat) (w : World) (hR : RdS F w x I0 i0 j0 J0 u0 v0 W0 a0 b0 H0 e0 f0 G0 p0 q0) (hk : selB x = true) (hG : RgS x) :
 Calls Tryz.prog 59 #[.agg (x.cells I0 i0 j0 J0 u0 v0 W0 a0 b0 H0 e0 f0 G0 p0 q0)] w fun e w' => e = .returned (.string (bS (selR x))) ∧ Below w.heap.size w w' := by
 unfold selB selShape at hk
 simp only [Bool.and_eq_true, decide_eq_true_eq] at hk
 obtain ⟨⟨hst9, hki, hkj, hkg⟩, ⟨hf1, hf2⟩, hit, hjo, hgr, hwh, hhv⟩ := hk
 have HSEL := Lib.hid (And.intro (List.all_eq_true.1 hit) (And.intro (List.all_eq_true.1 hjo) (And.intro (List.all_eq_true.1 hgr) (And.intro hwh hhv))))
 have HFR := Lib.hid (And.intro hf1 hf2)
 have hi9 : i0 ≤ 6 := by have := Lay.rd_len hR.1.1; omega
 have hu9 : u0 ≤ 2 := by have := Lay.rd_len hR.2.1.1; omega
 have hp9 : p0 ≤ 3 := by have := Lay.rd_len hR.2.2.2.2.1; omega
 have HLI := Lib.hid (Lay.rd_len hR.1.1)
 have HLJ := Lib.hid (Lay.rd_len hR.2.1.1)
 have HLW := Lib.hid (Lay.rd_len hR.2.2.1.1)
 have HLH := Lib.hid (Lay.rd_len hR.2.2.2.1.1)
 have HLG := Lib.hid (Lay.rd_len hR.2.2.2.2.1)
 obtain ⟨P1, hP1⟩ : ∃ a, a = (wSELECT ++ [32]) ++ (if x.dis then wDISTINCT ++ [32] else []) := ⟨_, rfl⟩
 obtain ⟨P2, hP2⟩ : ∃ a, a = P1 ++ (if x.star then [42] else []) := ⟨_, rfl⟩
 obtain ⟨P3, hP3⟩ : ∃ a, a = P2 ++ joinC (x.items.map itemP) := ⟨_, rfl⟩
 obtain ⟨P4, hP4⟩ : ∃ a, a = P3 ++ (([32] ++ wFROM ++ [32]) ++ srcR x.ftb.data.toList x.fas.data.toList) := ⟨_, rfl⟩
 obtain ⟨P5, hP5⟩ : ∃ a, a = P4 ++ (x.joins.map joinR).flatten := ⟨_, rfl⟩
 obtain ⟨P6, hP6⟩ : ∃ a, a = P5 ++ onR wWHERE x.wh := ⟨_, rfl⟩
 obtain ⟨P7, hP7⟩ : ∃ a, a = P6 ++ rowR wGROUPBY (x.grp.map nmP) := ⟨_, rfl⟩
 obtain ⟨P8, hP8⟩ : ∃ a, a = P7 ++ onR wHAVING x.hv := ⟨_, rfl⟩
 have hS : selR x = P8 := by
  rw [hP8, hP7, hP6, hP5, hP4, hP3, hP2, hP1]
  unfold selR
  simp only [List.append_assoc, List.cons_append, List.nil_append]
 have HS := Lib.hid hS
 have HP := Lib.hid (And.intro hP1 (And.intro hP2 (And.intro hP3 (And.intro hP4 (And.intro hP5 (And.intro hP6 (And.intro hP7 hP8)))))))
 have l1 : P1.length ≤ 20 := by rw [hP1]; cases x.dis <;> decide
 have l2 : P2.length ≤ 30 := by rw [hP2, List.length_append]; have h9 : (if x.star = true then ([42] : List UInt8) else []).length ≤ 1 := (by cases x.star <;> decide); omega
 have l3i : ∀ i, i ≤ 6 → (joinC ((x.items.take i).map itemP)).length ≤ 220000 := fun i hi => by
  have h := joinC_le (K := 36100) ((x.items.take i).map itemP) (fun y hy => by
   obtain ⟨z, hz, rfl⟩ := List.mem_map.1 hy
   have hz := List.mem_of_mem_take hz
   exact itemP_le (List.all_eq_true.1 hit z hz) (hG.1 z hz))
  have h2 : ((x.items.take i).map itemP).length ≤ 6 := by rw [List.length_map, List.length_take]; omega
  have h3 := Nat.mul_le_mul_right (36100 + 2) h2
  omega
 have l3 : P3.length ≤ 230000 := by rw [hP3, List.length_append]; have := l3i 6 (by omega); rw [List.take_of_length_le hki] at this; omega
 have l4 : P4.length ≤ 240000 := by rw [hP4]; have := srcR_le hf1 hf2; simp only [List.length_append, List.length_cons, List.length_nil, wFROM]; omega
 have l5i : ∀ i, i ≤ 2 → (((x.joins.take i).map joinR).flatten).length ≤ 74000 := fun i hi => by
  have h := joinsR_le (x.joins.take i) (fun y hy => by
   have hy := List.mem_of_mem_take hy
   exact joinR_le (List.all_eq_true.1 hjo y hy) (hG.2.1 y hy))
  have h2 : (x.joins.take i).length ≤ 2 := by rw [List.length_take]; omega
  have h3 := Nat.mul_le_mul_right 37000 h2
  omega
 have l5 : P5.length ≤ 320000 := by rw [hP5, List.length_append]; have := l5i 2 (by omega); rw [List.take_of_length_le hkj] at this; omega
 have onl : ∀ (v : List UInt8) (t : List Nd), v.length ≤ 10 → noneB t = true → RgT t → (onR v t).length ≤ 36020 := fun v t hv ht hr => by
  unfold onR
  split
  · exact Nat.zero_le _
  · next hn => have := prN_len (none_ok ht hn) hr; simp only [List.length_append, List.length_cons]; omega
 have l6 : P6.length ≤ 360000 := by rw [hP6, List.length_append]; have := onl wWHERE x.wh (by decide) hwh hG.2.2.1; omega
 have l7i : ∀ i, i ≤ 3 → (joinC ((x.grp.take i).map nmP)).length ≤ 200 := fun i hi => by
  have h := joinC_le (K := 40) ((x.grp.take i).map nmP) (fun y hy => by
   obtain ⟨z, hz, rfl⟩ := List.mem_map.1 hy
   exact nmP_le (List.all_eq_true.1 hgr z (List.mem_of_mem_take hz)))
  have h2 : ((x.grp.take i).map nmP).length ≤ 3 := by rw [List.length_map, List.length_take]; omega
  have h3 := Nat.mul_le_mul_right (40 + 2) h2
  omega
 have l7 : P7.length ≤ 370000 := by
  rw [hP7, List.length_append]
  unfold rowR
  split
  · simp only [List.length_nil]; omega
  · have := l7i 3 (by omega); rw [List.take_of_length_le hkg] at this
    simp only [List.length_append, List.length_cons, wGROUPBY, List.length_nil]; omega
 have HL := Lib.hid (And.intro l3i (And.intro l5i l7i))
 clear hS hP1 hP2 hP3 hP4 hP5 hP6 hP7 hP8 l3i l5i l7i onl hki hkj hkg hit hjo hgr hwh hhv hf1 hf2 hst9
 have HGS := Lib.hid hG
 have HQ1 := Lib.hid (bl_al (Below.refl w.heap.size w) (.cells (x.cells I0 i0 j0 J0 u0 v0 W0 a0 b0 H0 e0 f0 G0 p0 q0) 76))
 have HRS := Lib.hid (hR.below HQ1.out)
 have HB1 := Lib.hid (Blk.new w 76 (x.cells I0 i0 j0 J0 u0 v0 W0 a0 b0 H0 e0 f0 G0 p0 q0))
 rw [HS.out]
 clear hR hG HS
 go_enter Tryz.func59, Tryz.ntmps59
 have y0 := HB1.out.cell 0
 go_upto_if 11 with fail
 clear y0
 generalize w.alloc (.cells (x.cells I0 i0 j0 J0 u0 v0 W0 a0 b0 H0 e0 f0 G0 p0 q0) 76) = w1 at *
 go_cut [3] (fun ok wx => ∃ o : ByteArray, ok = .string o ∧ Hid (o.data.toList = P1) ∧ Hid (Below w1.heap.size w1 wx))
 case first =>
  cases hd : x.dis
  · go_wp2_with fail
    go_meet
    exact ⟨_, rfl, Lib.hid (by rw [HP.out.1, hd]; rfl), Lib.hid (Below.refl _ _)⟩
  · go_wp2_with fail
    go_meet
    exact ⟨_, rfl, Lib.hid (by rw [HP.out.1, hd]; rfl), Lib.hid (Below.refl _ _)⟩
 case rest =>
 obtain ⟨o1, rfl, HO1, HW2⟩ := hcut
 obtain ⟨w2, rfl⟩ : ∃ x, x = wc := ⟨_, rfl⟩
 have hz1 := szo HO1.out l1
 have y1 := (HB1.out.ca HW2.out).cell 1
 go_upto_if 15 with fail
 clear y1
 go_cut [3] (fun ok wx => ∃ o : ByteArray, ok = .string o ∧ Hid (o.data.toList = P2) ∧ Hid (Below w1.heap.size w1 wx))
 case first =>
  cases hd : x.star
  · go_wp2_with fail
    go_meet
    exact ⟨_, rfl, Lib.hid (by rw [HP.out.2.1, hd, HO1.out]; exact (List.append_nil _).symm), HW2⟩
  · go_wp2_with fail
    go_meet
    exact ⟨_, rfl, Lib.hid (by rw [HP.out.2.1, hd]; exact cat_list HO1.out rfl), HW2⟩
 case rest =>
 clear HO1 hz1 HW2
 obtain ⟨o2, rfl, HO2, HW3⟩ := hcut
 obtain ⟨w3, rfl⟩ : ∃ x, x = wc := ⟨_, rfl⟩
 have hz2 := szo HO2.out l2
 have y2 := (HB1.out.ca HW3.out).cell 2
 go_upto_block 0 with fail
 clear y2
 go_cut [3] (fun ok wx => ∃ o : ByteArray, ok = .string o ∧ Hid (o.data.toList = P3) ∧ Hid (Below w1.heap.size w1 wx))
 case first =>
  go_wp2_with fail
  go_loopg [21, 3] i0 (fun gk a ok wr => ∃ (i : Nat) (o : ByteArray), i + gk = i0 ∧ a = .int .i64 i ∧ ok = .string o ∧ Hid (o.data.toList = P2 ++ joinC ((x.items.take i).map itemP)) ∧ Hid (Below w1.heap.size w1 wr))
  case atStart => exact ⟨0, o2, by omega, rfl, rfl, Lib.hid (by rw [HO2.out]; exact (List.append_nil _).symm), HW3⟩
  case round =>
   obtain ⟨i, o, hig, rfl, rfl, HOi, HQr⟩ := hrel
   by_cases hlt : i < i0
   · have hi1 : (i : Int) < (i0 : Int) := by omega
     obtain ⟨ad, z, T0, t0, u9, rfl, hax, sp⟩ := LQI_at (Lay.rd_below HRS.out.1.1 HQr.out) hlt
     have x0 := sp.z0
     have x1 := sp.z1
     have HSPz := Lib.hid sp
     have HJT := Lib.hid (joinC_takeS (f := itemP) hax)
     have HZM := Lib.hid (List.mem_of_getElem? hax)
     have HQz := Lib.hid (bl_al (Below.refl wr.heap.size wr) (.cells #[.slice T0 t0 u9, .string z.as_] 82))
     have HZ := Lib.hid (Blk.new wr 82 #[.slice T0 t0 u9, .string z.as_])
     have hzo := szo HOi.out (K := 250000) (by rw [List.length_append]; have := HL.out.1 i (by omega); omega)
     clear sp hax
     go_upto_if 27 with fail
     clear x0 x1
     generalize wr.alloc (.cells #[.slice T0 t0 u9, .string z.as_] 82) = wz at *
     have HQ1z := Lib.hid (bl_ca HQr.out HQz.out)
     go_cut [3] (fun ok wx => ∃ o : ByteArray, ok = .string o ∧ Hid (o.data.toList = P2 ++ (joinC ((x.items.take i).map itemP) ++ (if i = 0 then [] else [44, 32]))) ∧ Hid (wx = wz))
     case first =>
      obtain ⟨bI, hbI⟩ : ∃ bI, bI = decide (0 < i) := ⟨_, rfl⟩
      rw [← hbI]
      have HBI := Lib.hid hbI
      clear hbI
      cases bI
      · have HF0 := Lib.hid (show o.data.toList = P2 ++ (joinC ((x.items.take i).map itemP) ++ (if i = 0 then [] else [44, 32])) from by
         have h9 := of_decide_eq_false HBI.out.symm
         rw [if_pos (show i = 0 by omega), List.append_nil]; exact HOi.out)
        go_wp2_with fail
        go_meet
        exact ⟨_, rfl, HF0, Lib.hid rfl⟩
      · have HF0 := Lib.hid (show (o ++ (⟨#[44, 32]⟩ : ByteArray)).data.toList = P2 ++ (joinC ((x.items.take i).map itemP) ++ (if i = 0 then [] else [44, 32])) from by
         have h9 := of_decide_eq_true HBI.out.symm
         rw [if_neg (show ¬ i = 0 by omega), ← List.append_assoc]; exact cat_list HOi.out rfl)
        go_wp2_with fail
        go_meet
        exact ⟨_, rfl, HF0, Lib.hid rfl⟩
     case rest =>
     obtain ⟨oa, rfl, HOa, HWc⟩ := hcut
     have hwc := HWc.out
     subst hwc
     clear HWc
     have hza := szo HOa.out (K := 250100) (by
      have := HL.out.1 i (by omega)
      have h9 : (if i = 0 then ([] : List UInt8) else [44, 32]).length ≤ 2 := by split <;> decide
      simp only [List.length_append]
      omega)
     have HIB := HSEL.out.1 z HZM.out
     unfold itemB at HIB
     rw [Bool.and_eq_true] at HIB
     have HRG := Lib.hid (HGS.out.1 z HZM.out)
     have hzp : (prF z.t).size ≤ 36000 := szo prF_list (prN_len HIB.1 HRG.out)
     have hzs := may_size HIB.2
     have HTN := Lib.hid (Lay.rd_below HSPz.out.r0 HQz.out)
     have HRP := Lib.hid (rprinttree_any F z.t T0 t0 u9 wc HTN.out HIB.1 HRG.out)
     clear HIB HTN hzo HOi
     have y0 := HZ.out.cell 0
     go_wp2_with fail
     refine HRP.out.mono ?_
     rintro e we ⟨rfl, qe⟩
     have HQe := Lib.hid (bl_ca HQ1z.out qe)
     have HZe := Lib.hid (HZ.out.ca qe)
     obtain ⟨tS, htS⟩ : ∃ o, o = prF z.t := ⟨_, rfl⟩
     rw [← htS] at hzp ⊢
     have HTS := Lib.hid (show tS.data.toList = prN z.t from by rw [htS]; exact prF_list)
     have hzc : (oa ++ tS : ByteArray).size ≤ 290000 := by rw [cat_size]; omega
     clear htS qe HRP y0
     by_cases h0 : z.as_.data.toList = []
     · have HFI := Lib.hid (show (oa ++ tS).data.toList = P2 ++ joinC ((x.items.take (i + 1)).map itemP) from by
        rw [cat_list HOa.out HTS.out, HJT.out]
        unfold itemP
        rw [if_pos h0, List.append_nil]
        simp only [List.append_assoc])
       have ht := ba_e h0
       rw [ht] at HZe
       have y1 := HZe.out.cell 1
       clear h0
       go_wp2_with fail
       go_roundg (gk - 1)
       · exact ⟨i + 1, _, by omega, by go_num, rfl, HFI, HQe⟩
       · omega
     · have HFI := Lib.hid (show ((oa ++ tS) ++ ((⟨#[32, 65, 83, 32]⟩ : ByteArray) ++ z.as_)).data.toList = P2 ++ joinC ((x.items.take (i + 1)).map itemP) from by
        rw [cat_list (cat_list HOa.out HTS.out) (cat_list (a := ⟨#[32, 65, 83, 32]⟩) (b := z.as_) rfl rfl), HJT.out]
        rw [itemP, if_neg h0]
        simp only [List.append_assoc]
        rfl)
       have y1 := HZe.out.cell 1
       have e0 := ne_list h0
       have e1 : ¬ z.as_.toList = [] := by rw [toList_data]; exact h0
       have e2 : z.as_.toList.isEmpty = false := by rw [toList_data]; cases hh : z.as_.data.toList with | nil => exact absurd hh h0 | cons => rfl
       have e3 : (z.as_.toList == []) = false := by rw [toList_data]; simpa using h0
       have hza2 : ((⟨#[32, 65, 83, 32]⟩ : ByteArray) ++ z.as_).size ≤ 20 := by rw [cat_size]; have h9 : (⟨#[32, 65, 83, 32]⟩ : ByteArray).size = 4 := rfl; omega
       clear h0
       go_wp2_with fail
       go_roundg (gk - 1)
       · exact ⟨i + 1, _, by omega, by go_num, rfl, HFI, HQe⟩
       · omega
   · have hi1 : ¬ ((i : Int) < (i0 : Int)) := by omega
     have hie : i = i0 := by omega
     have HFI := Lib.hid (show o.data.toList = P3 from by rw [HOi.out, List.take_of_length_le (by rw [HLI.out]; omega), HP.out.2.2.1])
     clear hie HOi
     go_wp2_with fail
     go_meet
     exact ⟨o, rfl, HFI, HQr⟩
 case rest =>
 clear HO2 hz2 HW3
 obtain ⟨o3, rfl, HO3, HW4⟩ := hcut
 obtain ⟨w4, rfl⟩ : ∃ x, x = wc := ⟨_, rfl⟩
 have hz3 := szo HO3.out l3
 have y3 := (HB1.out.ca HW4.out).cell 3
 have y4 := (HB1.out.ca HW4.out).cell 4
 have hs1 : x.ftb.size ≤ 100 := by have := name_len HFR.out.1; omega
 have hs2 : x.fas.size ≤ 100 := by have := may_size HFR.out.2; omega
 go_wp2_with fail
 refine (rsourced_any x.ftb x.fas w4 hs1 hs2).mono ?_
 rintro e w5 ⟨rfl, q5⟩
 have HW5 := Lib.hid (bl_ca HW4.out q5)
 obtain ⟨scS, hscS⟩ : ∃ o, o = bS (srcR x.ftb.data.toList x.fas.data.toList) := ⟨_, rfl⟩
 rw [← hscS]
 have HSS := Lib.hid (show scS.data.toList = srcR x.ftb.data.toList x.fas.data.toList from by rw [hscS])
 have hzs : scS.size ≤ 40 := szo HSS.out (srcR_le HFR.out.1 HFR.out.2)
 have hzq : ((⟨#[32, 70, 82, 79, 77, 32]⟩ : ByteArray) ++ scS).size ≤ 50 := by rw [cat_size]; have h9 : (⟨#[32, 70, 82, 79, 77, 32]⟩ : ByteArray).size = 6 := rfl; omega
 have HO4 := Lib.hid (show (o3 ++ ((⟨#[32, 70, 82, 79, 77, 32]⟩ : ByteArray) ++ scS)).data.toList = P4 from by rw [HP.out.2.2.2.1]; exact cat_list HO3.out (cat_list rfl HSS.out))
 clear q5 hscS y3 y4 hs1 hs2 HSS HW4
 have y5 := (HB1.out.ca HW5.out).cell 5
 go_upto_block 2 with fail
 clear y5
 go_cut [3] (fun ok wx => ∃ o : ByteArray, ok = .string o ∧ Hid (o.data.toList = P5) ∧ Hid (Below w1.heap.size w1 wx))
 case first =>
  go_wp2_with fail
  go_loopg [53, 3] u0 (fun gk a ok wr => ∃ (i : Nat) (o : ByteArray), i + gk = u0 ∧ a = .int .i64 i ∧ ok = .string o ∧ Hid (o.data.toList = P4 ++ ((x.joins.take i).map joinR).flatten) ∧ Hid (Below w1.heap.size w1 wr))
  case atStart => exact ⟨0, _, by omega, rfl, rfl, Lib.hid (by rw [HO4.out]; exact (List.append_nil _).symm), HW5⟩
  case round =>
   obtain ⟨i, o, hig, rfl, rfl, HOi, HQr⟩ := hrel
   by_cases hlt : i < u0
   · have hi1 : (i : Int) < (u0 : Int) := by omega
     obtain ⟨ad, z, T0, t0, u9, rfl, hax, sp⟩ := LQJ_at (Lay.rd_below HRS.out.2.1.1 HQr.out) hlt
     have x0 := sp.z0
     have x1 := sp.z1
     have x2 := sp.z2
     have x3 := sp.z3
     have HSPz := Lib.hid sp
     have HJT := Lib.hid (joinsR_take hax)
     have HZM := Lib.hid (List.mem_of_getElem? hax)
     have HQz := Lib.hid (bl_al (Below.refl wr.heap.size wr) (.cells #[.bool z.left, .string z.tb, .string z.as_, .slice T0 t0 u9] 85))
     have HZ := Lib.hid (Blk.new wr 85 #[.bool z.left, .string z.tb, .string z.as_, .slice T0 t0 u9])
     have hzo := szo HOi.out (K := 320000) (by rw [List.length_append]; have := HL.out.2.1 i (by omega); omega)
     have y0 := HZ.out.cell 0
     clear sp hax
     go_upto_if 58 with fail
     clear x0 x1 x2 x3 y0
     generalize wr.alloc (.cells #[.bool z.left, .string z.tb, .string z.as_, .slice T0 t0 u9] 85) = wz at *
     have HQ1z := Lib.hid (bl_ca HQr.out HQz.out)
     go_cut [3] (fun ok wx => ∃ o : ByteArray, ok = .string o ∧ Hid (o.data.toList = P4 ++ (((x.joins.take i).map joinR).flatten ++ (if z.left then 32 :: wLEFT else []))) ∧ Hid (wx = wz))
     case first =>
      cases hd : z.left
      · go_wp2_with fail
        go_meet
        exact ⟨_, rfl, Lib.hid (by rw [if_neg (by rw [hd]; decide), List.append_nil]; exact HOi.out), Lib.hid rfl⟩
      · go_wp2_with fail
        go_meet
        exact ⟨_, rfl, Lib.hid (by rw [if_pos hd, ← List.append_assoc]; exact cat_list HOi.out rfl), Lib.hid rfl⟩
     case rest =>
     obtain ⟨oa, rfl, HOa, HWc⟩ := hcut
     have hwc := HWc.out
     subst hwc
     clear HWc
     have hza := szo HOa.out (K := 330000) (by
      have := HL.out.2.1 i (by omega)
      have h9 : (if z.left = true then 32 :: wLEFT else []).length ≤ 5 := by cases z.left <;> decide
      simp only [List.length_append]
      omega)
     have HIB := HSEL.out.2.1 z HZM.out
     unfold joinB at HIB
     simp only [Bool.and_eq_true] at HIB
     have HRG := Lib.hid (HGS.out.2.1 z HZM.out)
     have hzp : (prF z.on).size ≤ 36000 := szo prF_list (prN_len HIB.1 HRG.out)
     have hs1 : z.tb.size ≤ 100 := by have := name_len HIB.2.1; omega
     have hs2 : z.as_.size ≤ 100 := by have := may_size HIB.2.2; omega
     have HTN := Lib.hid (Lay.rd_below HSPz.out.r0 HQz.out)
     have HOK := Lib.hid HIB.1
     obtain ⟨sJ, hsJ⟩ : ∃ o, o = bS (srcR z.tb.data.toList z.as_.data.toList) := ⟨_, rfl⟩
     have HSJ := Lib.hid (show sJ.data.toList = srcR z.tb.data.toList z.as_.data.toList from by rw [hsJ])
     have HSE := Lib.hid hsJ
     have hzj : sJ.size ≤ 40 := szo HSJ.out (srcR_le HIB.2.1 HIB.2.2)
     obtain ⟨j1, hj1⟩ : ∃ o : ByteArray, o = ⟨#[32, 74, 79, 73, 78, 32]⟩ ++ sJ := ⟨_, rfl⟩
     obtain ⟨j2, hj2⟩ : ∃ o : ByteArray, o = j1 ++ ⟨#[32, 79, 78, 32]⟩ := ⟨_, rfl⟩
     obtain ⟨j3, hj3⟩ : ∃ o : ByteArray, o = j2 ++ prF z.on := ⟨_, rfl⟩
     obtain ⟨j4, hj4⟩ : ∃ o : ByteArray, o = oa ++ j3 := ⟨_, rfl⟩
     have s1 : j1.size ≤ 50 := by rw [hj1, cat_size]; have h9 : (⟨#[32, 74, 79, 73, 78, 32]⟩ : ByteArray).size = 6 := rfl; omega
     have s2 : j2.size ≤ 60 := by rw [hj2, cat_size]; have h9 : (⟨#[32, 79, 78, 32]⟩ : ByteArray).size = 4 := rfl; omega
     have s3 : j3.size ≤ 37000 := by rw [hj3, cat_size]; omega
     have t1 : j1.data.toList = [32, 74, 79, 73, 78, 32] ++ srcR z.tb.data.toList z.as_.data.toList := by rw [hj1]; exact cat_list rfl HSJ.out
     have t2 : j2.data.toList = ([32, 74, 79, 73, 78, 32] ++ srcR z.tb.data.toList z.as_.data.toList) ++ [32, 79, 78, 32] := by rw [hj2]; exact cat_list t1 rfl
     have t3 : j3.data.toList = (([32, 74, 79, 73, 78, 32] ++ srcR z.tb.data.toList z.as_.data.toList) ++ [32, 79, 78, 32]) ++ prN z.on := by rw [hj3]; exact cat_list t2 prF_list
     have HFI := Lib.hid (show j4.data.toList = P4 ++ ((x.joins.take (i + 1)).map joinR).flatten from by
      rw [hj4, cat_list HOa.out t3, HJT.out]
      rw [show joinR z = (if z.left then 32 :: wLEFT else []) ++ ((([32, 74, 79, 73, 78, 32] ++ srcR z.tb.data.toList z.as_.data.toList) ++ [32, 79, 78, 32]) ++ prN z.on) from by unfold joinR; simp [wJOIN, wON]]
      simp only [List.append_assoc])
     clear t1 t2 t3
     have HJ1 := Lib.hid hj1
     have HJ2 := Lib.hid hj2
     have HJ3 := Lib.hid hj3
     have HJ4 := Lib.hid hj4
     clear HIB hzo HOi hsJ hj1 hj2 hj3 hj4 HOa
     go_upto_region 21 with fail
     refine wp_region_ps (S := fun _ _ w' => Below wc.heap.size wc w') (by kernel_rfl) ?spswg1 ?ppswg1
     case spswg1 =>
      exact (Below.refl wc.heap.size wc).drew
     refine Pz 0 (some 61) (.string oa) rfl rfl (by exact StepS.pure nP rfl fun _ => rfl) ?_
     try simp only [Act.put, sA, sZ, sS]
     refine Pz 1 (some 62) (.pointer (some ⟨wr.heap.size, 1, none⟩)) rfl rfl (by exact StepS.pure nP rfl fun _ => rfl) ?_
     try simp only [Act.put, sA, sZ, sS]
     refine Pz 2 (some 63) (.agg #[.string z.tb, .string z.as_]) rfl rfl ?ywg1_4 ?rwg1_4
     case ywg1_4 =>
      refine StepS.read [] (by kernel_rfl) nP (by rfl) (fun L9 m9 w9 hSh hAt hDn hS => ?_)
      have hT : Below _ _ w9 := hS
      have x0 : w9.cell? ⟨wr.heap.size, 1, none⟩ = some (.string z.tb) := (HZ.out.ca hT).cell 1
      have x1 : w9.cell? ⟨wr.heap.size, 2, none⟩ = some (.string z.as_) := (HZ.out.ca hT).cell 2
      clear hT hS
      go_simp
      try rfl
     try simp only [Act.put, sA, sZ, sS]
     refine Pz 3 (some 64) (.string sJ) rfl rfl ?ywg1_5 ?rwg1_5
     case ywg1_5 =>
      refine StepS.call ?fwg1_5 ?awg1_5 [] (by kernel_rfl) (by rfl) (fun w9 => ?hwg1_5) (fun L9 m9 w9 hSh hAt hDn hS => ?cwg1_5)
      case hwg1_5 => go_simp; refine ⟨?_, ?_⟩ <;> rfl
      case cwg1_5 =>
       have hT : Below _ _ w9 := hS
       refine (rsourced_any z.tb z.as_ w9 hs1 hs2).mono ?_
       rintro e w8 ⟨rfl, q8⟩
       exact ⟨by rw [HSE.out], bl_ca hT q8⟩
     try simp only [Act.put, sA, sZ, sS]
     refine Pz 4 (some 65) (.string j1) rfl rfl ?ywg1_6 ?rwg1_6
     case ywg1_6 =>
      refine StepS.pure nP (by rfl) (fun w9 => ?_)
      rw [HJ1.out]
      first | (go_simp; done) | (go_simp; omega) | rfl | (go_simp; rfl)
     try simp only [Act.put, sA, sZ, sS]
     refine Pz 5 (some 66) (.string j2) rfl rfl ?ywg1_7 ?rwg1_7
     case ywg1_7 =>
      refine StepS.pure nP (by rfl) (fun w9 => ?_)
      rw [HJ2.out]
      first | (go_simp; done) | (go_simp; omega) | rfl | (go_simp; rfl)
     try simp only [Act.put, sA, sZ, sS]
     refine Pz 6 (some 67) (.pointer (some ⟨wr.heap.size, 3, none⟩)) rfl rfl (by exact StepS.pure nP rfl fun _ => rfl) ?_
     try simp only [Act.put, sA, sZ, sS]
     refine Pz 7 (some 68) (.agg #[.slice T0 t0 u9]) rfl rfl ?ywg1_9 ?rwg1_9
     case ywg1_9 =>
      refine StepS.read [] (by kernel_rfl) nP (by rfl) (fun L9 m9 w9 hSh hAt hDn hS => ?_)
      have hT : Below _ _ w9 := hS
      have x0 : w9.cell? ⟨wr.heap.size, 3, none⟩ = some (.slice T0 t0 u9) := (HZ.out.ca hT).cell 3
      clear hT hS
      go_simp
      try rfl
     try simp only [Act.put, sA, sZ, sS]
     refine Pz 8 (some 69) (.string ((prF z.on))) rfl rfl ?ywg1_10 ?rwg1_10
     case ywg1_10 =>
      refine StepS.call ?fwg1_10 ?awg1_10 [] (by kernel_rfl) (by rfl) (fun w9 => ?hwg1_10) (fun L9 m9 w9 hSh hAt hDn hS => ?cwg1_10)
      case hwg1_10 => go_simp; refine ⟨?_, ?_⟩ <;> rfl
      case cwg1_10 =>
       have hT : Below _ _ w9 := hS
       refine (rprinttree_any F z.on T0 t0 u9 w9 (Lay.rd_below HTN.out hT) HOK.out HRG.out).mono ?_
       rintro e w8 ⟨rfl, q8⟩
       exact ⟨rfl, bl_ca hT q8⟩
     try simp only [Act.put, sA, sZ, sS]
     refine Pz 9 (some 70) (.string j3) rfl rfl ?ywg1_11 ?rwg1_11
     case ywg1_11 =>
      refine StepS.pure nP (by rfl) (fun w9 => ?_)
      rw [HJ3.out]
      first | (go_simp; done) | (go_simp; omega) | rfl | (go_simp; rfl)
     try simp only [Act.put, sA, sZ, sS]
     refine Pz 10 (some 71) (.string j4) rfl rfl ?ywg1_12 ?rwg1_12
     case ywg1_12 =>
      refine StepS.pure nP (by rfl) (fun w9 => ?_)
      rw [HJ4.out]
      first | (go_simp; done) | (go_simp; omega) | rfl | (go_simp; rfl)
     try simp only [Act.put, sA, sZ, sS]
     refine Pz 11 (some 3) (.string j4) rfl rfl (by exact StepS.pure nP rfl fun _ => rfl) ?_
     try simp only [Act.put, sA, sZ, sS]
     refine Ps.done (by kernel_rfl) (fun wg1 hS => ?_) _
     have HQe := Lib.hid (bl_ca HQ1z.out (show Below wc.heap.size wc wg1 from hS))
     clear hS
     obtain ⟨we, rfl⟩ : ∃ x, x = wg1 := ⟨_, rfl⟩
     go_wp2_with fail
     go_roundg (gk - 1)
     · exact ⟨i + 1, _, by omega, by go_num, rfl, HFI, HQe⟩
     · omega
   · have hi1 : ¬ ((i : Int) < (u0 : Int)) := by omega
     have hie : i = u0 := by omega
     have HFI := Lib.hid (show o.data.toList = P5 from by rw [HOi.out, List.take_of_length_le (by rw [HLJ.out]; omega), HP.out.2.2.2.2.1])
     clear hie HOi
     go_wp2_with fail
     go_meet
     exact ⟨o, rfl, HFI, HQr⟩
 case rest =>
 clear HO4 HW5 HO3 hz3
 obtain ⟨o5, rfl, HO5, HW6⟩ := hcut
 obtain ⟨w6, rfl⟩ : ∃ x, x = wc := ⟨_, rfl⟩
 have hz5 := szo HO5.out l5
 have y9 := (HB1.out.ca HW6.out).cell 6
 go_upto_if 77 with fail
 go_cut [3] (fun ok wx => ∃ o : ByteArray, ok = .string o ∧ Hid (o.data.toList = P6) ∧ Hid (Below w1.heap.size w1 wx))
 case first =>
  by_cases h0 : x.wh = []
  · have hn0 : a0 = 0 := by have := HLW.out; rw [h0] at this; simpa using this.symm
    have h1 : ¬ (0 < (a0 : Int)) := by omega
    have h2 : ¬ (0 < a0) := by omega
    have HFI := Lib.hid (show o5.data.toList = P6 from by rw [HP.out.2.2.2.2.2.1]; unfold onR; rw [if_pos h0, List.append_nil]; exact HO5.out)
    clear h0 hn0
    go_wp2_with fail
    go_meet
    exact ⟨_, rfl, HFI, HW6⟩
  · have hn0 : 0 < a0 := by have := HLW.out; have := List.length_pos_iff.2 h0; omega
    have h1 : (0 < (a0 : Int)) := by omega
    have hok := none_ok HSEL.out.2.2.2.1 h0
    have hzp : (prF x.wh).size ≤ 36000 := szo prF_list (prN_len hok HGS.out.2.2.1)
    have HRP := Lib.hid (rprinttree_any F x.wh W0 a0 b0 w6 (Lay.rd_below HRS.out.2.2.1.1 HW6.out) hok HGS.out.2.2.1)
    have hzq : ((⟨#[32, 87, 72, 69, 82, 69, 32]⟩ : ByteArray) ++ prF x.wh).size ≤ 36100 := by
     rw [cat_size]
     have h9 : (⟨#[32, 87, 72, 69, 82, 69, 32]⟩ : ByteArray).size ≤ 20 := by decide
     omega
    have HFI := Lib.hid (show (o5 ++ ((⟨#[32, 87, 72, 69, 82, 69, 32]⟩ : ByteArray) ++ prF x.wh)).data.toList = P6 from by
     rw [HP.out.2.2.2.2.2.1]
     refine cat_list HO5.out ?_
     unfold onR
     rw [if_neg h0, show (32 :: wWHERE) ++ (32 :: prN x.wh) = ((32 :: wWHERE) ++ [32]) ++ prN x.wh from by simp]
     exact cat_list rfl prF_list)
    clear h0
    go_wp2_with fail
    refine HRP.out.mono ?_
    rintro e we ⟨rfl, qe⟩
    have HQe := Lib.hid (bl_ca HW6.out qe)
    clear qe HRP
    go_wp2_with fail
    go_meet
    exact ⟨_, rfl, HFI, HQe⟩
 case rest =>
 clear y9 HO5 hz5 HW6
 obtain ⟨o6, rfl, HO6, HW7⟩ := hcut
 obtain ⟨w7, rfl⟩ : ∃ x, x = wc := ⟨_, rfl⟩
 have hz6 := szo HO6.out l6
 have y8 := (HB1.out.ca HW7.out).cell 8
 go_upto_block 4 with fail
 clear y8
 go_cut [3] (fun ok wx => ∃ o : ByteArray, ok = .string o ∧ Hid (o.data.toList = P7) ∧ Hid (Below w1.heap.size w1 wx))
 case first =>
  go_wp2_with fail
  go_loopg [87, 3] p0 (fun gk a ok wr => ∃ (i : Nat) (o : ByteArray), i + gk = p0 ∧ a = .int .i64 i ∧ ok = .string o ∧ Hid (o.data.toList = P6 ++ rowR wGROUPBY ((x.grp.take i).map nmP)) ∧ Hid (Below w1.heap.size w1 wr))
  case atStart => exact ⟨0, o6, by omega, rfl, rfl, Lib.hid (by rw [HO6.out]; exact (List.append_nil _).symm), HW7⟩
  case round =>
   obtain ⟨i, o, hig, rfl, rfl, HOi, HQr⟩ := hrel
   by_cases hlt : i < p0
   · have hi1 : (i : Int) < (p0 : Int) := by omega
     obtain ⟨ad, z, rfl, hax, sp⟩ := LQN_at (Lay.rd_below HRS.out.2.2.2.2.1 HQr.out) hlt
     have x0 := sp.z0
     have x1 := sp.z1
     have HJT := Lib.hid (rowR_take (w := wGROUPBY) (f := nmP) hax)
     have HZM := Lib.hid (List.mem_of_getElem? hax)
     have HQz := Lib.hid (bl_al (Below.refl wr.heap.size wr) (.cells #[.string z.tb, .string z.nm] 88))
     have HZ := Lib.hid (Blk.new wr 88 #[.string z.tb, .string z.nm])
     have hzo := szo HOi.out (K := 370000) (by rw [List.length_append]; have := HL.out.2.2 i (by omega); have h9 := rowR_le wGROUPBY ((x.grp.take i).map nmP); have h8 : wGROUPBY.length = 8 := rfl; omega)
     clear sp hax
     go_upto_if 93 with fail
     clear x0 x1
     generalize wr.alloc (.cells #[.string z.tb, .string z.nm] 88) = wz at *
     have HQ1z := Lib.hid (bl_ca HQr.out HQz.out)
     go_cut [3] (fun ok wx => ∃ o : ByteArray, ok = .string o ∧ Hid (o.data.toList = P6 ++ (rowR wGROUPBY ((x.grp.take i).map nmP) ++ (if i = 0 then (32 :: wGROUPBY) ++ [32] else [44, 32]))) ∧ Hid (wx = wz))
     case first =>
      by_cases h0 : i = 0
      · have h1 : (i : Int) = 0 := by omega
        have HF0 := Lib.hid (show (o ++ (⟨#[32, 71, 82, 79, 85, 80, 32, 66, 89, 32]⟩ : ByteArray)).data.toList = P6 ++ (rowR wGROUPBY ((x.grp.take i).map nmP) ++ (if i = 0 then (32 :: wGROUPBY) ++ [32] else [44, 32])) from by rw [if_pos h0, ← List.append_assoc]; exact cat_list HOi.out rfl)
        go_wp2_with fail
        go_meet
        exact ⟨_, rfl, HF0, Lib.hid rfl⟩
      · have h1 : ¬ (i : Int) = 0 := by omega
        have HF0 := Lib.hid (show (o ++ (⟨#[44, 32]⟩ : ByteArray)).data.toList = P6 ++ (rowR wGROUPBY ((x.grp.take i).map nmP) ++ (if i = 0 then (32 :: wGROUPBY) ++ [32] else [44, 32])) from by rw [if_neg h0, ← List.append_assoc]; exact cat_list HOi.out rfl)
        go_wp2_with fail
        go_meet
        exact ⟨_, rfl, HF0, Lib.hid rfl⟩
     case rest =>
     obtain ⟨oa, rfl, HOa, HWc⟩ := hcut
     have hwc := HWc.out
     subst hwc
     clear HWc
     have hza := szo HOa.out (K := 380000) (by
      have := HL.out.2.2 i (by omega)
      have h9 : (if i = 0 then (32 :: wGROUPBY) ++ [32] else [44, 32]).length ≤ 10 := by split <;> decide
      have h8 := rowR_le wGROUPBY ((x.grp.take i).map nmP)
      have h7 : wGROUPBY.length = 8 := rfl
      rw [List.length_append, List.length_append]
      omega)
     have HIB := HSEL.out.2.2.1 z HZM.out
     have hzn := nmP_le HIB
     unfold nmB at HIB
     rw [Bool.and_eq_true] at HIB
     have hs1 : z.tb.size ≤ 100000 := by have := may_size HIB.2; omega
     have hs2 : z.nm.size ≤ 100000 := by have := name_len HIB.1; omega
     clear HIB hzo HOi
     obtain ⟨nS, hnS⟩ : ∃ o, o = bS (namU z.tb.data.toList z.nm.data.toList) := ⟨_, rfl⟩
     have HNS := Lib.hid hnS
     have hz9 : nS.size ≤ 40 := by rw [hnS, bs_size]; exact hzn
     have HFI := Lib.hid (show (oa ++ nS).data.toList = P6 ++ rowR wGROUPBY ((x.grp.take (i + 1)).map nmP) from by
      rw [hnS, cat_list HOa.out (show (bS (namU z.tb.data.toList z.nm.data.toList)).data.toList = nmP z from rfl), HJT.out]
      simp only [List.append_assoc])
     clear hnS
     have y0 := HZ.out.cell 0
     have y1 := HZ.out.cell 1
     go_wp2_with fail
     refine (rname_any z.tb z.nm hs1 hs2 wc).mono ?_
     rintro e we ⟨rfl, rfl⟩
     rw [← HNS.out]
     go_wp2_with fail
     go_roundg (gk - 1)
     · exact ⟨i + 1, _, by omega, by go_num, rfl, HFI, HQ1z⟩
     · omega
   · have hi1 : ¬ ((i : Int) < (p0 : Int)) := by omega
     have hie : i = p0 := by omega
     have HFI := Lib.hid (show o.data.toList = P7 from by rw [HOi.out, List.take_of_length_le (by rw [HLG.out]; omega), HP.out.2.2.2.2.2.2.1])
     clear hie HOi
     go_wp2_with fail
     go_meet
     exact ⟨o, rfl, HFI, HQr⟩
 case rest =>
 clear HO6 hz6 HW7
 obtain ⟨o7, rfl, HO7, HW8⟩ := hcut
 obtain ⟨w8, rfl⟩ : ∃ x, x = wc := ⟨_, rfl⟩
 have hz7 := szo HO7.out l7
 have y9 := (HB1.out.ca HW8.out).cell 7
 go_upto_if 110 with fail
 go_cut [3] (fun ok wx => ∃ o : ByteArray, ok = .string o ∧ Hid (o.data.toList = P8) ∧ Hid (Below w1.heap.size w1 wx))
 case first =>
  by_cases h0 : x.hv = []
  · have hn0 : e0 = 0 := by have := HLH.out; rw [h0] at this; simpa using this.symm
    have h1 : ¬ (0 < (e0 : Int)) := by omega
    have h2 : ¬ (0 < e0) := by omega
    have HFI := Lib.hid (show o7.data.toList = P8 from by rw [HP.out.2.2.2.2.2.2.2]; unfold onR; rw [if_pos h0, List.append_nil]; exact HO7.out)
    clear h0 hn0
    go_wp2_with fail
    go_meet
    exact ⟨_, rfl, HFI, HW8⟩
  · have hn0 : 0 < e0 := by have := HLH.out; have := List.length_pos_iff.2 h0; omega
    have h1 : (0 < (e0 : Int)) := by omega
    have hok := none_ok HSEL.out.2.2.2.2 h0
    have hzp : (prF x.hv).size ≤ 36000 := szo prF_list (prN_len hok HGS.out.2.2.2)
    have HRP := Lib.hid (rprinttree_any F x.hv H0 e0 f0 w8 (Lay.rd_below HRS.out.2.2.2.1.1 HW8.out) hok HGS.out.2.2.2)
    have hzq : ((⟨#[32, 72, 65, 86, 73, 78, 71, 32]⟩ : ByteArray) ++ prF x.hv).size ≤ 36100 := by
     rw [cat_size]
     have h9 : (⟨#[32, 72, 65, 86, 73, 78, 71, 32]⟩ : ByteArray).size ≤ 20 := by decide
     omega
    have HFI := Lib.hid (show (o7 ++ ((⟨#[32, 72, 65, 86, 73, 78, 71, 32]⟩ : ByteArray) ++ prF x.hv)).data.toList = P8 from by
     rw [HP.out.2.2.2.2.2.2.2]
     refine cat_list HO7.out ?_
     unfold onR
     rw [if_neg h0, show (32 :: wHAVING) ++ (32 :: prN x.hv) = ((32 :: wHAVING) ++ [32]) ++ prN x.hv from by simp]
     exact cat_list rfl prF_list)
    clear h0
    go_wp2_with fail
    refine HRP.out.mono ?_
    rintro e we ⟨rfl, qe⟩
    have HQe := Lib.hid (bl_ca HW8.out qe)
    clear qe HRP
    go_wp2_with fail
    go_meet
    exact ⟨_, rfl, HFI, HQe⟩
 case rest =>
 clear y9 HO7 hz7 HW8
 obtain ⟨o8, rfl, HO8, HW9⟩ := hcut
 obtain ⟨w9, rfl⟩ : ∃ x, x = wc := ⟨_, rfl⟩
 have HFF := Lib.hid (show o8 = bS P8 from bS_of HO8.out)
 have HQF := Lib.hid (bl_ca HQ1.out HW9.out)
 go_wp2
 go_ret
 exact ⟨by rw [HFF.out]; rfl, HQF.out⟩
end Go.Proofs.YtoaggmldekejoaaGreatDoor
/- The reference's Print. Conditions: a query that may be. -/
namespace Go.Proofs.YtoaggmldekejoaaGreatDoor
open Go.RowKit
def selJ : List QS → List UInt8
 | [] => []
 | s :: l => selR s ++ selsR l
theorem selsR_snoc : ∀ (l : List QS) (s : QS), selsR (l ++ [s]) = selsR l ++ (((32 :: wUNIONALL) ++ [32]) ++ selR s)
 | [], s => by
  show (32 :: wUNIONALL) ++ (32 :: (selR s ++ [])) = [] ++ (((32 :: wUNIONALL) ++ [32]) ++ selR s)
  simp
 | x :: l, s => by
  have h := selsR_snoc l s
  rw [List.cons_append, selsR, selsR, h]
  simp
theorem selJ_snoc : ∀ (l : List QS) (s : QS), selJ (l ++ [s]) = selJ l ++ ((if l = [] then [] else (32 :: wUNIONALL) ++ [32]) ++ selR s)
 | [], s => by show selR s ++ [] = [] ++ ([] ++ selR s); simp
 | x :: l, s => by
  rw [if_neg (by simp), List.cons_append, selJ, selJ, selsR_snoc]
  simp
theorem selJ_take {l : List QS} {i : Nat} {x : QS} (h : l[i]? = some x) : selJ (l.take (i + 1)) = selJ (l.take i) ++ ((if i = 0 then [] else (32 :: wUNIONALL) ++ [32]) ++ selR x) := by
 have hi : i < l.length := by
  rcases Nat.lt_or_ge i l.length with h' | h'
  · exact h'
  · rw [List.getElem?_eq_none h'] at h; cases h
 rw [List.take_add_one, h]
 show selJ (l.take i ++ [x]) = _
 rw [selJ_snoc]
 by_cases h0 : i = 0
 · subst h0; rfl
 · rw [if_neg h0, if_neg]
   intro e
   have := congrArg List.length e
   rw [List.length_take, Nat.min_eq_left (Nat.le_of_lt hi)] at this
   exact h0 this
theorem selR_le {s : QS} (h : selB s = true) (hg : RgS s) : (selR s).length ≤ 1000000 := by
 have h1 := (selP_sp (acc := []) h).1
 rw [if_pos rfl, List.nil_append] at h1
 have h2 := selP_le [] s h hg
 rw [h1] at h2
 simpa using h2
theorem selsR_le : ∀ (l : List QS), (∀ s ∈ l, (selR s).length ≤ 1000000) → (selsR l).length ≤ l.length * 1000011
 | [], _ => Nat.zero_le _
 | s :: l, h => by
  have h1 := h s (by simp)
  have h2 := selsR_le l (fun x hx => h x (by simp [hx]))
  rw [selsR, List.length_cons (a := s), Nat.succ_mul]
  have h3 : wUNIONALL.length = 9 := rfl
  simp only [List.length_append, List.length_cons]
  omega
theorem selJ_le : ∀ (l : List QS), (∀ s ∈ l, (selR s).length ≤ 1000000) → (selJ l).length ≤ l.length * 1000011
 | [], _ => Nat.zero_le _
 | s :: l, h => by
  have h1 := h s (by simp)
  have h2 := selsR_le l (fun x hx => h x (by simp [hx]))
  rw [selJ, List.length_cons (a := s), Nat.succ_mul, List.length_append]
  omega
theorem rdig_any (k : Int) (h0 : 0 ≤ k) (h1 : k ≤ 2147483647) (w : World) : Calls Tryz.prog 60 #[.int .i64 k] w fun e w' => e = .returned (.string (bS (Lib.decDigits k.toNat))) ∧ Below w.heap.size w w' := by
 have h := digits_any k.toNat w (by omega)
 rw [Int.toNat_of_nonneg h0] at h
 exact h
set_option maxRecDepth 100000 in
set_option maxHeartbeats 32000000 in
theorem rqprint_any (F : Nat → Prop) (q : QC) (A : Option Addr) (n c : Nat) (B : Option Addr) (m d : Nat) (w : World) (hS : LQS.rd w F A n q.sels) (hK : LQK.rd w F B m q.keys) (hk : qryB q = true) (hg : RgQ q) :
 Calls Tryz.prog 22 #[q.val A n c B m d] w fun e w' => e = .returned (.string (bS (prQ q))) ∧ Below w.heap.size w w' := by
 have HG := Lib.hid hg
 have HLN := Lib.hid (And.intro (Lay.rd_len hS) (Lay.rd_len hK))
 unfold qryB at hk
 simp only [Bool.and_eq_true, Bool.or_eq_true, decide_eq_true_eq] at hk
 obtain ⟨⟨h0, h3, hk3, hl⟩, hk, hs⟩ := hk
 have HSB := Lib.hid (And.intro (List.all_eq_true.1 hs) (List.all_eq_true.1 hk))
 have HLM := Lib.hid hl
 have hn3 : n ≤ 3 := by have := HLN.out.1; omega
 have hm3 : m ≤ 3 := by have := HLN.out.2; omega
 obtain ⟨P0, hP0⟩ : ∃ a, a = selJ q.sels := ⟨_, rfl⟩
 obtain ⟨P1, hP1⟩ : ∃ a, a = P0 ++ rowR wORDERBY (q.keys.map keyP) := ⟨_, rfl⟩
 have HPQ := Lib.hid (show prQ q = P1 ++ (if 0 ≤ q.lim then ((32 :: wLIMIT) ++ [32]) ++ Lib.decDigits q.lim.toNat else []) from by
  rw [hP1, hP0]
  have e1 : prQ q = selJ q.sels ++ (rowR wORDERBY (q.keys.map keyP) ++ (if 0 ≤ q.lim then (32 :: wLIMIT) ++ (32 :: Lib.decDigits q.lim.toNat) else [])) := by
   unfold prQ
   cases q.sels <;> rfl
  rw [e1, List.append_assoc]
  refine congrArg _ (congrArg _ ?_)
  split
  · simp
  · rfl)
 have l0i : ∀ i, (selJ (q.sels.take i)).length ≤ 3000033 := fun i => by
  have h := selJ_le (q.sels.take i) (fun s hs' => selR_le (List.all_eq_true.1 hs s (List.mem_of_mem_take hs')) (hg s (List.mem_of_mem_take hs')))
  have h2 : (q.sels.take i).length ≤ 3 := by rw [List.length_take]; omega
  have h4 := Nat.mul_le_mul_right 1000011 h2
  omega
 have l0 : P0.length ≤ 3000033 := by have := l0i 3; rw [List.take_of_length_le h3, ← hP0] at this; exact this
 have l1i : ∀ i, (rowR wORDERBY ((q.keys.take i).map keyP)).length ≤ 1000 := fun i => by
  have h := joinC_le (K := 120) ((q.keys.take i).map keyP) (fun y hy => by
   obtain ⟨z, hz, rfl⟩ := List.mem_map.1 hy
   exact keyP_le (List.all_eq_true.1 hk z (List.mem_of_mem_take hz)))
  have h2 : ((q.keys.take i).map keyP).length ≤ 3 := by rw [List.length_map, List.length_take]; omega
  have h4 := Nat.mul_le_mul_right (120 + 2) h2
  have h5 := rowR_le wORDERBY ((q.keys.take i).map keyP)
  have h6 : wORDERBY.length = 8 := rfl
  omega
 have l1 : P1.length ≤ 3001033 := by rw [hP1, List.length_append]; have := l1i 3; rw [List.take_of_length_le hk3] at this; omega
 have HL := Lib.hid (And.intro l0i l1i)
 have HP0 := Lib.hid hP0
 have HP1 := Lib.hid hP1
 clear hP0 hP1 l0i l1i h0 h3 hk3 hl hk hs hg
 have HQ1 := Lib.hid (bl_al (Below.refl w.heap.size w) (.cells #[.slice A n c, .slice B m d, .int .i64 q.lim] 43))
 have HB1 := Lib.hid (Blk.new w 43 #[.slice A n c, .slice B m d, .int .i64 q.lim])
 have HS1 := Lib.hid (Lay.rd_below hS HQ1.out)
 have HK1 := Lib.hid (Lay.rd_below hK HQ1.out)
 clear hS hK
 have y0 := HB1.out.cell 0
 go_enter Tryz.func22, Tryz.ntmps22
 go_upto_block 0 with fail
 clear y0
 generalize w.alloc (.cells #[.slice A n c, .slice B m d, .int .i64 q.lim] 43) = w1 at *
 go_cut [3] (fun ok wx => ∃ o : ByteArray, ok = .string o ∧ Hid (o.data.toList = P0) ∧ Hid (Below w1.heap.size w1 wx))
 case first =>
  go_wp2_with fail
  go_loopg [11, 3] n (fun gk a ok wr => ∃ (i : Nat) (o : ByteArray), i + gk = n ∧ a = .int .i64 i ∧ ok = .string o ∧ Hid (o.data.toList = selJ (q.sels.take i)) ∧ Hid (Below w1.heap.size w1 wr))
  case atStart => exact ⟨0, ⟨#[]⟩, by omega, rfl, rfl, Lib.hid rfl, Lib.hid (Below.refl _ _)⟩
  case round =>
   obtain ⟨i, o, hig, rfl, rfl, HOi, HQr⟩ := hrel
   by_cases hlt : i < n
   · have hi1 : (i : Int) < (n : Int) := by omega
     obtain ⟨ad, z, I0, i0, j0, J0, u0, v0, W0, a0, b0, H0, e0, f0, G0, p0, q0, rfl, hax, sp⟩ := LQS_at (Lay.rd_below HS1.out HQr.out) hlt
     have x0 := sp.z0
     have x1 := sp.z1
     have x2 := sp.z2
     have x3 := sp.z3
     have x4 := sp.z4
     have x5 := sp.z5
     have x6 := sp.z6
     have x7 := sp.z7
     have x8 := sp.z8
     have HRz := Lib.hid (RdS.of sp)
     have HJT := Lib.hid (selJ_take hax)
     have HZM := Lib.hid (List.mem_of_getElem? hax)
     have HQz := Lib.hid (bl_al (Below.refl wr.heap.size wr) (.cells (z.cells I0 i0 j0 J0 u0 v0 W0 a0 b0 H0 e0 f0 G0 p0 q0) 76))
     have HZ := Lib.hid (Blk.new wr 76 (z.cells I0 i0 j0 J0 u0 v0 W0 a0 b0 H0 e0 f0 G0 p0 q0))
     have hzo := szo HOi.out (K := 3000033) (HL.out.1 i)
     clear sp hax
     go_upto_if 17 with fail
     clear x0 x1 x2 x3 x4 x5 x6 x7 x8
     generalize wr.alloc (.cells (z.cells I0 i0 j0 J0 u0 v0 W0 a0 b0 H0 e0 f0 G0 p0 q0) 76) = wz at *
     have HQ1z := Lib.hid (bl_ca HQr.out HQz.out)
     go_cut [3] (fun ok wx => ∃ o : ByteArray, ok = .string o ∧ Hid (o.data.toList = selJ (q.sels.take i) ++ (if i = 0 then [] else (32 :: wUNIONALL) ++ [32])) ∧ Hid (wx = wz))
     case first =>
      obtain ⟨bI, hbI⟩ : ∃ bI, bI = decide (0 < i) := ⟨_, rfl⟩
      rw [← hbI]
      have HBI := Lib.hid hbI
      clear hbI
      cases bI
      · have HF0 := Lib.hid (show o.data.toList = selJ (q.sels.take i) ++ (if i = 0 then [] else (32 :: wUNIONALL) ++ [32]) from by
         have h9 := of_decide_eq_false HBI.out.symm
         rw [if_pos (show i = 0 by omega), List.append_nil]; exact HOi.out)
        go_wp2_with fail
        go_meet
        exact ⟨_, rfl, HF0, Lib.hid rfl⟩
      · have HF0 := Lib.hid (show (o ++ (⟨#[32, 85, 78, 73, 79, 78, 32, 65, 76, 76, 32]⟩ : ByteArray)).data.toList = selJ (q.sels.take i) ++ (if i = 0 then [] else (32 :: wUNIONALL) ++ [32]) from by
         have h9 := of_decide_eq_true HBI.out.symm
         rw [if_neg (show ¬ i = 0 by omega)]; exact cat_list HOi.out rfl)
        go_wp2_with fail
        go_meet
        exact ⟨_, rfl, HF0, Lib.hid rfl⟩
     case rest =>
     obtain ⟨oa, rfl, HOa, HWc⟩ := hcut
     have hwc := HWc.out
     subst hwc
     clear HWc
     have hza := szo HOa.out (K := 3000100) (by
      have := HL.out.1 i
      have h9 : (if i = 0 then ([] : List UInt8) else (32 :: wUNIONALL) ++ [32]).length ≤ 11 := by split <;> decide
      rw [List.length_append]
      omega)
     have HSB9 := HSB.out.1 z HZM.out
     have HRG := HG.out z HZM.out
     have hzl := selR_le HSB9 HRG
     have HSC := Lib.hid (rselected_any F z I0 i0 j0 J0 u0 v0 W0 a0 b0 H0 e0 f0 G0 p0 q0 wc (HRz.out.below HQz.out) HSB9 HRG)
     have y0 := HZ.out.cell 0
     have y1 := HZ.out.cell 1
     have y2 := HZ.out.cell 2
     have y3 := HZ.out.cell 3
     have y4 := HZ.out.cell 4
     have y5 := HZ.out.cell 5
     have y6 := HZ.out.cell 6
     have y7 := HZ.out.cell 7
     have y8 := HZ.out.cell 8
     clear HSB9 HRG hzo HOi
     go_wp2_with fail
     refine HSC.out.mono ?_
     rintro e we ⟨rfl, qe⟩
     have HQe := Lib.hid (bl_ca HQ1z.out qe)
     obtain ⟨tq, htq⟩ : ∃ o, o = bS (selR z) := ⟨_, rfl⟩
     rw [← htq]
     have hzt : tq.size ≤ 1000000 := by rw [htq, bs_size]; exact hzl
     have HFI := Lib.hid (show (oa ++ tq).data.toList = selJ (q.sels.take (i + 1)) from by
      rw [htq, cat_list HOa.out (show (bS (selR z)).data.toList = selR z from rfl), HJT.out]
      simp only [List.append_assoc])
     clear htq qe HSC y0 y1 y2 y3 y4 y5 y6 y7 y8
     go_wp2_with fail
     go_roundg (gk - 1)
     · exact ⟨i + 1, _, by omega, by go_num, rfl, HFI, HQe⟩
     · omega
   · have hi1 : ¬ ((i : Int) < (n : Int)) := by omega
     have hie : i = n := by omega
     have HFI := Lib.hid (show o.data.toList = P0 from by rw [HOi.out, List.take_of_length_le (by rw [HLN.out.1]; omega), HP0.out])
     clear hie HOi
     go_wp2_with fail
     go_meet
     exact ⟨o, rfl, HFI, HQr⟩
 case rest =>
 obtain ⟨o1, rfl, HO1, HW2⟩ := hcut
 obtain ⟨w2, rfl⟩ : ∃ x, x = wc := ⟨_, rfl⟩
 have y1 := (HB1.out.ca HW2.out).cell 1
 go_upto_block 2 with fail
 clear y1
 go_cut [3] (fun ok wx => ∃ o : ByteArray, ok = .string o ∧ Hid (o.data.toList = P1) ∧ Hid (Below w1.heap.size w1 wx))
 case first =>
  go_wp2_with fail
  go_loopg [28, 3] m (fun gk a ok wr => ∃ (i : Nat) (o : ByteArray), i + gk = m ∧ a = .int .i64 i ∧ ok = .string o ∧ Hid (o.data.toList = P0 ++ rowR wORDERBY ((q.keys.take i).map keyP)) ∧ Hid (Below w1.heap.size w1 wr))
  case atStart => exact ⟨0, o1, by omega, rfl, rfl, Lib.hid (by rw [HO1.out]; exact (List.append_nil _).symm), HW2⟩
  case round =>
   obtain ⟨i, o, hig, rfl, rfl, HOi, HQr⟩ := hrel
   by_cases hlt : i < m
   · have hi1 : (i : Int) < (m : Int) := by omega
     obtain ⟨ad, z, rfl, hax, sp⟩ := LQK_at (Lay.rd_below HK1.out HQr.out) hlt
     have x0 := sp.z0
     have x1 := sp.z1
     have x2 := sp.z2
     have HJT := Lib.hid (rowR_take (w := wORDERBY) (f := keyP) hax)
     have HZM := Lib.hid (List.mem_of_getElem? hax)
     have HQz := Lib.hid (bl_al (Below.refl wr.heap.size wr) (.cells #[.string z.nm, .int .i64 z.num, .bool z.desc] 79))
     have HZ := Lib.hid (Blk.new wr 79 #[.string z.nm, .int .i64 z.num, .bool z.desc])
     have hzo := szo HOi.out (K := 3002000) (by have := HL.out.2 i; rw [List.length_append]; omega)
     clear sp hax
     go_upto_if 34 with fail
     clear x0 x1 x2
     generalize wr.alloc (.cells #[.string z.nm, .int .i64 z.num, .bool z.desc] 79) = wz at *
     have HQ1z := Lib.hid (bl_ca HQr.out HQz.out)
     go_cut [3] (fun ok wx => ∃ o : ByteArray, ok = .string o ∧ Hid (o.data.toList = P0 ++ (rowR wORDERBY ((q.keys.take i).map keyP) ++ (if i = 0 then (32 :: wORDERBY) ++ [32] else [44, 32]))) ∧ Hid (wx = wz))
     case first =>
      by_cases h0 : i = 0
      · have h1 : (i : Int) = 0 := by omega
        have HF0 := Lib.hid (show (o ++ (⟨#[32, 79, 82, 68, 69, 82, 32, 66, 89, 32]⟩ : ByteArray)).data.toList = P0 ++ (rowR wORDERBY ((q.keys.take i).map keyP) ++ (if i = 0 then (32 :: wORDERBY) ++ [32] else [44, 32])) from by rw [if_pos h0, ← List.append_assoc]; exact cat_list HOi.out rfl)
        go_wp2_with fail
        go_meet
        exact ⟨_, rfl, HF0, Lib.hid rfl⟩
      · have h1 : ¬ (i : Int) = 0 := by omega
        have HF0 := Lib.hid (show (o ++ (⟨#[44, 32]⟩ : ByteArray)).data.toList = P0 ++ (rowR wORDERBY ((q.keys.take i).map keyP) ++ (if i = 0 then (32 :: wORDERBY) ++ [32] else [44, 32])) from by rw [if_neg h0, ← List.append_assoc]; exact cat_list HOi.out rfl)
        go_wp2_with fail
        go_meet
        exact ⟨_, rfl, HF0, Lib.hid rfl⟩
     case rest =>
     obtain ⟨oa, rfl, HOa, HWc⟩ := hcut
     have hwc := HWc.out
     subst hwc
     clear HWc
     have hza := szo HOa.out (K := 3003000) (by
      have := HL.out.2 i
      have h9 : (if i = 0 then (32 :: wORDERBY) ++ [32] else [44, 32]).length ≤ 10 := by split <;> decide
      rw [List.length_append, List.length_append]
      omega)
     have hkb := HSB.out.2 z HZM.out
     have hkn := key_num hkb
     have hks := key_size hkb
     clear hkb hzo HOi
     obtain ⟨own, hown⟩ : ∃ l, l = (if z.nm.data.toList = [] then Lib.decDigits z.num.toNat else z.nm.data.toList) := ⟨_, rfl⟩
     have hkl : own.length ≤ 100 := by
      rw [hown]
      split
      · exact dec_len _ (by omega)
      · have e9 : z.nm.data.toList.length = z.nm.size := rfl
        omega
     have HKY := Lib.hid (show keyP z = own ++ (if z.desc then wDESC else []) from by rw [hown]; rfl)
     obtain ⟨L9, hL9⟩ : ∃ l, l = (P0 ++ (rowR wORDERBY ((q.keys.take i).map keyP) ++ (if i = 0 then (32 :: wORDERBY) ++ [32] else [44, 32]))) := ⟨_, rfl⟩
     rw [← hL9] at HOa
     have HL9 := Lib.hid hL9
     clear hL9
     have y0 := HZ.out.cell 0
     go_upto_if 41 with fail
     go_cut [3] (fun ok wx => ∃ o : ByteArray, ok = .string o ∧ Hid (o.data.toList = L9 ++ own) ∧ Hid (Below wc.heap.size wc wx))
     case first =>
      obtain ⟨bE, hbE⟩ : ∃ bE, bE = z.nm.toList.isEmpty := ⟨_, rfl⟩
      rw [← hbE]
      have HBE := Lib.hid hbE
      clear hbE
      cases bE
      case true =>
       have HOW := Lib.hid (show own = Lib.decDigits z.num.toNat from by
        rw [hown, if_pos]
        have h9 := HBE.out.symm
        rw [toList_data] at h9
        exact List.isEmpty_iff.1 h9)
       clear hown
       have y1 := HZ.out.cell 1
       go_wp2_with fail
       refine (rdig_any z.num hkn.1 hkn.2 wc).mono ?_
       rintro e we ⟨rfl, qe⟩
       obtain ⟨tq, htq⟩ : ∃ o, o = bS (Lib.decDigits z.num.toNat) := ⟨_, rfl⟩
       rw [← htq]
       have hzt : tq.size ≤ 100 := by rw [htq, bs_size, ← HOW.out]; exact hkl
       have HFI := Lib.hid (show (oa ++ tq).data.toList = L9 ++ own from by rw [htq, HOW.out]; exact cat_list HOa.out rfl)
       have HQe := Lib.hid qe
       clear htq qe y1
       go_wp2_with fail
       go_meet
       exact ⟨_, rfl, HFI, HQe⟩
      case false =>
       have HFI := Lib.hid (show (oa ++ z.nm).data.toList = L9 ++ own from by
        rw [hown, if_neg]
        · exact cat_list HOa.out rfl
        · intro e
          have h9 := HBE.out
          rw [toList_data, e] at h9
          cases h9)
       clear hown
       go_wp2_with fail
       go_meet
       exact ⟨_, rfl, HFI, Lib.hid (Below.refl _ _)⟩
     case rest =>
     clear y0
     obtain ⟨ob, rfl, HOb, HQb⟩ := hcut
     rename_i wb
     have hzb := szo HOb.out (K := 3004000) (by rw [List.length_append, ← HOa.out]; have h9 : oa.data.toList.length = oa.size := rfl; omega)
     have HZb := Lib.hid (HZ.out.ca HQb.out)
     have HQ1b := Lib.hid (bl_ca HQ1z.out HQb.out)
     have y2 := HZb.out.cell 2
     cases hd : z.desc
     · have HFI := Lib.hid (show ob.data.toList = P0 ++ rowR wORDERBY ((q.keys.take (i + 1)).map keyP) from by
        rw [HOb.out, HJT.out, HKY.out, HL9.out, hd, if_neg (show ¬ (false = true) by decide), List.append_nil]
        simp only [List.append_assoc])
       rw [hd] at HZb
       have y3 := HZb.out.cell 2
       clear hd y2
       go_wp2_with fail
       go_roundg (gk - 1)
       · exact ⟨i + 1, _, by omega, by go_num, rfl, HFI, HQ1b⟩
       · omega
     · have HFI := Lib.hid (show (ob ++ (⟨#[32, 68, 69, 83, 67]⟩ : ByteArray)).data.toList = P0 ++ rowR wORDERBY ((q.keys.take (i + 1)).map keyP) from by
        rw [cat_list HOb.out (show (⟨#[32, 68, 69, 83, 67]⟩ : ByteArray).data.toList = wDESC from rfl), HJT.out, HKY.out, HL9.out, hd, if_pos (show true = true from rfl)]
        simp only [List.append_assoc])
       rw [hd] at HZb
       have y3 := HZb.out.cell 2
       clear hd y2
       go_wp2_with fail
       go_roundg (gk - 1)
       · exact ⟨i + 1, _, by omega, by go_num, rfl, HFI, HQ1b⟩
       · omega
   · have hi1 : ¬ ((i : Int) < (m : Int)) := by omega
     have hie : i = m := by omega
     have HFI := Lib.hid (show o.data.toList = P1 from by rw [HOi.out, List.take_of_length_le (by rw [HLN.out.2]; omega), HP1.out])
     clear hie HOi
     go_wp2_with fail
     go_meet
     exact ⟨o, rfl, HFI, HQr⟩
 case rest =>
 clear HO1 HW2
 obtain ⟨o2, rfl, HO2, HW3⟩ := hcut
 obtain ⟨w3, rfl⟩ : ∃ x, x = wc := ⟨_, rfl⟩
 have hz2 := szo HO2.out l1
 have y2 := (HB1.out.ca HW3.out).cell 2
 by_cases hlm : 0 ≤ q.lim
 · obtain ⟨tq, htq⟩ : ∃ o, o = bS (Lib.decDigits q.lim.toNat) := ⟨_, rfl⟩
   have HTQ := Lib.hid htq
   have hzt : tq.size ≤ 100 := by rw [htq, bs_size]; exact dec_len _ (by have := HLM.out; omega)
   have hzq : ((⟨#[32, 76, 73, 77, 73, 84, 32]⟩ : ByteArray) ++ tq).size ≤ 110 := by
    rw [cat_size]
    have h9 : (⟨#[32, 76, 73, 77, 73, 84, 32]⟩ : ByteArray).size = 7 := rfl
    omega
   have HFI := Lib.hid (show o2 ++ ((⟨#[32, 76, 73, 77, 73, 84, 32]⟩ : ByteArray) ++ tq) = bS (prQ q) from bS_of (by
    rw [HPQ.out, if_pos hlm, htq]
    exact cat_list HO2.out (cat_list rfl rfl)))
   clear htq
   go_wp2_with fail
   refine (rdig_any q.lim hlm (by have := HLM.out; omega) w3).mono ?_
   rintro e we ⟨rfl, qe⟩
   rw [← HTQ.out]
   have HQF := Lib.hid (bl_ca HQ1.out (bl_ca HW3.out qe))
   clear qe
   go_wp2
   go_ret
   exact ⟨by rw [← HFI.out]; rfl, HQF.out⟩
 · have HFI := Lib.hid (show o2 = bS (prQ q) from bS_of (by rw [HPQ.out, if_neg hlm, List.append_nil]; exact HO2.out))
   have HQF := Lib.hid (bl_ca HQ1.out HW3.out)
   go_wp2
   go_ret
   exact ⟨by rw [← HFI.out]; rfl, HQF.out⟩
end Go.Proofs.YtoaggmldekejoaaGreatDoor
/- What the law's wakes comes to, in plain Lean. Conditions: none. -/
namespace Go.Proofs.YtoaggmldekejoaaGreatDoor
def p1 : Py := ⟨1, 2, 1, 0, eB, eB, eB⟩
def pA (b : UInt8) : Py := ⟨2, 0, 0, 0, eB, eB, bS [b]⟩
def N1 : List Nd := [⟨p1, -1, -1⟩]
def NA (b : UInt8) : List Nd := [⟨pA b, -1, -1⟩]
def N2 : List Nd := [⟨pA 97, -1, -1⟩, ⟨p1, -1, -1⟩, ⟨zP 12, 0, 1⟩]
def N3 : List Nd := [⟨pA 97, -1, -1⟩, ⟨p1, -1, -1⟩, ⟨zP 12, 0, 1⟩, ⟨pA 98, -1, -1⟩, ⟨zP 16, 2, 3⟩]
def T3 : Tr := .two (zP 16) (.two (zP 12) (.leaf (pA 97)) (.leaf p1)) (.leaf (pA 98))
theorem w1E : madeE p1 [] = 0 := by decide +kernel
theorem w1R : madeR p1 [] = N1 := by decide +kernel
theorem w2E : madeE (zP 12) [NA 97, N1] = 0 := by decide +kernel
theorem w2R : madeR (zP 12) [NA 97, N1] = N2 := by decide +kernel
theorem w3E : madeE (zP 16) [N2, NA 98] = 0 := by decide +kernel
theorem w3R : madeR (zP 16) [N2, NA 98] = N3 := by decide +kernel
theorem w3T : treeF cntB N3 = some T3 := rfl
theorem w3O : okF N3 = true := okF_of w3T
theorem w3D : depF N3 = 3 := by rw [depF_of w3T]; rfl
theorem w3P : prT T3 = [40, 97, 32, 43, 32, 49, 41, 32, 61, 32, 98] := by
 have h1 : Lib.decDigits 1 = [49] := by rw [Lib.decDigits]; rfl
 have h2 : leafU p1 = [49] := by
  show Lib.decDigits (1 : Int).toNat = [49]
  exact h1
 unfold T3
 rw [pr_two, par_bare (show bareT (.leaf (pA 98)) = true from rfl), par_not (show bareT (.two (zP 12) (.leaf (pA 97)) (.leaf p1)) = false from rfl), pr_two, par_bare (show bareT (.leaf (pA 97)) = true from rfl), par_bare (show bareT (.leaf p1) = true from rfl), pr_leaf, pr_leaf, pr_leaf, h2]
 rfl
end Go.Proofs.YtoaggmldekejoaaGreatDoor
