/- The reference's writing of trees. Conditions: the nodes read so. -/
import Derived.Test.YtoaggmldekejoaaGreatDoorPkQ21
namespace Go.Proofs.YtoaggmldekejoaaGreatDoor
open Go.RowKit
set_option maxRecDepth 100000 in
set_option maxHeartbeats 4000000 in
theorem rname_any (tb nm : ByteArray) (h1 : tb.size ≤ 100000) (h2 : nm.size ≤ 100000) (w : World) : Calls Tryz.prog 72 #[.string tb, .string nm] w fun e w' => e = .returned (.string (bS (namU tb.data.toList nm.data.toList))) ∧ w = w' := by
 have HF := Lib.hid (show namU tb.data.toList nm.data.toList = if tb.data.toList = [] then nm.data.toList else tb.data.toList ++ (46 :: nm.data.toList) from rfl)
 generalize namU tb.data.toList nm.data.toList = r at *
 by_cases h0 : tb.data.toList = []
 · have HR := Lib.hid (show nm = bS r from bS_of (by rw [HF.out, if_pos h0]))
   obtain rfl := ba_e h0
   clear HF h0
   go_enter Tryz.func72, Tryz.ntmps72
   go_wp2
   go_ret
   exact ⟨by rw [← HR.out]; rfl, rfl⟩
 · have HR := Lib.hid (show (tb ++ ⟨#[46]⟩) ++ nm = bS r from bS_of (by rw [HF.out, if_neg h0, ByteArray.data_append, Array.toList_append, ByteArray.data_append, Array.toList_append, List.append_assoc]; rfl))
   have e1 : tb.toList.isEmpty = false := by
    rw [toList_data]
    cases h : tb.data.toList with
    | nil => exact absurd h h0
    | cons a l => rfl
   have e2 : (tb.toList == []) = false := by rw [toList_data, beq_eq_false_iff_ne]; exact h0
   have e3 : ¬ tb.toList = [] := by rw [toList_data]; exact h0
   have hz : (tb ++ ⟨#[46]⟩ : ByteArray).size ≤ 100001 := by rw [ByteArray.size_append]; have h1 : (⟨#[46]⟩ : ByteArray).size = 1 := rfl; omega
   clear HF h0
   go_enter Tryz.func72, Tryz.ntmps72
   go_wp2
   go_ret
   exact ⟨by rw [← HR.out]; rfl, rfl⟩
def sgsV : Array Value := #[.string ⟨#[]⟩, .string ⟨#[]⟩, .string ⟨#[67, 79, 85, 78, 84, 40, 42, 41]⟩, .string ⟨#[45]⟩, .string ⟨#[78, 79, 84]⟩, .string ⟨#[73, 83, 32, 78, 85, 76, 76]⟩, .string ⟨#[73, 83, 32, 78, 79, 84, 32, 78, 85, 76, 76]⟩, .string ⟨#[67, 79, 85, 78, 84]⟩, .string ⟨#[83, 85, 77]⟩, .string ⟨#[77, 73, 78]⟩, .string ⟨#[77, 65, 88]⟩, .string ⟨#[43]⟩, .string ⟨#[45]⟩, .string ⟨#[42]⟩, .string ⟨#[47]⟩, .string ⟨#[61]⟩, .string ⟨#[60, 62]⟩, .string ⟨#[60]⟩, .string ⟨#[60, 61]⟩, .string ⟨#[62]⟩, .string ⟨#[62, 61]⟩, .string ⟨#[65, 78, 68]⟩, .string ⟨#[79, 82]⟩]
set_option maxRecDepth 100000 in
theorem sgs_ix (W : World) : ∀ (j : Nat), j < 23 → (Instr.index 150 (.agg sgsV) (.int .i64 (j : Int))).run Tryz.prog W = .ok (.string (bS (sgs.getD j []))) W
 | 0, _ => by kernel_rfl
 | 1, _ => by kernel_rfl
 | 2, _ => by kernel_rfl
 | 3, _ => by kernel_rfl
 | 4, _ => by kernel_rfl
 | 5, _ => by kernel_rfl
 | 6, _ => by kernel_rfl
 | 7, _ => by kernel_rfl
 | 8, _ => by kernel_rfl
 | 9, _ => by kernel_rfl
 | 10, _ => by kernel_rfl
 | 11, _ => by kernel_rfl
 | 12, _ => by kernel_rfl
 | 13, _ => by kernel_rfl
 | 14, _ => by kernel_rfl
 | 15, _ => by kernel_rfl
 | 16, _ => by kernel_rfl
 | 17, _ => by kernel_rfl
 | 18, _ => by kernel_rfl
 | 19, _ => by kernel_rfl
 | 20, _ => by kernel_rfl
 | 21, _ => by kernel_rfl
 | 22, _ => by kernel_rfl
 | _ + 23, h => absurd h (by omega)
set_option maxRecDepth 100000 in
set_option maxHeartbeats 8000000 in
theorem rsign_any (tk : Nat) (h1 : 1 ≤ tk) (h2 : tk ≤ 23) (w : World) : Calls Tryz.prog 70 #[.int .i64 (tk : Int)] w fun e w' => e = .returned (.string (bS (sgL (tk : Int)))) ∧ w = w' := by
 obtain ⟨j, rfl⟩ : ∃ j, tk = j + 1 := ⟨tk - 1, by omega⟩
 have hix := fun W => sgs_ix W j (by omega)
 have HR := Lib.hid (show sgL ((j + 1 : Nat) : Int) = sgs.getD j [] from by unfold sgL; rw [Int.toNat_natCast, Nat.add_sub_cancel])
 rw [HR.out]
 generalize bS (sgs.getD j []) = r at *
 obtain ⟨z, hz⟩ : ∃ z : Int, z = ((j + 1 : Nat) : Int) := ⟨_, rfl⟩
 rw [← hz]
 have e1 : z - 1 = (j : Int) := by omega
 have e2 : (j : Int) ≤ 22 := by omega
 clear hz HR
 unfold sgsV at hix
 go_enter Tryz.func70, Tryz.ntmps70
 go_wp2
 go_ret
 exact ⟨rfl, rfl⟩
def NodeR (F : Nat → Prop) (xs : List Nd) (A : Option Addr) (n c : Nat) (u : Tr) (o : Nat) : Prop :=
 ∀ w, LN.rd w F A n xs → Calls Tryz.prog 31 #[.agg #[.slice A n c], .int .i64 ((o + u.size - 1 : Nat) : Int)] w fun e w' => e = .returned (.string (bS (prT u))) ∧ Below w.heap.size w w'
def PartR (F : Nat → Prop) (xs : List Nd) (A : Option Addr) (n c : Nat) (u : Tr) (o : Nat) : Prop :=
 ∀ w, LN.rd w F A n xs → Calls Tryz.prog 73 #[.agg #[.slice A n c], .int .i64 ((o + u.size - 1 : Nat) : Int)] w fun e w' => e = .returned (.string (bS (parT u))) ∧ Below w.heap.size w w'
set_option maxRecDepth 100000 in
theorem rpart_of {F : Nat → Prop} {xs : List Nd} {A : Option Addr} {n c : Nat} {u : Tr} {o : Nat} (h : NodeR F xs A n c u o) (hl : LiesAt xs u o) (hok : u.ok cntB = true) (hz : (prT u).length ≤ 100000) : PartR F xs A n c u o := by
 intro w hc
 have hp := u.size_pos
 have hr := lies_root hl
 obtain ⟨i, hi⟩ : ∃ i, i = o + u.size - 1 := ⟨_, rfl⟩
 unfold NodeR at h
 rw [← hi] at h hr ⊢
 have hin : i < n := by
  have := (List.getElem?_eq_some_iff.1 hr).1
  rw [Lay.rd_len hc] at this
  exact this
 have HQ := Lib.hid (bl_al (Below.refl w.heap.size w) (.cells #[.slice A n c] 26))
 have HBT := Lib.hid (Blk.new w 26 #[.slice A n c])
 have HC := Lib.hid (Lay.rd_below hc HQ.out)
 have HN := Lib.hid (h _ HC.out)
 have HPT := Lib.hid (show parT u = if bareT u then prT u else 40 :: (prT u ++ [41]) from rfl)
 obtain ⟨tg, htg⟩ : ∃ tg, tg = (u.node o).p.tag := ⟨_, rfl⟩
 have HTG := Lib.hid htg
 have hbare := bare_tag hok
 rw [← node_pay o, ← htg] at hbare
 have HBA := Lib.hid hbare
 have hzz : (bS (prT u)).size ≤ 100000 := by rw [bs_size]; exact hz
 have HAP := Lib.hid (show (⟨#[40]⟩ ++ bS (prT u)) ++ ⟨#[41]⟩ = bS (40 :: (prT u ++ [41])) from bS_of (by rw [ByteArray.data_append, Array.toList_append, ByteArray.data_append, Array.toList_append]; rfl))
 have hz2 : (⟨#[40]⟩ ++ bS (prT u) : ByteArray).size ≤ 100001 := by rw [ByteArray.size_append]; have h1 : (⟨#[40]⟩ : ByteArray).size = 1 := rfl; omega
 have HRT := Lib.hid hr
 clear hc h hr hp hi hok hz htg hbare hl
 obtain ⟨Z, hZ⟩ : ∃ Z, Z = bS (prT u) := ⟨_, rfl⟩
 rw [← hZ] at hzz HAP hz2 HN
 have HZZ := Lib.hid hZ
 clear hZ
 have c1 := HBT.out.cell 0
 simp at c1
 go_enter Tryz.func73, Tryz.ntmps73
 go_wp2_with fail
 generalize w.alloc (.cells #[.slice A n c] 26) = w1 at *
 refine HN.out.mono ?_
 rintro e w2 ⟨rfl, q2⟩
 have HC2 := Lib.hid (Lay.rd_below HC.out q2)
 have HQ2 := Lib.hid (bl_ca HQ.out q2)
 have c3 := (HBT.out.ca q2).cell 0
 simp at c3
 obtain ⟨p3, x, hAe, hx, s3⟩ := LN_at HC2.out hin
 obtain rfl : A = some p3 := hAe
 have hxe := at_eq HRT.out hx
 subst hxe
 have s0 := s3.c0
 rw [← HTG.out] at s0
 have hin2 : (i : Int) < (n : Int) := by omega
 have HP := Lib.hid (fun W => rparts_any tg W)
 obtain ⟨kk, hkk⟩ : ∃ kk, kk = partsI tg := ⟨_, rfl⟩
 rw [← hkk] at HP HBA
 clear hkk
 clear q2 c1 s3 hx HN
 go_wp2_with fail
 refine (HP.out _).mono ?_
 rintro e w9 ⟨rfl, rfl⟩
 have HB1 := Lib.hid (fun (h : bareT u = true) => show Ending.returned (.string Z) = Ending.returned (.string (bS (parT u))) from by rw [HPT.out, if_pos h, HZZ.out])
 have HB0 := Lib.hid (fun (h : bareT u = false) => show Ending.returned (.string ((⟨#[40]⟩ ++ Z) ++ ⟨#[41]⟩)) = Ending.returned (.string (bS (parT u))) from by rw [HPT.out, if_neg (by rw [h]; decide), HAP.out])
 clear HP c3 s0
 by_cases k0 : kk = 0
 · subst k0
   have HF := Lib.hid (HB1.out (HBA.out.1 rfl))
   go_wp2
   go_ret
   exact ⟨HF.out, HQ2.out⟩
 · have k0' : (kk == 0) = false := by simpa using k0
   have kp : 0 < kk := by have := HBA.out.2.2.2.2; omega
   by_cases t8 : tg < 8
   · have HF := Lib.hid (HB0.out (HBA.out.2.1 kp t8))
     clear k0
     go_wp2
     go_ret
     exact ⟨HF.out, HQ2.out⟩
   · have t8' : 8 ≤ tg := by omega
     by_cases t11 : 11 < tg
     · have HF := Lib.hid (HB0.out (HBA.out.2.2.2.1 t11))
       clear t8 k0
       go_wp2
       go_ret
       exact ⟨HF.out, HQ2.out⟩
     · have t11' : tg ≤ 11 := by omega
       have HF := Lib.hid (HB1.out (HBA.out.2.2.1 t8' t11'))
       clear t8 t11 k0
       go_wp2
       go_ret
       exact ⟨HF.out, HQ2.out⟩
theorem leaf_small {p : Py} (h : cntB p = true) (h0 : partsI p.tag = 0) (hr : RgP p) : p.s.size ≤ 100000 ∧ (p.k = 2 → 0 ≤ p.n ∧ p.n ≤ 9223372036854775807) := by
 rcases leaf_cases h h0 with rfl | rfl | rfl | ⟨n, rfl⟩ | ⟨s, rfl⟩ | ⟨tb, nm, rfl, hn, ht⟩ | rfl
 · exact ⟨by decide, by decide⟩
 · exact ⟨by decide, by decide⟩
 · exact ⟨by decide, by decide⟩
 · exact ⟨by show eB.size ≤ 100000; decide, fun _ => ⟨by show 0 ≤ (n : Int); omega, hr⟩⟩
 · have hs : s.size ≤ 40 := by
    unfold cntB at h
    rw [if_pos rfl] at h
    simp only [Bool.and_eq_true] at h
    have h3 := h.2.2.1
    unfold plainV at h3
    simp only at h3
    rw [if_neg (by decide), if_neg (by decide), if_neg (by decide)] at h3
    exact (of_decide_eq_true h3).2.2.2
   exact ⟨by show s.size ≤ 100000; omega, fun h2 => absurd h2 (by show ¬ (3 : Int) = 2; decide)⟩
 · exact ⟨by show eB.size ≤ 100000; decide, fun h2 => absurd h2 (by show ¬ (0 : Int) = 2; decide)⟩
 · exact ⟨by decide, by decide⟩
set_option maxRecDepth 100000 in
theorem rnode_leaf {F : Nat → Prop} {xs : List Nd} {A : Option Addr} {n c : Nat} {p : Py} {o : Nat} (hl : LiesAt xs (.leaf p) o) (hok : (Tr.leaf p).ok cntB = true) (hr : RgP p) : NodeR F xs A n c (.leaf p) o := by
 intro w hc
 have hrt := lies_root hl
 obtain ⟨h0, hcb⟩ := ok_leaf hok
 have hs : o + (Tr.leaf p).size - 1 = o := by show o + 1 - 1 = o; omega
 rw [hs] at hrt ⊢
 have hin : o < n := by
  have := (List.getElem?_eq_some_iff.1 hrt).1
  rw [Lay.rd_len hc] at this
  exact this
 obtain ⟨p3, x, hAe, hx, s3⟩ := LN_at hc hin
 obtain rfl : A = some p3 := hAe
 have hxe := at_eq hrt hx
 subst hxe
 have e0 : w.cell? (p3.add (o * 9)) = some (.int .i64 p.tag) := s3.c0
 have e1 : w.cell? ⟨(p3.add (o * 9)).block, (p3.add (o * 9)).off + 1, none⟩ = some (.int .i64 (-1)) := s3.c1
 have e2 : w.cell? ⟨(p3.add (o * 9)).block, (p3.add (o * 9)).off + 2, none⟩ = some (.int .i64 (-1)) := s3.c2
 have e3 : w.cell? ⟨(p3.add (o * 9)).block, (p3.add (o * 9)).off + 3, none⟩ = some (.int .i64 p.k) := s3.c3
 have e4 : w.cell? ⟨(p3.add (o * 9)).block, (p3.add (o * 9)).off + 4, none⟩ = some (.int .i64 p.n) := s3.c4
 have e5 : w.cell? ⟨(p3.add (o * 9)).block, (p3.add (o * 9)).off + 5, none⟩ = some (.int .u64 p.u) := s3.c5
 have e6 : w.cell? ⟨(p3.add (o * 9)).block, (p3.add (o * 9)).off + 6, none⟩ = some (.string p.s) := s3.c6
 have e7 : w.cell? ⟨(p3.add (o * 9)).block, (p3.add (o * 9)).off + 7, none⟩ = some (.string p.tb) := s3.c7
 have e8 : w.cell? ⟨(p3.add (o * 9)).block, (p3.add (o * 9)).off + 8, none⟩ = some (.string p.nm) := s3.c8
 have hin2 : (o : Int) < (n : Int) := by omega
 have HPR := Lib.hid (pr_leaf p)
 have HLU := Lib.hid (show leafU p = if p.tag = 1 then litU p.k p.n p.s.data.toList else if p.tag = 2 then namU p.tb.data.toList p.nm.data.toList else sgL p.tag from rfl)
 rw [HPR.out]
 have HVP := Lib.hid (fun W => rprint_any p.k p.n p.u p.s W (leaf_small hcb h0 hr).2 (leaf_small hcb h0 hr).1)
 have hnm : p.tag = 2 → p.tb.size ≤ 100000 ∧ p.nm.size ≤ 100000 := fun h2 => by
  unfold cntB at hcb
  rw [if_neg (by omega), if_pos h2] at hcb
  simp only [Bool.and_eq_true, Bool.or_eq_true, decide_eq_true_eq] at hcb
  obtain ⟨_, h5, h6⟩ := hcb
  have := name_len h5
  refine ⟨?_, by omega⟩
  rcases h6 with h6 | h6
  · rw [← len_data, h6]; decide
  · have := name_len h6; omega
 have HNM := Lib.hid hnm
 generalize leafU p = R at *
 obtain ⟨tg, k, nn, u, s, tb, nm⟩ := p
 simp only at *
 have htg : tg = 1 ∨ tg = 2 ∨ tg = 3 := by
  unfold partsI at h0; split at h0; omega; split at h0; omega; split at h0; omega; split at h0 <;> omega
 have HC := Lib.hid hc
 clear hc hrt hx hs s3 h0 hcb hok hl hr hnm HPR
 have HQ := Lib.hid (bl_al (bl_al (Below.refl w.heap.size w) (.cells #[.slice (some p3) n c] 26)) (.cells #[.int .i64 tg, .int .i64 (-1), .int .i64 (-1), .int .i64 k, .int .i64 nn, .int .u64 u, .string s, .string tb, .string nm] 57))
 have HBT := Lib.hid ((Blk.new w 26 #[.slice (some p3) n c]).alloc (.cells #[.int .i64 tg, .int .i64 (-1), .int .i64 (-1), .int .i64 k, .int .i64 nn, .int .u64 u, .string s, .string tb, .string nm] 57))
 have HB := Lib.hid (show Blk ((w.alloc (.cells #[.slice (some p3) n c] 26)).alloc (.cells #[.int .i64 tg, .int .i64 (-1), .int .i64 (-1), .int .i64 k, .int .i64 nn, .int .u64 u, .string s, .string tb, .string nm] 57)) (w.heap.size + 1) 57 #[.int .i64 tg, .int .i64 (-1), .int .i64 (-1), .int .i64 k, .int .i64 nn, .int .u64 u, .string s, .string tb, .string nm] from by
  have := Blk.new (w.alloc (.cells #[.slice (some p3) n c] 26)) 57 #[.int .i64 tg, .int .i64 (-1), .int .i64 (-1), .int .i64 k, .int .i64 nn, .int .u64 u, .string s, .string tb, .string nm]
  rwa [World.size_alloc] at this)
 have HQT := Lib.hid (bl_al (Below.refl w.heap.size w) (.cells #[.slice (some p3) n c] 26))
 have e0 := ce e0 HQT.out
 have e1 := ce e1 HQT.out
 have e2 := ce e2 HQT.out
 have e3 := ce e3 HQT.out
 have e4 := ce e4 HQT.out
 have e5 := ce e5 HQT.out
 have e6 := ce e6 HQT.out
 have e7 := ce e7 HQT.out
 have e8 := ce e8 HQT.out
 go_enter Tryz.func31, Tryz.ntmps31
 go_upto_region 2 with fail
 generalize (w.alloc (.cells #[.slice (some p3) n c] 26)).alloc (.cells #[.int .i64 tg, .int .i64 (-1), .int .i64 (-1), .int .i64 k, .int .i64 nn, .int .u64 u, .string s, .string tb, .string nm] 57) = w1 at *
 clear e0 e1 e2 e3 e4 e5 e6 e7 e8 HQT
 have HC1 := Lib.hid (Lay.rd_below HC.out HQ.out)
 have e0 := HB.out.cell 0
 have e3 := HB.out.cell 3
 have e4 := HB.out.cell 4
 have e5 := HB.out.cell 5
 have e6 := HB.out.cell 6
 have e7 := HB.out.cell 7
 have e8 := HB.out.cell 8
 simp at e0 e3 e4 e5 e6 e7 e8
 rcases htg with rfl | rfl | rfl
 · have HS : Hid (∀ W, Calls Tryz.prog 70 #[.int .i64 1] W fun e w' => e = .returned (.string ⟨#[]⟩) ∧ W = w') := Lib.hid (fun W => rsign_any 1 (by omega) (by omega) W)
   have HR := Lib.hid (show bS R = bS (litU k nn s.data.toList) from by rw [HLU.out]; rfl)
   go_wp2_with fail
   refine (HS.out _).mono ?_
   rintro e w9 ⟨rfl, rfl⟩
   go_wp2_with fail
   refine (HVP.out _).mono ?_
   rintro e w2 ⟨rfl, q2⟩
   have HQ2 := Lib.hid (bl_ca HQ.out q2)
   clear q2 e0 e3 e4 e5 e6 e7 e8
   go_wp2
   go_ret
   exact ⟨by rw [HR.out]; rfl, HQ2.out⟩
 · have HS : Hid (∀ W, Calls Tryz.prog 70 #[.int .i64 2] W fun e w' => e = .returned (.string ⟨#[]⟩) ∧ W = w') := Lib.hid (fun W => rsign_any 2 (by omega) (by omega) W)
   have HR := Lib.hid (show bS R = bS (namU tb.data.toList nm.data.toList) from by rw [HLU.out]; rfl)
   have hnm := HNM.out rfl
   go_wp2_with fail
   refine (HS.out _).mono ?_
   rintro e w9 ⟨rfl, rfl⟩
   go_wp2_with fail
   refine (rname_any tb nm hnm.1 hnm.2 _).mono ?_
   rintro e w2 ⟨rfl, rfl⟩
   clear e0 e3 e4 e5 e6 e7 e8
   go_wp2
   go_ret
   exact ⟨by rw [HR.out]; rfl, HQ.out⟩
 · have HS : Hid (∀ W, Calls Tryz.prog 70 #[.int .i64 3] W fun e w' => e = .returned (.string ⟨#[67, 79, 85, 78, 84, 40, 42, 41]⟩) ∧ W = w') := Lib.hid (fun W => rsign_any 3 (by omega) (by omega) W)
   have HR := Lib.hid (show bS R = bS [67, 79, 85, 78, 84, 40, 42, 41] from by rw [HLU.out]; rfl)
   go_wp2_with fail
   refine (HS.out _).mono ?_
   rintro e w9 ⟨rfl, rfl⟩
   go_wp2
   go_ret
   exact ⟨by rw [HR.out]; rfl, HQ.out⟩
set_option maxRecDepth 100000 in
set_option maxHeartbeats 8000000 in
theorem rnode_one {F : Nat → Prop} {xs : List Nd} {A : Option Addr} {n c : Nat} {p : Py} {a : Tr} {o : Nat} (hN : NodeR F xs A n c a o) (hP : PartR F xs A n c a o) (hl : LiesAt xs (.one p a) o) (hok : (Tr.one p a).ok cntB = true) (hz : (prT a).length ≤ 99000) : NodeR F xs A n c (.one p a) o := by
 obtain ⟨hpt, hcb, _⟩ := ok_one hok
 obtain ⟨tg, htp, _⟩ := one_zero hcb (.inl hpt)
 subst htp
 intro w hc
 have hrt := lies_root hl
 have hap := a.size_pos
 have htg := tag_one hpt
 change 4 ≤ tg ∧ tg ≤ 11 at htg
 unfold NodeR at hN
 unfold PartR at hP
 obtain ⟨i, hi⟩ : ∃ i, i = o + (Tr.one (zP tg) a).size - 1 := ⟨_, rfl⟩
 obtain ⟨i1, hi1⟩ : ∃ i1, i1 = o + a.size - 1 := ⟨_, rfl⟩
 rw [← hi] at hrt ⊢
 rw [← hi1] at hN hP
 have hin : i < n := by
  have := (List.getElem?_eq_some_iff.1 hrt).1
  rw [Lay.rd_len hc] at this
  exact this
 obtain ⟨p3, x, hAe, hx, s3⟩ := LN_at hc hin
 obtain rfl : A = some p3 := hAe
 have hxe := at_eq hrt hx
 subst hxe
 have hL : ((Tr.one (zP tg) a).node o).l = (i1 : Int) := by show ((o + a.size : Nat) : Int) - 1 = _; omega
 have e0 : w.cell? (p3.add (i * 9)) = some (.int .i64 tg) := s3.c0
 have e1 : w.cell? ⟨(p3.add (i * 9)).block, (p3.add (i * 9)).off + 1, none⟩ = some (.int .i64 (i1 : Int)) := by rw [← hL]; exact s3.c1
 have e2 : w.cell? ⟨(p3.add (i * 9)).block, (p3.add (i * 9)).off + 2, none⟩ = some (.int .i64 (-1)) := s3.c2
 have e3 : w.cell? ⟨(p3.add (i * 9)).block, (p3.add (i * 9)).off + 3, none⟩ = some (.int .i64 0) := s3.c3
 have e4 : w.cell? ⟨(p3.add (i * 9)).block, (p3.add (i * 9)).off + 4, none⟩ = some (.int .i64 0) := s3.c4
 have e5 : w.cell? ⟨(p3.add (i * 9)).block, (p3.add (i * 9)).off + 5, none⟩ = some (.int .u64 0) := s3.c5
 have e6 : w.cell? ⟨(p3.add (i * 9)).block, (p3.add (i * 9)).off + 6, none⟩ = some (.string eB) := s3.c6
 have e7 : w.cell? ⟨(p3.add (i * 9)).block, (p3.add (i * 9)).off + 7, none⟩ = some (.string eB) := s3.c7
 have e8 : w.cell? ⟨(p3.add (i * 9)).block, (p3.add (i * 9)).off + 8, none⟩ = some (.string eB) := s3.c8
 have hin2 : (i : Int) < (n : Int) := by omega
 have HC := Lib.hid hc
 have HQ := Lib.hid (bl_al (bl_al (Below.refl w.heap.size w) (.cells #[.slice (some p3) n c] 26)) (.cells #[.int .i64 tg, .int .i64 (i1 : Int), .int .i64 (-1), .int .i64 0, .int .i64 0, .int .u64 0, .string eB, .string eB, .string eB] 57))
 have HBT := Lib.hid ((Blk.new w 26 #[.slice (some p3) n c]).alloc (.cells #[.int .i64 tg, .int .i64 (i1 : Int), .int .i64 (-1), .int .i64 0, .int .i64 0, .int .u64 0, .string eB, .string eB, .string eB] 57))
 have HB := Lib.hid (show Blk ((w.alloc (.cells #[.slice (some p3) n c] 26)).alloc (.cells #[.int .i64 tg, .int .i64 (i1 : Int), .int .i64 (-1), .int .i64 0, .int .i64 0, .int .u64 0, .string eB, .string eB, .string eB] 57)) (w.heap.size + 1) 57 #[.int .i64 tg, .int .i64 (i1 : Int), .int .i64 (-1), .int .i64 0, .int .i64 0, .int .u64 0, .string eB, .string eB, .string eB] from by
  have := Blk.new (w.alloc (.cells #[.slice (some p3) n c] 26)) 57 #[.int .i64 tg, .int .i64 (i1 : Int), .int .i64 (-1), .int .i64 0, .int .i64 0, .int .u64 0, .string eB, .string eB, .string eB]
  rwa [World.size_alloc] at this)
 have HN := Lib.hid hN
 have HP := Lib.hid hP
 have HZ := Lib.hid hz
 have HPA := Lib.hid (par_len a)
 have HPRE := Lib.hid (fun (h : tg ≤ 5) => show bS (sgL tg ++ (32 :: parT a)) = bS (prT (.one (zP tg) a)) from by rw [pr_pre h])
 have HPOST := Lib.hid (fun (h : 6 ≤ tg) (h2 : tg ≤ 7) => show bS (parT a ++ (32 :: sgL tg)) = bS (prT (.one (zP tg) a)) from by rw [pr_post h h2])
 have HAGG := Lib.hid (fun (h : 8 ≤ tg) => show bS (sgL tg ++ (40 :: (prT a ++ [41]))) = bS (prT (.one (zP tg) a)) from by rw [pr_agg h])
 generalize prT (.one (zP tg) a) = R at *
 obtain ⟨ZN, hZN⟩ : ∃ Z, Z = bS (prT a) := ⟨_, rfl⟩
 obtain ⟨ZP, hZP⟩ : ∃ Z, Z = bS (parT a) := ⟨_, rfl⟩
 rw [← hZN] at HN
 rw [← hZP] at HP
 have hsn : ZN.size ≤ 99000 := by rw [hZN, bs_size]; exact hz
 have hsp : ZP.size ≤ 99002 := by rw [hZP, bs_size]; have := HPA.out; omega
 have HZN := Lib.hid hZN
 have HZP := Lib.hid hZP
 clear hc hrt hx s3 hcb hok hl hN hP hz hZN hZP hpt hi hi1 hL hap
 have HQT := Lib.hid (bl_al (Below.refl w.heap.size w) (.cells #[.slice (some p3) n c] 26))
 have e0 := ce e0 HQT.out
 have e1 := ce e1 HQT.out
 have e2 := ce e2 HQT.out
 have e3 := ce e3 HQT.out
 have e4 := ce e4 HQT.out
 have e5 := ce e5 HQT.out
 have e6 := ce e6 HQT.out
 have e7 := ce e7 HQT.out
 have e8 := ce e8 HQT.out
 go_enter Tryz.func31, Tryz.ntmps31
 go_upto_region 2 with fail
 generalize (w.alloc (.cells #[.slice (some p3) n c] 26)).alloc (.cells #[.int .i64 tg, .int .i64 (i1 : Int), .int .i64 (-1), .int .i64 0, .int .i64 0, .int .u64 0, .string eB, .string eB, .string eB] 57) = w1 at *
 clear e0 e1 e2 e3 e4 e5 e6 e7 e8 HQT
 have HC1 := Lib.hid (Lay.rd_below HC.out HQ.out)
 have e0 := HB.out.cell 0
 have e1 := HB.out.cell 1
 have c1 := HBT.out.cell 0
 simp at e0 e1 c1
 obtain ⟨tk, htk⟩ : ∃ tk : Nat, tg = (tk : Int) := ⟨tg.toNat, by omega⟩
 subst htk
 have hcases : tk = 4 ∨ tk = 5 ∨ tk = 6 ∨ tk = 7 ∨ tk = 8 ∨ tk = 9 ∨ tk = 10 ∨ tk = 11 := by omega
 clear htg
 rcases hcases with rfl | rfl | rfl | rfl | rfl | rfl | rfl | rfl
 · have HS : Hid (∀ W, Calls Tryz.prog 70 #[.int .i64 4] W fun e w' => e = .returned (.string (bS [45])) ∧ W = w') := Lib.hid (fun W => rsign_any 4 (by omega) (by omega) W)
   have HF := Lib.hid (show (bS [45] ++ ⟨#[32]⟩) ++ ZP = bS R from by rw [← HPRE.out (by omega), HZP.out]; exact bS_of (by rw [ByteArray.data_append, Array.toList_append, ByteArray.data_append, Array.toList_append, List.append_assoc]; rfl))
   have hz2 : (bS [45] ++ ⟨#[32]⟩ : ByteArray).size ≤ 100 := by decide
   go_wp2_with fail
   refine (HS.out _).mono ?_
   rintro e w9 ⟨rfl, rfl⟩
   go_wp2_with fail
   refine (HP.out _ HC1.out).mono ?_
   rintro e w2 ⟨rfl, q2⟩
   have HQ2 := Lib.hid (bl_ca HQ.out q2)
   clear q2 e0 e1 c1
   go_wp2
   go_ret
   exact ⟨by rw [← HF.out]; rfl, HQ2.out⟩
 · have HS : Hid (∀ W, Calls Tryz.prog 70 #[.int .i64 5] W fun e w' => e = .returned (.string (bS [78, 79, 84])) ∧ W = w') := Lib.hid (fun W => rsign_any 5 (by omega) (by omega) W)
   have HF := Lib.hid (show (bS [78, 79, 84] ++ ⟨#[32]⟩) ++ ZP = bS R from by rw [← HPRE.out (by omega), HZP.out]; exact bS_of (by rw [ByteArray.data_append, Array.toList_append, ByteArray.data_append, Array.toList_append, List.append_assoc]; rfl))
   have hz2 : (bS [78, 79, 84] ++ ⟨#[32]⟩ : ByteArray).size ≤ 100 := by decide
   go_wp2_with fail
   refine (HS.out _).mono ?_
   rintro e w9 ⟨rfl, rfl⟩
   go_wp2_with fail
   refine (HP.out _ HC1.out).mono ?_
   rintro e w2 ⟨rfl, q2⟩
   have HQ2 := Lib.hid (bl_ca HQ.out q2)
   clear q2 e0 e1 c1
   go_wp2
   go_ret
   exact ⟨by rw [← HF.out]; rfl, HQ2.out⟩
 · have HS : Hid (∀ W, Calls Tryz.prog 70 #[.int .i64 6] W fun e w' => e = .returned (.string (bS [73, 83, 32, 78, 85, 76, 76])) ∧ W = w') := Lib.hid (fun W => rsign_any 6 (by omega) (by omega) W)
   have HF := Lib.hid (show (ZP ++ ⟨#[32]⟩) ++ bS [73, 83, 32, 78, 85, 76, 76] = bS R from by rw [← HPOST.out (by omega) (by omega), HZP.out]; exact bS_of (by rw [ByteArray.data_append, Array.toList_append, ByteArray.data_append, Array.toList_append, List.append_assoc]; rfl))
   have hz2 : (ZP ++ ⟨#[32]⟩ : ByteArray).size ≤ 99003 := by rw [ByteArray.size_append]; have h1 : (⟨#[32]⟩ : ByteArray).size = 1 := rfl; omega
   go_wp2_with fail
   refine (HS.out _).mono ?_
   rintro e w9 ⟨rfl, rfl⟩
   go_wp2_with fail
   refine (HP.out _ HC1.out).mono ?_
   rintro e w2 ⟨rfl, q2⟩
   have HQ2 := Lib.hid (bl_ca HQ.out q2)
   clear q2 e0 e1 c1
   go_wp2
   go_ret
   exact ⟨by rw [← HF.out]; rfl, HQ2.out⟩
 · have HS : Hid (∀ W, Calls Tryz.prog 70 #[.int .i64 7] W fun e w' => e = .returned (.string (bS [73, 83, 32, 78, 79, 84, 32, 78, 85, 76, 76])) ∧ W = w') := Lib.hid (fun W => rsign_any 7 (by omega) (by omega) W)
   have HF := Lib.hid (show (ZP ++ ⟨#[32]⟩) ++ bS [73, 83, 32, 78, 79, 84, 32, 78, 85, 76, 76] = bS R from by rw [← HPOST.out (by omega) (by omega), HZP.out]; exact bS_of (by rw [ByteArray.data_append, Array.toList_append, ByteArray.data_append, Array.toList_append, List.append_assoc]; rfl))
   have hz2 : (ZP ++ ⟨#[32]⟩ : ByteArray).size ≤ 99003 := by rw [ByteArray.size_append]; have h1 : (⟨#[32]⟩ : ByteArray).size = 1 := rfl; omega
   go_wp2_with fail
   refine (HS.out _).mono ?_
   rintro e w9 ⟨rfl, rfl⟩
   go_wp2_with fail
   refine (HP.out _ HC1.out).mono ?_
   rintro e w2 ⟨rfl, q2⟩
   have HQ2 := Lib.hid (bl_ca HQ.out q2)
   clear q2 e0 e1 c1
   go_wp2
   go_ret
   exact ⟨by rw [← HF.out]; rfl, HQ2.out⟩
 · have HS : Hid (∀ W, Calls Tryz.prog 70 #[.int .i64 8] W fun e w' => e = .returned (.string (bS [67, 79, 85, 78, 84])) ∧ W = w') := Lib.hid (fun W => rsign_any 8 (by omega) (by omega) W)
   have HF := Lib.hid (show ((bS [67, 79, 85, 78, 84] ++ ⟨#[40]⟩) ++ ZN) ++ ⟨#[41]⟩ = bS R from by rw [← HAGG.out (by omega), HZN.out]; exact bS_of (by rw [ByteArray.data_append, Array.toList_append, ByteArray.data_append, Array.toList_append, ByteArray.data_append, Array.toList_append, List.append_assoc, List.append_assoc]; rfl))
   have hz1 : (bS [67, 79, 85, 78, 84] ++ ⟨#[40]⟩ : ByteArray).size ≤ 100 := by decide
   have hz2 : ((bS [67, 79, 85, 78, 84] ++ ⟨#[40]⟩) ++ ZN : ByteArray).size ≤ 99100 := by rw [ByteArray.size_append]; omega
   go_wp2_with fail
   refine (HS.out _).mono ?_
   rintro e w9 ⟨rfl, rfl⟩
   go_wp2_with fail
   refine (HN.out _ HC1.out).mono ?_
   rintro e w2 ⟨rfl, q2⟩
   have HQ2 := Lib.hid (bl_ca HQ.out q2)
   clear q2 e0 e1 c1
   go_wp2
   go_ret
   exact ⟨by rw [← HF.out]; rfl, HQ2.out⟩
 · have HS : Hid (∀ W, Calls Tryz.prog 70 #[.int .i64 9] W fun e w' => e = .returned (.string (bS [83, 85, 77])) ∧ W = w') := Lib.hid (fun W => rsign_any 9 (by omega) (by omega) W)
   have HF := Lib.hid (show ((bS [83, 85, 77] ++ ⟨#[40]⟩) ++ ZN) ++ ⟨#[41]⟩ = bS R from by rw [← HAGG.out (by omega), HZN.out]; exact bS_of (by rw [ByteArray.data_append, Array.toList_append, ByteArray.data_append, Array.toList_append, ByteArray.data_append, Array.toList_append, List.append_assoc, List.append_assoc]; rfl))
   have hz1 : (bS [83, 85, 77] ++ ⟨#[40]⟩ : ByteArray).size ≤ 100 := by decide
   have hz2 : ((bS [83, 85, 77] ++ ⟨#[40]⟩) ++ ZN : ByteArray).size ≤ 99100 := by rw [ByteArray.size_append]; omega
   go_wp2_with fail
   refine (HS.out _).mono ?_
   rintro e w9 ⟨rfl, rfl⟩
   go_wp2_with fail
   refine (HN.out _ HC1.out).mono ?_
   rintro e w2 ⟨rfl, q2⟩
   have HQ2 := Lib.hid (bl_ca HQ.out q2)
   clear q2 e0 e1 c1
   go_wp2
   go_ret
   exact ⟨by rw [← HF.out]; rfl, HQ2.out⟩
 · have HS : Hid (∀ W, Calls Tryz.prog 70 #[.int .i64 10] W fun e w' => e = .returned (.string (bS [77, 73, 78])) ∧ W = w') := Lib.hid (fun W => rsign_any 10 (by omega) (by omega) W)
   have HF := Lib.hid (show ((bS [77, 73, 78] ++ ⟨#[40]⟩) ++ ZN) ++ ⟨#[41]⟩ = bS R from by rw [← HAGG.out (by omega), HZN.out]; exact bS_of (by rw [ByteArray.data_append, Array.toList_append, ByteArray.data_append, Array.toList_append, ByteArray.data_append, Array.toList_append, List.append_assoc, List.append_assoc]; rfl))
   have hz1 : (bS [77, 73, 78] ++ ⟨#[40]⟩ : ByteArray).size ≤ 100 := by decide
   have hz2 : ((bS [77, 73, 78] ++ ⟨#[40]⟩) ++ ZN : ByteArray).size ≤ 99100 := by rw [ByteArray.size_append]; omega
   go_wp2_with fail
   refine (HS.out _).mono ?_
   rintro e w9 ⟨rfl, rfl⟩
   go_wp2_with fail
   refine (HN.out _ HC1.out).mono ?_
   rintro e w2 ⟨rfl, q2⟩
   have HQ2 := Lib.hid (bl_ca HQ.out q2)
   clear q2 e0 e1 c1
   go_wp2
   go_ret
   exact ⟨by rw [← HF.out]; rfl, HQ2.out⟩
 · have HS : Hid (∀ W, Calls Tryz.prog 70 #[.int .i64 11] W fun e w' => e = .returned (.string (bS [77, 65, 88])) ∧ W = w') := Lib.hid (fun W => rsign_any 11 (by omega) (by omega) W)
   have HF := Lib.hid (show ((bS [77, 65, 88] ++ ⟨#[40]⟩) ++ ZN) ++ ⟨#[41]⟩ = bS R from by rw [← HAGG.out (by omega), HZN.out]; exact bS_of (by rw [ByteArray.data_append, Array.toList_append, ByteArray.data_append, Array.toList_append, ByteArray.data_append, Array.toList_append, List.append_assoc, List.append_assoc]; rfl))
   have hz1 : (bS [77, 65, 88] ++ ⟨#[40]⟩ : ByteArray).size ≤ 100 := by decide
   have hz2 : ((bS [77, 65, 88] ++ ⟨#[40]⟩) ++ ZN : ByteArray).size ≤ 99100 := by rw [ByteArray.size_append]; omega
   go_wp2_with fail
   refine (HS.out _).mono ?_
   rintro e w9 ⟨rfl, rfl⟩
   go_wp2_with fail
   refine (HN.out _ HC1.out).mono ?_
   rintro e w2 ⟨rfl, q2⟩
   have HQ2 := Lib.hid (bl_ca HQ.out q2)
   clear q2 e0 e1 c1
   go_wp2
   go_ret
   exact ⟨by rw [← HF.out]; rfl, HQ2.out⟩
set_option maxRecDepth 100000 in
set_option maxHeartbeats 8000000 in
theorem rnode_two {F : Nat → Prop} {xs : List Nd} {A : Option Addr} {n c : Nat} {p : Py} {a b : Tr} {o : Nat} (hP : PartR F xs A n c a o) (hP2 : PartR F xs A n c b (o + a.size)) (hl : LiesAt xs (.two p a b) o) (hok : (Tr.two p a b).ok cntB = true) (hz : (prT a).length ≤ 99000) (hz2 : (prT b).length ≤ 99000) : NodeR F xs A n c (.two p a b) o := by
 obtain ⟨hpt, hcb, _⟩ := ok_two hok
 obtain ⟨tg, htp, _⟩ := one_zero hcb (.inr hpt)
 subst htp
 intro w hc
 have hrt := lies_root hl
 have hap := a.size_pos
 have hbp := b.size_pos
 have htg := tag_two hpt
 change 12 ≤ tg ∧ tg ≤ 23 at htg
 unfold PartR at hP hP2
 obtain ⟨i, hi⟩ : ∃ i, i = o + (Tr.two (zP tg) a b).size - 1 := ⟨_, rfl⟩
 obtain ⟨i1, hi1⟩ : ∃ i1, i1 = o + a.size - 1 := ⟨_, rfl⟩
 obtain ⟨i2, hi2⟩ : ∃ i2, i2 = o + a.size + b.size - 1 := ⟨_, rfl⟩
 rw [← hi] at hrt ⊢
 rw [← hi1] at hP
 rw [← hi2] at hP2
 have hin : i < n := by
  have := (List.getElem?_eq_some_iff.1 hrt).1
  rw [Lay.rd_len hc] at this
  exact this
 obtain ⟨p3, x, hAe, hx, s3⟩ := LN_at hc hin
 obtain rfl : A = some p3 := hAe
 have hxe := at_eq hrt hx
 subst hxe
 have hL : ((Tr.two (zP tg) a b).node o).l = (i1 : Int) := by show ((o + a.size : Nat) : Int) - 1 = _; omega
 have hR : ((Tr.two (zP tg) a b).node o).r = (i2 : Int) := by show ((o + a.size + b.size : Nat) : Int) - 1 = _; omega
 have e0 : w.cell? (p3.add (i * 9)) = some (.int .i64 tg) := s3.c0
 have e1 : w.cell? ⟨(p3.add (i * 9)).block, (p3.add (i * 9)).off + 1, none⟩ = some (.int .i64 (i1 : Int)) := by rw [← hL]; exact s3.c1
 have e2 : w.cell? ⟨(p3.add (i * 9)).block, (p3.add (i * 9)).off + 2, none⟩ = some (.int .i64 (i2 : Int)) := by rw [← hR]; exact s3.c2
 have e3 : w.cell? ⟨(p3.add (i * 9)).block, (p3.add (i * 9)).off + 3, none⟩ = some (.int .i64 0) := s3.c3
 have e4 : w.cell? ⟨(p3.add (i * 9)).block, (p3.add (i * 9)).off + 4, none⟩ = some (.int .i64 0) := s3.c4
 have e5 : w.cell? ⟨(p3.add (i * 9)).block, (p3.add (i * 9)).off + 5, none⟩ = some (.int .u64 0) := s3.c5
 have e6 : w.cell? ⟨(p3.add (i * 9)).block, (p3.add (i * 9)).off + 6, none⟩ = some (.string eB) := s3.c6
 have e7 : w.cell? ⟨(p3.add (i * 9)).block, (p3.add (i * 9)).off + 7, none⟩ = some (.string eB) := s3.c7
 have e8 : w.cell? ⟨(p3.add (i * 9)).block, (p3.add (i * 9)).off + 8, none⟩ = some (.string eB) := s3.c8
 have hin2 : (i : Int) < (n : Int) := by omega
 have HC := Lib.hid hc
 have HQ := Lib.hid (bl_al (bl_al (Below.refl w.heap.size w) (.cells #[.slice (some p3) n c] 26)) (.cells #[.int .i64 tg, .int .i64 (i1 : Int), .int .i64 (i2 : Int), .int .i64 0, .int .i64 0, .int .u64 0, .string eB, .string eB, .string eB] 57))
 have HBT := Lib.hid ((Blk.new w 26 #[.slice (some p3) n c]).alloc (.cells #[.int .i64 tg, .int .i64 (i1 : Int), .int .i64 (i2 : Int), .int .i64 0, .int .i64 0, .int .u64 0, .string eB, .string eB, .string eB] 57))
 have HB := Lib.hid (show Blk ((w.alloc (.cells #[.slice (some p3) n c] 26)).alloc (.cells #[.int .i64 tg, .int .i64 (i1 : Int), .int .i64 (i2 : Int), .int .i64 0, .int .i64 0, .int .u64 0, .string eB, .string eB, .string eB] 57)) (w.heap.size + 1) 57 #[.int .i64 tg, .int .i64 (i1 : Int), .int .i64 (i2 : Int), .int .i64 0, .int .i64 0, .int .u64 0, .string eB, .string eB, .string eB] from by
  have := Blk.new (w.alloc (.cells #[.slice (some p3) n c] 26)) 57 #[.int .i64 tg, .int .i64 (i1 : Int), .int .i64 (i2 : Int), .int .i64 0, .int .i64 0, .int .u64 0, .string eB, .string eB, .string eB]
  rwa [World.size_alloc] at this)
 have HPR := Lib.hid (show bS (parT a ++ (32 :: (sgL tg ++ (32 :: parT b)))) = bS (prT (.two (zP tg) a b)) from by rw [pr_two])
 generalize prT (.two (zP tg) a b) = R at *
 obtain ⟨ZA, hZA⟩ : ∃ Z, Z = bS (parT a) := ⟨_, rfl⟩
 obtain ⟨ZB, hZB⟩ : ∃ Z, Z = bS (parT b) := ⟨_, rfl⟩
 obtain ⟨tk, htk⟩ : ∃ tk : Nat, tg = (tk : Int) := ⟨tg.toNat, by omega⟩
 subst htk
 obtain ⟨SG, hSG⟩ : ∃ Z, Z = bS (sgL (tk : Int)) := ⟨_, rfl⟩
 have HPA := Lib.hid hP
 have HPB := Lib.hid hP2
 rw [← hZA] at HPA
 rw [← hZB] at HPB
 have HSC := Lib.hid (fun W => rsign_any tk (by omega) (by omega) W)
 rw [← hSG] at HSC
 have sa : ZA.size ≤ 99002 := by rw [hZA, bs_size]; have := par_len a; omega
 have sb : ZB.size ≤ 99002 := by rw [hZB, bs_size]; have := par_len b; omega
 have ss : SG.size ≤ 11 := by rw [hSG, bs_size]; exact sg_len tk
 have b1 : (⟨#[32]⟩ : ByteArray).size ≤ 1 := by decide
 have s1 : (ZA ++ ⟨#[32]⟩ : ByteArray).size ≤ 99003 := by rw [ByteArray.size_append]; omega
 have s2 : ((ZA ++ ⟨#[32]⟩) ++ SG : ByteArray).size ≤ 99014 := by rw [ByteArray.size_append]; omega
 have s3' : (((ZA ++ ⟨#[32]⟩) ++ SG) ++ ⟨#[32]⟩ : ByteArray).size ≤ 99015 := by rw [ByteArray.size_append]; omega
 have HF := Lib.hid (show (((ZA ++ ⟨#[32]⟩) ++ SG) ++ ⟨#[32]⟩) ++ ZB = bS R from by
  rw [← HPR.out, hZA, hZB, hSG]
  exact bS_of (by rw [ByteArray.data_append, Array.toList_append, ByteArray.data_append, Array.toList_append, ByteArray.data_append, Array.toList_append, ByteArray.data_append, Array.toList_append, List.append_assoc, List.append_assoc, List.append_assoc]; rfl))
 clear hc hrt hx s3 hcb hok hl hP hP2 hz hz2 hZA hZB hpt hi hi1 hi2 hL hR hap hbp hSG HPR
 have HQT := Lib.hid (bl_al (Below.refl w.heap.size w) (.cells #[.slice (some p3) n c] 26))
 have e0 := ce e0 HQT.out
 have e1 := ce e1 HQT.out
 have e2 := ce e2 HQT.out
 have e3 := ce e3 HQT.out
 have e4 := ce e4 HQT.out
 have e5 := ce e5 HQT.out
 have e6 := ce e6 HQT.out
 have e7 := ce e7 HQT.out
 have e8 := ce e8 HQT.out
 go_enter Tryz.func31, Tryz.ntmps31
 go_upto_region 2 with fail
 generalize (w.alloc (.cells #[.slice (some p3) n c] 26)).alloc (.cells #[.int .i64 (tk : Int), .int .i64 (i1 : Int), .int .i64 (i2 : Int), .int .i64 0, .int .i64 0, .int .u64 0, .string eB, .string eB, .string eB] 57) = w1 at *
 clear e0 e1 e2 e3 e4 e5 e6 e7 e8 HQT
 have HC1 := Lib.hid (Lay.rd_below HC.out HQ.out)
 have e0 := HB.out.cell 0
 simp at e0
 have h12 : 12 ≤ (tk : Int) := by omega
 have k1 : ((tk : Int) == 1) = false := by simp; omega
 have k2 : ((tk : Int) == 2) = false := by simp; omega
 have k3 : ((tk : Int) == 3) = false := by simp; omega
 have k4 : ((tk : Int) == 4) = false := by simp; omega
 have k5 : ((tk : Int) == 5) = false := by simp; omega
 have k6 : ((tk : Int) == 6) = false := by simp; omega
 have k7 : ((tk : Int) == 7) = false := by simp; omega
 have k11 : decide ((tk : Int) ≤ 11) = false := decide_eq_false (by omega)
 clear htg
 go_wp2_with fail
 refine (HSC.out _).mono ?_
 rintro e w9 ⟨rfl, rfl⟩
 go_upto_region 15 with fail
 have HCC := Lib.hid HC1.out
 refine wp_region_ps (S := fun _ _ w' => Below w1.heap.size w1 w') (by kernel_rfl) ?spswg1 ?ppswg1
 case spswg1 =>
  exact (Below.refl w1.heap.size w1).drew
 refine Pz 0 (some 80) (.agg #[.slice (some p3) n c]) rfl rfl ?ywg1_2 ?rwg1_2
 case ywg1_2 =>
  refine StepS.read [] (by kernel_rfl) nP (by rfl) (fun L9 m9 w9 hSh hAt hDn hS => ?_)
  have hT : Below w1.heap.size w1 w9 := hS
  have x0 : w9.cell? ⟨w.heap.size, 0, none⟩ = some (.slice (some p3) n c) := (HBT.out.ca hT).cell 0
  clear hT hS
  go_simp
  try rfl
 try simp only [Act.put, sA, sZ, sS]
 refine Pz 1 (some 81) (.pointer (some ⟨w.heap.size + 1, 1, none⟩)) rfl rfl (by exact StepS.pure nP rfl fun _ => rfl) ?_
 try simp only [Act.put, sA, sZ, sS]
 refine Pz 2 (some 82) (.int .i64 ((i1 : Int))) rfl rfl ?ywg1_4 ?rwg1_4
 case ywg1_4 =>
  refine StepS.read [] (by kernel_rfl) nP (by rfl) (fun L9 m9 w9 hSh hAt hDn hS => ?_)
  have hT : Below w1.heap.size w1 w9 := hS
  have x0 : w9.cell? ⟨w.heap.size + 1, 1, none⟩ = some (.int .i64 ((i1 : Int))) := (HB.out.ca hT).cell 1
  clear hT hS
  go_simp
  try rfl
 try simp only [Act.put, sA, sZ, sS]
 refine Pz 3 (some 83) (.string ZA) rfl rfl ?ywg1_5 ?rwg1_5
 case ywg1_5 =>
  refine StepS.call ?fwg1_5 ?awg1_5 [] (by kernel_rfl) (by rfl) (fun w9 => ?hwg1_5) (fun L9 m9 w9 hSh hAt hDn hS => ?cwg1_5)
  case hwg1_5 => go_simp; refine ⟨?_, ?_⟩ <;> rfl
  case cwg1_5 =>
   have hT : Below _ _ w9 := hS
   refine (HPA.out _ (Lay.rd_below HCC.out hT)).mono ?_
   rintro e w8 ⟨rfl, q8⟩
   exact ⟨rfl, bl_ca hT q8⟩
 try simp only [Act.put, sA, sZ, sS]
 refine Pz 4 (some 84) (.string ((ZA ++ ⟨#[32]⟩))) rfl rfl ?ywg1_6 ?rwg1_6
 case ywg1_6 =>
  refine StepS.pure nP (by rfl) (fun w9 => ?_)
  have hz9 := trivial
  (go_simp; omega)
 try simp only [Act.put, sA, sZ, sS]
 refine Pz 5 (some 85) (.string SG) rfl rfl (by exact StepS.pure nP rfl fun _ => rfl) ?_
 try simp only [Act.put, sA, sZ, sS]
 refine Pz 6 (some 86) (.string (((ZA ++ ⟨#[32]⟩) ++ SG))) rfl rfl ?ywg1_8 ?rwg1_8
 case ywg1_8 =>
  refine StepS.pure nP (by rfl) (fun w9 => ?_)
  have hz9 := trivial
  (go_simp; omega)
 try simp only [Act.put, sA, sZ, sS]
 refine Pz 7 (some 87) (.string ((((ZA ++ ⟨#[32]⟩) ++ SG) ++ ⟨#[32]⟩))) rfl rfl ?ywg1_9 ?rwg1_9
 case ywg1_9 =>
  refine StepS.pure nP (by rfl) (fun w9 => ?_)
  have hz9 := trivial
  (go_simp; omega)
 try simp only [Act.put, sA, sZ, sS]
 refine Pz 8 (some 88) (.agg #[.slice (some p3) n c]) rfl rfl ?ywg1_10 ?rwg1_10
 case ywg1_10 =>
  refine StepS.read [] (by kernel_rfl) nP (by rfl) (fun L9 m9 w9 hSh hAt hDn hS => ?_)
  have hT : Below w1.heap.size w1 w9 := hS
  have x0 : w9.cell? ⟨w.heap.size, 0, none⟩ = some (.slice (some p3) n c) := (HBT.out.ca hT).cell 0
  clear hT hS
  go_simp
  try rfl
 try simp only [Act.put, sA, sZ, sS]
 refine Pz 9 (some 89) (.pointer (some ⟨w.heap.size + 1, 2, none⟩)) rfl rfl (by exact StepS.pure nP rfl fun _ => rfl) ?_
 try simp only [Act.put, sA, sZ, sS]
 refine Pz 10 (some 90) (.int .i64 ((i2 : Int))) rfl rfl ?ywg1_12 ?rwg1_12
 case ywg1_12 =>
  refine StepS.read [] (by kernel_rfl) nP (by rfl) (fun L9 m9 w9 hSh hAt hDn hS => ?_)
  have hT : Below w1.heap.size w1 w9 := hS
  have x0 : w9.cell? ⟨w.heap.size + 1, 2, none⟩ = some (.int .i64 ((i2 : Int))) := (HB.out.ca hT).cell 2
  clear hT hS
  go_simp
  try rfl
 try simp only [Act.put, sA, sZ, sS]
 refine Pz 11 (some 91) (.string ZB) rfl rfl ?ywg1_13 ?rwg1_13
 case ywg1_13 =>
  refine StepS.call ?fwg1_13 ?awg1_13 [] (by kernel_rfl) (by rfl) (fun w9 => ?hwg1_13) (fun L9 m9 w9 hSh hAt hDn hS => ?cwg1_13)
  case hwg1_13 => go_simp; refine ⟨?_, ?_⟩ <;> rfl
  case cwg1_13 =>
   have hT : Below _ _ w9 := hS
   refine (HPB.out _ (Lay.rd_below HCC.out hT)).mono ?_
   rintro e w8 ⟨rfl, q8⟩
   exact ⟨rfl, bl_ca hT q8⟩
 try simp only [Act.put, sA, sZ, sS]
 refine Pz 12 (some 92) (.string (((((ZA ++ ⟨#[32]⟩) ++ SG) ++ ⟨#[32]⟩) ++ ZB))) rfl rfl ?ywg1_14 ?rwg1_14
 case ywg1_14 =>
  refine StepS.pure nP (by rfl) (fun w9 => ?_)
  have hz9 := trivial
  (go_simp; omega)
 try simp only [Act.put, sA, sZ, sS]
 refine Pz 13 (some 4) (.string (((((ZA ++ ⟨#[32]⟩) ++ SG) ++ ⟨#[32]⟩) ++ ZB))) rfl rfl (by exact StepS.pure nP rfl fun _ => rfl) ?_
 try simp only [Act.put, sA, sZ, sS]
 refine Ps.done (by kernel_rfl) (fun wg1 hS => ?_) _
 have HW := Lib.hid (show Below w1.heap.size w1 wg1 from hS)
 clear hS
 obtain ⟨w2, rfl⟩ : ∃ x, x = wg1 := ⟨_, rfl⟩
 go_wp2
 go_ret
 exact ⟨by rw [← HF.out]; rfl, bl_ca HQ.out HW.out⟩
theorem all_R {F : Nat → Prop} {xs : List Nd} {A : Option Addr} {n c : Nat} : ∀ (u : Tr) (o : Nat), LiesAt xs u o → u.ok cntB = true → rgT u → u.size ≤ 300 → NodeR F xs A n c u o ∧ PartR F xs A n c u o
 | .leaf p, o, hl, hok, hr, hs => by
  have hN : NodeR F xs A n c (.leaf p) o := rnode_leaf hl hok hr
  have := pr_len (.leaf p) hok hr
  exact ⟨hN, rpart_of hN hl hok (by omega)⟩
 | .one p a, o, hl, hok, hr, hs => by
  have hsz : (Tr.one p a).size = a.size + 1 := rfl
  have ih := all_R (F := F) (A := A) (n := n) (c := c) a o (lies_one hl) (ok_one hok).2.2 hr (by omega)
  have ha := pr_len a (ok_one hok).2.2 hr
  have hN : NodeR F xs A n c (.one p a) o := rnode_one ih.1 ih.2 hl hok (by omega)
  have := pr_len (.one p a) hok hr
  exact ⟨hN, rpart_of hN hl hok (by omega)⟩
 | .two p a b, o, hl, hok, hr, hs => by
  have hsz : (Tr.two p a b).size = a.size + b.size + 1 := rfl
  have ih := all_R (F := F) (A := A) (n := n) (c := c) a o (lies_two hl).1 (ok_two hok).2.2.1 hr.1 (by omega)
  have ih2 := all_R (F := F) (A := A) (n := n) (c := c) b (o + a.size) (lies_two hl).2 (ok_two hok).2.2.2 hr.2 (by omega)
  have ha := pr_len a (ok_two hok).2.2.1 hr.1
  have hb := pr_len b (ok_two hok).2.2.2 hr.2
  have hN : NodeR F xs A n c (.two p a b) o := rnode_two ih.2 ih2.2 hl hok (by omega) (by omega)
  have := pr_len (.two p a b) hok hr
  exact ⟨hN, rpart_of hN hl hok (by omega)⟩
set_option maxRecDepth 100000 in
theorem rprinttree_any (F : Nat → Prop) (xs : List Nd) (A : Option Addr) (n c : Nat) (w : World) (h : LN.rd w F A n xs) (hk : okF xs = true) (hr : ∀ x ∈ xs, RgP x.p) :
 Calls Tryz.prog 14 #[.agg #[.slice A n c]] w fun e w' => e = .returned (.string (prF xs)) ∧ Below w.heap.size w w' := by
 obtain ⟨t, ht⟩ := okF_ex hk
 have hx := (treeF_some.1 ht).1
 have hsz := (treeF_some.1 ht).2.2.1
 have htl := tree_len ht
 have hp := t.size_pos
 have hl : LiesAt xs t 0 := fun i _ => by rw [Nat.zero_add, hx]
 have hrg : rgT t := rg_all t 0 (by rw [← hx]; exact hr)
 have hln := Lay.rd_len h
 have HW := Lib.hid ((all_R (F := F) (A := A) (n := n) (c := c) t 0 hl (treeF_some.1 ht).2.1 hrg hsz).1)
 obtain ⟨n1, hn1⟩ : ∃ n1, n = n1 + 1 := ⟨n - 1, by omega⟩
 have hix : (n : Int) - 1 = (n1 : Int) := by omega
 have hix1 : (n1 : Int) ≤ 100000 := by omega
 have HQ := Lib.hid (bl_al (Below.refl w.heap.size w) (.cells #[.slice A n c] 26))
 have HBT := Lib.hid (Blk.new w 26 #[.slice A n c])
 have HI := HW.out _ (Lay.rd_below h HQ.out)
 rw [show 0 + t.size - 1 = n1 from by omega] at HI
 have HI := Lib.hid HI
 have HP := Lib.hid (show prF xs = bS (prT t) from by unfold prF; rw [ht])
 rw [← HP.out] at HI
 generalize prF xs = Z at *
 clear h ht hr hx hsz htl hp hl hrg hln hn1 HW HP hk
 go_enter Tryz.func14, Tryz.ntmps14
 go_wp2_with fail
 refine HI.out.mono ?_
 rintro e w2 ⟨rfl, q2⟩
 go_wp2
 go_ret
 exact ⟨rfl, bl_ca HQ.out q2⟩
end Go.Proofs.YtoaggmldekejoaaGreatDoor
/- Unlike queries are written unlike. Plain Lean. Conditions: none. -/
namespace Go.Proofs.YtoaggmldekejoaaGreatDoor
/-! ### how a tree begins -/
/-! ### parts that are told apart, whatever stands behind -/
/-- no part of a name stands first -/
def nopa (x : List UInt8) : Prop := ∀ b r, x = b :: r → paU b = false
theorem nopa_nil : nopa [] := by intro b r e; cases e
theorem nopa_cons {b : UInt8} {r : List UInt8} (h : paU b = false) : nopa (b :: r) := by intro c s e; injection e with e; rw [← e]; exact h
/-- a word behind a blank, or nothing -/
def KW (W : List (List UInt8)) (x : List UInt8) : Prop := x = [] ∨ ∃ w ∈ W, ∃ r, x = 32 :: (w ++ 32 :: r)
theorem KW.mono {W V : List (List UInt8)} {x : List UInt8} (h : KW W x) (hs : ∀ w ∈ W, w ∈ V) : KW V x := by
 rcases h with h | ⟨w, hw, r, e⟩
 · exact .inl h
 · exact .inr ⟨w, hs w hw, r, e⟩
theorem KW.end_ {W : List (List UInt8)} {x : List UInt8} (h : KW W x) (hs : ∀ w ∈ W, w ∈ kws) : endP x := by
 rcases h with h | ⟨w, hw, r, e⟩
 · exact .inl h
 · exact .inr ⟨r, .inr (.inr ⟨w, hs w hw, e⟩)⟩
theorem KW.nopa {W : List (List UInt8)} {x : List UInt8} (h : KW W x) : nopa x := by
 rcases h with rfl | ⟨w, hw, r, rfl⟩
 · exact nopa_nil
 · exact nopa_cons (by decide)
theorem nb_cut {v w x y : List UInt8} (hv : v.all (fun b => decide (b ≠ 32)) = true) (hw : w.all (fun b => decide (b ≠ 32)) = true) (e : v ++ 32 :: x = w ++ 32 :: y) : v = w ∧ x = y := by
 have h := congrArg (List.takeWhile fun b => decide (b ≠ 32)) e
 rw [tw32 hv, tw32 hw] at h
 subst h
 have := List.append_cancel_left e
 injection this with _ h
 exact ⟨rfl, h⟩
/-- a clause that is there begins otherwise than what stands behind it -/
theorem KW.no {W : List (List UInt8)} {w r x : List UInt8} (h : KW W x) (hW : ∀ v ∈ W, v ∈ kws) (hw : w ∈ kws) (hn : w ∉ W) (e : x = 32 :: (w ++ 32 :: r)) : False := by
 rcases h with h | ⟨v, hv, r2, h⟩
 · rw [h] at e; cases e
 · rw [h] at e
   injection e with _ e
   have := (nb_cut (kws32 v (hW v hv)) (kws32 w hw) e).1
   exact hn (this ▸ hv)
/-! ### rows, parted by commas -/
def nc (x : List UInt8) : Prop := ∀ r, x ≠ 44 :: r
theorem KW.nc {W : List (List UInt8)} {x : List UInt8} (h : KW W x) : nc x := by
 intro r e
 rcases h with rfl | ⟨w, _, r2, rfl⟩
 · cases e
 · injection e with e; exact absurd e (by decide)
/-! ### items, sources, joins, names, keys -/
/-- what may stand behind an item -/
def EI (x : List UInt8) : Prop := ∃ r, x = 44 :: r ∨ x = 32 :: (wFROM ++ 32 :: r)
theorem EI.end_ {x : List UInt8} (h : EI x) : endP x := by
 obtain ⟨r, h | h⟩ := h
 · exact .inr ⟨r, .inr (.inl h)⟩
 · exact .inr ⟨r, .inr (.inr ⟨wFROM, by decide, h⟩)⟩
theorem EI.nopa {x : List UInt8} (h : EI x) : nopa x := by
 obtain ⟨r, rfl | rfl⟩ := h <;> exact nopa_cons (by decide)
theorem EI.no {x : List UInt8} (h : EI x) (b : UInt8) (r : List UInt8) : x ≠ 32 :: ((wAS ++ [32]) ++ (b :: r)) := by
 obtain ⟨s, rfl | rfl⟩ := h
 · intro e; injection e with e; exact absurd e (by decide)
 · intro e
   injection e with _ e
   have e2 : (70 : UInt8) :: (82 :: 79 :: 77 :: 32 :: s) = 65 :: (83 :: 32 :: b :: r) := e
   injection e2 with e2
   exact absurd e2 (by decide)
def W1 : List (List UInt8) := [[87, 72, 69, 82, 69], [71, 82, 79, 85, 80], [72, 65, 86, 73, 78, 71], [85, 78, 73, 79, 78], [79, 82, 68, 69, 82], [76, 73, 77, 73, 84]]
def W0 : List (List UInt8) := [76, 69, 70, 84] :: [74, 79, 73, 78] :: W1
/-- what may stand behind a name of a row -/
def EN (x : List UInt8) : Prop := x = [] ∨ ∃ r, x = 44 :: r ∨ x = 32 :: r
theorem EN.nopa {x : List UInt8} (h : EN x) : nopa x := by
 obtain rfl | ⟨r, rfl | rfl⟩ := h
 · exact nopa_nil
 · exact nopa_cons (by decide)
 · exact nopa_cons (by decide)
theorem EN.no {x : List UInt8} (h : EN x) (r : List UInt8) : x ≠ 46 :: r := by
 obtain rfl | ⟨s, rfl | rfl⟩ := h
 · intro e; cases e
 · intro e; injection e with e; exact absurd e (by decide)
 · intro e; injection e with e; exact absurd e (by decide)
/-- what may stand behind a key -/
def EK (x : List UInt8) : Prop := x = [] ∨ ∃ r, x = 44 :: r ∨ x = 32 :: (wLIMIT ++ 32 :: r)
theorem EK.nopa {x : List UInt8} (h : EK x) : nopa x := by
 obtain rfl | ⟨r, rfl | rfl⟩ := h
 · exact nopa_nil
 · exact nopa_cons (by decide)
 · exact nopa_cons (by decide)
theorem EK.no {x : List UInt8} (h : EK x) (r : List UInt8) : x ≠ wDESC ++ r := by
 obtain rfl | ⟨s, rfl | rfl⟩ := h
 · intro e; cases e
 · intro e; injection e with e; exact absurd e (by decide)
 · intro e
   injection e with _ e
   have e2 : (76 : UInt8) :: (73 :: 77 :: 73 :: 84 :: 32 :: s) = 68 :: (69 :: 83 :: 67 :: r) := e
   injection e2 with e2
   exact absurd e2 (by decide)
/-! ### selects and queries -/
theorem none_ok {t : List Nd} (h : noneB t = true) (hn : t ≠ []) : okF t = true := by
 unfold noneB at h
 rw [Bool.or_eq_true, decide_eq_true_eq] at h
 exact h.resolve_left fun h => hn (List.eq_nil_of_length_eq_zero h)
end Go.Proofs.YtoaggmldekejoaaGreatDoor
