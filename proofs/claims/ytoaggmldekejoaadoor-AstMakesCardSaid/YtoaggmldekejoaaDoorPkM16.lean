/- AstParts: parts of trees. Conditions: the nodes read so; what the tables hold. -/
import Derived.Test.YtoaggmldekejoaaDoorPkM15
namespace Go.Proofs.YtoaggmldekejoaaDoor
open Go.RowKit
abbrev LZ : Lay Int := Lay.cell (Value.int .i64) (fun _ => rfl)
theorem LZ_at {w : World} {F : Nat → Prop} {A : Option Addr} {n i : Nat} {xs : List Int} (h : LZ.rd w F A n xs) (hi : i < n) : ∃ ad x, A = some ad ∧ xs[i]? = some x ∧ F ad.block ∧ w.cell? (ad.add i) = some (.int .i64 x) := by
  obtain ⟨ad, x, cs, e, hx, _, hF, hr, hc⟩ := Lay.rd_at h hi
  obtain rfl : cs = [.int .i64 x] := hr
  refine ⟨ad, x, e, hx, hF, ?_⟩
  have := hc 0 _ rfl
  rwa [show i * LZ.size + 0 = i from by show i * 1 + 0 = i; omega] at this
theorem partE_no {xs : List Nd} {i : Int} (h : okF xs = false) : partE xs i = 180 ∧ partR xs i = [] := by
  have e : partE xs i = 180 := by unfold partE; rw [h]; rfl
  exact ⟨e, by unfold partR; rw [if_neg (by rw [e]; decide)]⟩
theorem partE_out {xs : List Nd} {i : Int} (h : okF xs = true) (hi : i < 0 ∨ (xs.length : Int) ≤ i) : partE xs i = 2 ∧ partR xs i = [] := by
  have e : partE xs i = 2 := by unfold partE; rw [h, if_pos rfl, if_neg (by omega)]
  exact ⟨e, by unfold partR; rw [if_neg (by rw [e]; decide)]⟩
theorem partE_yes {xs : List Nd} {k : Nat} (h : okF xs = true) (hi : k < xs.length) : partE xs (k : Int) = 0 ∧ partR xs (k : Int) = partN xs k := by
  have e : partE xs (k : Int) = 0 := by unfold partE; rw [h, if_pos rfl, if_pos (by omega)]
  exact ⟨e, by unfold partR; rw [if_pos e, Int.toNat_natCast]⟩
set_option maxRecDepth 100000 in
set_option maxHeartbeats 16000000 in
theorem parts_walk (xs0 : List Nd) (A0 : Option Addr) (n0 c0 : Nat) (zs : List Int) (B : Option Addr) (m d : Nat) (w : World) (h : LN.rd w AllB A0 n0 xs0) (hn : n0 ≤ 9223372036854775807) (hz : LZ.rd w AllB B m zs) (hm : m ≤ 9223372036854775807) (hT : Tab w) (hS : ∀ x ∈ xs0, SmP x.p) :
    Calls Tryd.prog 4 #[.agg #[.slice A0 n0 c0], .slice B m d] w fun e w' => e = .returned (.bool true) ∧ Below w.heap.size w w' := by
  have HQ1 := Lib.hid (bl_al (Below.refl w.heap.size w) (.cells #[.slice A0 n0 c0] 30))
  have HB1 := Lib.hid (Blk.new w 30 #[.slice A0 n0 c0])
  have HX := Lib.hid (Lay.rd_below h HQ1.out)
  have HZS := Lib.hid (Lay.rd_below hz HQ1.out)
  have HT := Lib.hid (hT.below HQ1.out)
  have HSX := Lib.hid hS
  have HN := Lib.hid hn
  have HM := Lib.hid hm
  clear h hT hS hn hz
  go_enter Tryd.func4, Tryd.ntmps4
  go_wp2_with fail
  generalize w.alloc (.cells #[.slice A0 n0 c0] 30) = w1 at *
  refine (wakes_any w1 HT.out).mono ?_
  rintro e w2 ⟨rfl, q2⟩
  have HQ2 := Lib.hid (bl_ca HQ1.out q2)
  have HX2 := Lib.hid (Lay.rd_below HX.out q2)
  have HZ2 := Lib.hid (Lay.rd_below HZS.out q2)
  have HT2 := Lib.hid (HT.out.below q2)
  have x0 := (HB1.out.ca q2).cell 0
  simp at x0
  have HSH := Lib.hid (short_any AllB xs0 A0 n0 c0 w2 HX2.out HN.out HSX.out)
  have HSM := Lib.hid (short_sm (xs := xs0))
  have HSL := Lib.hid (short_len xs0)
  generalize shortN xs0 = X at *
  clear q2
  go_wp2_with fail
  refine HSH.out.mono ?_
  rintro e w3 ⟨A, n, c, rfl, hr3, hc1, hc2, q3⟩
  have hn301 : n ≤ 301 := by have := Lay.rd_len hr3; have := HSL.out; omega
  have ral := bl_al (Below.refl w3.heap.size w3) (.cells #[.slice A n c] 30)
  have HQ3 := Lib.hid (bl_ca (bl_ca HQ2.out q3) ral)
  have HB3 := Lib.hid (Blk.new w3 30 #[.slice A n c])
  have HR3 := Lib.hid (Lay.rd_below (rd_all hr3) ral)
  have HT3 := Lib.hid ((HT2.out.below q3).below ral)
  have HZ3 := Lib.hid (Lay.rd_below (Lay.rd_below HZ2.out q3) ral)
  have HCC := Lib.hid (And.intro hc1 hc2)
  have HLN := Lib.hid (Lay.rd_len hr3)
  clear hr3 q3 x0 HSH ral
  go_upto_region 4 with fail
  obtain ⟨g3, hg3⟩ : ∃ g, g = w3.heap.size := ⟨_, rfl⟩
  rw [← hg3] at HB3 ⊢
  clear hg3
  generalize w3.alloc (.cells #[.slice A n c] 30) = w4 at *
  have x3 : w4.cell? ⟨g3, 0, none⟩ = some (.slice A n c) := HB3.out.cell 0
  have HRT := Lib.hid (rright_any AllB X A n c w4 HR3.out (by omega) HSM.out)
  obtain ⟨ok, hok⟩ : ∃ b, b = okF X := ⟨_, rfl⟩
  rw [← hok] at HRT
  have HOK := Lib.hid hok
  clear hok
  go_wp2_with fail
  refine HRT.out.mono ?_
  rintro e w5 ⟨rfl, q5⟩
  have HQ5 := Lib.hid (bl_ca HQ3.out q5)
  have HB5 := Lib.hid (HB3.out.ca q5)
  have HR5 := Lib.hid (Lay.rd_below HR3.out q5)
  have HT5 := Lib.hid (HT3.out.below q5)
  have HZ5 := Lib.hid (Lay.rd_below HZ3.out q5)
  clear q5 x3 HRT
  go_wp2_with fail
  go_loopg [19] m (fun g a wr => ∃ i : Nat, i + g = m ∧ i ≤ 20 ∧ a = .int .i64 (i : Int) ∧ Hid (Below w5.heap.size w5 wr))
  case atStart => exact ⟨0, by omega, by omega, rfl, Lib.hid (Below.refl _ _)⟩
  case round =>
    obtain ⟨i, hig, hi20, rfl, HQR⟩ := hrel
    by_cases hlt : i < m
    · have hi1 : (i : Int) < (m : Int) := by omega
      obtain ⟨ad, z, hBe, hz, _, zc⟩ := LZ_at (Lay.rd_below HZ5.out HQR.out) hlt
      obtain rfl : B = some ad := hBe
      clear hz
      by_cases h20 : i = 20
      · have h20' : ((i : Int) == 20) = true := by simp; omega
        clear h20
        go_wp2
        go_ret
        exact ⟨rfl, bl_ca HQ5.out HQR.out⟩
      have hi20' : ((i : Int) == 20) = false := by simp; omega
      have hi9 : i ≤ 19 := by omega
      clear h20
      have x3 : wr.cell? ⟨g3, 0, none⟩ = some (.slice A n c) := (HB5.out.ca HQR.out).cell 0
      have HPP := Lib.hid (part_any AllB X A n c z wr (Lay.rd_below HR5.out HQR.out) (by omega) HCC.out.1 HCC.out.2 (HT5.out.below HQR.out) HSM.out)
      obtain ⟨PE, hPE⟩ : ∃ E, E = partE X z := ⟨_, rfl⟩
      obtain ⟨PR, hPR⟩ : ∃ E, E = partR X z := ⟨_, rfl⟩
      rw [← hPE, ← hPR] at HPP
      have HPE := Lib.hid (And.intro hPE hPR)
      clear hPE hPR
      go_wp2_with fail
      refine HPP.out.mono ?_
      rintro e w6 ⟨A6, n6, c6, rfl, hr6, h6a, h6b, q6⟩
      have ral := bl_al (Below.refl w6.heap.size w6) (.cells #[.slice A6 n6 c6] 30)
      have HQ6 := Lib.hid (bl_ca (bl_ca HQR.out q6) ral)
      have HB6 := Lib.hid (Blk.new w6 30 #[.slice A6 n6 c6])
      have HR6 := Lib.hid (Lay.rd_below (rd_all hr6) ral)
      have HL6 := Lib.hid (Lay.rd_len hr6)
      clear hr6 q6 x3 HPP ral zc
      go_upto_region 10 with fail
      obtain ⟨g6, hg6⟩ : ∃ g, g = w6.heap.size := ⟨_, rfl⟩
      rw [← hg6] at HB6 ⊢
      clear hg6
      generalize w6.alloc (.cells #[.slice A6 n6 c6] 30) = w7 at *
      have x6 : w7.cell? ⟨g6, 0, none⟩ = some (.slice A6 n6 c6) := HB6.out.cell 0
      have x3 : w7.cell? ⟨g3, 0, none⟩ = some (.slice A n c) := (HB5.out.ca HQ6.out).cell 0
      have HG := Lib.hid (show i + 1 + (gk - 1) = m ∧ i + 1 ≤ 20 from by omega)
      cases ok
      · obtain ⟨e1, e2⟩ := partE_no (i := z) HOK.out.symm
        have hP : PE = 180 := HPE.out.1.trans e1
        have h0 : n6 = 0 := by rw [← HL6.out, HPE.out.2, e2]; rfl
        subst hP
        subst h0
        clear e1 e2
        go_wp2
        go_roundg (gk - 1)
        · exact ⟨i + 1, HG.out.1, HG.out.2, by go_num, HQ6⟩
        · omega
      by_cases hz0 : z < 0 ∨ (n : Int) ≤ z
      · obtain ⟨e1, e2⟩ := partE_out (i := z) HOK.out.symm (by rw [HLN.out]; exact hz0)
        have hP : PE = 2 := HPE.out.1.trans e1
        have h0 : n6 = 0 := by rw [← HL6.out, HPE.out.2, e2]; rfl
        subst hP
        subst h0
        clear e1 e2
        by_cases hz1 : z < 0
        · clear hz0
          go_wp2
          go_roundg (gk - 1)
          · exact ⟨i + 1, HG.out.1, HG.out.2, by go_num, HQ6⟩
          · omega
        · have hz2 : (n : Int) ≤ z := by omega
          have hz3 : 0 ≤ z := by omega
          clear hz0 hz1
          go_wp2
          go_roundg (gk - 1)
          · exact ⟨i + 1, HG.out.1, HG.out.2, by go_num, HQ6⟩
          · omega
      obtain ⟨k, rfl⟩ : ∃ k : Nat, z = (k : Int) := ⟨z.toNat, by omega⟩
      have hk : k < n := by omega
      obtain ⟨e1, e2⟩ := partE_yes (k := k) HOK.out.symm (by rw [HLN.out]; exact hk)
      have hP : PE = 0 := HPE.out.1.trans e1
      subst hP
      have hR : PR = partN X k := HPE.out.2.trans e2
      have HR6 := HR6.out
      rw [hR] at HR6
      have HR6 := Lib.hid HR6
      have HRP := Lib.hid (fun w' (q : Below w7.heap.size w7 w') => rpartn_any AllB X A n c k w' (Lay.rd_below HR5.out (bl_ca HQ6.out q)) (by omega) HCC.out.1 HCC.out.2 HSM.out HOK.out.symm hk)
      have HN6 := Lib.hid (show n6 ≤ 9223372036854775807 from by omega)
      have HB7 := Lib.hid (HB5.out.ca HQ6.out)
      obtain ⟨R, hR9⟩ : ∃ R, R = partN X k := ⟨_, rfl⟩
      rw [← hR9] at HR6 HRP
      have hk1 : (k : Int) < (n : Int) := by omega
      have hk0 : 0 ≤ (k : Int) := by omega
      clear e1 e2 hR hR9 hz0 x6
      go_upto_region 16 with fail
      clear x3
      refine wp_region_ps (S := SeqN [6, 7] (fun z mm w' => match z with | 1 => Below w7.heap.size w7 w' ∧ ∃ A2 n2 c2, mm 6 = .agg #[.slice A2 n2 c2] ∧ LN.rd w' AllB A2 n2 R | _ => Below w7.heap.size w7 w')) (by kernel_rfl) ?spswg1 ?ppswg1
      case spswg1 =>
        exact SeqN.start (by decide) (Below.refl _ _).drew
      refine Ps.st (i := 0) (d := some 62) (u := (.int .i64 (0))) rfl rfl (by exact StepS.pure (SeqN.pass (by decide)) rfl fun _ => rfl) ?_
      try simp only [Act.put, sA, sZ, sS]
      refine Ps.st (i := 1) (d := some 63) (u := (.bool (false))) rfl rfl ?ywg1_3 ?rwg1_3
      case ywg1_3 =>
        refine StepS.pure (SeqN.pass (by decide)) (by rfl) (fun w9 => ?_)
        first | rfl | (go_simp; done) | (go_simp; rfl)
      try simp only [Act.put, sA, sZ, sS]
      refine Ps.st (i := 2) (d := some 64) (u := (.bool (false))) rfl rfl (by exact StepS.pure (SeqN.pass (by decide)) rfl fun _ => rfl) ?_
      try simp only [Act.put, sA, sZ, sS]
      refine Ps.st (i := 3) (d := some 65) (u := (.agg #[.slice A6 n6 c6])) rfl rfl ?ywg1_5 ?rwg1_5
      case ywg1_5 =>
        refine StepS.read [] (by kernel_rfl) (SeqN.pass (by decide)) (by rfl) (fun L9 m9 w9 hSh hAt hDn hS => ?_)
        have hT : Below w7.heap.size w7 w9 := SeqN.lt (ks := [6, 7]) (k := 7) (by simp) (reach_no hSh (f := 11) (j := 7) (by kernel_rfl) hDn) (fun z _ _ hz h => by match z, hz, h with | 0, _, h => exact h | 1, _, h => exact h.1 | _ + 2, hz, _ => exact absurd hz (by simp)) hS
        have x0 : w9.cell? ⟨g6, 0, none⟩ = some (.slice A6 n6 c6) := (HB6.out.ca hT).cell 0
        clear hT hS
        go_simp
        try rfl
      try simp only [Act.put, sA, sZ, sS]
      refine Ps.st (i := 4) (d := some 66) (u := (.agg #[.slice A n c])) rfl rfl ?ywg1_6 ?rwg1_6
      case ywg1_6 =>
        refine StepS.read [] (by kernel_rfl) (SeqN.pass (by decide)) (by rfl) (fun L9 m9 w9 hSh hAt hDn hS => ?_)
        have hT : Below w7.heap.size w7 w9 := SeqN.lt (ks := [6, 7]) (k := 7) (by simp) (reach_no hSh (f := 11) (j := 7) (by kernel_rfl) hDn) (fun z _ _ hz h => by match z, hz, h with | 0, _, h => exact h | 1, _, h => exact h.1 | _ + 2, hz, _ => exact absurd hz (by simp)) hS
        have x0 : w9.cell? ⟨g3, 0, none⟩ = some (.slice A n c) := (HB7.out.ca hT).cell 0
        clear hT hS
        go_simp
        try rfl
      try simp only [Act.put, sA, sZ, sS]
      refine Ps.st (i := 5) (d := some 67) (u := (.int .i64 ((k : Int)))) rfl rfl (by exact StepS.pure (SeqN.pass (by decide)) rfl fun _ => rfl) ?_
      try simp only [Act.put, sA, sZ, sS]
      refine Ps.one (k := 6) (d := some 68) rfl rfl (by kernel_rfl) (TurnS.call (V := fun v => ∃ A2 n2 c2, v = .agg #[.slice A2 n2 c2]) ?fwg1_8 ?awg1_8 [] (by kernel_rfl) (by rfl) (fun w9 => ?hwg1_8) (fun L9 m9 w9 hSh hAt hDn hS => ?cwg1_8)) (fun v6 hVv6 => ?rwg1_8)
      case hwg1_8 => go_simp; refine ⟨?_, ?_⟩ <;> rfl
      case cwg1_8 =>
        have hT := SeqN.at_ (m0 := m9) (m1 := m9) [] [7] hSh (fun d hd => by cases hd) hDn (by kernel_rfl) hS
        refine (HRP.out w9 hT).mono ?_
        rintro e w8 ⟨A2, n2, c2, rfl, hr, hnc, hcm, q8⟩
        exact ⟨_, rfl, ⟨A2, n2, c2, rfl⟩, SeqN.set_ (m0 := m9) (m1 := m9) [] [7] hSh (fun d hd => by cases hd) hDn (by kernel_rfl) (by decide) (by decide) ⟨bl_ca hT q8, A2, n2, c2, upd_same _ _ _, rd_all hr⟩⟩
      try simp only [Act.put, sA, sZ, sS]
      obtain ⟨A2, n2, c2, rfl⟩ := hVv6
      refine Ps.one (k := 7) (d := some 69) rfl rfl (by kernel_rfl) (TurnS.call (V := fun v => v = .bool true) ?fwg1_9 ?awg1_9 [6] (by kernel_rfl) (by rfl) (fun w9 => ?hwg1_9) (fun L9 m9 w9 hSh hAt hDn hS => ?cwg1_9)) (fun v7 hVv7 => ?rwg1_9)
      case hwg1_9 => go_simp; refine ⟨?_, ?_⟩ <;> rfl
      case cwg1_9 =>
        obtain ⟨hT, A3, n3, c3, hv, hr⟩ := SeqN.at_ [6] [] hSh hAt hDn (by kernel_rfl) hS
        obtain ⟨rfl, rfl, rfl⟩ : A2 = A3 ∧ n2 = n3 ∧ c2 = c3 := by have h9 : Value.agg #[.slice A2 n2 c2] = .agg #[.slice A3 n3 c3] := (hAt 6 (by simp)).2.symm.trans hv; simpa [and_assoc] using h9
        refine (rsame_any AllB AllB R R A6 n6 c6 A2 n2 c2 w9 (Lay.rd_below HR6.out hT) hr HN6.out).mono ?_
        rintro e w8 ⟨rfl, q8⟩
        exact ⟨_, rfl, by rw [decide_eq_true rfl], SeqN.set_ [6] [] hSh hAt hDn (by kernel_rfl) (by decide) (by decide) (bl_ca hT q8)⟩
      try simp only [Act.put, sA, sZ, sS]
      subst hVv7
      refine Ps.st (i := 8) (d := some 70) (u := (.bool (false))) rfl rfl (by exact StepS.pure (SeqN.pass (by decide)) rfl fun _ => rfl) ?_
      try simp only [Act.put, sA, sZ, sS]
      refine Ps.st (i := 9) (d := some 71) (u := (.bool (false))) rfl rfl (by exact StepS.pure (SeqN.pass (by decide)) rfl fun _ => rfl) ?_
      try simp only [Act.put, sA, sZ, sS]
      refine Ps.st (i := 10) (d := some 61) (u := (.bool (false))) rfl rfl (by exact StepS.pure (SeqN.pass (by decide)) rfl fun _ => rfl) ?_
      try simp only [Act.put, sA, sZ, sS]
      refine Ps.done (by kernel_rfl) (fun wg1 hS => ?_) _
      have HWW := Lib.hid (show Below w7.heap.size w7 wg1 from SeqN.fin (by rfl) hS)
      clear hS
      obtain ⟨wx, rfl⟩ : ∃ x, x = wg1 := ⟨_, rfl⟩
      go_wp2
      go_roundg (gk - 1)
      · exact ⟨i + 1, HG.out.1, HG.out.2, by go_num, Lib.hid (bl_ca HQ6.out HWW.out)⟩
      · omega
    · obtain rfl : i = m := by omega
      have hi1 : (i : Int) ≤ (i : Int) := by omega
      go_wp2
      go_ret
      exact ⟨rfl, bl_ca HQ5.out HQR.out⟩
theorem parts_walkF (x : List Nd) (A : Option Addr) (n c : Nat) (B : Option Addr) (m d : Nat) (zs : List Int) (w : World) (h : LN.rd w AllB A n x) (ha : n ≤ c) (hb : c ≤ 9223372036854775807) (hs : ∀ z ∈ x, SmP z.p ∧ RgP z.p) (hz : LZ.rd w AllB B m zs) (hm : m ≤ 9223372036854775807) (_hw : ∀ z ∈ zs, (Lit.int .i64 z).wf = true) (hT : Tab w) :
    Calls Tryd.prog 4 #[.agg #[.slice A n c], .slice B m d] w fun e w' => e = .returned (.bool true) ∧ Below w.heap.size w w' :=
  parts_walk x A n c zs B m d w h (Nat.le_trans ha hb) hz hm hT (fun z hz => (hs z hz).1)
end Go.Proofs.YtoaggmldekejoaaDoor
