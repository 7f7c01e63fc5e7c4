/- The walk of the law CodecLays. Conditions: the slice reads as these rows. -/
import Derived.Test.YtfpodalnnchnoaaCMost
namespace Go.Proofs.Ytfpodalnnchnoaa
open Go.RowKit
theorem fewR_rng {m : Nat} {rows : List (List VV)} (h : ∀ r ∈ rows, ∀ v ∈ r, v.rng) : ∀ r ∈ fewR m rows, ∀ v ∈ r, v.rng := fun r hr => by
  unfold fewR at hr
  obtain ⟨x, hx, rfl⟩ := List.mem_map.1 hr
  exact shortR_rng (h x (List.mem_of_mem_take hx))
theorem retN_m {v : VV} (h : v.ok = true) (hu : uOk v) (w : World) : Calls Try.prog 15 #[.agg #[.int .i64 v.k, .int .i64 v.n, .int .u64 v.u, .string v.s]] w (retN w (valB v)) := rvalue_any v h hu w
set_option maxRecDepth 100000 in
set_option maxHeartbeats 8000000 in
theorem codecLays_walk (A : Option Addr) (n c : Nat) (rows : List (List VV)) (w : World) (hv : LR.rd w (fun _ => True) A n rows) (hn : n ≤ 9223372036854775807) (hr : ∀ r ∈ rows, ∀ v ∈ r, v.rng) :
    Calls Try.prog 4 #[.slice A n c] w fun e w' => e = .returned (.bool true) ∧ Below w.heap.size w w' := by
  have qq := Below.refl w.heap.size w
  have HFEW := Lib.hid (fun W (h : LR.rd W (fun _ => True) A n rows) => few_any (fun _ => True) A n c rows W h hn)
  have HRG := Lib.hid (fewR_rng (m := 20) hr)
  generalize fewR 20 rows = L at *
  have HV := Lib.hid hv
  clear hv hr hn
  go_enter Try.func4, Try.ntmps4
  go_wp2_with fail
  refine (wakes6_any w).mono ?_
  rintro e w1 ⟨rfl, q1⟩
  replace qq := bl_ca qq q1
  have hv1 := Lib.hid (Lay.rd_below HV.out q1)
  clear q1
  go_wp2_with fail
  refine (HFEW.out _ hv1.out).mono ?_
  rintro e w2 ⟨A2, m, c2, rfl, o2, q2⟩
  replace qq := bl_ca qq q2
  have HL := Lib.hid (lr_rd o2)
  have HLN := Lib.hid (Lay.own_len o2)
  have hmc := Lay.own_caps o2
  have hmx : m ≤ 9223372036854775807 := by omega
  clear q2 o2 hv1 hmc
  go_wp2_with fail
  go_loopg [29] m (fun g s wr => ∃ i : Nat, i + g ≤ m ∧ m ≤ i + g ∧ s = .int .i64 i ∧ Below w2.heap.size w2 wr ∧ Below w.heap.size w wr)
  case atStart => exact ⟨0, by omega, by omega, rfl, Below.refl _ _, qq⟩
  case round =>
    clear qq
    obtain ⟨i, hi1, hi2, rfl, b2, bb⟩ := hrel
    obtain ⟨g1, rfl⟩ : ∃ g1, g1 = gk := ⟨_, rfl⟩
    obtain ⟨wo, rfl⟩ : ∃ wo : World, wo = wr := ⟨_, rfl⟩
    by_cases hi : i < m
    · obtain ⟨ad, r, Ar, nr, cr, rfl, hri, l1, hc0, hl1, hl2, hrd⟩ := Lay.slice_at (Lay.rd_below HL.out b2) hi
      have HR := Lib.hid (LV_rd hrd)
      have HVG := Lib.hid (HRG.out r (List.mem_of_getElem? hri))
      have hnr : nr ≤ 9223372036854775807 := by omega
      clear hri hrd hl1 hl2 l1
      go_wp2_with fail
      go_loopg [35] nr (fun g s wr => ∃ j : Nat, j + g ≤ nr ∧ nr ≤ j + g ∧ s = .int .i64 j ∧ Below wo.heap.size wo wr)
      case atStart => exact ⟨0, by omega, by omega, rfl, Below.refl _ _⟩
      case round =>
        obtain ⟨j, hj1, hj2, rfl, b3⟩ := hrel
        by_cases hj : j < nr
        · obtain ⟨p, v, rfl, hvj, s1⟩ := rdv_at (HR.out.below b3) hj
          have HVR := Lib.hid (HVG.out v (List.mem_of_getElem? hvj))
          have e0 := s1.c0
          have e1 := s1.c1
          have e2 := s1.c2
          have e3 := s1.c3
          have hT := Blk.new wr 24 #[.int .i64 v.k, .int .i64 v.n, .int .u64 v.u, .string v.s]
          have b4 := bl_al b3 (.cells #[.int .i64 v.k, .int .i64 v.n, .int .u64 v.u, .string v.s] 24)
          clear hvj s1 hc0 b3
          cases hvo : v.ok
          · have HC := Lib.hid (fun w => cval_n v HVR.out.2 hvo w)
            have HRI := Lib.hid (fun w => rright_n v hvo w)
            clear hvo
            go_wp2_with fail
            refine (HC.out _).mono ?_
            rintro e w4 ⟨A4, c4, rfl, o4, q4⟩
            replace b4 := bl_ca b4 q4
            replace hT := hT.ca q4
            clear q4 e0 e1 e2 e3 o4
            have t0 := hT.cell 0
            have t1 := hT.cell 1
            have t2 := hT.cell 2
            have t3 := hT.cell 3
            go_wp2_with fail
            refine (HRI.out _).mono ?_
            rintro e w5 ⟨rfl, q5⟩
            replace b4 := bl_ca b4 q5
            clear q5 t0 t1 t2 t3 hT
            go_wp2
            go_roundg (gk - 1)
            · exact ⟨j + 1, by omega, by omega, by go_num, b4⟩
            · omega
          · have HC := Lib.hid (fun w => cval_y v HVR.out.2 hvo w)
            have HRI := Lib.hid (fun w => rright_y v hvo w)
            have HVA := Lib.hid (fun w => retN_m hvo HVR.out.2 w)
            clear hvo
            generalize valB v = bs at *
            go_wp2_with fail
            refine (HC.out _).mono ?_
            rintro e w4 ⟨A4, c4, rfl, o4, q4⟩
            replace b4 := bl_ca b4 q4
            replace hT := hT.ca q4
            clear q4 e0 e1 e2 e3
            have t0 := hT.cell 0
            have t1 := hT.cell 1
            have t2 := hT.cell 2
            have t3 := hT.cell 3
            go_wp2_with fail
            refine (HRI.out _).mono ?_
            rintro e w5 ⟨rfl, q5⟩
            replace b4 := bl_ca b4 q5
            replace hT := hT.ca q5
            have o5 := o4.below q5
            clear q5 t0 t1 t2 t3 o4
            have t0 := hT.cell 0
            have t1 := hT.cell 1
            have t2 := hT.cell 2
            have t3 := hT.cell 3
            go_wp2_with fail
            refine (HVA.out _).mono ?_
            rintro e w6 ⟨A6, c6, rfl, o6, q6⟩
            replace b4 := bl_ca b4 q6
            have o56 := o5.below q6
            clear q6 t0 t1 t2 t3 o5 hT
            go_wp2_with fail
            refine (equal_self _ _ _ _ _ _ _ _ o56.rd o6.rd).mono ?_
            rintro e w7 ⟨rfl, rfl⟩
            clear o56 o6
            go_wp2
            go_roundg (gk - 1)
            · exact ⟨j + 1, by omega, by omega, by go_num, b4⟩
            · omega
        · obtain rfl : j = nr := by omega
          have hrr := HR.out.below b3
          have HU := Lib.hid (show ∀ v ∈ r, uOk v from fun v hv => (HVG.out v hv).2)
          have HC := Lib.hid (fun W (h : RdV W Ar j r) => row_any Ar j cr r W h HU.out)
          have HD := Lib.hid (fun W (h : RdV W Ar j r) => rrow_any Ar j cr r W h HU.out)
          generalize rowB r = bs at *
          generalize rowE r = E at *
          clear HVG HU HR hc0
          go_wp2_with fail
          refine (HC.out _ hrr).mono ?_
          rintro e w4 ⟨A4, c4, rfl, o4, q4⟩
          replace b3 := bl_ca b3 q4
          replace hrr := hrr.below q4
          clear q4
          go_wp2_with fail
          refine (HD.out _ hrr).mono ?_
          rintro e w5 ⟨A5, c5, rfl, o5, q5⟩
          replace b3 := bl_ca b3 q5
          have o45 := o4.below q5
          clear q5 o4 hrr
          go_wp2_with fail
          refine (equal_self _ _ _ _ _ _ _ _ o45.rd o5.rd).mono ?_
          rintro e w7 ⟨rfl, rfl⟩
          clear o45 o5
          have b2' := bl_ca b2 b3
          have bb' := bl_ca bb b3
          go_wp2
          go_roundg (g1 - 1)
          · exact ⟨i + 1, by omega, by omega, by go_num, b2', bb'⟩
          · omega
    · obtain rfl : i = m := by omega
      have hrd := Lay.rd_below HL.out b2
      have hv2 := Lib.hid (Lay.rd_below HV.out bb)
      have HU := Lib.hid (rows_u HRG.out)
      have HA := Lib.hid (fun W (h : LR.rd W (fun _ => True) A2 i L) => list_any (fun _ => True) A2 i c2 L W h HU.out)
      have HB := Lib.hid (fun W (h : LR.rd W (fun _ => True) A2 i L) => rlist_any (fun _ => True) A2 i c2 L W h HU.out)
      have HC := Lib.hid (fun W (h : LR.rd W (fun _ => True) A2 i L) => size_any (fun _ => True) A2 i c2 L W h HU.out)
      clear HV HL HU b2 HRG hi hi1 hi2
      generalize listB L = bs at *
      generalize listE L = E at *
      generalize listAt L = T at *
      have HRD := Lib.hid hrd
      clear hrd
      go_wp2_with fail
      refine (HA.out _ HRD.out).mono ?_
      rintro e w4 ⟨A4, c4, rfl, o4, q4⟩
      replace bb := bl_ca bb q4
      have HR4 := Lib.hid (Lay.rd_below HRD.out q4)
      have HV4 := Lib.hid (Lay.rd_below hv2.out q4)
      clear q4
      go_wp2_with fail
      refine (HB.out _ HR4.out).mono ?_
      rintro e w5 ⟨A5, c5, rfl, o5, q5⟩
      replace bb := bl_ca bb q5
      have HR5 := Lib.hid (Lay.rd_below HR4.out q5)
      have HV5 := Lib.hid (Lay.rd_below HV4.out q5)
      have o45 := o4.below q5
      clear q5 o4 HR4 HV4
      go_wp2_with fail
      refine (HC.out _ HR5.out).mono ?_
      rintro e w6 ⟨rfl, q6⟩
      replace bb := bl_ca bb q6
      have HR6 := Lib.hid (Lay.rd_below HR5.out q6)
      have HV6 := Lib.hid (Lay.rd_below HV5.out q6)
      have o46 := o45.below q6
      have o56 := o5.below q6
      clear q6 o45 o5 HR5 HV5
      go_wp2_with fail
      refine (equal_self _ _ _ _ _ _ _ _ o46.rd o56.rd).mono ?_
      rintro e w7 ⟨rfl, rfl⟩
      clear o46 o56
      go_wp2_with fail
      refine (HFEW.out _ HV6.out).mono ?_
      rintro e w8 ⟨A8, m8, c8, rfl, o8, q8⟩
      replace bb := bl_ca bb q8
      have HR8 := Lib.hid (Lay.rd_below HR6.out q8)
      have hl8 := Lay.own_len o8
      obtain rfl : m8 = i := by rw [← hl8]; exact HLN.out
      have HS := Lib.hid (same_self (c := c2) (d := c8) HR8.out (lr_rd o8) (by omega))
      clear q8 o8 hl8 HR6 HR8 HV6
      go_wp2_with fail
      refine HS.out.mono ?_
      rintro e w9 ⟨rfl, q9⟩
      go_wp2
      go_ret
      exact ⟨rfl, bl_ca bb q9⟩
end Go.Proofs.Ytfpodalnnchnoaa
