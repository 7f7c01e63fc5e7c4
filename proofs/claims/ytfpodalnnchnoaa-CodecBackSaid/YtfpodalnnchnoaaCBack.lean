/- The walk of the law CodecBack. Conditions: the slices read as these rows and bytes. -/
import Derived.Test.YtfpodalnnchnoaaCLays
import Derived.Test.YtfpodalnnchnoaaCLess
import Derived.Lib.MinMax
namespace Go.Proofs.Ytfpodalnnchnoaa
open Go.RowKit
theorem takeList_less {l : List (List VV)} (hl : listE l = 0) (hg : ∀ r ∈ l, ∀ v ∈ r, v.rng) (A : Option Addr) (k c : Nat) (w : World) (hk : k < (listB l).length) (h : RdB w A k ((listB l).take k)) (hn : k ≤ 140737488351232) :
    Calls Try.prog 22 #[.slice A k c] w fun e w' => ∃ A' k' c' m', e = .returned (.tuple #[.slice A' k' c', .int .i64 m', .int .i64 7]) ∧ Below w.heap.size w w' := by
  have := takeList_any A k c _ w h hn
  rw [tl_less hl hg hk] at this
  exact this.mono fun _ _ ⟨A', k', c', h1, _, h3⟩ => ⟨A', k', c', _, h1, h3⟩
theorem takeRow_back {r : List VV} (tail : List UInt8) (hl : rowE r = 0) (hg : ∀ v ∈ r, v.rng) (A : Option Addr) (n c : Nat) (w : World) (h : RdB w A n (rowB r ++ tail)) (hn : n ≤ 140737488351232) :
    Calls Try.prog 23 #[.slice A n c] w fun e w' => ∃ A' k c', e = .returned (.tuple #[.slice A' k c', .int .i64 ((rowB r).length : Int), .int .i64 0]) ∧ LV.own 24 w' w.heap.size NoB A' k c' r ∧ Below w.heap.size w w' := by
  have := takeRow_any A n c _ w h hn
  obtain ⟨e1, e2, e3⟩ := tr_fwd tail hl hg
  rwa [e1, e2, e3] at this
set_option maxRecDepth 100000 in
set_option maxHeartbeats 16000000 in
theorem codecBack_walk (A : Option Addr) (n c : Nat) (rows : List (List VV)) (T : Option Addr) (tn tc : Nat) (tb : List UInt8) (w : World) (hv : LR.rd w (fun _ => True) A n rows) (hn : n ≤ 9223372036854775807) (hr : ∀ r ∈ rows, ∀ v ∈ r, v.rng) (ht : RdB w T tn tb) (htc : tn ≤ tc) (htm : tc ≤ 9223372036854775807) :
    Calls Try.prog 6 #[.slice A n c, .slice T tn tc] w fun e w' => e = .returned (.bool true) ∧ Below w.heap.size w w' := by
  have qq := Below.refl w.heap.size w
  have HFEW := Lib.hid (fun W (h : LR.rd W (fun _ => True) A n rows) => few_any (fun _ => True) A n c rows W h hn)
  have HRG := Lib.hid (fewR_rng (m := 20) hr)
  generalize fewR 20 rows = L at *
  obtain ⟨tk, htk⟩ : ∃ k : Nat, min (tn : Int) 100 = (k : Int) := ⟨min tn 100, by omega⟩
  have hk1 : tk ≤ 100 := by omega
  have hk2 : tk ≤ tn := by omega
  have hk3 : (tk : Int) ≤ (tc : Int) := by omega
  have HT := Lib.hid (ht.take hk2)
  generalize tb.take tk = tl at *
  have HV := Lib.hid hv
  clear hv hr hn ht hk2
  go_enter Try.func6, Try.ntmps6
  go_wp2_with fail
  refine (wakes6_any w).mono ?_
  rintro e w1 ⟨rfl, q1⟩
  replace qq := bl_ca qq q1
  have hv1 := Lib.hid (Lay.rd_below HV.out q1)
  clear q1
  go_wp2_with fail
  refine (HFEW.out _ hv1.out).mono ?_
  rintro e w2 ⟨A2, m, c2, rfl, o2, q2⟩
  replace qq := bl_ca qq q2
  have HL := Lib.hid (lr_rd o2)
  have HLN := Lib.hid (Lay.own_len o2)
  have hmc := Lay.own_caps o2
  have hmx : m ≤ 9223372036854775807 := by omega
  clear q2 o2 hv1 hmc HFEW HV
  replace HT := Lib.hid (HT.out.below qq)
  have HU := Lib.hid (rows_u HRG.out)
  by_cases he : listE L = 0
  · have HA := Lib.hid (fun W (h : LR.rd W (fun _ => True) A2 m L) => list_y (c := c2) h HU.out he)
    have HTK := Lib.hid (fun W A n c h hn => takeList_back tl he HRG.out A n c W h hn)
    have HLE := Lib.hid (fun W A k c hk h hn => takeList_less he HRG.out A k c W hk h hn)
    have HLB := Lib.hid (listB_len L)
    have HLO := Lib.hid (listE_ok he)
    have HAX := Lib.hid (fun A m c W (h : LR.rd W (fun _ => True) A m L) => list_y (c := c) h HU.out he)
    clear he
    generalize listB L = bs at *
    generalize listAt L = at_ at *
    go_wp2_with fail
    refine (HA.out _ HL.out).mono ?_
    rintro e w3 ⟨A3, c3, rfl, o3, q3⟩
    obtain ⟨N, hN⟩ : ∃ N, bs.length = N := ⟨_, rfl⟩
    rw [hN] at o3 HTK HLE HLB ⊢
    have HN := Lib.hid hN
    have hNm : N ≤ 269202 := by have h1 := HLB.out; have h2 := HLO.out.1; omega
    have HT3 := Lib.hid (HT.out.below q3)
    have HL3 := Lib.hid (Lay.rd_below HL.out q3)
    have qq3 := bl_ca qq q3
    have oe := OwnB.empty w3
    have HB3 := Lib.hid o3.rd
    have hB3 := (o3.alloc (.cells #[] 5)).rd
    have hc3 := o3.cap.1
    clear hN o3 HLB HA HT HL q3 qq
    go_wp2_with (first | (at_builtin; refine wpList_appB rfl (.tmp 47) (.tmp 48) rfl w3.heap.size (some ⟨w3.heap.size, 0, none⟩) 0 0 [] A3 N c3 bs rfl rfl oe hB3 (by omega) (by simp) ?_; intro A4 c4 w4 o4 b4; rw [Nat.zero_add, List.nil_append] at o4; clear oe hB3; have b34 := Lib.hid ((bl_al (Below.refl w3.heap.size w3) (.cells #[] 5)).trans b4); have hT4 := HT3.out.below b34.out; have hsz4 := b34.out.size; clear b4) | (at_builtin; refine wpList_appB rfl (.tmp 49) (.tmp 50) rfl w3.heap.size A4 N c4 bs T tk tc tl rfl rfl o4 hT4 (by omega) hsz4 ?_; intro A5 c5 w5 o5 b5; clear o4 hT4))
    have b35 := b34.out.trans b5
    clear b34 b5
    refine (HTK.out _ _ _ _ o5.rd (by omega)).mono ?_
    rintro e w6 ⟨A6, k6, c6, rfl, o6, q6⟩
    have b36 := bl_ca b35 q6
    have hk6 : k6 = m := by rw [← Lay.own_len o6]; exact HLN.out
    subst hk6
    have HX6 := Lib.hid (lr_rd o6)
    clear o5 b35 q6 o6 HTK
    go_wp2_with fail
    go_loopg [73] N (fun g s wr => ∃ i : Nat, i + g ≤ N ∧ N ≤ i + g ∧ s = .int .i64 i ∧ Below w6.heap.size w6 wr ∧ Below w3.heap.size w3 wr)
    case atStart => exact ⟨0, by omega, by omega, rfl, Below.refl _ _, b36⟩
    case round =>
      clear b36
      obtain ⟨i, hi1, hi2, rfl, b6, b3⟩ := hrel
      by_cases hi : i < N
      · have hrb := HB3.out.below b3
        have HTI := Lib.hid (HLE.out _ A3 i c3 hi (hrb.take (by omega)) (by omega))
        have hic : (i : Int) ≤ (c3 : Int) := by omega
        clear hrb
        go_wp2_with fail
        · refine HTI.out.mono ?_
          rintro e w7 ⟨A7, k7, c7, m7, rfl, q7⟩
          have b6' := bl_ca b6 q7
          have b3' := bl_ca b3 q7
          go_wp2
          go_roundg (gk - 1)
          · exact ⟨i + 1, by omega, by omega, by go_num, b6', b3'⟩
          · omega
        · go_roundg (gk - 1)
          · exact ⟨i + 1, by omega, by omega, by go_num, b6, b3⟩
          · omega
        · refine HTI.out.mono ?_
          rintro e w7 ⟨A7, k7, c7, m7, rfl, q7⟩
          have b6' := bl_ca b6 q7
          have b3' := bl_ca b3 q7
          go_wp2
          go_roundg (gk - 1)
          · exact ⟨i + 1, by omega, by omega, by go_num, b6', b3'⟩
          · omega
      · obtain rfl : i = N := by omega
        have HA6 := Lib.hid (Lay.rd_below HX6.out b6)
        have HL6 := Lib.hid (Lay.rd_below HL3.out b3)
        have HT6 := Lib.hid (HT3.out.below b3)
        have HB6 := Lib.hid (HB3.out.below b3)
        have qq6 := bl_ca qq3 b3
        have HA := Lib.hid (fun W (h : LR.rd W (fun _ => True) A6 k6 L) => HAX.out A6 k6 c6 W h)
        clear HX6 HL3 HT3 HB3 qq3 hi hi1 hi2 HLE b6 b3
        go_wp2_with fail
        refine (HA.out _ HA6.out).mono ?_
        rintro e w8 ⟨A8, c8, rfl, o8, q8⟩
        replace HA6 := Lib.hid (Lay.rd_below HA6.out q8)
        replace HL6 := Lib.hid (Lay.rd_below HL6.out q8)
        replace HT6 := Lib.hid (HT6.out.below q8)
        replace HB6 := Lib.hid (HB6.out.below q8)
        replace qq6 := bl_ca qq6 q8
        rw [HN.out] at o8 ⊢
        clear q8 HA HAX
        go_wp2_with fail
        refine (equal_self _ _ _ _ _ _ _ _ o8.rd HB6.out).mono ?_
        rintro e w9 ⟨rfl, rfl⟩
        clear o8 HB6 hc3 HN
        go_wp2_with fail
        go_loopg [113] k6 (fun g s wr => ∃ i : Nat, i + g ≤ k6 ∧ k6 ≤ i + g ∧ s = .int .i64 i ∧ Below w8.heap.size w8 wr ∧ Below w.heap.size w wr)
        case atStart => exact ⟨0, by omega, by omega, rfl, Below.refl _ _, qq6⟩
        case round =>
          clear qq6
          obtain ⟨j, hi1, hi2, rfl, b8, bb⟩ := hrel
          obtain ⟨g1, rfl⟩ : ∃ g1, g1 = gk := ⟨_, rfl⟩
          obtain ⟨wo, rfl⟩ : ∃ wo : World, wo = wr := ⟨_, rfl⟩
          by_cases hi : j < k6
          · obtain ⟨ad, r, Ar, nr, cr, rfl, hri, l1, hc0, hl1, hl2, hrd⟩ := Lay.slice_at (Lay.rd_below HL6.out b8) hi
            obtain ⟨ax, r', Ax, nx, cx, rfl, hri', l1', hx0, _, _, hrx⟩ := Lay.slice_at (Lay.rd_below HA6.out b8) hi
            obtain rfl : r = r' := by rw [hri] at hri'; injection hri'
            obtain rfl : nr = nx := hrd.1.symm.trans hrx.1
            have HLR := Lib.hid hrd.1
            have hnr : nr ≤ 9223372036854775807 := by omega
            have hji : (j : Int) < (k6 : Int) := by omega
            have HR := Lib.hid (LV_rd hrd)
            have HX := Lib.hid (LV_rd hrx)
            have hmem := List.mem_of_getElem? hri
            have hre := HLO.out.2 r hmem
            have HVG := Lib.hid (HRG.out r hmem)
            have HROW := Lib.hid (fun W (h : RdV W Ar nr r) => row_y (c := cr) h (fun v hv => (HVG.out v hv).2) hre)
            have HTR := Lib.hid (fun W A n c h hn => takeRow_back tl hre HVG.out A n c W h hn)
            have hrl := rowB_len r
            have HX0 := Lib.hid hx0
            have HL1 := Lib.hid l1'
            have HT8 := Lib.hid (HT6.out.below b8)
            clear hri hri' hmem hre hrd hrx hl1 hl2 l1 hx0 l1'
            generalize rowB r = rb at *
            go_wp2_with fail
            refine (HROW.out _ HR.out).mono ?_
            rintro e wa ⟨Aa, ca, rfl, oa, qa⟩
            obtain ⟨M, hM⟩ : ∃ M, rb.length = M := ⟨_, rfl⟩
            rw [hM] at oa HTR hrl ⊢
            have HTa := Lib.hid (HT8.out.below qa)
            have ba := Lib.hid qa
            have oe := OwnB.empty wa
            have hBa := (oa.alloc (.cells #[] 5)).rd
            clear hM oa HT8 qa hc0
            go_wp2_with (first | (at_builtin; refine wpList_appB rfl (.tmp 124) (.tmp 125) rfl wa.heap.size (some ⟨wa.heap.size, 0, none⟩) 0 0 [] Aa M ca rb rfl rfl oe hBa (by omega) (by simp) ?_; intro Ab cb wb ob bb4; rw [Nat.zero_add, List.nil_append] at ob; clear oe hBa; have b34 := Lib.hid ((bl_al (Below.refl wa.heap.size wa) (.cells #[] 5)).trans bb4); have hTb := HTa.out.below b34.out; have hszb := b34.out.size; clear bb4) | (at_builtin; refine wpList_appB rfl (.tmp 126) (.tmp 127) rfl wa.heap.size Ab M cb rb T tk tc tl rfl rfl ob hTb (by omega) hszb ?_; intro Ac cc wc oc bc5; clear ob hTb))
            have b35 := b34.out.trans bc5
            clear b34 bc5
            refine (HTR.out _ _ _ _ oc.rd (by omega)).mono ?_
            rintro e wd ⟨Ad, kd, cd, rfl, od, qd⟩
            obtain rfl : kd = nr := by rw [← Lay.own_len od]; exact HLR.out
            have HQ := Lib.hid (LV_rd (Lay.own_rd (F := fun _ => True) od (fun _ _ _ => trivial) (fun _ _ _ => trivial)))
            have bd := bl_ca (bl_ca ba.out b35) qd
            have hx1 := cell_keep HX0.out HL1.out bd
            have HX1 := Lib.hid hx1
            have HLd := Lib.hid (Nat.lt_of_lt_of_le HL1.out bd.size)
            have HRd := Lib.hid (HR.out.below bd)
            have HXd := Lib.hid (HX.out.below bd)
            clear oc b35 qd od HTR HTa ba HX HR HX0 HL1
            go_wp2_with fail
            go_loopg [164] kd (fun g s wr => ∃ i : Nat, i + g ≤ kd ∧ kd ≤ i + g ∧ s = .int .i64 i ∧ Below wd.heap.size wd wr)
            case atStart => exact ⟨0, by omega, by omega, rfl, Below.refl _ _⟩
            case round =>
              clear hx1
              obtain ⟨t, ht1, ht2, rfl, bt⟩ := hrel
              by_cases ht : t < kd
              · have hx1 := cell_keep HX1.out HLd.out bt
                obtain ⟨p1, v, rfl, hv, s1⟩ := rdv_at (HQ.out.below bt) ht
                obtain ⟨p2, u, rfl, hu, s2⟩ := rdv_at (HRd.out.below bt) ht
                obtain ⟨p3, y, rfl, hy, s3⟩ := rdv_at (HXd.out.below bt) ht
                obtain rfl : v = u := by rw [hv] at hu; injection hu
                obtain rfl : v = y := by rw [hv] at hy; injection hy
                have hti : (t : Int) < (kd : Int) := by omega
                have e0 := s1.c0
                have e1 := s1.c1
                have e2 := s1.c2
                have e3 := s1.c3
                have f0 := s2.c0
                have f1 := s2.c1
                have f2 := s2.c2
                have f3 := s2.c3
                have g0 := s3.c0
                have g1' := s3.c1
                have g2 := s3.c2
                have g3 := s3.c3
                have HEQ : ∀ W, (Op.equalIn 10000 24 (.agg #[.int .i64 v.k, .int .i64 v.n, .int .u64 v.u, .string v.s]) (.agg #[.int .i64 v.k, .int .i64 v.n, .int .u64 v.u, .string v.s])).run Try.prog W = .ok true W := fun W => by rw [run_eqVV]; rw [(eqVV_iff v v).2 rfl]
                clear hv hu hy s1 s2 s3
                go_wp2_with fail
                go_quiet (fail)
                go_wp2
                go_roundg (gk - 1)
                · exact ⟨t + 1, by omega, by omega, by go_num, bl_dr bt _⟩
                · omega
              · obtain rfl : t = kd := by omega
                have b8' := bl_ca b8 (bl_ca bd bt)
                have bb' := bl_ca bb (bl_ca bd bt)
                go_wp2
                go_roundg (g1 - 1)
                · exact ⟨j + 1, by omega, by omega, by go_num, b8', bb'⟩
                · omega
          · obtain rfl : j = k6 := by omega
            go_wp2
            go_ret
            exact ⟨rfl, bb⟩
  · have HA := Lib.hid (fun W (h : LR.rd W (fun _ => True) A2 m L) => list_n (c := c2) h HU.out he)
    have he1 : (listE L != 0) = true := by simpa using he
    generalize listE L = E at *
    generalize listAt L = at_ at *
    clear he
    go_wp2_with fail
    refine (HA.out _ HL.out).mono ?_
    rintro e w3 ⟨A3, c3, rfl, o3, q3⟩
    clear o3
    go_wp2
    go_ret
    exact ⟨rfl, bl_ca qq q3⟩
end Go.Proofs.Ytfpodalnnchnoaa
