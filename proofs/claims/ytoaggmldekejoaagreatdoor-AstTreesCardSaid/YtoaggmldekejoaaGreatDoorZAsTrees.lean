/- AstTrees: which trees may be, are the same, how deep they are, how they are written. Conditions: the rows of nodes read so; what the tables hold. -/
import Derived.Test.YtoaggmldekejoaaGreatDoorPkT17
namespace Go.Proofs.YtoaggmldekejoaaGreatDoor
open Go.RowKit
theorem size_dep {xs : List Nd} (h : okF xs = true) : (sizeF cntB xs xs.length xs.length).2 = depF xs := by
  obtain ⟨t, ht⟩ := okF_ex h
  rw [size_tree ht, depF_of ht]
theorem no_print {xs : List Nd} (h : okF xs = false) : prF xs = ⟨#[]⟩ ∧ depF xs = 0 := by
  unfold prF depF
  cases ht : treeF cntB xs with
  | some t => rw [okF_of ht] at h; cases h
  | none => exact ⟨rfl, rfl⟩
set_option maxRecDepth 100000 in
set_option maxHeartbeats 16000000 in
theorem trees_walk (ls : List (List Nd)) (A : Option Addr) (n c : Nat) (w : World) (h : LTr.rd w AllB A n ls) (hn : n ≤ 9223372036854775807) (hT : Tab w) (hS : ∀ xs ∈ ls, ∀ z ∈ xs, SmP z.p ∧ RgP z.p) :
    Calls Tryz.prog 3 #[.slice A n c] w fun e w' => e = .returned (.bool true) ∧ Below w.heap.size w w' := by
  have HX := Lib.hid h
  have HT := Lib.hid hT
  have HS := Lib.hid hS
  have HLEN := Lib.hid (Lay.rd_len h)
  clear h hT hS
  go_enter Tryz.func3, Tryz.ntmps3
  go_wp2_with fail
  refine (wakes_any w HT.out).mono ?_
  rintro e w0 ⟨rfl, q0⟩
  have HQ0 := Lib.hid q0
  clear q0
  go_wp2_with fail
  go_loopg [16] n (fun g a wr => ∃ i : Nat, i + g = n ∧ i ≤ 8 ∧ a = .int .i64 (i : Int) ∧ Hid (Below w.heap.size w wr))
  case atStart => exact ⟨0, by omega, by omega, rfl, HQ0⟩
  case round =>
    obtain ⟨i, hig, hi8, rfl, HQR⟩ := hrel
    by_cases hlt : i < n
    · have hi1 : (i : Int) < (n : Int) := by omega
      obtain ⟨ad, x, B, m, mc, hAe, hx, xc, hrx, hmc, hc9⟩ := LTr_at (Lay.rd_below HX.out HQR.out) hlt
      obtain rfl : A = some ad := hAe
      obtain ⟨ad2, y, B2, m2, mc2, hAe2, hy, yc, hry, hmc2, hc92⟩ := LTr_at (Lay.rd_below HX.out HQR.out) (show 0 < n by omega)
      obtain rfl : ad = ad2 := by injection hAe2
      have HBX := Lib.hid (Blk.new wr 26 #[.slice B m mc])
      have HQX := Lib.hid (bl_al HQR.out (.cells #[.slice B m mc] 26))
      have HXX := Lib.hid (HS.out x (List.mem_of_getElem? hx))
      have HYY := Lib.hid (HS.out y (List.mem_of_getElem? hy))
      have HRX := Lib.hid (Lay.rd_below hrx (bl_al (Below.refl wr.heap.size wr) (.cells #[.slice B m mc] 26)))
      have HRY := Lib.hid (Lay.rd_below hry (bl_al (Below.refl wr.heap.size wr) (.cells #[.slice B m mc] 26)))
      have HYC := Lib.hid (ce (a := ad) yc (bl_al (Below.refl wr.heap.size wr) (.cells #[.slice B m mc] 26)))
      have HM := Lib.hid (And.intro (Nat.le_trans hmc hc9) (Nat.le_trans hmc2 hc92))
      clear hx hy hrx hry hmc hc9 hmc2 hc92 yc
      by_cases h8 : i = 8
      · have h8' : ((i : Int) == 8) = true := by simp; omega
        clear h8
        go_wp2
        go_ret
        exact ⟨rfl, HQX.out⟩
      have hi8' : ((i : Int) == 8) = false := by simp; omega
      have hi9 : i ≤ 7 := by omega
      clear h8
      go_upto_region 7 with fail
      generalize wr.alloc (.cells #[.slice B m mc] 26) = w1 at *
      clear xc
      obtain ⟨gx, hgx⟩ : ∃ g, g = wr.heap.size := ⟨_, rfl⟩
      rw [← hgx] at HBX ⊢
      clear hgx
      have hn0 : ¬ n = 0 := by omega
      have HSX := Lib.hid (fun z hz => (HXX.out z hz).1)
      have HSY := Lib.hid (fun z hz => (HYY.out z hz).1)
      refine wp_region_psF (F := fun a1 a' w' => ∃ g8a h8a A5a n5a c5a A6a n6a c6a, (∃ v23 v24 v25 v26 v27 v28, a' = ((((((((a1.put (some 23) v23).put (some 24) v24).put (some 25) v25).put (some 26) v26).put (some 27) v27).put (some 28) v28).put (some 5) (.pointer (some ⟨g8a, 0, none⟩))).put (some 6) (.pointer (some ⟨h8a, 0, none⟩)))) ∧ Below w1.heap.size w1 w' ∧ (w1.heap.size ≤ g8a ∧ w1.heap.size ≤ h8a ∧ g8a ≠ h8a) ∧ Blk w' g8a 26 #[.slice A5a n5a c5a] ∧ Blk w' h8a 26 #[.slice A6a n6a c6a] ∧ LN.rd w' (fun x => x ≠ g8a ∧ x ≠ h8a) A5a n5a (shortN x) ∧ LN.rd w' (fun x => x ≠ g8a ∧ x ≠ h8a) A6a n6a (shortN y) ∧ (n5a ≤ c5a ∧ c5a ≤ 9223372036854775807) ∧ n6a ≤ c6a ∧ c6a ≤ 9223372036854775807) (S := W2B (W2KB (shortN x) (shortN y) 26 w1)) (by kernel_rfl) ?spswg59 ?ppswg59 ?kpswg59
      case spswg59 =>
        exact W2B.start (by decide) ⟨(Below.refl w1.heap.size w1).drew, (fun g e => by cases e), (fun g e => by cases e)⟩
      case ppswg59 =>
        refine Ps.st (i := 0) (d := some 23) (u := (.agg #[.slice B m mc])) rfl rfl ?ywg59_60 ?rwg59_60
        case ywg59_60 =>
          refine StepS.read [] (by kernel_rfl) (W2B.pass (by decide) (by decide) (by decide)) (by rfl) (fun L9 m9 w9 hSh hAt hDn hS => ?_)
          have hT : Below w1.heap.size w1 w9 := W2B.any (T := fun w9 => Below w1.heap.size w1 w9) (fun _ _ _ _ _ h => h.1) hS
          have x0 : w9.cell? ⟨gx, 0, none⟩ = some (.slice B m mc) := (HBX.out.ca hT).cell 0
          clear hT hS
          go_simp
          try rfl
        try simp only [Act.put, sA, sZ, sS]
        refine Ps.st (i := 2) (d := some 25) (u := (.slice (some ad) n c)) rfl rfl (by exact StepS.pure (W2B.pass (by decide) (by decide) (by decide)) rfl fun _ => rfl) ?_
        try simp only [Act.put, sA, sZ, sS]
        refine Ps.st (i := 3) (d := some 26) (u := (.pointer (some (ad)))) rfl rfl (by exact StepS.pure (W2B.pass (by decide) (by decide) (by decide)) rfl fun _ => by first | rfl | (go_simp; done) | (go_simp; rfl)) ?_
        try simp only [Act.put, sA, sZ, sS]
        refine Ps.st (i := 4) (d := some 27) (u := (.agg #[.slice B2 m2 mc2])) rfl rfl ?ywg59_63 ?rwg59_63
        case ywg59_63 =>
          refine StepS.read [] (by kernel_rfl) (W2B.pass (by decide) (by decide) (by decide)) (by rfl) (fun L9 m9 w9 hSh hAt hDn hS => ?_)
          have hT : Below w1.heap.size w1 w9 := W2B.any (T := fun w9 => Below w1.heap.size w1 w9) (fun _ _ _ _ _ h => h.1) hS
          have x0 : w9.cell? (ad) = some (.slice B2 m2 mc2) := ce HYC.out hT
          clear hT hS
          go_simp
          try rfl
        try simp only [Act.put, sA, sZ, sS]
        refine Ps.some3 (i := 1) (j := 6) (k := 7) (by kernel_rfl) ?bwg59_64_1 ?bwg59_64_6 ?bwg59_64_7
        case bwg59_64_1 =>
          refine Turns.mk (i := 1) (d := some 24) rfl rfl (TurnS.call (V := fun v => ∃ A n c, v = .agg #[.slice A n c]) ?fwg59_65 ?awg59_65 [] (by kernel_rfl) (by rfl) (fun w9 => ?hwg59_65) (fun L9 m9 w9 hSh hAt hDn hS => ?cwg59_65)) (fun v5a hVv5a => ?rwg59_65)
          case hwg59_65 => go_simp; refine ⟨?_, ?_⟩ <;> rfl
          case cwg59_65 =>
            obtain ⟨al, bl, hB, hset⟩ := W2B.on1 hDn (post_no (post := [5]) hSh hDn (by kernel_rfl) 5 (by simp)) (post_no (post := [8]) hSh hDn (by kernel_rfl) 8 (by simp)) (post_no (post := [9]) hSh hDn (by kernel_rfl) 9 (by simp)) hS
            have hT := hB.1
            refine (short_any AllB x B m mc w9 (Lay.rd_below HRX.out hT) HM.out.1 HSX.out).mono ?_
            rintro e w6 ⟨A, n, c, rfl, hr6, h6a, h6b, q6⟩
            exact ⟨_, rfl, ⟨A, n, c, rfl⟩, hset _ _ (W2KB.c1 hB q6 hr6 h6a h6b)⟩
          try simp only [Act.put, sA, sZ, sS]
          obtain ⟨A5a, n5a, c5a, rfl⟩ := hVv5a
          refine Ps.some3 (i := 5) (j := 6) (k := 7) (by kernel_rfl) ?bwg59_66_5 ?bwg59_66_6 ?bwg59_66_7
          case bwg59_66_5 =>
            refine Turns.mk (i := 5) (d := some 28) rfl rfl (TurnS.call (V := fun v => ∃ A n c, v = .agg #[.slice A n c]) ?fwg59_67 ?awg59_67 [1] (by kernel_rfl) (by rfl) (fun w9 => ?hwg59_67) (fun L9 m9 w9 hSh hAt hDn hS => ?cwg59_67)) (fun v6a hVv6a => ?rwg59_67)
            case hwg59_67 => go_simp; refine ⟨?_, ?_⟩ <;> rfl
            case cwg59_67 =>
              obtain ⟨al, bl, hB, hset⟩ := W2B.on3 (hAt 1 (by simp)).1 hDn (post_no (post := [8]) hSh hDn (by kernel_rfl) 8 (by simp)) (post_no (post := [9]) hSh hDn (by kernel_rfl) 9 (by simp)) hS
              have hT := hB.1
              refine (short_any AllB y B2 m2 mc2 w9 (Lay.rd_below HRY.out hT) HM.out.2 HSY.out).mono ?_
              rintro e w6 ⟨A, n, c, rfl, hr6, h6a, h6b, q6⟩
              exact ⟨_, rfl, ⟨A, n, c, rfl⟩, hset _ _ (W2KB.c3 hB q6 hr6 h6a h6b)⟩
            try simp only [Act.put, sA, sZ, sS]
            obtain ⟨A6a, n6a, c6a, rfl⟩ := hVv6a
            refine Ps.some2 (i := 6) (j := 7) (by kernel_rfl) ?bwg59_68_6 ?bwg59_68_7
            case bwg59_68_6 =>
              refine Turns.mk (i := 6) (d := some 5) rfl rfl (TurnS.value (V := fun v => ∃ g, v = .pointer (some ⟨g, 0, none⟩)) [] (by kernel_rfl) (by rfl) (fun L9 m9 w9 hSh hAt hDn hS => ?cwg59_69)) (fun v6a hVv6a => ?rwg59_69)
              case cwg59_69 =>
                exact ⟨.pointer (some ⟨w9.heap.size, 0, none⟩), w9.alloc (.cells #[.slice none 0 0] 26), (by clear hS; go_simp), ⟨_, rfl⟩, W2B.made4 hDn (post_no (post := [8]) hSh hDn (by kernel_rfl) 8 (by simp)) (post_no (post := [9]) hSh hDn (by kernel_rfl) 9 (by simp)) rfl (W2KB.m4) hS⟩
              try simp only [Act.put, sA, sZ, sS]
              obtain ⟨g8a, rfl⟩ := hVv6a
              refine Ps.one (k := 7) (d := some 6) rfl rfl (by kernel_rfl) (TurnS.value (V := fun v => ∃ g, v = .pointer (some ⟨g, 0, none⟩)) [] (by kernel_rfl) (by rfl) (fun L9 m9 w9 hSh hAt hDn hS => ?cwg59_70)) (fun v7a hVv7a => ?rwg59_70)
              case cwg59_70 =>
                exact ⟨.pointer (some ⟨w9.heap.size, 0, none⟩), w9.alloc (.cells #[.slice none 0 0] 26), (by clear hS; go_simp), ⟨_, rfl⟩, W2B.made5 hDn (post_no (post := [8]) hSh hDn (by kernel_rfl) 8 (by simp)) (post_no (post := [9]) hSh hDn (by kernel_rfl) 9 (by simp)) rfl (W2KB.m5) hS⟩
              try simp only [Act.put, sA, sZ, sS]
              obtain ⟨h8a, rfl⟩ := hVv7a
              refine Ps.st (i := 8) (d := none) (u := undef) rfl rfl ?ywg59_71 ?rwg59_71
              case ywg59_71 =>
                refine StepS.store [1, 5, 6, 7] (by kernel_rfl) (by rfl) (fun L9 m9 w9 hSh hAt hDn hS => ?_)
                obtain ⟨g, k, hm, hk, hB, hset⟩ := W2B.on6 (hAt 1 (by simp)).1 (hAt 5 (by simp)).1 (hAt 6 (by simp)).1 (hAt 7 (by simp)).1 hDn (post_no (post := [9]) hSh hDn (by kernel_rfl) 9 (by simp)) hS
                obtain rfl : g8a = g := by have h9 : Value.pointer (some ⟨g8a, 0, none⟩) = .pointer (some ⟨g, 0, none⟩) := (hAt 6 (by simp)).2.symm.trans hm; simpa using h9
                obtain rfl : h8a = k := by have h9 : Value.pointer (some ⟨h8a, 0, none⟩) = .pointer (some ⟨k, 0, none⟩) := (hAt 7 (by simp)).2.symm.trans hk; simpa using h9
                obtain ⟨_, ⟨hA, hb2⟩, _⟩ := id hB
                have hBk := (hA g8a rfl).2.2
                refine (exec_store_blk (w := w9) 26 (.tmp 5) (.tmp 24) (by rfl) g8a 26 #[.slice none 0 0] #[.slice A5a n5a c5a] (by rfl) (by rfl) hBk rfl treeI (by simp [Value.oneCell'])).imp fun w7 hx => ⟨hx.1, hset _ (W2KB.st6 hB (hAt 1 (by simp)).2 hx.2.1 hx.2.2)⟩
              try simp only [Act.put]
              refine Ps.st (i := 9) (d := none) (u := undef) rfl rfl ?ywg59_72 ?rwg59_72
              case ywg59_72 =>
                refine StepS.store [1, 5, 6, 7, 8] (by kernel_rfl) (by rfl) (fun L9 m9 w9 hSh hAt hDn hS => ?_)
                obtain ⟨g, k, hm, hk, hB, hset⟩ := W2B.on7 (hAt 1 (by simp)).1 (hAt 5 (by simp)).1 (hAt 6 (by simp)).1 (hAt 7 (by simp)).1 (hAt 8 (by simp)).1 hDn  hS
                obtain rfl : g8a = g := by have h9 : Value.pointer (some ⟨g8a, 0, none⟩) = .pointer (some ⟨g, 0, none⟩) := (hAt 6 (by simp)).2.symm.trans hm; simpa using h9
                obtain rfl : h8a = k := by have h9 : Value.pointer (some ⟨h8a, 0, none⟩) = .pointer (some ⟨k, 0, none⟩) := (hAt 7 (by simp)).2.symm.trans hk; simpa using h9
                obtain ⟨_, A1, n1, c1, hA, hb2, _⟩ := id hB
                have hBk := (hb2 h8a rfl).2
                refine (exec_store_blk (w := w9) 26 (.tmp 6) (.tmp 28) (by rfl) h8a 26 #[.slice none 0 0] #[.slice A6a n6a c6a] (by rfl) (by rfl) hBk rfl treeI (by simp [Value.oneCell'])).imp fun w7 hx => ⟨hx.1, hset _ (W2KB.st7 hB (hAt 5 (by simp)).2 hx.2.1 hx.2.2)⟩
              try simp only [Act.put]
              refine Ps.done (by kernel_rfl) (fun wg59 hS => ?_) _
              obtain ⟨g, k, hm, hk, hB⟩ := W2B.fin (by rfl) (by rfl) (by rfl) hS
              clear hS
              obtain rfl : g8a = g := by have h9 : Value.pointer (some ⟨g8a, 0, none⟩) = .pointer (some ⟨g, 0, none⟩) := hm; simpa using h9
              obtain rfl : h8a = k := by have h9 : Value.pointer (some ⟨h8a, 0, none⟩) = .pointer (some ⟨k, 0, none⟩) := hk; simpa using h9
              have hB := W2KB.pair (A := A5a) (n := n5a) (c := c5a) (A' := A6a) (n' := n6a) (c' := c6a) hB rfl rfl
              refine ⟨g8a, h8a, A5a, n5a, c5a, A6a, n6a, c6a, ⟨.agg #[.slice B m mc], .agg #[.slice A5a n5a c5a], .slice (some ad) n c, .pointer (some ad), .agg #[.slice B2 m2 mc2], .agg #[.slice A6a n6a c6a], ?_⟩, hB⟩
              clear hB hm hk
              rfl
            case bwg59_68_7 =>
              refine Turns.mk (i := 7) (d := some 6) rfl rfl (TurnS.value (V := fun v => ∃ g, v = .pointer (some ⟨g, 0, none⟩)) [] (by kernel_rfl) (by rfl) (fun L9 m9 w9 hSh hAt hDn hS => ?cwg59_73)) (fun v7a hVv7a => ?rwg59_73)
              case cwg59_73 =>
                exact ⟨.pointer (some ⟨w9.heap.size, 0, none⟩), w9.alloc (.cells #[.slice none 0 0] 26), (by clear hS; go_simp), ⟨_, rfl⟩, W2B.made5 hDn (post_no (post := [8]) hSh hDn (by kernel_rfl) 8 (by simp)) (post_no (post := [9]) hSh hDn (by kernel_rfl) 9 (by simp)) rfl (W2KB.m5) hS⟩
              try simp only [Act.put, sA, sZ, sS]
              obtain ⟨h8a, rfl⟩ := hVv7a
              refine Ps.one (k := 6) (d := some 5) rfl rfl (by kernel_rfl) (TurnS.value (V := fun v => ∃ g, v = .pointer (some ⟨g, 0, none⟩)) [] (by kernel_rfl) (by rfl) (fun L9 m9 w9 hSh hAt hDn hS => ?cwg59_74)) (fun v6a hVv6a => ?rwg59_74)
              case cwg59_74 =>
                exact ⟨.pointer (some ⟨w9.heap.size, 0, none⟩), w9.alloc (.cells #[.slice none 0 0] 26), (by clear hS; go_simp), ⟨_, rfl⟩, W2B.made4 hDn (post_no (post := [8]) hSh hDn (by kernel_rfl) 8 (by simp)) (post_no (post := [9]) hSh hDn (by kernel_rfl) 9 (by simp)) rfl (W2KB.m4) hS⟩
              try simp only [Act.put, sA, sZ, sS]
              obtain ⟨g8a, rfl⟩ := hVv6a
              refine Ps.st (i := 8) (d := none) (u := undef) rfl rfl ?ywg59_75 ?rwg59_75
              case ywg59_75 =>
                refine StepS.store [1, 5, 6, 7] (by kernel_rfl) (by rfl) (fun L9 m9 w9 hSh hAt hDn hS => ?_)
                obtain ⟨g, k, hm, hk, hB, hset⟩ := W2B.on6 (hAt 1 (by simp)).1 (hAt 5 (by simp)).1 (hAt 6 (by simp)).1 (hAt 7 (by simp)).1 hDn (post_no (post := [9]) hSh hDn (by kernel_rfl) 9 (by simp)) hS
                obtain rfl : g8a = g := by have h9 : Value.pointer (some ⟨g8a, 0, none⟩) = .pointer (some ⟨g, 0, none⟩) := (hAt 6 (by simp)).2.symm.trans hm; simpa using h9
                obtain rfl : h8a = k := by have h9 : Value.pointer (some ⟨h8a, 0, none⟩) = .pointer (some ⟨k, 0, none⟩) := (hAt 7 (by simp)).2.symm.trans hk; simpa using h9
                obtain ⟨_, ⟨hA, hb2⟩, _⟩ := id hB
                have hBk := (hA g8a rfl).2.2
                refine (exec_store_blk (w := w9) 26 (.tmp 5) (.tmp 24) (by rfl) g8a 26 #[.slice none 0 0] #[.slice A5a n5a c5a] (by rfl) (by rfl) hBk rfl treeI (by simp [Value.oneCell'])).imp fun w7 hx => ⟨hx.1, hset _ (W2KB.st6 hB (hAt 1 (by simp)).2 hx.2.1 hx.2.2)⟩
              try simp only [Act.put]
              refine Ps.st (i := 9) (d := none) (u := undef) rfl rfl ?ywg59_76 ?rwg59_76
              case ywg59_76 =>
                refine StepS.store [1, 5, 6, 7, 8] (by kernel_rfl) (by rfl) (fun L9 m9 w9 hSh hAt hDn hS => ?_)
                obtain ⟨g, k, hm, hk, hB, hset⟩ := W2B.on7 (hAt 1 (by simp)).1 (hAt 5 (by simp)).1 (hAt 6 (by simp)).1 (hAt 7 (by simp)).1 (hAt 8 (by simp)).1 hDn  hS
                obtain rfl : g8a = g := by have h9 : Value.pointer (some ⟨g8a, 0, none⟩) = .pointer (some ⟨g, 0, none⟩) := (hAt 6 (by simp)).2.symm.trans hm; simpa using h9
                obtain rfl : h8a = k := by have h9 : Value.pointer (some ⟨h8a, 0, none⟩) = .pointer (some ⟨k, 0, none⟩) := (hAt 7 (by simp)).2.symm.trans hk; simpa using h9
                obtain ⟨_, A1, n1, c1, hA, hb2, _⟩ := id hB
                have hBk := (hb2 h8a rfl).2
                refine (exec_store_blk (w := w9) 26 (.tmp 6) (.tmp 28) (by rfl) h8a 26 #[.slice none 0 0] #[.slice A6a n6a c6a] (by rfl) (by rfl) hBk rfl treeI (by simp [Value.oneCell'])).imp fun w7 hx => ⟨hx.1, hset _ (W2KB.st7 hB (hAt 5 (by simp)).2 hx.2.1 hx.2.2)⟩
              try simp only [Act.put]
              refine Ps.done (by kernel_rfl) (fun wg59 hS => ?_) _
              obtain ⟨g, k, hm, hk, hB⟩ := W2B.fin (by rfl) (by rfl) (by rfl) hS
              clear hS
              obtain rfl : g8a = g := by have h9 : Value.pointer (some ⟨g8a, 0, none⟩) = .pointer (some ⟨g, 0, none⟩) := hm; simpa using h9
              obtain rfl : h8a = k := by have h9 : Value.pointer (some ⟨h8a, 0, none⟩) = .pointer (some ⟨k, 0, none⟩) := hk; simpa using h9
              have hB := W2KB.pair (A := A5a) (n := n5a) (c := c5a) (A' := A6a) (n' := n6a) (c' := c6a) hB rfl rfl
              refine ⟨g8a, h8a, A5a, n5a, c5a, A6a, n6a, c6a, ⟨.agg #[.slice B m mc], .agg #[.slice A5a n5a c5a], .slice (some ad) n c, .pointer (some ad), .agg #[.slice B2 m2 mc2], .agg #[.slice A6a n6a c6a], ?_⟩, hB⟩
              clear hB hm hk
              rfl
          case bwg59_66_6 =>
            refine Turns.mk (i := 6) (d := some 5) rfl rfl (TurnS.value (V := fun v => ∃ g, v = .pointer (some ⟨g, 0, none⟩)) [] (by kernel_rfl) (by rfl) (fun L9 m9 w9 hSh hAt hDn hS => ?cwg59_77)) (fun v6a hVv6a => ?rwg59_77)
            case cwg59_77 =>
              exact ⟨.pointer (some ⟨w9.heap.size, 0, none⟩), w9.alloc (.cells #[.slice none 0 0] 26), (by clear hS; go_simp), ⟨_, rfl⟩, W2B.made4 hDn (post_no (post := [8]) hSh hDn (by kernel_rfl) 8 (by simp)) (post_no (post := [9]) hSh hDn (by kernel_rfl) 9 (by simp)) rfl (W2KB.m4) hS⟩
            try simp only [Act.put, sA, sZ, sS]
            obtain ⟨g8a, rfl⟩ := hVv6a
            refine Ps.some2 (i := 5) (j := 7) (by kernel_rfl) ?bwg59_78_5 ?bwg59_78_7
            case bwg59_78_5 =>
              refine Turns.mk (i := 5) (d := some 28) rfl rfl (TurnS.call (V := fun v => ∃ A n c, v = .agg #[.slice A n c]) ?fwg59_79 ?awg59_79 [1] (by kernel_rfl) (by rfl) (fun w9 => ?hwg59_79) (fun L9 m9 w9 hSh hAt hDn hS => ?cwg59_79)) (fun v6a hVv6a => ?rwg59_79)
              case hwg59_79 => go_simp; refine ⟨?_, ?_⟩ <;> rfl
              case cwg59_79 =>
                obtain ⟨al, bl, hB, hset⟩ := W2B.on3 (hAt 1 (by simp)).1 hDn (post_no (post := [8]) hSh hDn (by kernel_rfl) 8 (by simp)) (post_no (post := [9]) hSh hDn (by kernel_rfl) 9 (by simp)) hS
                have hT := hB.1
                refine (short_any AllB y B2 m2 mc2 w9 (Lay.rd_below HRY.out hT) HM.out.2 HSY.out).mono ?_
                rintro e w6 ⟨A, n, c, rfl, hr6, h6a, h6b, q6⟩
                exact ⟨_, rfl, ⟨A, n, c, rfl⟩, hset _ _ (W2KB.c3 hB q6 hr6 h6a h6b)⟩
              try simp only [Act.put, sA, sZ, sS]
              obtain ⟨A6a, n6a, c6a, rfl⟩ := hVv6a
              refine Ps.one (k := 7) (d := some 6) rfl rfl (by kernel_rfl) (TurnS.value (V := fun v => ∃ g, v = .pointer (some ⟨g, 0, none⟩)) [] (by kernel_rfl) (by rfl) (fun L9 m9 w9 hSh hAt hDn hS => ?cwg59_80)) (fun v7a hVv7a => ?rwg59_80)
              case cwg59_80 =>
                exact ⟨.pointer (some ⟨w9.heap.size, 0, none⟩), w9.alloc (.cells #[.slice none 0 0] 26), (by clear hS; go_simp), ⟨_, rfl⟩, W2B.made5 hDn (post_no (post := [8]) hSh hDn (by kernel_rfl) 8 (by simp)) (post_no (post := [9]) hSh hDn (by kernel_rfl) 9 (by simp)) rfl (W2KB.m5) hS⟩
              try simp only [Act.put, sA, sZ, sS]
              obtain ⟨h8a, rfl⟩ := hVv7a
              refine Ps.st (i := 8) (d := none) (u := undef) rfl rfl ?ywg59_81 ?rwg59_81
              case ywg59_81 =>
                refine StepS.store [1, 5, 6, 7] (by kernel_rfl) (by rfl) (fun L9 m9 w9 hSh hAt hDn hS => ?_)
                obtain ⟨g, k, hm, hk, hB, hset⟩ := W2B.on6 (hAt 1 (by simp)).1 (hAt 5 (by simp)).1 (hAt 6 (by simp)).1 (hAt 7 (by simp)).1 hDn (post_no (post := [9]) hSh hDn (by kernel_rfl) 9 (by simp)) hS
                obtain rfl : g8a = g := by have h9 : Value.pointer (some ⟨g8a, 0, none⟩) = .pointer (some ⟨g, 0, none⟩) := (hAt 6 (by simp)).2.symm.trans hm; simpa using h9
                obtain rfl : h8a = k := by have h9 : Value.pointer (some ⟨h8a, 0, none⟩) = .pointer (some ⟨k, 0, none⟩) := (hAt 7 (by simp)).2.symm.trans hk; simpa using h9
                obtain ⟨_, ⟨hA, hb2⟩, _⟩ := id hB
                have hBk := (hA g8a rfl).2.2
                refine (exec_store_blk (w := w9) 26 (.tmp 5) (.tmp 24) (by rfl) g8a 26 #[.slice none 0 0] #[.slice A5a n5a c5a] (by rfl) (by rfl) hBk rfl treeI (by simp [Value.oneCell'])).imp fun w7 hx => ⟨hx.1, hset _ (W2KB.st6 hB (hAt 1 (by simp)).2 hx.2.1 hx.2.2)⟩
              try simp only [Act.put]
              refine Ps.st (i := 9) (d := none) (u := undef) rfl rfl ?ywg59_82 ?rwg59_82
              case ywg59_82 =>
                refine StepS.store [1, 5, 6, 7, 8] (by kernel_rfl) (by rfl) (fun L9 m9 w9 hSh hAt hDn hS => ?_)
                obtain ⟨g, k, hm, hk, hB, hset⟩ := W2B.on7 (hAt 1 (by simp)).1 (hAt 5 (by simp)).1 (hAt 6 (by simp)).1 (hAt 7 (by simp)).1 (hAt 8 (by simp)).1 hDn  hS
                obtain rfl : g8a = g := by have h9 : Value.pointer (some ⟨g8a, 0, none⟩) = .pointer (some ⟨g, 0, none⟩) := (hAt 6 (by simp)).2.symm.trans hm; simpa using h9
                obtain rfl : h8a = k := by have h9 : Value.pointer (some ⟨h8a, 0, none⟩) = .pointer (some ⟨k, 0, none⟩) := (hAt 7 (by simp)).2.symm.trans hk; simpa using h9
                obtain ⟨_, A1, n1, c1, hA, hb2, _⟩ := id hB
                have hBk := (hb2 h8a rfl).2
                refine (exec_store_blk (w := w9) 26 (.tmp 6) (.tmp 28) (by rfl) h8a 26 #[.slice none 0 0] #[.slice A6a n6a c6a] (by rfl) (by rfl) hBk rfl treeI (by simp [Value.oneCell'])).imp fun w7 hx => ⟨hx.1, hset _ (W2KB.st7 hB (hAt 5 (by simp)).2 hx.2.1 hx.2.2)⟩
              try simp only [Act.put]
              refine Ps.done (by kernel_rfl) (fun wg59 hS => ?_) _
              obtain ⟨g, k, hm, hk, hB⟩ := W2B.fin (by rfl) (by rfl) (by rfl) hS
              clear hS
              obtain rfl : g8a = g := by have h9 : Value.pointer (some ⟨g8a, 0, none⟩) = .pointer (some ⟨g, 0, none⟩) := hm; simpa using h9
              obtain rfl : h8a = k := by have h9 : Value.pointer (some ⟨h8a, 0, none⟩) = .pointer (some ⟨k, 0, none⟩) := hk; simpa using h9
              have hB := W2KB.pair (A := A5a) (n := n5a) (c := c5a) (A' := A6a) (n' := n6a) (c' := c6a) hB rfl rfl
              refine ⟨g8a, h8a, A5a, n5a, c5a, A6a, n6a, c6a, ⟨.agg #[.slice B m mc], .agg #[.slice A5a n5a c5a], .slice (some ad) n c, .pointer (some ad), .agg #[.slice B2 m2 mc2], .agg #[.slice A6a n6a c6a], ?_⟩, hB⟩
              clear hB hm hk
              rfl
            case bwg59_78_7 =>
              refine Turns.mk (i := 7) (d := some 6) rfl rfl (TurnS.value (V := fun v => ∃ g, v = .pointer (some ⟨g, 0, none⟩)) [] (by kernel_rfl) (by rfl) (fun L9 m9 w9 hSh hAt hDn hS => ?cwg59_83)) (fun v7a hVv7a => ?rwg59_83)
              case cwg59_83 =>
                exact ⟨.pointer (some ⟨w9.heap.size, 0, none⟩), w9.alloc (.cells #[.slice none 0 0] 26), (by clear hS; go_simp), ⟨_, rfl⟩, W2B.made5 hDn (post_no (post := [8]) hSh hDn (by kernel_rfl) 8 (by simp)) (post_no (post := [9]) hSh hDn (by kernel_rfl) 9 (by simp)) rfl (W2KB.m5) hS⟩
              try simp only [Act.put, sA, sZ, sS]
              obtain ⟨h8a, rfl⟩ := hVv7a
              refine Ps.one (k := 5) (d := some 28) rfl rfl (by kernel_rfl) (TurnS.call (V := fun v => ∃ A n c, v = .agg #[.slice A n c]) ?fwg59_84 ?awg59_84 [1] (by kernel_rfl) (by rfl) (fun w9 => ?hwg59_84) (fun L9 m9 w9 hSh hAt hDn hS => ?cwg59_84)) (fun v6a hVv6a => ?rwg59_84)
              case hwg59_84 => go_simp; refine ⟨?_, ?_⟩ <;> rfl
              case cwg59_84 =>
                obtain ⟨al, bl, hB, hset⟩ := W2B.on3 (hAt 1 (by simp)).1 hDn (post_no (post := [8]) hSh hDn (by kernel_rfl) 8 (by simp)) (post_no (post := [9]) hSh hDn (by kernel_rfl) 9 (by simp)) hS
                have hT := hB.1
                refine (short_any AllB y B2 m2 mc2 w9 (Lay.rd_below HRY.out hT) HM.out.2 HSY.out).mono ?_
                rintro e w6 ⟨A, n, c, rfl, hr6, h6a, h6b, q6⟩
                exact ⟨_, rfl, ⟨A, n, c, rfl⟩, hset _ _ (W2KB.c3 hB q6 hr6 h6a h6b)⟩
              try simp only [Act.put, sA, sZ, sS]
              obtain ⟨A6a, n6a, c6a, rfl⟩ := hVv6a
              refine Ps.st (i := 8) (d := none) (u := undef) rfl rfl ?ywg59_85 ?rwg59_85
              case ywg59_85 =>
                refine StepS.store [1, 5, 6, 7] (by kernel_rfl) (by rfl) (fun L9 m9 w9 hSh hAt hDn hS => ?_)
                obtain ⟨g, k, hm, hk, hB, hset⟩ := W2B.on6 (hAt 1 (by simp)).1 (hAt 5 (by simp)).1 (hAt 6 (by simp)).1 (hAt 7 (by simp)).1 hDn (post_no (post := [9]) hSh hDn (by kernel_rfl) 9 (by simp)) hS
                obtain rfl : g8a = g := by have h9 : Value.pointer (some ⟨g8a, 0, none⟩) = .pointer (some ⟨g, 0, none⟩) := (hAt 6 (by simp)).2.symm.trans hm; simpa using h9
                obtain rfl : h8a = k := by have h9 : Value.pointer (some ⟨h8a, 0, none⟩) = .pointer (some ⟨k, 0, none⟩) := (hAt 7 (by simp)).2.symm.trans hk; simpa using h9
                obtain ⟨_, ⟨hA, hb2⟩, _⟩ := id hB
                have hBk := (hA g8a rfl).2.2
                refine (exec_store_blk (w := w9) 26 (.tmp 5) (.tmp 24) (by rfl) g8a 26 #[.slice none 0 0] #[.slice A5a n5a c5a] (by rfl) (by rfl) hBk rfl treeI (by simp [Value.oneCell'])).imp fun w7 hx => ⟨hx.1, hset _ (W2KB.st6 hB (hAt 1 (by simp)).2 hx.2.1 hx.2.2)⟩
              try simp only [Act.put]
              refine Ps.st (i := 9) (d := none) (u := undef) rfl rfl ?ywg59_86 ?rwg59_86
              case ywg59_86 =>
                refine StepS.store [1, 5, 6, 7, 8] (by kernel_rfl) (by rfl) (fun L9 m9 w9 hSh hAt hDn hS => ?_)
                obtain ⟨g, k, hm, hk, hB, hset⟩ := W2B.on7 (hAt 1 (by simp)).1 (hAt 5 (by simp)).1 (hAt 6 (by simp)).1 (hAt 7 (by simp)).1 (hAt 8 (by simp)).1 hDn  hS
                obtain rfl : g8a = g := by have h9 : Value.pointer (some ⟨g8a, 0, none⟩) = .pointer (some ⟨g, 0, none⟩) := (hAt 6 (by simp)).2.symm.trans hm; simpa using h9
                obtain rfl : h8a = k := by have h9 : Value.pointer (some ⟨h8a, 0, none⟩) = .pointer (some ⟨k, 0, none⟩) := (hAt 7 (by simp)).2.symm.trans hk; simpa using h9
                obtain ⟨_, A1, n1, c1, hA, hb2, _⟩ := id hB
                have hBk := (hb2 h8a rfl).2
                refine (exec_store_blk (w := w9) 26 (.tmp 6) (.tmp 28) (by rfl) h8a 26 #[.slice none 0 0] #[.slice A6a n6a c6a] (by rfl) (by rfl) hBk rfl treeI (by simp [Value.oneCell'])).imp fun w7 hx => ⟨hx.1, hset _ (W2KB.st7 hB (hAt 5 (by simp)).2 hx.2.1 hx.2.2)⟩
              try simp only [Act.put]
              refine Ps.done (by kernel_rfl) (fun wg59 hS => ?_) _
              obtain ⟨g, k, hm, hk, hB⟩ := W2B.fin (by rfl) (by rfl) (by rfl) hS
              clear hS
              obtain rfl : g8a = g := by have h9 : Value.pointer (some ⟨g8a, 0, none⟩) = .pointer (some ⟨g, 0, none⟩) := hm; simpa using h9
              obtain rfl : h8a = k := by have h9 : Value.pointer (some ⟨h8a, 0, none⟩) = .pointer (some ⟨k, 0, none⟩) := hk; simpa using h9
              have hB := W2KB.pair (A := A5a) (n := n5a) (c := c5a) (A' := A6a) (n' := n6a) (c' := c6a) hB rfl rfl
              refine ⟨g8a, h8a, A5a, n5a, c5a, A6a, n6a, c6a, ⟨.agg #[.slice B m mc], .agg #[.slice A5a n5a c5a], .slice (some ad) n c, .pointer (some ad), .agg #[.slice B2 m2 mc2], .agg #[.slice A6a n6a c6a], ?_⟩, hB⟩
              clear hB hm hk
              rfl
          case bwg59_66_7 =>
            refine Turns.mk (i := 7) (d := some 6) rfl rfl (TurnS.value (V := fun v => ∃ g, v = .pointer (some ⟨g, 0, none⟩)) [] (by kernel_rfl) (by rfl) (fun L9 m9 w9 hSh hAt hDn hS => ?cwg59_87)) (fun v7a hVv7a => ?rwg59_87)
            case cwg59_87 =>
              exact ⟨.pointer (some ⟨w9.heap.size, 0, none⟩), w9.alloc (.cells #[.slice none 0 0] 26), (by clear hS; go_simp), ⟨_, rfl⟩, W2B.made5 hDn (post_no (post := [8]) hSh hDn (by kernel_rfl) 8 (by simp)) (post_no (post := [9]) hSh hDn (by kernel_rfl) 9 (by simp)) rfl (W2KB.m5) hS⟩
            try simp only [Act.put, sA, sZ, sS]
            obtain ⟨h8a, rfl⟩ := hVv7a
            refine Ps.some2 (i := 5) (j := 6) (by kernel_rfl) ?bwg59_88_5 ?bwg59_88_6
            case bwg59_88_5 =>
              refine Turns.mk (i := 5) (d := some 28) rfl rfl (TurnS.call (V := fun v => ∃ A n c, v = .agg #[.slice A n c]) ?fwg59_89 ?awg59_89 [1] (by kernel_rfl) (by rfl) (fun w9 => ?hwg59_89) (fun L9 m9 w9 hSh hAt hDn hS => ?cwg59_89)) (fun v6a hVv6a => ?rwg59_89)
              case hwg59_89 => go_simp; refine ⟨?_, ?_⟩ <;> rfl
              case cwg59_89 =>
                obtain ⟨al, bl, hB, hset⟩ := W2B.on3 (hAt 1 (by simp)).1 hDn (post_no (post := [8]) hSh hDn (by kernel_rfl) 8 (by simp)) (post_no (post := [9]) hSh hDn (by kernel_rfl) 9 (by simp)) hS
                have hT := hB.1
                refine (short_any AllB y B2 m2 mc2 w9 (Lay.rd_below HRY.out hT) HM.out.2 HSY.out).mono ?_
                rintro e w6 ⟨A, n, c, rfl, hr6, h6a, h6b, q6⟩
                exact ⟨_, rfl, ⟨A, n, c, rfl⟩, hset _ _ (W2KB.c3 hB q6 hr6 h6a h6b)⟩
              try simp only [Act.put, sA, sZ, sS]
              obtain ⟨A6a, n6a, c6a, rfl⟩ := hVv6a
              refine Ps.one (k := 6) (d := some 5) rfl rfl (by kernel_rfl) (TurnS.value (V := fun v => ∃ g, v = .pointer (some ⟨g, 0, none⟩)) [] (by kernel_rfl) (by rfl) (fun L9 m9 w9 hSh hAt hDn hS => ?cwg59_90)) (fun v6a hVv6a => ?rwg59_90)
              case cwg59_90 =>
                exact ⟨.pointer (some ⟨w9.heap.size, 0, none⟩), w9.alloc (.cells #[.slice none 0 0] 26), (by clear hS; go_simp), ⟨_, rfl⟩, W2B.made4 hDn (post_no (post := [8]) hSh hDn (by kernel_rfl) 8 (by simp)) (post_no (post := [9]) hSh hDn (by kernel_rfl) 9 (by simp)) rfl (W2KB.m4) hS⟩
              try simp only [Act.put, sA, sZ, sS]
              obtain ⟨g8a, rfl⟩ := hVv6a
              refine Ps.st (i := 8) (d := none) (u := undef) rfl rfl ?ywg59_91 ?rwg59_91
              case ywg59_91 =>
                refine StepS.store [1, 5, 6, 7] (by kernel_rfl) (by rfl) (fun L9 m9 w9 hSh hAt hDn hS => ?_)
                obtain ⟨g, k, hm, hk, hB, hset⟩ := W2B.on6 (hAt 1 (by simp)).1 (hAt 5 (by simp)).1 (hAt 6 (by simp)).1 (hAt 7 (by simp)).1 hDn (post_no (post := [9]) hSh hDn (by kernel_rfl) 9 (by simp)) hS
                obtain rfl : g8a = g := by have h9 : Value.pointer (some ⟨g8a, 0, none⟩) = .pointer (some ⟨g, 0, none⟩) := (hAt 6 (by simp)).2.symm.trans hm; simpa using h9
                obtain rfl : h8a = k := by have h9 : Value.pointer (some ⟨h8a, 0, none⟩) = .pointer (some ⟨k, 0, none⟩) := (hAt 7 (by simp)).2.symm.trans hk; simpa using h9
                obtain ⟨_, ⟨hA, hb2⟩, _⟩ := id hB
                have hBk := (hA g8a rfl).2.2
                refine (exec_store_blk (w := w9) 26 (.tmp 5) (.tmp 24) (by rfl) g8a 26 #[.slice none 0 0] #[.slice A5a n5a c5a] (by rfl) (by rfl) hBk rfl treeI (by simp [Value.oneCell'])).imp fun w7 hx => ⟨hx.1, hset _ (W2KB.st6 hB (hAt 1 (by simp)).2 hx.2.1 hx.2.2)⟩
              try simp only [Act.put]
              refine Ps.st (i := 9) (d := none) (u := undef) rfl rfl ?ywg59_92 ?rwg59_92
              case ywg59_92 =>
                refine StepS.store [1, 5, 6, 7, 8] (by kernel_rfl) (by rfl) (fun L9 m9 w9 hSh hAt hDn hS => ?_)
                obtain ⟨g, k, hm, hk, hB, hset⟩ := W2B.on7 (hAt 1 (by simp)).1 (hAt 5 (by simp)).1 (hAt 6 (by simp)).1 (hAt 7 (by simp)).1 (hAt 8 (by simp)).1 hDn  hS
                obtain rfl : g8a = g := by have h9 : Value.pointer (some ⟨g8a, 0, none⟩) = .pointer (some ⟨g, 0, none⟩) := (hAt 6 (by simp)).2.symm.trans hm; simpa using h9
                obtain rfl : h8a = k := by have h9 : Value.pointer (some ⟨h8a, 0, none⟩) = .pointer (some ⟨k, 0, none⟩) := (hAt 7 (by simp)).2.symm.trans hk; simpa using h9
                obtain ⟨_, A1, n1, c1, hA, hb2, _⟩ := id hB
                have hBk := (hb2 h8a rfl).2
                refine (exec_store_blk (w := w9) 26 (.tmp 6) (.tmp 28) (by rfl) h8a 26 #[.slice none 0 0] #[.slice A6a n6a c6a] (by rfl) (by rfl) hBk rfl treeI (by simp [Value.oneCell'])).imp fun w7 hx => ⟨hx.1, hset _ (W2KB.st7 hB (hAt 5 (by simp)).2 hx.2.1 hx.2.2)⟩
              try simp only [Act.put]
              refine Ps.done (by kernel_rfl) (fun wg59 hS => ?_) _
              obtain ⟨g, k, hm, hk, hB⟩ := W2B.fin (by rfl) (by rfl) (by rfl) hS
              clear hS
              obtain rfl : g8a = g := by have h9 : Value.pointer (some ⟨g8a, 0, none⟩) = .pointer (some ⟨g, 0, none⟩) := hm; simpa using h9
              obtain rfl : h8a = k := by have h9 : Value.pointer (some ⟨h8a, 0, none⟩) = .pointer (some ⟨k, 0, none⟩) := hk; simpa using h9
              have hB := W2KB.pair (A := A5a) (n := n5a) (c := c5a) (A' := A6a) (n' := n6a) (c' := c6a) hB rfl rfl
              refine ⟨g8a, h8a, A5a, n5a, c5a, A6a, n6a, c6a, ⟨.agg #[.slice B m mc], .agg #[.slice A5a n5a c5a], .slice (some ad) n c, .pointer (some ad), .agg #[.slice B2 m2 mc2], .agg #[.slice A6a n6a c6a], ?_⟩, hB⟩
              clear hB hm hk
              rfl
            case bwg59_88_6 =>
              refine Turns.mk (i := 6) (d := some 5) rfl rfl (TurnS.value (V := fun v => ∃ g, v = .pointer (some ⟨g, 0, none⟩)) [] (by kernel_rfl) (by rfl) (fun L9 m9 w9 hSh hAt hDn hS => ?cwg59_93)) (fun v6a hVv6a => ?rwg59_93)
              case cwg59_93 =>
                exact ⟨.pointer (some ⟨w9.heap.size, 0, none⟩), w9.alloc (.cells #[.slice none 0 0] 26), (by clear hS; go_simp), ⟨_, rfl⟩, W2B.made4 hDn (post_no (post := [8]) hSh hDn (by kernel_rfl) 8 (by simp)) (post_no (post := [9]) hSh hDn (by kernel_rfl) 9 (by simp)) rfl (W2KB.m4) hS⟩
              try simp only [Act.put, sA, sZ, sS]
              obtain ⟨g8a, rfl⟩ := hVv6a
              refine Ps.one (k := 5) (d := some 28) rfl rfl (by kernel_rfl) (TurnS.call (V := fun v => ∃ A n c, v = .agg #[.slice A n c]) ?fwg59_94 ?awg59_94 [1] (by kernel_rfl) (by rfl) (fun w9 => ?hwg59_94) (fun L9 m9 w9 hSh hAt hDn hS => ?cwg59_94)) (fun v6a hVv6a => ?rwg59_94)
              case hwg59_94 => go_simp; refine ⟨?_, ?_⟩ <;> rfl
              case cwg59_94 =>
                obtain ⟨al, bl, hB, hset⟩ := W2B.on3 (hAt 1 (by simp)).1 hDn (post_no (post := [8]) hSh hDn (by kernel_rfl) 8 (by simp)) (post_no (post := [9]) hSh hDn (by kernel_rfl) 9 (by simp)) hS
                have hT := hB.1
                refine (short_any AllB y B2 m2 mc2 w9 (Lay.rd_below HRY.out hT) HM.out.2 HSY.out).mono ?_
                rintro e w6 ⟨A, n, c, rfl, hr6, h6a, h6b, q6⟩
                exact ⟨_, rfl, ⟨A, n, c, rfl⟩, hset _ _ (W2KB.c3 hB q6 hr6 h6a h6b)⟩
              try simp only [Act.put, sA, sZ, sS]
              obtain ⟨A6a, n6a, c6a, rfl⟩ := hVv6a
              refine Ps.st (i := 8) (d := none) (u := undef) rfl rfl ?ywg59_95 ?rwg59_95
              case ywg59_95 =>
                refine StepS.store [1, 5, 6, 7] (by kernel_rfl) (by rfl) (fun L9 m9 w9 hSh hAt hDn hS => ?_)
                obtain ⟨g, k, hm, hk, hB, hset⟩ := W2B.on6 (hAt 1 (by simp)).1 (hAt 5 (by simp)).1 (hAt 6 (by simp)).1 (hAt 7 (by simp)).1 hDn (post_no (post := [9]) hSh hDn (by kernel_rfl) 9 (by simp)) hS
                obtain rfl : g8a = g := by have h9 : Value.pointer (some ⟨g8a, 0, none⟩) = .pointer (some ⟨g, 0, none⟩) := (hAt 6 (by simp)).2.symm.trans hm; simpa using h9
                obtain rfl : h8a = k := by have h9 : Value.pointer (some ⟨h8a, 0, none⟩) = .pointer (some ⟨k, 0, none⟩) := (hAt 7 (by simp)).2.symm.trans hk; simpa using h9
                obtain ⟨_, ⟨hA, hb2⟩, _⟩ := id hB
                have hBk := (hA g8a rfl).2.2
                refine (exec_store_blk (w := w9) 26 (.tmp 5) (.tmp 24) (by rfl) g8a 26 #[.slice none 0 0] #[.slice A5a n5a c5a] (by rfl) (by rfl) hBk rfl treeI (by simp [Value.oneCell'])).imp fun w7 hx => ⟨hx.1, hset _ (W2KB.st6 hB (hAt 1 (by simp)).2 hx.2.1 hx.2.2)⟩
              try simp only [Act.put]
              refine Ps.st (i := 9) (d := none) (u := undef) rfl rfl ?ywg59_96 ?rwg59_96
              case ywg59_96 =>
                refine StepS.store [1, 5, 6, 7, 8] (by kernel_rfl) (by rfl) (fun L9 m9 w9 hSh hAt hDn hS => ?_)
                obtain ⟨g, k, hm, hk, hB, hset⟩ := W2B.on7 (hAt 1 (by simp)).1 (hAt 5 (by simp)).1 (hAt 6 (by simp)).1 (hAt 7 (by simp)).1 (hAt 8 (by simp)).1 hDn  hS
                obtain rfl : g8a = g := by have h9 : Value.pointer (some ⟨g8a, 0, none⟩) = .pointer (some ⟨g, 0, none⟩) := (hAt 6 (by simp)).2.symm.trans hm; simpa using h9
                obtain rfl : h8a = k := by have h9 : Value.pointer (some ⟨h8a, 0, none⟩) = .pointer (some ⟨k, 0, none⟩) := (hAt 7 (by simp)).2.symm.trans hk; simpa using h9
                obtain ⟨_, A1, n1, c1, hA, hb2, _⟩ := id hB
                have hBk := (hb2 h8a rfl).2
                refine (exec_store_blk (w := w9) 26 (.tmp 6) (.tmp 28) (by rfl) h8a 26 #[.slice none 0 0] #[.slice A6a n6a c6a] (by rfl) (by rfl) hBk rfl treeI (by simp [Value.oneCell'])).imp fun w7 hx => ⟨hx.1, hset _ (W2KB.st7 hB (hAt 5 (by simp)).2 hx.2.1 hx.2.2)⟩
              try simp only [Act.put]
              refine Ps.done (by kernel_rfl) (fun wg59 hS => ?_) _
              obtain ⟨g, k, hm, hk, hB⟩ := W2B.fin (by rfl) (by rfl) (by rfl) hS
              clear hS
              obtain rfl : g8a = g := by have h9 : Value.pointer (some ⟨g8a, 0, none⟩) = .pointer (some ⟨g, 0, none⟩) := hm; simpa using h9
              obtain rfl : h8a = k := by have h9 : Value.pointer (some ⟨h8a, 0, none⟩) = .pointer (some ⟨k, 0, none⟩) := hk; simpa using h9
              have hB := W2KB.pair (A := A5a) (n := n5a) (c := c5a) (A' := A6a) (n' := n6a) (c' := c6a) hB rfl rfl
              refine ⟨g8a, h8a, A5a, n5a, c5a, A6a, n6a, c6a, ⟨.agg #[.slice B m mc], .agg #[.slice A5a n5a c5a], .slice (some ad) n c, .pointer (some ad), .agg #[.slice B2 m2 mc2], .agg #[.slice A6a n6a c6a], ?_⟩, hB⟩
              clear hB hm hk
              rfl
        case bwg59_64_6 =>
          refine Turns.mk (i := 6) (d := some 5) rfl rfl (TurnS.value (V := fun v => ∃ g, v = .pointer (some ⟨g, 0, none⟩)) [] (by kernel_rfl) (by rfl) (fun L9 m9 w9 hSh hAt hDn hS => ?cwg59_97)) (fun v6a hVv6a => ?rwg59_97)
          case cwg59_97 =>
            exact ⟨.pointer (some ⟨w9.heap.size, 0, none⟩), w9.alloc (.cells #[.slice none 0 0] 26), (by clear hS; go_simp), ⟨_, rfl⟩, W2B.made4 hDn (post_no (post := [8]) hSh hDn (by kernel_rfl) 8 (by simp)) (post_no (post := [9]) hSh hDn (by kernel_rfl) 9 (by simp)) rfl (W2KB.m4) hS⟩
          try simp only [Act.put, sA, sZ, sS]
          obtain ⟨g8a, rfl⟩ := hVv6a
          refine Ps.some2 (i := 1) (j := 7) (by kernel_rfl) ?bwg59_98_1 ?bwg59_98_7
          case bwg59_98_1 =>
            refine Turns.mk (i := 1) (d := some 24) rfl rfl (TurnS.call (V := fun v => ∃ A n c, v = .agg #[.slice A n c]) ?fwg59_99 ?awg59_99 [] (by kernel_rfl) (by rfl) (fun w9 => ?hwg59_99) (fun L9 m9 w9 hSh hAt hDn hS => ?cwg59_99)) (fun v5a hVv5a => ?rwg59_99)
            case hwg59_99 => go_simp; refine ⟨?_, ?_⟩ <;> rfl
            case cwg59_99 =>
              obtain ⟨al, bl, hB, hset⟩ := W2B.on1 hDn (post_no (post := [5]) hSh hDn (by kernel_rfl) 5 (by simp)) (post_no (post := [8]) hSh hDn (by kernel_rfl) 8 (by simp)) (post_no (post := [9]) hSh hDn (by kernel_rfl) 9 (by simp)) hS
              have hT := hB.1
              refine (short_any AllB x B m mc w9 (Lay.rd_below HRX.out hT) HM.out.1 HSX.out).mono ?_
              rintro e w6 ⟨A, n, c, rfl, hr6, h6a, h6b, q6⟩
              exact ⟨_, rfl, ⟨A, n, c, rfl⟩, hset _ _ (W2KB.c1 hB q6 hr6 h6a h6b)⟩
            try simp only [Act.put, sA, sZ, sS]
            obtain ⟨A5a, n5a, c5a, rfl⟩ := hVv5a
            refine Ps.some2 (i := 5) (j := 7) (by kernel_rfl) ?bwg59_100_5 ?bwg59_100_7
            case bwg59_100_5 =>
              refine Turns.mk (i := 5) (d := some 28) rfl rfl (TurnS.call (V := fun v => ∃ A n c, v = .agg #[.slice A n c]) ?fwg59_101 ?awg59_101 [1] (by kernel_rfl) (by rfl) (fun w9 => ?hwg59_101) (fun L9 m9 w9 hSh hAt hDn hS => ?cwg59_101)) (fun v6a hVv6a => ?rwg59_101)
              case hwg59_101 => go_simp; refine ⟨?_, ?_⟩ <;> rfl
              case cwg59_101 =>
                obtain ⟨al, bl, hB, hset⟩ := W2B.on3 (hAt 1 (by simp)).1 hDn (post_no (post := [8]) hSh hDn (by kernel_rfl) 8 (by simp)) (post_no (post := [9]) hSh hDn (by kernel_rfl) 9 (by simp)) hS
                have hT := hB.1
                refine (short_any AllB y B2 m2 mc2 w9 (Lay.rd_below HRY.out hT) HM.out.2 HSY.out).mono ?_
                rintro e w6 ⟨A, n, c, rfl, hr6, h6a, h6b, q6⟩
                exact ⟨_, rfl, ⟨A, n, c, rfl⟩, hset _ _ (W2KB.c3 hB q6 hr6 h6a h6b)⟩
              try simp only [Act.put, sA, sZ, sS]
              obtain ⟨A6a, n6a, c6a, rfl⟩ := hVv6a
              refine Ps.one (k := 7) (d := some 6) rfl rfl (by kernel_rfl) (TurnS.value (V := fun v => ∃ g, v = .pointer (some ⟨g, 0, none⟩)) [] (by kernel_rfl) (by rfl) (fun L9 m9 w9 hSh hAt hDn hS => ?cwg59_102)) (fun v7a hVv7a => ?rwg59_102)
              case cwg59_102 =>
                exact ⟨.pointer (some ⟨w9.heap.size, 0, none⟩), w9.alloc (.cells #[.slice none 0 0] 26), (by clear hS; go_simp), ⟨_, rfl⟩, W2B.made5 hDn (post_no (post := [8]) hSh hDn (by kernel_rfl) 8 (by simp)) (post_no (post := [9]) hSh hDn (by kernel_rfl) 9 (by simp)) rfl (W2KB.m5) hS⟩
              try simp only [Act.put, sA, sZ, sS]
              obtain ⟨h8a, rfl⟩ := hVv7a
              refine Ps.st (i := 8) (d := none) (u := undef) rfl rfl ?ywg59_103 ?rwg59_103
              case ywg59_103 =>
                refine StepS.store [1, 5, 6, 7] (by kernel_rfl) (by rfl) (fun L9 m9 w9 hSh hAt hDn hS => ?_)
                obtain ⟨g, k, hm, hk, hB, hset⟩ := W2B.on6 (hAt 1 (by simp)).1 (hAt 5 (by simp)).1 (hAt 6 (by simp)).1 (hAt 7 (by simp)).1 hDn (post_no (post := [9]) hSh hDn (by kernel_rfl) 9 (by simp)) hS
                obtain rfl : g8a = g := by have h9 : Value.pointer (some ⟨g8a, 0, none⟩) = .pointer (some ⟨g, 0, none⟩) := (hAt 6 (by simp)).2.symm.trans hm; simpa using h9
                obtain rfl : h8a = k := by have h9 : Value.pointer (some ⟨h8a, 0, none⟩) = .pointer (some ⟨k, 0, none⟩) := (hAt 7 (by simp)).2.symm.trans hk; simpa using h9
                obtain ⟨_, ⟨hA, hb2⟩, _⟩ := id hB
                have hBk := (hA g8a rfl).2.2
                refine (exec_store_blk (w := w9) 26 (.tmp 5) (.tmp 24) (by rfl) g8a 26 #[.slice none 0 0] #[.slice A5a n5a c5a] (by rfl) (by rfl) hBk rfl treeI (by simp [Value.oneCell'])).imp fun w7 hx => ⟨hx.1, hset _ (W2KB.st6 hB (hAt 1 (by simp)).2 hx.2.1 hx.2.2)⟩
              try simp only [Act.put]
              refine Ps.st (i := 9) (d := none) (u := undef) rfl rfl ?ywg59_104 ?rwg59_104
              case ywg59_104 =>
                refine StepS.store [1, 5, 6, 7, 8] (by kernel_rfl) (by rfl) (fun L9 m9 w9 hSh hAt hDn hS => ?_)
                obtain ⟨g, k, hm, hk, hB, hset⟩ := W2B.on7 (hAt 1 (by simp)).1 (hAt 5 (by simp)).1 (hAt 6 (by simp)).1 (hAt 7 (by simp)).1 (hAt 8 (by simp)).1 hDn  hS
                obtain rfl : g8a = g := by have h9 : Value.pointer (some ⟨g8a, 0, none⟩) = .pointer (some ⟨g, 0, none⟩) := (hAt 6 (by simp)).2.symm.trans hm; simpa using h9
                obtain rfl : h8a = k := by have h9 : Value.pointer (some ⟨h8a, 0, none⟩) = .pointer (some ⟨k, 0, none⟩) := (hAt 7 (by simp)).2.symm.trans hk; simpa using h9
                obtain ⟨_, A1, n1, c1, hA, hb2, _⟩ := id hB
                have hBk := (hb2 h8a rfl).2
                refine (exec_store_blk (w := w9) 26 (.tmp 6) (.tmp 28) (by rfl) h8a 26 #[.slice none 0 0] #[.slice A6a n6a c6a] (by rfl) (by rfl) hBk rfl treeI (by simp [Value.oneCell'])).imp fun w7 hx => ⟨hx.1, hset _ (W2KB.st7 hB (hAt 5 (by simp)).2 hx.2.1 hx.2.2)⟩
              try simp only [Act.put]
              refine Ps.done (by kernel_rfl) (fun wg59 hS => ?_) _
              obtain ⟨g, k, hm, hk, hB⟩ := W2B.fin (by rfl) (by rfl) (by rfl) hS
              clear hS
              obtain rfl : g8a = g := by have h9 : Value.pointer (some ⟨g8a, 0, none⟩) = .pointer (some ⟨g, 0, none⟩) := hm; simpa using h9
              obtain rfl : h8a = k := by have h9 : Value.pointer (some ⟨h8a, 0, none⟩) = .pointer (some ⟨k, 0, none⟩) := hk; simpa using h9
              have hB := W2KB.pair (A := A5a) (n := n5a) (c := c5a) (A' := A6a) (n' := n6a) (c' := c6a) hB rfl rfl
              refine ⟨g8a, h8a, A5a, n5a, c5a, A6a, n6a, c6a, ⟨.agg #[.slice B m mc], .agg #[.slice A5a n5a c5a], .slice (some ad) n c, .pointer (some ad), .agg #[.slice B2 m2 mc2], .agg #[.slice A6a n6a c6a], ?_⟩, hB⟩
              clear hB hm hk
              rfl
            case bwg59_100_7 =>
              refine Turns.mk (i := 7) (d := some 6) rfl rfl (TurnS.value (V := fun v => ∃ g, v = .pointer (some ⟨g, 0, none⟩)) [] (by kernel_rfl) (by rfl) (fun L9 m9 w9 hSh hAt hDn hS => ?cwg59_105)) (fun v7a hVv7a => ?rwg59_105)
              case cwg59_105 =>
                exact ⟨.pointer (some ⟨w9.heap.size, 0, none⟩), w9.alloc (.cells #[.slice none 0 0] 26), (by clear hS; go_simp), ⟨_, rfl⟩, W2B.made5 hDn (post_no (post := [8]) hSh hDn (by kernel_rfl) 8 (by simp)) (post_no (post := [9]) hSh hDn (by kernel_rfl) 9 (by simp)) rfl (W2KB.m5) hS⟩
              try simp only [Act.put, sA, sZ, sS]
              obtain ⟨h8a, rfl⟩ := hVv7a
              refine Ps.one (k := 5) (d := some 28) rfl rfl (by kernel_rfl) (TurnS.call (V := fun v => ∃ A n c, v = .agg #[.slice A n c]) ?fwg59_106 ?awg59_106 [1] (by kernel_rfl) (by rfl) (fun w9 => ?hwg59_106) (fun L9 m9 w9 hSh hAt hDn hS => ?cwg59_106)) (fun v6a hVv6a => ?rwg59_106)
              case hwg59_106 => go_simp; refine ⟨?_, ?_⟩ <;> rfl
              case cwg59_106 =>
                obtain ⟨al, bl, hB, hset⟩ := W2B.on3 (hAt 1 (by simp)).1 hDn (post_no (post := [8]) hSh hDn (by kernel_rfl) 8 (by simp)) (post_no (post := [9]) hSh hDn (by kernel_rfl) 9 (by simp)) hS
                have hT := hB.1
                refine (short_any AllB y B2 m2 mc2 w9 (Lay.rd_below HRY.out hT) HM.out.2 HSY.out).mono ?_
                rintro e w6 ⟨A, n, c, rfl, hr6, h6a, h6b, q6⟩
                exact ⟨_, rfl, ⟨A, n, c, rfl⟩, hset _ _ (W2KB.c3 hB q6 hr6 h6a h6b)⟩
              try simp only [Act.put, sA, sZ, sS]
              obtain ⟨A6a, n6a, c6a, rfl⟩ := hVv6a
              refine Ps.st (i := 8) (d := none) (u := undef) rfl rfl ?ywg59_107 ?rwg59_107
              case ywg59_107 =>
                refine StepS.store [1, 5, 6, 7] (by kernel_rfl) (by rfl) (fun L9 m9 w9 hSh hAt hDn hS => ?_)
                obtain ⟨g, k, hm, hk, hB, hset⟩ := W2B.on6 (hAt 1 (by simp)).1 (hAt 5 (by simp)).1 (hAt 6 (by simp)).1 (hAt 7 (by simp)).1 hDn (post_no (post := [9]) hSh hDn (by kernel_rfl) 9 (by simp)) hS
                obtain rfl : g8a = g := by have h9 : Value.pointer (some ⟨g8a, 0, none⟩) = .pointer (some ⟨g, 0, none⟩) := (hAt 6 (by simp)).2.symm.trans hm; simpa using h9
                obtain rfl : h8a = k := by have h9 : Value.pointer (some ⟨h8a, 0, none⟩) = .pointer (some ⟨k, 0, none⟩) := (hAt 7 (by simp)).2.symm.trans hk; simpa using h9
                obtain ⟨_, ⟨hA, hb2⟩, _⟩ := id hB
                have hBk := (hA g8a rfl).2.2
                refine (exec_store_blk (w := w9) 26 (.tmp 5) (.tmp 24) (by rfl) g8a 26 #[.slice none 0 0] #[.slice A5a n5a c5a] (by rfl) (by rfl) hBk rfl treeI (by simp [Value.oneCell'])).imp fun w7 hx => ⟨hx.1, hset _ (W2KB.st6 hB (hAt 1 (by simp)).2 hx.2.1 hx.2.2)⟩
              try simp only [Act.put]
              refine Ps.st (i := 9) (d := none) (u := undef) rfl rfl ?ywg59_108 ?rwg59_108
              case ywg59_108 =>
                refine StepS.store [1, 5, 6, 7, 8] (by kernel_rfl) (by rfl) (fun L9 m9 w9 hSh hAt hDn hS => ?_)
                obtain ⟨g, k, hm, hk, hB, hset⟩ := W2B.on7 (hAt 1 (by simp)).1 (hAt 5 (by simp)).1 (hAt 6 (by simp)).1 (hAt 7 (by simp)).1 (hAt 8 (by simp)).1 hDn  hS
                obtain rfl : g8a = g := by have h9 : Value.pointer (some ⟨g8a, 0, none⟩) = .pointer (some ⟨g, 0, none⟩) := (hAt 6 (by simp)).2.symm.trans hm; simpa using h9
                obtain rfl : h8a = k := by have h9 : Value.pointer (some ⟨h8a, 0, none⟩) = .pointer (some ⟨k, 0, none⟩) := (hAt 7 (by simp)).2.symm.trans hk; simpa using h9
                obtain ⟨_, A1, n1, c1, hA, hb2, _⟩ := id hB
                have hBk := (hb2 h8a rfl).2
                refine (exec_store_blk (w := w9) 26 (.tmp 6) (.tmp 28) (by rfl) h8a 26 #[.slice none 0 0] #[.slice A6a n6a c6a] (by rfl) (by rfl) hBk rfl treeI (by simp [Value.oneCell'])).imp fun w7 hx => ⟨hx.1, hset _ (W2KB.st7 hB (hAt 5 (by simp)).2 hx.2.1 hx.2.2)⟩
              try simp only [Act.put]
              refine Ps.done (by kernel_rfl) (fun wg59 hS => ?_) _
              obtain ⟨g, k, hm, hk, hB⟩ := W2B.fin (by rfl) (by rfl) (by rfl) hS
              clear hS
              obtain rfl : g8a = g := by have h9 : Value.pointer (some ⟨g8a, 0, none⟩) = .pointer (some ⟨g, 0, none⟩) := hm; simpa using h9
              obtain rfl : h8a = k := by have h9 : Value.pointer (some ⟨h8a, 0, none⟩) = .pointer (some ⟨k, 0, none⟩) := hk; simpa using h9
              have hB := W2KB.pair (A := A5a) (n := n5a) (c := c5a) (A' := A6a) (n' := n6a) (c' := c6a) hB rfl rfl
              refine ⟨g8a, h8a, A5a, n5a, c5a, A6a, n6a, c6a, ⟨.agg #[.slice B m mc], .agg #[.slice A5a n5a c5a], .slice (some ad) n c, .pointer (some ad), .agg #[.slice B2 m2 mc2], .agg #[.slice A6a n6a c6a], ?_⟩, hB⟩
              clear hB hm hk
              rfl
          case bwg59_98_7 =>
            refine Turns.mk (i := 7) (d := some 6) rfl rfl (TurnS.value (V := fun v => ∃ g, v = .pointer (some ⟨g, 0, none⟩)) [] (by kernel_rfl) (by rfl) (fun L9 m9 w9 hSh hAt hDn hS => ?cwg59_109)) (fun v7a hVv7a => ?rwg59_109)
            case cwg59_109 =>
              exact ⟨.pointer (some ⟨w9.heap.size, 0, none⟩), w9.alloc (.cells #[.slice none 0 0] 26), (by clear hS; go_simp), ⟨_, rfl⟩, W2B.made5 hDn (post_no (post := [8]) hSh hDn (by kernel_rfl) 8 (by simp)) (post_no (post := [9]) hSh hDn (by kernel_rfl) 9 (by simp)) rfl (W2KB.m5) hS⟩
            try simp only [Act.put, sA, sZ, sS]
            obtain ⟨h8a, rfl⟩ := hVv7a
            refine Ps.one (k := 1) (d := some 24) rfl rfl (by kernel_rfl) (TurnS.call (V := fun v => ∃ A n c, v = .agg #[.slice A n c]) ?fwg59_110 ?awg59_110 [] (by kernel_rfl) (by rfl) (fun w9 => ?hwg59_110) (fun L9 m9 w9 hSh hAt hDn hS => ?cwg59_110)) (fun v5a hVv5a => ?rwg59_110)
            case hwg59_110 => go_simp; refine ⟨?_, ?_⟩ <;> rfl
            case cwg59_110 =>
              obtain ⟨al, bl, hB, hset⟩ := W2B.on1 hDn (post_no (post := [5]) hSh hDn (by kernel_rfl) 5 (by simp)) (post_no (post := [8]) hSh hDn (by kernel_rfl) 8 (by simp)) (post_no (post := [9]) hSh hDn (by kernel_rfl) 9 (by simp)) hS
              have hT := hB.1
              refine (short_any AllB x B m mc w9 (Lay.rd_below HRX.out hT) HM.out.1 HSX.out).mono ?_
              rintro e w6 ⟨A, n, c, rfl, hr6, h6a, h6b, q6⟩
              exact ⟨_, rfl, ⟨A, n, c, rfl⟩, hset _ _ (W2KB.c1 hB q6 hr6 h6a h6b)⟩
            try simp only [Act.put, sA, sZ, sS]
            obtain ⟨A5a, n5a, c5a, rfl⟩ := hVv5a
            refine Ps.one (k := 5) (d := some 28) rfl rfl (by kernel_rfl) (TurnS.call (V := fun v => ∃ A n c, v = .agg #[.slice A n c]) ?fwg59_111 ?awg59_111 [1] (by kernel_rfl) (by rfl) (fun w9 => ?hwg59_111) (fun L9 m9 w9 hSh hAt hDn hS => ?cwg59_111)) (fun v6a hVv6a => ?rwg59_111)
            case hwg59_111 => go_simp; refine ⟨?_, ?_⟩ <;> rfl
            case cwg59_111 =>
              obtain ⟨al, bl, hB, hset⟩ := W2B.on3 (hAt 1 (by simp)).1 hDn (post_no (post := [8]) hSh hDn (by kernel_rfl) 8 (by simp)) (post_no (post := [9]) hSh hDn (by kernel_rfl) 9 (by simp)) hS
              have hT := hB.1
              refine (short_any AllB y B2 m2 mc2 w9 (Lay.rd_below HRY.out hT) HM.out.2 HSY.out).mono ?_
              rintro e w6 ⟨A, n, c, rfl, hr6, h6a, h6b, q6⟩
              exact ⟨_, rfl, ⟨A, n, c, rfl⟩, hset _ _ (W2KB.c3 hB q6 hr6 h6a h6b)⟩
            try simp only [Act.put, sA, sZ, sS]
            obtain ⟨A6a, n6a, c6a, rfl⟩ := hVv6a
            refine Ps.st (i := 8) (d := none) (u := undef) rfl rfl ?ywg59_112 ?rwg59_112
            case ywg59_112 =>
              refine StepS.store [1, 5, 6, 7] (by kernel_rfl) (by rfl) (fun L9 m9 w9 hSh hAt hDn hS => ?_)
              obtain ⟨g, k, hm, hk, hB, hset⟩ := W2B.on6 (hAt 1 (by simp)).1 (hAt 5 (by simp)).1 (hAt 6 (by simp)).1 (hAt 7 (by simp)).1 hDn (post_no (post := [9]) hSh hDn (by kernel_rfl) 9 (by simp)) hS
              obtain rfl : g8a = g := by have h9 : Value.pointer (some ⟨g8a, 0, none⟩) = .pointer (some ⟨g, 0, none⟩) := (hAt 6 (by simp)).2.symm.trans hm; simpa using h9
              obtain rfl : h8a = k := by have h9 : Value.pointer (some ⟨h8a, 0, none⟩) = .pointer (some ⟨k, 0, none⟩) := (hAt 7 (by simp)).2.symm.trans hk; simpa using h9
              obtain ⟨_, ⟨hA, hb2⟩, _⟩ := id hB
              have hBk := (hA g8a rfl).2.2
              refine (exec_store_blk (w := w9) 26 (.tmp 5) (.tmp 24) (by rfl) g8a 26 #[.slice none 0 0] #[.slice A5a n5a c5a] (by rfl) (by rfl) hBk rfl treeI (by simp [Value.oneCell'])).imp fun w7 hx => ⟨hx.1, hset _ (W2KB.st6 hB (hAt 1 (by simp)).2 hx.2.1 hx.2.2)⟩
            try simp only [Act.put]
            refine Ps.st (i := 9) (d := none) (u := undef) rfl rfl ?ywg59_113 ?rwg59_113
            case ywg59_113 =>
              refine StepS.store [1, 5, 6, 7, 8] (by kernel_rfl) (by rfl) (fun L9 m9 w9 hSh hAt hDn hS => ?_)
              obtain ⟨g, k, hm, hk, hB, hset⟩ := W2B.on7 (hAt 1 (by simp)).1 (hAt 5 (by simp)).1 (hAt 6 (by simp)).1 (hAt 7 (by simp)).1 (hAt 8 (by simp)).1 hDn  hS
              obtain rfl : g8a = g := by have h9 : Value.pointer (some ⟨g8a, 0, none⟩) = .pointer (some ⟨g, 0, none⟩) := (hAt 6 (by simp)).2.symm.trans hm; simpa using h9
              obtain rfl : h8a = k := by have h9 : Value.pointer (some ⟨h8a, 0, none⟩) = .pointer (some ⟨k, 0, none⟩) := (hAt 7 (by simp)).2.symm.trans hk; simpa using h9
              obtain ⟨_, A1, n1, c1, hA, hb2, _⟩ := id hB
              have hBk := (hb2 h8a rfl).2
              refine (exec_store_blk (w := w9) 26 (.tmp 6) (.tmp 28) (by rfl) h8a 26 #[.slice none 0 0] #[.slice A6a n6a c6a] (by rfl) (by rfl) hBk rfl treeI (by simp [Value.oneCell'])).imp fun w7 hx => ⟨hx.1, hset _ (W2KB.st7 hB (hAt 5 (by simp)).2 hx.2.1 hx.2.2)⟩
            try simp only [Act.put]
            refine Ps.done (by kernel_rfl) (fun wg59 hS => ?_) _
            obtain ⟨g, k, hm, hk, hB⟩ := W2B.fin (by rfl) (by rfl) (by rfl) hS
            clear hS
            obtain rfl : g8a = g := by have h9 : Value.pointer (some ⟨g8a, 0, none⟩) = .pointer (some ⟨g, 0, none⟩) := hm; simpa using h9
            obtain rfl : h8a = k := by have h9 : Value.pointer (some ⟨h8a, 0, none⟩) = .pointer (some ⟨k, 0, none⟩) := hk; simpa using h9
            have hB := W2KB.pair (A := A5a) (n := n5a) (c := c5a) (A' := A6a) (n' := n6a) (c' := c6a) hB rfl rfl
            refine ⟨g8a, h8a, A5a, n5a, c5a, A6a, n6a, c6a, ⟨.agg #[.slice B m mc], .agg #[.slice A5a n5a c5a], .slice (some ad) n c, .pointer (some ad), .agg #[.slice B2 m2 mc2], .agg #[.slice A6a n6a c6a], ?_⟩, hB⟩
            clear hB hm hk
            rfl
        case bwg59_64_7 =>
          refine Turns.mk (i := 7) (d := some 6) rfl rfl (TurnS.value (V := fun v => ∃ g, v = .pointer (some ⟨g, 0, none⟩)) [] (by kernel_rfl) (by rfl) (fun L9 m9 w9 hSh hAt hDn hS => ?cwg59_114)) (fun v7a hVv7a => ?rwg59_114)
          case cwg59_114 =>
            exact ⟨.pointer (some ⟨w9.heap.size, 0, none⟩), w9.alloc (.cells #[.slice none 0 0] 26), (by clear hS; go_simp), ⟨_, rfl⟩, W2B.made5 hDn (post_no (post := [8]) hSh hDn (by kernel_rfl) 8 (by simp)) (post_no (post := [9]) hSh hDn (by kernel_rfl) 9 (by simp)) rfl (W2KB.m5) hS⟩
          try simp only [Act.put, sA, sZ, sS]
          obtain ⟨h8a, rfl⟩ := hVv7a
          refine Ps.some2 (i := 1) (j := 6) (by kernel_rfl) ?bwg59_115_1 ?bwg59_115_6
          case bwg59_115_1 =>
            refine Turns.mk (i := 1) (d := some 24) rfl rfl (TurnS.call (V := fun v => ∃ A n c, v = .agg #[.slice A n c]) ?fwg59_116 ?awg59_116 [] (by kernel_rfl) (by rfl) (fun w9 => ?hwg59_116) (fun L9 m9 w9 hSh hAt hDn hS => ?cwg59_116)) (fun v5a hVv5a => ?rwg59_116)
            case hwg59_116 => go_simp; refine ⟨?_, ?_⟩ <;> rfl
            case cwg59_116 =>
              obtain ⟨al, bl, hB, hset⟩ := W2B.on1 hDn (post_no (post := [5]) hSh hDn (by kernel_rfl) 5 (by simp)) (post_no (post := [8]) hSh hDn (by kernel_rfl) 8 (by simp)) (post_no (post := [9]) hSh hDn (by kernel_rfl) 9 (by simp)) hS
              have hT := hB.1
              refine (short_any AllB x B m mc w9 (Lay.rd_below HRX.out hT) HM.out.1 HSX.out).mono ?_
              rintro e w6 ⟨A, n, c, rfl, hr6, h6a, h6b, q6⟩
              exact ⟨_, rfl, ⟨A, n, c, rfl⟩, hset _ _ (W2KB.c1 hB q6 hr6 h6a h6b)⟩
            try simp only [Act.put, sA, sZ, sS]
            obtain ⟨A5a, n5a, c5a, rfl⟩ := hVv5a
            refine Ps.some2 (i := 5) (j := 6) (by kernel_rfl) ?bwg59_117_5 ?bwg59_117_6
            case bwg59_117_5 =>
              refine Turns.mk (i := 5) (d := some 28) rfl rfl (TurnS.call (V := fun v => ∃ A n c, v = .agg #[.slice A n c]) ?fwg59_118 ?awg59_118 [1] (by kernel_rfl) (by rfl) (fun w9 => ?hwg59_118) (fun L9 m9 w9 hSh hAt hDn hS => ?cwg59_118)) (fun v6a hVv6a => ?rwg59_118)
              case hwg59_118 => go_simp; refine ⟨?_, ?_⟩ <;> rfl
              case cwg59_118 =>
                obtain ⟨al, bl, hB, hset⟩ := W2B.on3 (hAt 1 (by simp)).1 hDn (post_no (post := [8]) hSh hDn (by kernel_rfl) 8 (by simp)) (post_no (post := [9]) hSh hDn (by kernel_rfl) 9 (by simp)) hS
                have hT := hB.1
                refine (short_any AllB y B2 m2 mc2 w9 (Lay.rd_below HRY.out hT) HM.out.2 HSY.out).mono ?_
                rintro e w6 ⟨A, n, c, rfl, hr6, h6a, h6b, q6⟩
                exact ⟨_, rfl, ⟨A, n, c, rfl⟩, hset _ _ (W2KB.c3 hB q6 hr6 h6a h6b)⟩
              try simp only [Act.put, sA, sZ, sS]
              obtain ⟨A6a, n6a, c6a, rfl⟩ := hVv6a
              refine Ps.one (k := 6) (d := some 5) rfl rfl (by kernel_rfl) (TurnS.value (V := fun v => ∃ g, v = .pointer (some ⟨g, 0, none⟩)) [] (by kernel_rfl) (by rfl) (fun L9 m9 w9 hSh hAt hDn hS => ?cwg59_119)) (fun v6a hVv6a => ?rwg59_119)
              case cwg59_119 =>
                exact ⟨.pointer (some ⟨w9.heap.size, 0, none⟩), w9.alloc (.cells #[.slice none 0 0] 26), (by clear hS; go_simp), ⟨_, rfl⟩, W2B.made4 hDn (post_no (post := [8]) hSh hDn (by kernel_rfl) 8 (by simp)) (post_no (post := [9]) hSh hDn (by kernel_rfl) 9 (by simp)) rfl (W2KB.m4) hS⟩
              try simp only [Act.put, sA, sZ, sS]
              obtain ⟨g8a, rfl⟩ := hVv6a
              refine Ps.st (i := 8) (d := none) (u := undef) rfl rfl ?ywg59_120 ?rwg59_120
              case ywg59_120 =>
                refine StepS.store [1, 5, 6, 7] (by kernel_rfl) (by rfl) (fun L9 m9 w9 hSh hAt hDn hS => ?_)
                obtain ⟨g, k, hm, hk, hB, hset⟩ := W2B.on6 (hAt 1 (by simp)).1 (hAt 5 (by simp)).1 (hAt 6 (by simp)).1 (hAt 7 (by simp)).1 hDn (post_no (post := [9]) hSh hDn (by kernel_rfl) 9 (by simp)) hS
                obtain rfl : g8a = g := by have h9 : Value.pointer (some ⟨g8a, 0, none⟩) = .pointer (some ⟨g, 0, none⟩) := (hAt 6 (by simp)).2.symm.trans hm; simpa using h9
                obtain rfl : h8a = k := by have h9 : Value.pointer (some ⟨h8a, 0, none⟩) = .pointer (some ⟨k, 0, none⟩) := (hAt 7 (by simp)).2.symm.trans hk; simpa using h9
                obtain ⟨_, ⟨hA, hb2⟩, _⟩ := id hB
                have hBk := (hA g8a rfl).2.2
                refine (exec_store_blk (w := w9) 26 (.tmp 5) (.tmp 24) (by rfl) g8a 26 #[.slice none 0 0] #[.slice A5a n5a c5a] (by rfl) (by rfl) hBk rfl treeI (by simp [Value.oneCell'])).imp fun w7 hx => ⟨hx.1, hset _ (W2KB.st6 hB (hAt 1 (by simp)).2 hx.2.1 hx.2.2)⟩
              try simp only [Act.put]
              refine Ps.st (i := 9) (d := none) (u := undef) rfl rfl ?ywg59_121 ?rwg59_121
              case ywg59_121 =>
                refine StepS.store [1, 5, 6, 7, 8] (by kernel_rfl) (by rfl) (fun L9 m9 w9 hSh hAt hDn hS => ?_)
                obtain ⟨g, k, hm, hk, hB, hset⟩ := W2B.on7 (hAt 1 (by simp)).1 (hAt 5 (by simp)).1 (hAt 6 (by simp)).1 (hAt 7 (by simp)).1 (hAt 8 (by simp)).1 hDn  hS
                obtain rfl : g8a = g := by have h9 : Value.pointer (some ⟨g8a, 0, none⟩) = .pointer (some ⟨g, 0, none⟩) := (hAt 6 (by simp)).2.symm.trans hm; simpa using h9
                obtain rfl : h8a = k := by have h9 : Value.pointer (some ⟨h8a, 0, none⟩) = .pointer (some ⟨k, 0, none⟩) := (hAt 7 (by simp)).2.symm.trans hk; simpa using h9
                obtain ⟨_, A1, n1, c1, hA, hb2, _⟩ := id hB
                have hBk := (hb2 h8a rfl).2
                refine (exec_store_blk (w := w9) 26 (.tmp 6) (.tmp 28) (by rfl) h8a 26 #[.slice none 0 0] #[.slice A6a n6a c6a] (by rfl) (by rfl) hBk rfl treeI (by simp [Value.oneCell'])).imp fun w7 hx => ⟨hx.1, hset _ (W2KB.st7 hB (hAt 5 (by simp)).2 hx.2.1 hx.2.2)⟩
              try simp only [Act.put]
              refine Ps.done (by kernel_rfl) (fun wg59 hS => ?_) _
              obtain ⟨g, k, hm, hk, hB⟩ := W2B.fin (by rfl) (by rfl) (by rfl) hS
              clear hS
              obtain rfl : g8a = g := by have h9 : Value.pointer (some ⟨g8a, 0, none⟩) = .pointer (some ⟨g, 0, none⟩) := hm; simpa using h9
              obtain rfl : h8a = k := by have h9 : Value.pointer (some ⟨h8a, 0, none⟩) = .pointer (some ⟨k, 0, none⟩) := hk; simpa using h9
              have hB := W2KB.pair (A := A5a) (n := n5a) (c := c5a) (A' := A6a) (n' := n6a) (c' := c6a) hB rfl rfl
              refine ⟨g8a, h8a, A5a, n5a, c5a, A6a, n6a, c6a, ⟨.agg #[.slice B m mc], .agg #[.slice A5a n5a c5a], .slice (some ad) n c, .pointer (some ad), .agg #[.slice B2 m2 mc2], .agg #[.slice A6a n6a c6a], ?_⟩, hB⟩
              clear hB hm hk
              rfl
            case bwg59_117_6 =>
              refine Turns.mk (i := 6) (d := some 5) rfl rfl (TurnS.value (V := fun v => ∃ g, v = .pointer (some ⟨g, 0, none⟩)) [] (by kernel_rfl) (by rfl) (fun L9 m9 w9 hSh hAt hDn hS => ?cwg59_122)) (fun v6a hVv6a => ?rwg59_122)
              case cwg59_122 =>
                exact ⟨.pointer (some ⟨w9.heap.size, 0, none⟩), w9.alloc (.cells #[.slice none 0 0] 26), (by clear hS; go_simp), ⟨_, rfl⟩, W2B.made4 hDn (post_no (post := [8]) hSh hDn (by kernel_rfl) 8 (by simp)) (post_no (post := [9]) hSh hDn (by kernel_rfl) 9 (by simp)) rfl (W2KB.m4) hS⟩
              try simp only [Act.put, sA, sZ, sS]
              obtain ⟨g8a, rfl⟩ := hVv6a
              refine Ps.one (k := 5) (d := some 28) rfl rfl (by kernel_rfl) (TurnS.call (V := fun v => ∃ A n c, v = .agg #[.slice A n c]) ?fwg59_123 ?awg59_123 [1] (by kernel_rfl) (by rfl) (fun w9 => ?hwg59_123) (fun L9 m9 w9 hSh hAt hDn hS => ?cwg59_123)) (fun v6a hVv6a => ?rwg59_123)
              case hwg59_123 => go_simp; refine ⟨?_, ?_⟩ <;> rfl
              case cwg59_123 =>
                obtain ⟨al, bl, hB, hset⟩ := W2B.on3 (hAt 1 (by simp)).1 hDn (post_no (post := [8]) hSh hDn (by kernel_rfl) 8 (by simp)) (post_no (post := [9]) hSh hDn (by kernel_rfl) 9 (by simp)) hS
                have hT := hB.1
                refine (short_any AllB y B2 m2 mc2 w9 (Lay.rd_below HRY.out hT) HM.out.2 HSY.out).mono ?_
                rintro e w6 ⟨A, n, c, rfl, hr6, h6a, h6b, q6⟩
                exact ⟨_, rfl, ⟨A, n, c, rfl⟩, hset _ _ (W2KB.c3 hB q6 hr6 h6a h6b)⟩
              try simp only [Act.put, sA, sZ, sS]
              obtain ⟨A6a, n6a, c6a, rfl⟩ := hVv6a
              refine Ps.st (i := 8) (d := none) (u := undef) rfl rfl ?ywg59_124 ?rwg59_124
              case ywg59_124 =>
                refine StepS.store [1, 5, 6, 7] (by kernel_rfl) (by rfl) (fun L9 m9 w9 hSh hAt hDn hS => ?_)
                obtain ⟨g, k, hm, hk, hB, hset⟩ := W2B.on6 (hAt 1 (by simp)).1 (hAt 5 (by simp)).1 (hAt 6 (by simp)).1 (hAt 7 (by simp)).1 hDn (post_no (post := [9]) hSh hDn (by kernel_rfl) 9 (by simp)) hS
                obtain rfl : g8a = g := by have h9 : Value.pointer (some ⟨g8a, 0, none⟩) = .pointer (some ⟨g, 0, none⟩) := (hAt 6 (by simp)).2.symm.trans hm; simpa using h9
                obtain rfl : h8a = k := by have h9 : Value.pointer (some ⟨h8a, 0, none⟩) = .pointer (some ⟨k, 0, none⟩) := (hAt 7 (by simp)).2.symm.trans hk; simpa using h9
                obtain ⟨_, ⟨hA, hb2⟩, _⟩ := id hB
                have hBk := (hA g8a rfl).2.2
                refine (exec_store_blk (w := w9) 26 (.tmp 5) (.tmp 24) (by rfl) g8a 26 #[.slice none 0 0] #[.slice A5a n5a c5a] (by rfl) (by rfl) hBk rfl treeI (by simp [Value.oneCell'])).imp fun w7 hx => ⟨hx.1, hset _ (W2KB.st6 hB (hAt 1 (by simp)).2 hx.2.1 hx.2.2)⟩
              try simp only [Act.put]
              refine Ps.st (i := 9) (d := none) (u := undef) rfl rfl ?ywg59_125 ?rwg59_125
              case ywg59_125 =>
                refine StepS.store [1, 5, 6, 7, 8] (by kernel_rfl) (by rfl) (fun L9 m9 w9 hSh hAt hDn hS => ?_)
                obtain ⟨g, k, hm, hk, hB, hset⟩ := W2B.on7 (hAt 1 (by simp)).1 (hAt 5 (by simp)).1 (hAt 6 (by simp)).1 (hAt 7 (by simp)).1 (hAt 8 (by simp)).1 hDn  hS
                obtain rfl : g8a = g := by have h9 : Value.pointer (some ⟨g8a, 0, none⟩) = .pointer (some ⟨g, 0, none⟩) := (hAt 6 (by simp)).2.symm.trans hm; simpa using h9
                obtain rfl : h8a = k := by have h9 : Value.pointer (some ⟨h8a, 0, none⟩) = .pointer (some ⟨k, 0, none⟩) := (hAt 7 (by simp)).2.symm.trans hk; simpa using h9
                obtain ⟨_, A1, n1, c1, hA, hb2, _⟩ := id hB
                have hBk := (hb2 h8a rfl).2
                refine (exec_store_blk (w := w9) 26 (.tmp 6) (.tmp 28) (by rfl) h8a 26 #[.slice none 0 0] #[.slice A6a n6a c6a] (by rfl) (by rfl) hBk rfl treeI (by simp [Value.oneCell'])).imp fun w7 hx => ⟨hx.1, hset _ (W2KB.st7 hB (hAt 5 (by simp)).2 hx.2.1 hx.2.2)⟩
              try simp only [Act.put]
              refine Ps.done (by kernel_rfl) (fun wg59 hS => ?_) _
              obtain ⟨g, k, hm, hk, hB⟩ := W2B.fin (by rfl) (by rfl) (by rfl) hS
              clear hS
              obtain rfl : g8a = g := by have h9 : Value.pointer (some ⟨g8a, 0, none⟩) = .pointer (some ⟨g, 0, none⟩) := hm; simpa using h9
              obtain rfl : h8a = k := by have h9 : Value.pointer (some ⟨h8a, 0, none⟩) = .pointer (some ⟨k, 0, none⟩) := hk; simpa using h9
              have hB := W2KB.pair (A := A5a) (n := n5a) (c := c5a) (A' := A6a) (n' := n6a) (c' := c6a) hB rfl rfl
              refine ⟨g8a, h8a, A5a, n5a, c5a, A6a, n6a, c6a, ⟨.agg #[.slice B m mc], .agg #[.slice A5a n5a c5a], .slice (some ad) n c, .pointer (some ad), .agg #[.slice B2 m2 mc2], .agg #[.slice A6a n6a c6a], ?_⟩, hB⟩
              clear hB hm hk
              rfl
          case bwg59_115_6 =>
            refine Turns.mk (i := 6) (d := some 5) rfl rfl (TurnS.value (V := fun v => ∃ g, v = .pointer (some ⟨g, 0, none⟩)) [] (by kernel_rfl) (by rfl) (fun L9 m9 w9 hSh hAt hDn hS => ?cwg59_126)) (fun v6a hVv6a => ?rwg59_126)
            case cwg59_126 =>
              exact ⟨.pointer (some ⟨w9.heap.size, 0, none⟩), w9.alloc (.cells #[.slice none 0 0] 26), (by clear hS; go_simp), ⟨_, rfl⟩, W2B.made4 hDn (post_no (post := [8]) hSh hDn (by kernel_rfl) 8 (by simp)) (post_no (post := [9]) hSh hDn (by kernel_rfl) 9 (by simp)) rfl (W2KB.m4) hS⟩
            try simp only [Act.put, sA, sZ, sS]
            obtain ⟨g8a, rfl⟩ := hVv6a
            refine Ps.one (k := 1) (d := some 24) rfl rfl (by kernel_rfl) (TurnS.call (V := fun v => ∃ A n c, v = .agg #[.slice A n c]) ?fwg59_127 ?awg59_127 [] (by kernel_rfl) (by rfl) (fun w9 => ?hwg59_127) (fun L9 m9 w9 hSh hAt hDn hS => ?cwg59_127)) (fun v5a hVv5a => ?rwg59_127)
            case hwg59_127 => go_simp; refine ⟨?_, ?_⟩ <;> rfl
            case cwg59_127 =>
              obtain ⟨al, bl, hB, hset⟩ := W2B.on1 hDn (post_no (post := [5]) hSh hDn (by kernel_rfl) 5 (by simp)) (post_no (post := [8]) hSh hDn (by kernel_rfl) 8 (by simp)) (post_no (post := [9]) hSh hDn (by kernel_rfl) 9 (by simp)) hS
              have hT := hB.1
              refine (short_any AllB x B m mc w9 (Lay.rd_below HRX.out hT) HM.out.1 HSX.out).mono ?_
              rintro e w6 ⟨A, n, c, rfl, hr6, h6a, h6b, q6⟩
              exact ⟨_, rfl, ⟨A, n, c, rfl⟩, hset _ _ (W2KB.c1 hB q6 hr6 h6a h6b)⟩
            try simp only [Act.put, sA, sZ, sS]
            obtain ⟨A5a, n5a, c5a, rfl⟩ := hVv5a
            refine Ps.one (k := 5) (d := some 28) rfl rfl (by kernel_rfl) (TurnS.call (V := fun v => ∃ A n c, v = .agg #[.slice A n c]) ?fwg59_128 ?awg59_128 [1] (by kernel_rfl) (by rfl) (fun w9 => ?hwg59_128) (fun L9 m9 w9 hSh hAt hDn hS => ?cwg59_128)) (fun v6a hVv6a => ?rwg59_128)
            case hwg59_128 => go_simp; refine ⟨?_, ?_⟩ <;> rfl
            case cwg59_128 =>
              obtain ⟨al, bl, hB, hset⟩ := W2B.on3 (hAt 1 (by simp)).1 hDn (post_no (post := [8]) hSh hDn (by kernel_rfl) 8 (by simp)) (post_no (post := [9]) hSh hDn (by kernel_rfl) 9 (by simp)) hS
              have hT := hB.1
              refine (short_any AllB y B2 m2 mc2 w9 (Lay.rd_below HRY.out hT) HM.out.2 HSY.out).mono ?_
              rintro e w6 ⟨A, n, c, rfl, hr6, h6a, h6b, q6⟩
              exact ⟨_, rfl, ⟨A, n, c, rfl⟩, hset _ _ (W2KB.c3 hB q6 hr6 h6a h6b)⟩
            try simp only [Act.put, sA, sZ, sS]
            obtain ⟨A6a, n6a, c6a, rfl⟩ := hVv6a
            refine Ps.st (i := 8) (d := none) (u := undef) rfl rfl ?ywg59_129 ?rwg59_129
            case ywg59_129 =>
              refine StepS.store [1, 5, 6, 7] (by kernel_rfl) (by rfl) (fun L9 m9 w9 hSh hAt hDn hS => ?_)
              obtain ⟨g, k, hm, hk, hB, hset⟩ := W2B.on6 (hAt 1 (by simp)).1 (hAt 5 (by simp)).1 (hAt 6 (by simp)).1 (hAt 7 (by simp)).1 hDn (post_no (post := [9]) hSh hDn (by kernel_rfl) 9 (by simp)) hS
              obtain rfl : g8a = g := by have h9 : Value.pointer (some ⟨g8a, 0, none⟩) = .pointer (some ⟨g, 0, none⟩) := (hAt 6 (by simp)).2.symm.trans hm; simpa using h9
              obtain rfl : h8a = k := by have h9 : Value.pointer (some ⟨h8a, 0, none⟩) = .pointer (some ⟨k, 0, none⟩) := (hAt 7 (by simp)).2.symm.trans hk; simpa using h9
              obtain ⟨_, ⟨hA, hb2⟩, _⟩ := id hB
              have hBk := (hA g8a rfl).2.2
              refine (exec_store_blk (w := w9) 26 (.tmp 5) (.tmp 24) (by rfl) g8a 26 #[.slice none 0 0] #[.slice A5a n5a c5a] (by rfl) (by rfl) hBk rfl treeI (by simp [Value.oneCell'])).imp fun w7 hx => ⟨hx.1, hset _ (W2KB.st6 hB (hAt 1 (by simp)).2 hx.2.1 hx.2.2)⟩
            try simp only [Act.put]
            refine Ps.st (i := 9) (d := none) (u := undef) rfl rfl ?ywg59_130 ?rwg59_130
            case ywg59_130 =>
              refine StepS.store [1, 5, 6, 7, 8] (by kernel_rfl) (by rfl) (fun L9 m9 w9 hSh hAt hDn hS => ?_)
              obtain ⟨g, k, hm, hk, hB, hset⟩ := W2B.on7 (hAt 1 (by simp)).1 (hAt 5 (by simp)).1 (hAt 6 (by simp)).1 (hAt 7 (by simp)).1 (hAt 8 (by simp)).1 hDn  hS
              obtain rfl : g8a = g := by have h9 : Value.pointer (some ⟨g8a, 0, none⟩) = .pointer (some ⟨g, 0, none⟩) := (hAt 6 (by simp)).2.symm.trans hm; simpa using h9
              obtain rfl : h8a = k := by have h9 : Value.pointer (some ⟨h8a, 0, none⟩) = .pointer (some ⟨k, 0, none⟩) := (hAt 7 (by simp)).2.symm.trans hk; simpa using h9
              obtain ⟨_, A1, n1, c1, hA, hb2, _⟩ := id hB
              have hBk := (hb2 h8a rfl).2
              refine (exec_store_blk (w := w9) 26 (.tmp 6) (.tmp 28) (by rfl) h8a 26 #[.slice none 0 0] #[.slice A6a n6a c6a] (by rfl) (by rfl) hBk rfl treeI (by simp [Value.oneCell'])).imp fun w7 hx => ⟨hx.1, hset _ (W2KB.st7 hB (hAt 5 (by simp)).2 hx.2.1 hx.2.2)⟩
            try simp only [Act.put]
            refine Ps.done (by kernel_rfl) (fun wg59 hS => ?_) _
            obtain ⟨g, k, hm, hk, hB⟩ := W2B.fin (by rfl) (by rfl) (by rfl) hS
            clear hS
            obtain rfl : g8a = g := by have h9 : Value.pointer (some ⟨g8a, 0, none⟩) = .pointer (some ⟨g, 0, none⟩) := hm; simpa using h9
            obtain rfl : h8a = k := by have h9 : Value.pointer (some ⟨h8a, 0, none⟩) = .pointer (some ⟨k, 0, none⟩) := hk; simpa using h9
            have hB := W2KB.pair (A := A5a) (n := n5a) (c := c5a) (A' := A6a) (n' := n6a) (c' := c6a) hB rfl rfl
            refine ⟨g8a, h8a, A5a, n5a, c5a, A6a, n6a, c6a, ⟨.agg #[.slice B m mc], .agg #[.slice A5a n5a c5a], .slice (some ad) n c, .pointer (some ad), .agg #[.slice B2 m2 mc2], .agg #[.slice A6a n6a c6a], ?_⟩, hB⟩
            clear hB hm hk
            rfl
      case kpswg59 =>
        intro a' w1a hF
        obtain ⟨g8a, h8a, A5a, n5a, c5a, A6a, n6a, c6a, ⟨v23, v24, v25, v26, v27, v28, rfl⟩, hT, hg9, hbk, hbk2, hr, hr2, hc1, hc2⟩ := hF
        have HT1a := Lib.hid hT
        have HGa := Lib.hid hg9
        have HVa := Lib.hid hbk
        have HUa := Lib.hid hbk2
        have HRVa := Lib.hid hr
        have HRUa := Lib.hid hr2
        have HCVa := Lib.hid hc1
        have HCUa := Lib.hid hc2
        clear hT hg9 hbk hbk2 hr hr2 hc1 hc2
        simp only [Act.put, List.setIfInBounds_toArray, List.set_cons_zero, List.set_cons_succ]
        have HQa := Lib.hid (bl_ca HQX.out HT1a.out)
        have KX := Lib.hid (HBX.out.ca HT1a.out)
        have HSH := Lib.hid (fun w' (q : Below w1a.heap.size w1a w') => short_any AllB x B m mc w' (Lay.rd_below HRX.out (bl_ca HT1a.out q)) HM.out.1 HSX.out)
        have HSM := Lib.hid (short_sm (xs := x))
        have HRG := Lib.hid (short_rg (xs := x) (fun z hz => (HXX.out z hz).2))
        have KRX := Lib.hid (rd_all HRVa.out)
        have KRY := Lib.hid (rd_all HRUa.out)
        have HNX := Lib.hid (show (shortN x).length = n5a from Lay.rd_len HRVa.out)
        have HNY := Lib.hid (show (shortN y).length = n6a from Lay.rd_len HRUa.out)
        have HLX := Lib.hid (short_len x)
        have HLY := Lib.hid (short_len y)
        generalize shortN x = X at *
        generalize shortN y = Y at *
        have hn5 : n5a ≤ 301 := by have := HLX.out; have := HNX.out; omega
        have KNN := Lib.hid (show n5a ≤ 9223372036854775807 ∧ n6a ≤ 9223372036854775807 from by have := HLY.out; have := HNY.out; omega)
        clear HRVa HRUa HRX HRY HBX HLX HLY
        have KT := Lib.hid (HT.out.below HQa.out)
        have z5 : w1a.cell? ⟨g8a, 0, none⟩ = some (.slice A5a n5a c5a) := HVa.out.cell 0
        have HRT := Lib.hid (rright_any AllB X A5a n5a c5a w1a KRX.out (by omega) HSM.out)
        obtain ⟨ok, hok⟩ : ∃ b, b = okF X := ⟨_, rfl⟩
        rw [← hok] at HRT
        have HOK := Lib.hid hok
        clear hok
        go_wp2_with fail
        refine HRT.out.mono ?_
        rintro e wt ⟨rfl, qt⟩
        have HAt := Lib.hid qt
        clear qt z5 HRT
        have z5 : wt.cell? ⟨g8a, 0, none⟩ = some (.slice A5a n5a c5a) := (HVa.out.ca HAt.out).cell 0
        have HCT := Lib.hid (checktree_any AllB X A5a n5a c5a wt (Lay.rd_below KRX.out HAt.out) (by omega) (KT.out.below HAt.out) HSM.out)
        rw [show chkE X = if ok then 0 else 180 from by rw [HOK.out]; rfl] at HCT
        go_wp2_with fail
        refine HCT.out.mono ?_
        rintro e wv ⟨rfl, qv⟩
        have HAv := Lib.hid (bl_ca HAt.out qv)
        clear qv z5 HCT
        obtain ⟨dd, hdd⟩ : ∃ dd, dd = decide (X = Y) := ⟨_, rfl⟩
        have HDD := Lib.hid hdd
        clear hdd
        have KV := Lib.hid (HVa.out.ca HAv.out)
        have KU := Lib.hid (HUa.out.ca HAv.out)
        have KX := Lib.hid (KX.out.ca HAv.out)
        have KRX := Lib.hid (Lay.rd_below KRX.out HAv.out)
        have KRY := Lib.hid (Lay.rd_below KRY.out HAv.out)
        have KT := Lib.hid (KT.out.below HAv.out)
        have KSH := Lib.hid (fun w' (q : Below wv.heap.size wv w') => HSH.out w' (bl_ca HAv.out q))
        have KQ := Lib.hid (bl_ca HQa.out HAv.out)
        clear HSH HAt HVa HUa HAv HQa
        cases ok
        case false =>
          skip
          go_upto_region 10 with fail
          refine wp_region_ps (S := SeqN [15, 18, 24, 25] (fun z mm w' => match z with | 3 => Below wv.heap.size wv w' ∧ ∃ A2 n2 c2, mm 24 = .agg #[.slice A2 n2 c2] ∧ LN.rd w' AllB A2 n2 X | _ => Below wv.heap.size wv w')) (by kernel_rfl) ?spswg1 ?ppswg1
          case spswg1 =>
            exact SeqN.start (by decide) (Below.refl _ _).drew
          refine Ps.st (i := 0) (d := some 33) (u := (.int .i64 (180))) rfl rfl (by exact StepS.pure (SeqN.pass (by decide)) rfl fun _ => rfl) ?_
          try simp only [Act.put, sA, sZ, sS]
          refine Ps.st (i := 1) (d := some 34) (u := (.bool (false))) rfl rfl ?ywg1_3 ?rwg1_3
          case ywg1_3 =>
            refine StepS.pure (SeqN.pass (by decide)) (by rfl) (fun w9 => ?_)
            first | rfl | (go_simp; done) | (go_simp; rfl)
          try simp only [Act.put, sA, sZ, sS]
          refine Ps.st (i := 2) (d := some 35) (u := (.bool (false))) rfl rfl (by exact StepS.pure (SeqN.pass (by decide)) rfl fun _ => rfl) ?_
          try simp only [Act.put, sA, sZ, sS]
          refine Ps.st (i := 3) (d := some 36) (u := (.bool (false))) rfl rfl ?ywg1_5 ?rwg1_5
          case ywg1_5 =>
            refine StepS.pure (SeqN.pass (by decide)) (by rfl) (fun w9 => ?_)
            first | rfl | (go_simp; done) | (go_simp; rfl)
          try simp only [Act.put, sA, sZ, sS]
          refine Ps.st (i := 4) (d := some 37) (u := (.bool (false))) rfl rfl (by exact StepS.pure (SeqN.pass (by decide)) rfl fun _ => rfl) ?_
          try simp only [Act.put, sA, sZ, sS]
          refine Ps.st (i := 5) (d := some 38) (u := (.bool (false))) rfl rfl (by exact StepS.pure (SeqN.pass (by decide)) rfl fun _ => rfl) ?_
          try simp only [Act.put, sA, sZ, sS]
          refine Ps.st (i := 6) (d := some 39) (u := (.bool (true))) rfl rfl (by exact StepS.pure (SeqN.pass (by decide)) rfl fun _ => rfl) ?_
          try simp only [Act.put, sA, sZ, sS]
          refine Ps.st (i := 7) (d := some 40) (u := (.bool (true))) rfl rfl (by exact StepS.pure (SeqN.pass (by decide)) rfl fun _ => rfl) ?_
          try simp only [Act.put, sA, sZ, sS]
          refine Ps.st (i := 8) (d := some 41) (u := (.int .i64 (180))) rfl rfl (by exact StepS.pure (SeqN.pass (by decide)) rfl fun _ => rfl) ?_
          try simp only [Act.put, sA, sZ, sS]
          refine Ps.st (i := 9) (d := some 42) (u := (.bool (false))) rfl rfl ?ywg1_11 ?rwg1_11
          case ywg1_11 =>
            refine StepS.pure (SeqN.pass (by decide)) (by rfl) (fun w9 => ?_)
            first | rfl | (go_simp; done) | (go_simp; rfl)
          try simp only [Act.put, sA, sZ, sS]
          refine Ps.st (i := 10) (d := some 43) (u := (.bool (false))) rfl rfl (by exact StepS.pure (SeqN.pass (by decide)) rfl fun _ => rfl) ?_
          try simp only [Act.put, sA, sZ, sS]
          refine Ps.st (i := 11) (d := some 44) (u := (.bool (false))) rfl rfl (by exact StepS.pure (SeqN.pass (by decide)) rfl fun _ => rfl) ?_
          try simp only [Act.put, sA, sZ, sS]
          refine Ps.st (i := 12) (d := some 45) (u := (.bool (false))) rfl rfl (by exact StepS.pure (SeqN.pass (by decide)) rfl fun _ => rfl) ?_
          try simp only [Act.put, sA, sZ, sS]
          refine Ps.st (i := 13) (d := some 46) (u := (.agg #[.slice A5a n5a c5a])) rfl rfl ?ywg1_15 ?rwg1_15
          case ywg1_15 =>
            refine StepS.read [] (by kernel_rfl) (SeqN.pass (by decide)) (by rfl) (fun L9 m9 w9 hSh hAt hDn hS => ?_)
            have hT : Below wv.heap.size wv w9 := SeqN.lt (ks := [15, 18, 24, 25]) (k := 25) (by simp) (reach_no hSh (f := 28) (j := 25) (by kernel_rfl) hDn) (fun z _ _ hz h => by match z, hz, h with | 0, _, h => exact h | 1, _, h => exact h | 2, _, h => exact h | 3, _, h => exact h.1 | _ + 4, hz, _ => exact absurd hz (by simp)) hS
            have x0 : w9.cell? ⟨g8a, 0, none⟩ = some (.slice A5a n5a c5a) := (KV.out.ca hT).cell 0
            clear hT hS
            go_simp
            try rfl
          try simp only [Act.put, sA, sZ, sS]
          refine Ps.st (i := 14) (d := some 47) (u := (.agg #[.slice A6a n6a c6a])) rfl rfl ?ywg1_16 ?rwg1_16
          case ywg1_16 =>
            refine StepS.read [] (by kernel_rfl) (SeqN.pass (by decide)) (by rfl) (fun L9 m9 w9 hSh hAt hDn hS => ?_)
            have hT : Below wv.heap.size wv w9 := SeqN.lt (ks := [15, 18, 24, 25]) (k := 25) (by simp) (reach_no hSh (f := 28) (j := 25) (by kernel_rfl) hDn) (fun z _ _ hz h => by match z, hz, h with | 0, _, h => exact h | 1, _, h => exact h | 2, _, h => exact h | 3, _, h => exact h.1 | _ + 4, hz, _ => exact absurd hz (by simp)) hS
            have x0 : w9.cell? ⟨h8a, 0, none⟩ = some (.slice A6a n6a c6a) := (KU.out.ca hT).cell 0
            clear hT hS
            go_simp
            try rfl
          try simp only [Act.put, sA, sZ, sS]
          refine Ps.st (i := 16) (d := some 49) (u := (.agg #[.slice A5a n5a c5a])) rfl rfl ?ywg1_17 ?rwg1_17
          case ywg1_17 =>
            refine StepS.read [] (by kernel_rfl) (SeqN.pass (by decide)) (by rfl) (fun L9 m9 w9 hSh hAt hDn hS => ?_)
            have hT : Below wv.heap.size wv w9 := SeqN.lt (ks := [15, 18, 24, 25]) (k := 25) (by simp) (reach_no hSh (f := 28) (j := 25) (by kernel_rfl) hDn) (fun z _ _ hz h => by match z, hz, h with | 0, _, h => exact h | 1, _, h => exact h | 2, _, h => exact h | 3, _, h => exact h.1 | _ + 4, hz, _ => exact absurd hz (by simp)) hS
            have x0 : w9.cell? ⟨g8a, 0, none⟩ = some (.slice A5a n5a c5a) := (KV.out.ca hT).cell 0
            clear hT hS
            go_simp
            try rfl
          try simp only [Act.put, sA, sZ, sS]
          refine Ps.st (i := 17) (d := some 50) (u := (.agg #[.slice A6a n6a c6a])) rfl rfl ?ywg1_18 ?rwg1_18
          case ywg1_18 =>
            refine StepS.read [] (by kernel_rfl) (SeqN.pass (by decide)) (by rfl) (fun L9 m9 w9 hSh hAt hDn hS => ?_)
            have hT : Below wv.heap.size wv w9 := SeqN.lt (ks := [15, 18, 24, 25]) (k := 25) (by simp) (reach_no hSh (f := 28) (j := 25) (by kernel_rfl) hDn) (fun z _ _ hz h => by match z, hz, h with | 0, _, h => exact h | 1, _, h => exact h | 2, _, h => exact h | 3, _, h => exact h.1 | _ + 4, hz, _ => exact absurd hz (by simp)) hS
            have x0 : w9.cell? ⟨h8a, 0, none⟩ = some (.slice A6a n6a c6a) := (KU.out.ca hT).cell 0
            clear hT hS
            go_simp
            try rfl
          try simp only [Act.put, sA, sZ, sS]
          refine Ps.one (k := 15) (d := some 48) rfl rfl (by kernel_rfl) (TurnS.call (V := fun v => v = .bool dd) ?fwg1_19 ?awg1_19 [] (by kernel_rfl) (by rfl) (fun w9 => ?hwg1_19) (fun L9 m9 w9 hSh hAt hDn hS => ?cwg1_19)) (fun v15 hVv15 => ?rwg1_19)
          case hwg1_19 => go_simp; refine ⟨?_, ?_⟩ <;> rfl
          case cwg1_19 =>
            have hT := SeqN.at_ (m0 := m9) (m1 := m9) [] [18, 24, 25] hSh (fun d hd => by cases hd) hDn (by kernel_rfl) hS
            refine (sametree_any AllB AllB X Y A5a n5a c5a A6a n6a c6a w9 (Lay.rd_below KRX.out hT) (Lay.rd_below KRY.out hT) KNN.out.1).mono ?_
            rintro e w8 ⟨rfl, q8⟩
            exact ⟨_, rfl, by rw [HDD.out], SeqN.set_ (m0 := m9) (m1 := m9) [] [18, 24, 25] hSh (fun d hd => by cases hd) hDn (by kernel_rfl) (by decide) (by decide) (bl_ca hT q8)⟩
          try simp only [Act.put, sA, sZ, sS]
          subst hVv15
          refine Ps.one (k := 18) (d := some 51) rfl rfl (by kernel_rfl) (TurnS.call (V := fun v => v = .bool dd) ?fwg1_20 ?awg1_20 [15] (by kernel_rfl) (by rfl) (fun w9 => ?hwg1_20) (fun L9 m9 w9 hSh hAt hDn hS => ?cwg1_20)) (fun v18 hVv18 => ?rwg1_20)
          case hwg1_20 => go_simp; refine ⟨?_, ?_⟩ <;> rfl
          case cwg1_20 =>
            have hT := SeqN.at_ [15] [24, 25] hSh hAt hDn (by kernel_rfl) hS
            refine (rsame_any AllB AllB X Y A5a n5a c5a A6a n6a c6a w9 (Lay.rd_below KRX.out hT) (Lay.rd_below KRY.out hT) KNN.out.1).mono ?_
            rintro e w8 ⟨rfl, q8⟩
            exact ⟨_, rfl, by rw [HDD.out], SeqN.set_ [15] [24, 25] hSh hAt hDn (by kernel_rfl) (by decide) (by decide) (bl_ca hT q8)⟩
          try simp only [Act.put, sA, sZ, sS]
          subst hVv18
          refine Ps.st (i := 19) (d := some 52) (u := (.bool (false))) rfl rfl ?ywg1_21 ?rwg1_21
          case ywg1_21 =>
            refine StepS.pure (SeqN.pass (by decide)) (by rfl) (fun w9 => ?_)
            cases dd
            · first | rfl | (go_simp; done) | (go_simp; rfl)
            · first | rfl | (go_simp; done) | (go_simp; rfl)
          try simp only [Act.put, sA, sZ, sS]
          refine Ps.st (i := 20) (d := some 53) (u := (.bool (false))) rfl rfl (by exact StepS.pure (SeqN.pass (by decide)) rfl fun _ => rfl) ?_
          try simp only [Act.put, sA, sZ, sS]
          refine Ps.st (i := 21) (d := some 54) (u := (.bool (false))) rfl rfl (by exact StepS.pure (SeqN.pass (by decide)) rfl fun _ => rfl) ?_
          try simp only [Act.put, sA, sZ, sS]
          refine Ps.st (i := 22) (d := some 55) (u := (.agg #[.slice A5a n5a c5a])) rfl rfl ?ywg1_24 ?rwg1_24
          case ywg1_24 =>
            refine StepS.read [] (by kernel_rfl) (SeqN.pass (by decide)) (by rfl) (fun L9 m9 w9 hSh hAt hDn hS => ?_)
            have hT : Below wv.heap.size wv w9 := SeqN.lt (ks := [15, 18, 24, 25]) (k := 25) (by simp) (reach_no hSh (f := 28) (j := 25) (by kernel_rfl) hDn) (fun z _ _ hz h => by match z, hz, h with | 0, _, h => exact h | 1, _, h => exact h | 2, _, h => exact h | 3, _, h => exact h.1 | _ + 4, hz, _ => exact absurd hz (by simp)) hS
            have x0 : w9.cell? ⟨g8a, 0, none⟩ = some (.slice A5a n5a c5a) := (KV.out.ca hT).cell 0
            clear hT hS
            go_simp
            try rfl
          try simp only [Act.put, sA, sZ, sS]
          refine Ps.st (i := 23) (d := some 56) (u := (.agg #[.slice B m mc])) rfl rfl ?ywg1_25 ?rwg1_25
          case ywg1_25 =>
            refine StepS.read [] (by kernel_rfl) (SeqN.pass (by decide)) (by rfl) (fun L9 m9 w9 hSh hAt hDn hS => ?_)
            have hT : Below wv.heap.size wv w9 := SeqN.lt (ks := [15, 18, 24, 25]) (k := 25) (by simp) (reach_no hSh (f := 28) (j := 25) (by kernel_rfl) hDn) (fun z _ _ hz h => by match z, hz, h with | 0, _, h => exact h | 1, _, h => exact h | 2, _, h => exact h | 3, _, h => exact h.1 | _ + 4, hz, _ => exact absurd hz (by simp)) hS
            have x0 : w9.cell? ⟨gx, 0, none⟩ = some (.slice B m mc) := (KX.out.ca hT).cell 0
            clear hT hS
            go_simp
            try rfl
          try simp only [Act.put, sA, sZ, sS]
          refine Ps.one (k := 24) (d := some 57) rfl rfl (by kernel_rfl) (TurnS.call (V := fun v => ∃ A2 n2 c2, v = .agg #[.slice A2 n2 c2]) ?fwg1_26 ?awg1_26 [15, 18] (by kernel_rfl) (by rfl) (fun w9 => ?hwg1_26) (fun L9 m9 w9 hSh hAt hDn hS => ?cwg1_26)) (fun v24 hVv24 => ?rwg1_26)
          case hwg1_26 => go_simp; refine ⟨?_, ?_⟩ <;> rfl
          case cwg1_26 =>
            have hT := SeqN.at_ [15, 18] [25] hSh hAt hDn (by kernel_rfl) hS
            refine (KSH.out w9 hT).mono ?_
            rintro e w8 ⟨A2, n2, c2, rfl, hr, hnc, hcm, q8⟩
            exact ⟨_, rfl, ⟨A2, n2, c2, rfl⟩, SeqN.set_ [15, 18] [25] hSh hAt hDn (by kernel_rfl) (by decide) (by decide) ⟨bl_ca hT q8, A2, n2, c2, upd_same _ _ _, rd_all hr⟩⟩
          try simp only [Act.put, sA, sZ, sS]
          obtain ⟨A2, n2, c2, rfl⟩ := hVv24
          refine Ps.one (k := 25) (d := some 58) rfl rfl (by kernel_rfl) (TurnS.call (V := fun v => v = .bool true) ?fwg1_27 ?awg1_27 [15, 18, 24] (by kernel_rfl) (by rfl) (fun w9 => ?hwg1_27) (fun L9 m9 w9 hSh hAt hDn hS => ?cwg1_27)) (fun v25 hVv25 => ?rwg1_27)
          case hwg1_27 => go_simp; refine ⟨?_, ?_⟩ <;> rfl
          case cwg1_27 =>
            obtain ⟨hT, A3, n3, c3, hv, hr⟩ := SeqN.at_ [15, 18, 24] [] hSh hAt hDn (by kernel_rfl) hS
            obtain ⟨rfl, rfl, rfl⟩ : A2 = A3 ∧ n2 = n3 ∧ c2 = c3 := by have h9 : Value.agg #[.slice A2 n2 c2] = .agg #[.slice A3 n3 c3] := (hAt 24 (by simp)).2.symm.trans hv; simpa [and_assoc] using h9
            refine (sametree_any AllB AllB X X A5a n5a c5a A2 n2 c2 w9 (Lay.rd_below KRX.out hT) hr KNN.out.1).mono ?_
            rintro e w8 ⟨rfl, q8⟩
            exact ⟨_, rfl, by rw [decide_eq_true rfl], SeqN.set_ [15, 18, 24] [] hSh hAt hDn (by kernel_rfl) (by decide) (by decide) (bl_ca hT q8)⟩
          try simp only [Act.put, sA, sZ, sS]
          subst hVv25
          refine Ps.st (i := 26) (d := some 59) (u := (.bool (false))) rfl rfl (by exact StepS.pure (SeqN.pass (by decide)) rfl fun _ => rfl) ?_
          try simp only [Act.put, sA, sZ, sS]
          refine Ps.st (i := 27) (d := some 60) (u := (.bool (false))) rfl rfl (by exact StepS.pure (SeqN.pass (by decide)) rfl fun _ => rfl) ?_
          try simp only [Act.put, sA, sZ, sS]
          refine Ps.done (by kernel_rfl) (fun wg1 hS => ?_) _
          have HWW := Lib.hid (show Below wv.heap.size wv wg1 from SeqN.fin (by rfl) hS)
          clear hS
          obtain ⟨wx, rfl⟩ : ∃ x, x = wg1 := ⟨_, rfl⟩
          have KP := Lib.hid (fun w' (q : Below wx.heap.size wx w') => printtree_any AllB X A5a n5a c5a w' (Lay.rd_below KRX.out (bl_ca HWW.out q)) (by omega) (KT.out.below (bl_ca HWW.out q)) HSM.out HRG.out)
          have KD := Lib.hid (fun w' (q : Below wx.heap.size wx w') => depth_any AllB X A5a n5a c5a w' (Lay.rd_below KRX.out (bl_ca HWW.out q)) (by omega) (KT.out.below (bl_ca HWW.out q)) HSM.out)
          have KV2 := Lib.hid (KV.out.ca HWW.out)
          have KQ2 := Lib.hid (bl_ca KQ.out HWW.out)
          have HEC := Lib.hid (show chkE X = 180 from by unfold chkE; rw [← HOK.out]; rfl)
          rw [HEC.out] at KP
          have z5 : wx.cell? ⟨g8a, 0, none⟩ = some (.slice A5a n5a c5a) := KV2.out.cell 0
          obtain ⟨P, hP⟩ : ∃ P, P = prF X := ⟨_, rfl⟩
          obtain ⟨D, hD⟩ : ∃ D, D = depF X := ⟨_, rfl⟩
          rw [← hP] at KP
          rw [← hD] at KD
          have HP := Lib.hid hP
          have HD := Lib.hid hD
          clear hP hD
          go_wp2_with fail
          refine (KP.out wx (Below.refl _ _)).mono ?_
          rintro e wy ⟨rfl, qy⟩
          have HAy := Lib.hid qy
          clear qy z5
          have z5 : wy.cell? ⟨g8a, 0, none⟩ = some (.slice A5a n5a c5a) := (KV2.out.ca HAy.out).cell 0
          obtain ⟨e1, e2⟩ := no_print HOK.out.symm
          have hP : P = ⟨#[]⟩ := HP.out.trans e1
          have hD : D = 0 := HD.out.trans e2
          subst hP
          subst hD
          clear e1 e2
          go_wp2_with fail
          refine (KD.out wy HAy.out).mono ?_
          rintro e wq ⟨rfl, qq⟩
          have HAq := Lib.hid (bl_ca KQ2.out (bl_ca HAy.out qq))
          clear qq z5
          go_wp2
          go_roundg (gk - 1)
          · exact ⟨i + 1, by omega, by omega, by go_num, HAq⟩
          · omega
        case true =>
          skip
          go_upto_region 10 with fail
          refine wp_region_ps (S := SeqN [15, 18, 24, 25] (fun z mm w' => match z with | 3 => Below wv.heap.size wv w' ∧ ∃ A2 n2 c2, mm 24 = .agg #[.slice A2 n2 c2] ∧ LN.rd w' AllB A2 n2 X | _ => Below wv.heap.size wv w')) (by kernel_rfl) ?spswg30 ?ppswg30
          case spswg30 =>
            exact SeqN.start (by decide) (Below.refl _ _).drew
          refine Ps.st (i := 0) (d := some 33) (u := (.int .i64 (0))) rfl rfl (by exact StepS.pure (SeqN.pass (by decide)) rfl fun _ => rfl) ?_
          try simp only [Act.put, sA, sZ, sS]
          refine Ps.st (i := 1) (d := some 34) (u := (.bool (true))) rfl rfl ?ywg30_32 ?rwg30_32
          case ywg30_32 =>
            refine StepS.pure (SeqN.pass (by decide)) (by rfl) (fun w9 => ?_)
            first | rfl | (go_simp; done) | (go_simp; rfl)
          try simp only [Act.put, sA, sZ, sS]
          refine Ps.st (i := 2) (d := some 35) (u := (.bool (true))) rfl rfl (by exact StepS.pure (SeqN.pass (by decide)) rfl fun _ => rfl) ?_
          try simp only [Act.put, sA, sZ, sS]
          refine Ps.st (i := 3) (d := some 36) (u := (.bool (false))) rfl rfl ?ywg30_34 ?rwg30_34
          case ywg30_34 =>
            refine StepS.pure (SeqN.pass (by decide)) (by rfl) (fun w9 => ?_)
            first | rfl | (go_simp; done) | (go_simp; rfl)
          try simp only [Act.put, sA, sZ, sS]
          refine Ps.st (i := 4) (d := some 37) (u := (.bool (false))) rfl rfl (by exact StepS.pure (SeqN.pass (by decide)) rfl fun _ => rfl) ?_
          try simp only [Act.put, sA, sZ, sS]
          refine Ps.st (i := 5) (d := some 38) (u := (.bool (true))) rfl rfl (by exact StepS.pure (SeqN.pass (by decide)) rfl fun _ => rfl) ?_
          try simp only [Act.put, sA, sZ, sS]
          refine Ps.st (i := 6) (d := some 39) (u := (.bool (false))) rfl rfl (by exact StepS.pure (SeqN.pass (by decide)) rfl fun _ => rfl) ?_
          try simp only [Act.put, sA, sZ, sS]
          refine Ps.st (i := 7) (d := some 40) (u := (.bool (false))) rfl rfl (by exact StepS.pure (SeqN.pass (by decide)) rfl fun _ => rfl) ?_
          try simp only [Act.put, sA, sZ, sS]
          refine Ps.st (i := 8) (d := some 41) (u := undef) rfl rfl (by  exact StepS.skip (SeqN.pass (by decide)) rfl) ?_
          try simp only [Act.put, sA, sZ, sS]
          refine Ps.st (i := 9) (d := some 42) (u := undef) rfl rfl (by  exact StepS.skip (SeqN.pass (by decide)) rfl) ?_
          try simp only [Act.put, sA, sZ, sS]
          refine Ps.st (i := 10) (d := some 43) (u := (.bool (false))) rfl rfl (by exact StepS.pure (SeqN.pass (by decide)) rfl fun _ => rfl) ?_
          try simp only [Act.put, sA, sZ, sS]
          refine Ps.st (i := 11) (d := some 44) (u := (.bool (false))) rfl rfl (by exact StepS.pure (SeqN.pass (by decide)) rfl fun _ => rfl) ?_
          try simp only [Act.put, sA, sZ, sS]
          refine Ps.st (i := 12) (d := some 45) (u := (.bool (false))) rfl rfl (by exact StepS.pure (SeqN.pass (by decide)) rfl fun _ => rfl) ?_
          try simp only [Act.put, sA, sZ, sS]
          refine Ps.st (i := 13) (d := some 46) (u := (.agg #[.slice A5a n5a c5a])) rfl rfl ?ywg30_44 ?rwg30_44
          case ywg30_44 =>
            refine StepS.read [] (by kernel_rfl) (SeqN.pass (by decide)) (by rfl) (fun L9 m9 w9 hSh hAt hDn hS => ?_)
            have hT : Below wv.heap.size wv w9 := SeqN.lt (ks := [15, 18, 24, 25]) (k := 25) (by simp) (reach_no hSh (f := 28) (j := 25) (by kernel_rfl) hDn) (fun z _ _ hz h => by match z, hz, h with | 0, _, h => exact h | 1, _, h => exact h | 2, _, h => exact h | 3, _, h => exact h.1 | _ + 4, hz, _ => exact absurd hz (by simp)) hS
            have x0 : w9.cell? ⟨g8a, 0, none⟩ = some (.slice A5a n5a c5a) := (KV.out.ca hT).cell 0
            clear hT hS
            go_simp
            try rfl
          try simp only [Act.put, sA, sZ, sS]
          refine Ps.st (i := 14) (d := some 47) (u := (.agg #[.slice A6a n6a c6a])) rfl rfl ?ywg30_45 ?rwg30_45
          case ywg30_45 =>
            refine StepS.read [] (by kernel_rfl) (SeqN.pass (by decide)) (by rfl) (fun L9 m9 w9 hSh hAt hDn hS => ?_)
            have hT : Below wv.heap.size wv w9 := SeqN.lt (ks := [15, 18, 24, 25]) (k := 25) (by simp) (reach_no hSh (f := 28) (j := 25) (by kernel_rfl) hDn) (fun z _ _ hz h => by match z, hz, h with | 0, _, h => exact h | 1, _, h => exact h | 2, _, h => exact h | 3, _, h => exact h.1 | _ + 4, hz, _ => exact absurd hz (by simp)) hS
            have x0 : w9.cell? ⟨h8a, 0, none⟩ = some (.slice A6a n6a c6a) := (KU.out.ca hT).cell 0
            clear hT hS
            go_simp
            try rfl
          try simp only [Act.put, sA, sZ, sS]
          refine Ps.st (i := 16) (d := some 49) (u := (.agg #[.slice A5a n5a c5a])) rfl rfl ?ywg30_46 ?rwg30_46
          case ywg30_46 =>
            refine StepS.read [] (by kernel_rfl) (SeqN.pass (by decide)) (by rfl) (fun L9 m9 w9 hSh hAt hDn hS => ?_)
            have hT : Below wv.heap.size wv w9 := SeqN.lt (ks := [15, 18, 24, 25]) (k := 25) (by simp) (reach_no hSh (f := 28) (j := 25) (by kernel_rfl) hDn) (fun z _ _ hz h => by match z, hz, h with | 0, _, h => exact h | 1, _, h => exact h | 2, _, h => exact h | 3, _, h => exact h.1 | _ + 4, hz, _ => exact absurd hz (by simp)) hS
            have x0 : w9.cell? ⟨g8a, 0, none⟩ = some (.slice A5a n5a c5a) := (KV.out.ca hT).cell 0
            clear hT hS
            go_simp
            try rfl
          try simp only [Act.put, sA, sZ, sS]
          refine Ps.st (i := 17) (d := some 50) (u := (.agg #[.slice A6a n6a c6a])) rfl rfl ?ywg30_47 ?rwg30_47
          case ywg30_47 =>
            refine StepS.read [] (by kernel_rfl) (SeqN.pass (by decide)) (by rfl) (fun L9 m9 w9 hSh hAt hDn hS => ?_)
            have hT : Below wv.heap.size wv w9 := SeqN.lt (ks := [15, 18, 24, 25]) (k := 25) (by simp) (reach_no hSh (f := 28) (j := 25) (by kernel_rfl) hDn) (fun z _ _ hz h => by match z, hz, h with | 0, _, h => exact h | 1, _, h => exact h | 2, _, h => exact h | 3, _, h => exact h.1 | _ + 4, hz, _ => exact absurd hz (by simp)) hS
            have x0 : w9.cell? ⟨h8a, 0, none⟩ = some (.slice A6a n6a c6a) := (KU.out.ca hT).cell 0
            clear hT hS
            go_simp
            try rfl
          try simp only [Act.put, sA, sZ, sS]
          refine Ps.one (k := 15) (d := some 48) rfl rfl (by kernel_rfl) (TurnS.call (V := fun v => v = .bool dd) ?fwg30_48 ?awg30_48 [] (by kernel_rfl) (by rfl) (fun w9 => ?hwg30_48) (fun L9 m9 w9 hSh hAt hDn hS => ?cwg30_48)) (fun v15 hVv15 => ?rwg30_48)
          case hwg30_48 => go_simp; refine ⟨?_, ?_⟩ <;> rfl
          case cwg30_48 =>
            have hT := SeqN.at_ (m0 := m9) (m1 := m9) [] [18, 24, 25] hSh (fun d hd => by cases hd) hDn (by kernel_rfl) hS
            refine (sametree_any AllB AllB X Y A5a n5a c5a A6a n6a c6a w9 (Lay.rd_below KRX.out hT) (Lay.rd_below KRY.out hT) KNN.out.1).mono ?_
            rintro e w8 ⟨rfl, q8⟩
            exact ⟨_, rfl, by rw [HDD.out], SeqN.set_ (m0 := m9) (m1 := m9) [] [18, 24, 25] hSh (fun d hd => by cases hd) hDn (by kernel_rfl) (by decide) (by decide) (bl_ca hT q8)⟩
          try simp only [Act.put, sA, sZ, sS]
          subst hVv15
          refine Ps.one (k := 18) (d := some 51) rfl rfl (by kernel_rfl) (TurnS.call (V := fun v => v = .bool dd) ?fwg30_49 ?awg30_49 [15] (by kernel_rfl) (by rfl) (fun w9 => ?hwg30_49) (fun L9 m9 w9 hSh hAt hDn hS => ?cwg30_49)) (fun v18 hVv18 => ?rwg30_49)
          case hwg30_49 => go_simp; refine ⟨?_, ?_⟩ <;> rfl
          case cwg30_49 =>
            have hT := SeqN.at_ [15] [24, 25] hSh hAt hDn (by kernel_rfl) hS
            refine (rsame_any AllB AllB X Y A5a n5a c5a A6a n6a c6a w9 (Lay.rd_below KRX.out hT) (Lay.rd_below KRY.out hT) KNN.out.1).mono ?_
            rintro e w8 ⟨rfl, q8⟩
            exact ⟨_, rfl, by rw [HDD.out], SeqN.set_ [15] [24, 25] hSh hAt hDn (by kernel_rfl) (by decide) (by decide) (bl_ca hT q8)⟩
          try simp only [Act.put, sA, sZ, sS]
          subst hVv18
          refine Ps.st (i := 19) (d := some 52) (u := (.bool (false))) rfl rfl ?ywg30_50 ?rwg30_50
          case ywg30_50 =>
            refine StepS.pure (SeqN.pass (by decide)) (by rfl) (fun w9 => ?_)
            cases dd
            · first | rfl | (go_simp; done) | (go_simp; rfl)
            · first | rfl | (go_simp; done) | (go_simp; rfl)
          try simp only [Act.put, sA, sZ, sS]
          refine Ps.st (i := 20) (d := some 53) (u := (.bool (false))) rfl rfl (by exact StepS.pure (SeqN.pass (by decide)) rfl fun _ => rfl) ?_
          try simp only [Act.put, sA, sZ, sS]
          refine Ps.st (i := 21) (d := some 54) (u := (.bool (false))) rfl rfl (by exact StepS.pure (SeqN.pass (by decide)) rfl fun _ => rfl) ?_
          try simp only [Act.put, sA, sZ, sS]
          refine Ps.st (i := 22) (d := some 55) (u := (.agg #[.slice A5a n5a c5a])) rfl rfl ?ywg30_53 ?rwg30_53
          case ywg30_53 =>
            refine StepS.read [] (by kernel_rfl) (SeqN.pass (by decide)) (by rfl) (fun L9 m9 w9 hSh hAt hDn hS => ?_)
            have hT : Below wv.heap.size wv w9 := SeqN.lt (ks := [15, 18, 24, 25]) (k := 25) (by simp) (reach_no hSh (f := 28) (j := 25) (by kernel_rfl) hDn) (fun z _ _ hz h => by match z, hz, h with | 0, _, h => exact h | 1, _, h => exact h | 2, _, h => exact h | 3, _, h => exact h.1 | _ + 4, hz, _ => exact absurd hz (by simp)) hS
            have x0 : w9.cell? ⟨g8a, 0, none⟩ = some (.slice A5a n5a c5a) := (KV.out.ca hT).cell 0
            clear hT hS
            go_simp
            try rfl
          try simp only [Act.put, sA, sZ, sS]
          refine Ps.st (i := 23) (d := some 56) (u := (.agg #[.slice B m mc])) rfl rfl ?ywg30_54 ?rwg30_54
          case ywg30_54 =>
            refine StepS.read [] (by kernel_rfl) (SeqN.pass (by decide)) (by rfl) (fun L9 m9 w9 hSh hAt hDn hS => ?_)
            have hT : Below wv.heap.size wv w9 := SeqN.lt (ks := [15, 18, 24, 25]) (k := 25) (by simp) (reach_no hSh (f := 28) (j := 25) (by kernel_rfl) hDn) (fun z _ _ hz h => by match z, hz, h with | 0, _, h => exact h | 1, _, h => exact h | 2, _, h => exact h | 3, _, h => exact h.1 | _ + 4, hz, _ => exact absurd hz (by simp)) hS
            have x0 : w9.cell? ⟨gx, 0, none⟩ = some (.slice B m mc) := (KX.out.ca hT).cell 0
            clear hT hS
            go_simp
            try rfl
          try simp only [Act.put, sA, sZ, sS]
          refine Ps.one (k := 24) (d := some 57) rfl rfl (by kernel_rfl) (TurnS.call (V := fun v => ∃ A2 n2 c2, v = .agg #[.slice A2 n2 c2]) ?fwg30_55 ?awg30_55 [15, 18] (by kernel_rfl) (by rfl) (fun w9 => ?hwg30_55) (fun L9 m9 w9 hSh hAt hDn hS => ?cwg30_55)) (fun v24 hVv24 => ?rwg30_55)
          case hwg30_55 => go_simp; refine ⟨?_, ?_⟩ <;> rfl
          case cwg30_55 =>
            have hT := SeqN.at_ [15, 18] [25] hSh hAt hDn (by kernel_rfl) hS
            refine (KSH.out w9 hT).mono ?_
            rintro e w8 ⟨A2, n2, c2, rfl, hr, hnc, hcm, q8⟩
            exact ⟨_, rfl, ⟨A2, n2, c2, rfl⟩, SeqN.set_ [15, 18] [25] hSh hAt hDn (by kernel_rfl) (by decide) (by decide) ⟨bl_ca hT q8, A2, n2, c2, upd_same _ _ _, rd_all hr⟩⟩
          try simp only [Act.put, sA, sZ, sS]
          obtain ⟨A2, n2, c2, rfl⟩ := hVv24
          refine Ps.one (k := 25) (d := some 58) rfl rfl (by kernel_rfl) (TurnS.call (V := fun v => v = .bool true) ?fwg30_56 ?awg30_56 [15, 18, 24] (by kernel_rfl) (by rfl) (fun w9 => ?hwg30_56) (fun L9 m9 w9 hSh hAt hDn hS => ?cwg30_56)) (fun v25 hVv25 => ?rwg30_56)
          case hwg30_56 => go_simp; refine ⟨?_, ?_⟩ <;> rfl
          case cwg30_56 =>
            obtain ⟨hT, A3, n3, c3, hv, hr⟩ := SeqN.at_ [15, 18, 24] [] hSh hAt hDn (by kernel_rfl) hS
            obtain ⟨rfl, rfl, rfl⟩ : A2 = A3 ∧ n2 = n3 ∧ c2 = c3 := by have h9 : Value.agg #[.slice A2 n2 c2] = .agg #[.slice A3 n3 c3] := (hAt 24 (by simp)).2.symm.trans hv; simpa [and_assoc] using h9
            refine (sametree_any AllB AllB X X A5a n5a c5a A2 n2 c2 w9 (Lay.rd_below KRX.out hT) hr KNN.out.1).mono ?_
            rintro e w8 ⟨rfl, q8⟩
            exact ⟨_, rfl, by rw [decide_eq_true rfl], SeqN.set_ [15, 18, 24] [] hSh hAt hDn (by kernel_rfl) (by decide) (by decide) (bl_ca hT q8)⟩
          try simp only [Act.put, sA, sZ, sS]
          subst hVv25
          refine Ps.st (i := 26) (d := some 59) (u := (.bool (false))) rfl rfl (by exact StepS.pure (SeqN.pass (by decide)) rfl fun _ => rfl) ?_
          try simp only [Act.put, sA, sZ, sS]
          refine Ps.st (i := 27) (d := some 60) (u := (.bool (false))) rfl rfl (by exact StepS.pure (SeqN.pass (by decide)) rfl fun _ => rfl) ?_
          try simp only [Act.put, sA, sZ, sS]
          refine Ps.done (by kernel_rfl) (fun wg30 hS => ?_) _
          have HWW := Lib.hid (show Below wv.heap.size wv wg30 from SeqN.fin (by rfl) hS)
          clear hS
          obtain ⟨wx, rfl⟩ : ∃ x, x = wg30 := ⟨_, rfl⟩
          have KP := Lib.hid (fun w' (q : Below wx.heap.size wx w') => printtree_any AllB X A5a n5a c5a w' (Lay.rd_below KRX.out (bl_ca HWW.out q)) (by omega) (KT.out.below (bl_ca HWW.out q)) HSM.out HRG.out)
          have KD := Lib.hid (fun w' (q : Below wx.heap.size wx w') => depth_any AllB X A5a n5a c5a w' (Lay.rd_below KRX.out (bl_ca HWW.out q)) (by omega) (KT.out.below (bl_ca HWW.out q)) HSM.out)
          have KV2 := Lib.hid (KV.out.ca HWW.out)
          have KQ2 := Lib.hid (bl_ca KQ.out HWW.out)
          have HEC := Lib.hid (show chkE X = 0 from by unfold chkE; rw [← HOK.out]; rfl)
          rw [HEC.out] at KP
          have z5 : wx.cell? ⟨g8a, 0, none⟩ = some (.slice A5a n5a c5a) := KV2.out.cell 0
          obtain ⟨P, hP⟩ : ∃ P, P = prF X := ⟨_, rfl⟩
          obtain ⟨D, hD⟩ : ∃ D, D = depF X := ⟨_, rfl⟩
          rw [← hP] at KP
          rw [← hD] at KD
          have HP := Lib.hid hP
          have HD := Lib.hid hD
          clear hP hD
          go_wp2_with fail
          refine (KP.out wx (Below.refl _ _)).mono ?_
          rintro e wy ⟨rfl, qy⟩
          have HAy := Lib.hid qy
          clear qy z5
          have z5 : wy.cell? ⟨g8a, 0, none⟩ = some (.slice A5a n5a c5a) := (KV2.out.ca HAy.out).cell 0
          have hn51 : 1 ≤ n5a := by
            obtain ⟨t, ht⟩ := okF_ex HOK.out.symm
            have h8 := tree_len ht
            have h9 := t.size_pos
            have := HNX.out
            omega
          have hn52 : 1 ≤ (n5a : Int) := by omega
          have hn53 : (n5a : Int) ≤ 301 := by omega
          have HSZ := Lib.hid (rsize_any AllB X A5a n5a c5a (by omega) HSM.out n5a n5a ((n5a : Int) - 1) wy (Nat.le_refl _) (Nat.le_refl _) rfl (Lay.rd_below KRX.out (bl_ca HWW.out HAy.out)))
          rw [show (sizeF cntB X n5a n5a).2 = D from by rw [HD.out, ← HNX.out]; exact size_dep HOK.out.symm] at HSZ
          have HRP := Lib.hid (fun w' (q : Below wy.heap.size wy w') => rprinttree_any AllB X A5a n5a c5a w' (Lay.rd_below KRX.out (bl_ca HWW.out (bl_ca HAy.out q))) HOK.out.symm HRG.out)
          rw [← HP.out] at HRP
          go_wp2_with fail
          refine HSZ.out.mono ?_
          rintro e ws ⟨rfl, qs⟩
          have HAs := Lib.hid qs
          clear qs z5 HSZ
          have z5 : ws.cell? ⟨g8a, 0, none⟩ = some (.slice A5a n5a c5a) := ((KV2.out.ca HAy.out).ca HAs.out).cell 0
          go_wp2_with fail
          refine (HRP.out ws HAs.out).mono ?_
          rintro e wp ⟨rfl, qp⟩
          have HAp := Lib.hid (bl_ca HAy.out (bl_ca HAs.out qp))
          clear qp z5 HRP
          have z5 : wp.cell? ⟨g8a, 0, none⟩ = some (.slice A5a n5a c5a) := (KV2.out.ca HAp.out).cell 0
          go_wp2_with fail
          refine (KD.out wp HAp.out).mono ?_
          rintro e wq ⟨rfl, qq⟩
          have HAq := Lib.hid (bl_ca KQ2.out (bl_ca HAp.out qq))
          clear qq z5
          go_wp2
          go_roundg (gk - 1)
          · exact ⟨i + 1, by omega, by omega, by go_num, HAq⟩
          · omega
    · obtain rfl : i = n := by omega
      have hi1 : (i : Int) ≤ (i : Int) := by omega
      go_wp2
      go_ret
      exact ⟨rfl, HQR.out⟩
theorem trees_walkF (A : Option Addr) (n c : Nat) (x : List (List Nd)) (w : World) (h : LTr.rd w AllB A n x) (hn : n ≤ 9223372036854775807) (hs : ∀ y ∈ x, ∀ z ∈ y, SmP z.p ∧ RgP z.p) (hT : Tab w) :
    Calls Tryz.prog 3 #[.slice A n c] w fun e w' => e = .returned (.bool true) ∧ Below w.heap.size w w' := trees_walk x A n c w h hn hT hs
end Go.Proofs.YtoaggmldekejoaaGreatDoor
