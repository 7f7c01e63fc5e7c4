/- The reference's One at signs, and whole. Conditions: texts of at most 100000 bytes, a place within. -/
import Derived.Test.YtnpicnddcoaboaaGreatDoorLxR3
namespace Go.Proofs.YtnpicnddcoaboaaGreatDoor
open Go.RowKit
def SgV (W0 : World) (v : Value) (w' : World) : Prop := (∀ g : Nat, v = .slice (some ⟨g, 0, none⟩) 14 14 → LS.rd w' AllB (some ⟨g, 0, none⟩) 14 rsignsL) ∧ Below W0.heap.size W0 w'
theorem SgV.mk {W0 w' : World} {g : Nat} (hr : LS.rd w' AllB (some ⟨g, 0, none⟩) 14 rsignsL) (hb : Below W0.heap.size W0 w') : SgV W0 (.slice (some ⟨g, 0, none⟩) 14 14) w' := ⟨fun g' e => by cases e; exact hr, hb⟩
theorem sgn_some {l s : List UInt8} (h : sgU l = some s) : sgnT l = (⟨5, 0, s, 0⟩, s.length, true) := by unfold sgnT; rw [h]
theorem sgn_no {l : List UInt8} (h : sgU l = none) : (sgnT l).2.2 = false := by unfold sgnT; rw [h]
theorem ext_two {s : ByteArray} {i : Nat} {b c : UInt8} (h : s.data.toList[i]? = some b) (h2 : s.data.toList[i + 1]? = some c) : (s.extract i (i + 2)).data.toList = [b, c] := by
  rw [Lib.extract_data, show i + 2 - i = 2 from by omega, drop_at h, drop_at h2]
  rfl
set_option maxRecDepth 100000 in
set_option maxHeartbeats 8000000 in
/-- a sign, or what is none -/
theorem rone_sgn (s : ByteArray) (p : Nat) (b : UInt8) (w : World) (hp : p < s.size) (hs : s.size ≤ 100000) (hb : s.data.toList[p]? = some b) (hb39 : b ≠ 39) (hpa : paU b = false) : Calls Tryz.prog 16 #[.string s, .int .i64 (p : Int)] w fun e w' => OneE (s.data.toList.drop p) p e ∧ Below w.heap.size w w' := by
  have hD := drop_at hb
  have HF := Lib.hid (show firstU (s.data.toList.drop p) = sgnT (b :: s.data.toList.drop (p + 1)) from by rw [hD]; exact first_sgn hb39 hpa)
  have HX1 := Lib.hid (bS_of (ext_one hb))
  have HX2 := Lib.hid (fun (c : UInt8) (h2 : s.data.toList[p + 1]? = some c) => bS_of (ext_two hb h2))
  have HN := Lib.hid (fun (h : ¬ p + 1 < s.size) => drop_end (l := s.data.toList) (i := p + 1) (by rw [len_data]; omega))
  have HD1 := Lib.hid (fun (c : UInt8) (h2 : s.data.toList[p + 1]? = some c) => drop_at h2)
  have hix := run_bt hb
  have HNQ := Lib.hid (fun h : (b.toNat : Int) = 39 => hb39 (byte_inj (k := 39) (by decide) h))
  have HP := Lib.hid (show paI (b.toNat : Int) = false from hpa)
  clear hb hb39 hpa hD
  obtain ⟨c, hc⟩ : ∃ c, c = (b.toNat : Int) := ⟨_, rfl⟩
  rw [← hc] at hix HNQ HP
  clear hc
  have e1 : (c == 39) = false := by simpa using HNQ.out
  have HB := Lib.hid (Blk.new w 29 #[.int .i64 0, .int .i64 0, .string ⟨#[]⟩, .int .u64 0])
  have HQ := Lib.hid (bl_al (Below.refl w.heap.size w) (.cells #[.int .i64 0, .int .i64 0, .string ⟨#[]⟩, .int .u64 0] 29))
  have hpi : (p : Int) < (s.size : Int) := by omega
  have HW1 := Lib.hid (show IntKind.i64.wrap ((p : Int) + 1) = (p : Int) + 1 ∧ 0 ≤ (p : Int) + 1 ∧ (p : Int) ≤ (p : Int) + 1 ∧ ((p : Int) + 1).toNat = p + 1 ∧ (p : Int) + 1 ≤ (s.size : Int) from ⟨IntWalk.i64_in _ (by omega), by omega, by omega, by omega, by omega⟩)
  have HWP := Lib.hid (show IntKind.i64.wrap ((p : Int) + 2) = (p : Int) + 2 ∧ 0 ≤ (p : Int) + 2 ∧ (p : Int) ≤ (p : Int) + 2 ∧ ((p : Int) + 2).toNat = p + 2 from ⟨IntWalk.i64_in _ (by omega), by omega, by omega, by omega⟩)
  go_enter Tryz.func16, Tryz.ntmps16
  go_wp2_with fail
  generalize w.alloc (.cells #[.int .i64 0, .int .i64 0, .string ⟨#[]⟩, .int .u64 0] 29) = w1 at *
  clear e1 HNQ
  go_loopg [10] 0 (fun _ a wr => a = .int .i64 p ∧ w1 = wr)
  case atStart => exact ⟨rfl, rfl⟩
  case round =>
    obtain ⟨rfl, rfl⟩ := hrel
    go_wp2_with fail
    refine (rpart_any _ _).mono ?_
    rintro e w2 ⟨rfl, rfl⟩
    rw [HP.out]
    clear hix
    by_cases h2 : p + 1 < s.size
    · have hle : (p : Int) + 2 ≤ (s.size : Int) := by omega
      obtain ⟨c2, hc2⟩ := byte_at (s := s) (i := p + 1) h2
      have HX := Lib.hid (HX2.out c2 hc2)
      have HDD := Lib.hid (HD1.out c2 hc2)
      clear hc2
      go_upto_region 15 with fail
      refine wp_region_ps (S := Seq2 6 12 (fun w' => Below w1.heap.size w1 w') (SgV w1) (fun _ w' => Below w1.heap.size w1 w')) (by kernel_rfl) ?spswg1 ?ppswg1
      case spswg1 =>
        exact Seq2.start (by decide) (by decide) (Below.refl _ _).drew
      refine Ps.st (i := 0) (d := some 74) (u := (.int .i64 ((p : Int)))) rfl rfl (by exact StepS.pure (Seq2.pass (by decide) (by decide)) rfl fun _ => rfl) ?_
      try simp only [Act.put, sA, sZ, sS]
      refine Ps.st (i := 1) (d := some 75) (u := (.int .i64 ((p : Int) + 2))) rfl rfl ?ywg1_3 ?rwg1_3
      case ywg1_3 =>
        refine StepS.pure (Seq2.pass (by decide) (by decide)) (by rfl) (fun w9 => ?_)
        have hw2 := HWP.out.1
        first | rfl | (go_simp; done) | (go_simp; rfl)
      try simp only [Act.put, sA, sZ, sS]
      refine Ps.st (i := 2) (d := some 76) (u := (.string s)) rfl rfl (by exact StepS.pure (Seq2.pass (by decide) (by decide)) rfl fun _ => rfl) ?_
      try simp only [Act.put, sA, sZ, sS]
      refine Ps.st (i := 3) (d := some 77) (u := (.int .i64 ((s.size : Int)))) rfl rfl (by exact StepS.pure (Seq2.pass (by decide) (by decide)) rfl fun _ => by first | rfl | (go_simp; done) | (go_simp; rfl)) ?_
      try simp only [Act.put, sA, sZ, sS]
      refine Ps.st (i := 4) (d := some 78) (u := (.bool (true))) rfl rfl ?ywg1_6 ?rwg1_6
      case ywg1_6 =>
        refine StepS.pure (Seq2.pass (by decide) (by decide)) (by rfl) (fun w9 => ?_)
        go_simp
      try simp only [Act.put, sA, sZ, sS]
      refine Ps.st (i := 5) (d := some 79) (u := (.bool (true))) rfl rfl (by exact StepS.pure (Seq2.pass (by decide) (by decide)) rfl fun _ => rfl) ?_
      try simp only [Act.put, sA, sZ, sS]
      refine Ps.st (i := 7) (d := some 81) (u := (.string s)) rfl rfl (by exact StepS.pure (Seq2.pass (by decide) (by decide)) rfl fun _ => rfl) ?_
      try simp only [Act.put, sA, sZ, sS]
      refine Ps.st (i := 8) (d := some 82) (u := (.int .i64 ((p : Int)))) rfl rfl (by exact StepS.pure (Seq2.pass (by decide) (by decide)) rfl fun _ => rfl) ?_
      try simp only [Act.put, sA, sZ, sS]
      refine Ps.st (i := 9) (d := some 83) (u := (.int .i64 ((p : Int)))) rfl rfl (by exact StepS.pure (Seq2.pass (by decide) (by decide)) rfl fun _ => rfl) ?_
      try simp only [Act.put, sA, sZ, sS]
      refine Ps.st (i := 10) (d := some 84) (u := (.int .i64 ((p : Int) + 2))) rfl rfl ?ywg1_11 ?rwg1_11
      case ywg1_11 =>
        refine StepS.pure (Seq2.pass (by decide) (by decide)) (by rfl) (fun w9 => ?_)
        have hw2 := HWP.out.1
        first | rfl | (go_simp; done) | (go_simp; rfl)
      try simp only [Act.put, sA, sZ, sS]
      refine Ps.st (i := 11) (d := some 85) (u := (.string ((s.extract p (p + 2))))) rfl rfl ?ywg1_12 ?rwg1_12
      case ywg1_12 =>
        refine StepS.pure (Seq2.pass (by decide) (by decide)) (by rfl) (fun w9 => ?_)
        obtain ⟨_, k1, k2, k3⟩ := HWP.out
        first | rfl | (go_simp; done) | (go_simp; rfl)
      try simp only [Act.put, sA, sZ, sS]
      refine Ps.one (k := 6) (d := some 80) rfl rfl (by kernel_rfl) (TurnS.call (V := fun v => ∃ g : Nat, v = .slice (some ⟨g, 0, none⟩) 14 14) ?fwg1_13 ?awg1_13 [] (by kernel_rfl) (by rfl) (fun w9 => ?hwg1_13) (fun L9 m9 w9 hSh hAt hDn hS => ?cwg1_13)) (fun v6 hVv6 => ?rwg1_13)
      case hwg1_13 => go_simp; refine ⟨?_, ?_⟩ <;> rfl
      case cwg1_13 =>
        have hT : Below w1.heap.size w1 w9 := Seq2.turn hDn (reach_no hSh (f := 14) (j := 12) (by kernel_rfl) hDn) hS
        have d12 : Dn L9 12 = false := reach_no hSh (f := 14) (j := 12) (by kernel_rfl) hDn
        refine (rsigns_any w9).mono ?_
        rintro e w8 ⟨rfl, hr, q8⟩
        exact ⟨_, rfl, ⟨_, rfl⟩, Seq2.called (by decide) d12 (SgV.mk hr (bl_ca hT q8))⟩
      try simp only [Act.put, sA, sZ, sS]
      obtain ⟨gS, rfl⟩ := hVv6
      refine Ps.st (i := 12) (d := some 86) (u := (.bool (Lib.containsS rsignsL (s.extract p (p + 2))))) rfl rfl ?ywg1_14 ?rwg1_14
      case ywg1_14 =>
        refine StepS.call ?fwg1_14 ?awg1_14 [6] (by kernel_rfl) (by rfl) (fun w9 => ?hwg1_14) (fun L9 m9 w9 hSh hAt hDn hS => ?cwg1_14)
        case hwg1_14 => go_simp; refine ⟨?_, ?_⟩ <;> rfl
        case cwg1_14 =>
          have hX0 := Seq2.got hAt hDn hS
          have hX : SgV w1 (.slice (some ⟨gS, 0, none⟩) 14 14) w9 := hX0
          refine (has_any AllB _ 14 14 rsignsL _ w9 (hX.1 gS rfl) (by omega)).mono ?_
          rintro e w8 ⟨rfl, rfl⟩
          exact ⟨rfl, Seq2.stored (by decide) hAt hX.2⟩
      try simp only [Act.put, sA, sZ, sS]
      refine Ps.st (i := 13) (d := some 87) (u := (.bool (Lib.containsS rsignsL (s.extract p (p + 2))))) rfl rfl (by exact StepS.pure (Seq2.pass (by decide) (by decide)) rfl fun _ => rfl) ?_
      try simp only [Act.put, sA, sZ, sS]
      refine Ps.done (by kernel_rfl) (fun wg1 hS => ?_) _
      have HW2 := Lib.hid (show Below w1.heap.size w1 wg1 from Seq2.fin (by rfl) hS)
      clear hS
      obtain ⟨w2, rfl⟩ : ∃ x, x = wg1 := ⟨_, rfl⟩
      obtain ⟨q, hq⟩ : ∃ q, q = Lib.containsS rsignsL (s.extract p (p + 2)) := ⟨_, rfl⟩
      rw [← hq]
      have HQQ := Lib.hid hq
      clear hq
      cases q
      case true =>
        have HS := Lib.hid (sgn_some (show sgU (b :: s.data.toList.drop (p + 1)) = some [b, c2] from by rw [HDD.out]; exact sg_two _ (by rw [← HX.out]; exact HQQ.out.symm)))
        have HB2 := Lib.hid (HB.out.ca HW2.out)
        have HQ2 := Lib.hid (bl_ca HQ.out HW2.out)
        go_wp2_with (first | (refine wpList_store_blk rfl 29 (.tmp 4) (.tmp 94) rfl w.heap.size 29 #[.int .i64 0, .int .i64 0, .string ⟨#[]⟩, .int .u64 0] #[.int .i64 5, .int .i64 (p : Int), .string (s.extract p (p + 2)), .int .u64 0] rfl rfl HB2.out rfl tokI (by simp [Value.oneCell']) ?_; intro w8 h8 g8))
        exact bodyPost_ret (res3 Tryz.results16 rfl rfl rfl h8 Tryz.underlying29 rfl tokI) rfl ⟨OneE.mk (t := ⟨5, p, [b, c2], 0⟩) (by rw [HX.out]; rfl) (by rw [HF.out, HS.out]) (fun _ => by rw [HF.out, HS.out]; exact ⟨rfl, rfl⟩), bl_gr HQ2.out g8 (by omega)⟩
      case false =>
        have HNT := Lib.hid (show ∀ c x, s.data.toList.drop (p + 1) = c :: x → Lib.containsS rsignsL (bS [b, c]) = false from by
          intro c x e
          rw [HDD.out] at e
          cases e
          rw [← HX.out]
          exact HQQ.out.symm)
        have HB2 := Lib.hid (HB.out.ca HW2.out)
        have HQ2 := Lib.hid (bl_ca HQ.out HW2.out)
        go_upto_region 17 with fail
        refine wp_region_ps (S := Seq2 9 16 (fun w' => Below w2.heap.size w2 w') (SgV w2) (fun _ w' => ∃ w6, Below w2.heap.size w2 w6 ∧ Blk w' w.heap.size 29 #[.int .i64 5, .int .i64 (p : Int), .string (s.extract p (p + 1)), .int .u64 0] ∧ w6.grownBy w' (some w.heap.size))) (by kernel_rfl) ?spswg31 ?ppswg31
        case spswg31 =>
          exact Seq2.start (by decide) (by decide) (Below.refl _ _).drew
        refine Ps.st (i := 0) (d := some 97) (u := (.int .i64 ((p : Int)))) rfl rfl (by exact StepS.pure (Seq2.pass (by decide) (by decide)) rfl fun _ => rfl) ?_
        try simp only [Act.put, sA, sZ, sS]
        refine Ps.st (i := 1) (d := some 98) (u := (.string s)) rfl rfl (by exact StepS.pure (Seq2.pass (by decide) (by decide)) rfl fun _ => rfl) ?_
        try simp only [Act.put, sA, sZ, sS]
        refine Ps.st (i := 2) (d := some 99) (u := (.int .i64 ((p : Int)))) rfl rfl (by exact StepS.pure (Seq2.pass (by decide) (by decide)) rfl fun _ => rfl) ?_
        try simp only [Act.put, sA, sZ, sS]
        refine Ps.st (i := 3) (d := some 100) (u := (.int .i64 ((p : Int)))) rfl rfl (by exact StepS.pure (Seq2.pass (by decide) (by decide)) rfl fun _ => rfl) ?_
        try simp only [Act.put, sA, sZ, sS]
        refine Ps.st (i := 4) (d := some 101) (u := (.int .i64 ((p : Int) + 1))) rfl rfl ?ywg31_36 ?rwg31_36
        case ywg31_36 =>
          refine StepS.pure (Seq2.pass (by decide) (by decide)) (by rfl) (fun w9 => ?_)
          have hw1 := HW1.out.1
          first | rfl | (go_simp; done) | (go_simp; rfl)
        try simp only [Act.put, sA, sZ, sS]
        refine Ps.st (i := 5) (d := some 102) (u := (.string ((s.extract p (p + 1))))) rfl rfl ?ywg31_37 ?rwg31_37
        case ywg31_37 =>
          refine StepS.pure (Seq2.pass (by decide) (by decide)) (by rfl) (fun w9 => ?_)
          obtain ⟨_, k1, k2, k3, k4⟩ := HW1.out
          first | rfl | (go_simp; done) | (go_simp; rfl)
        try simp only [Act.put, sA, sZ, sS]
        refine Ps.st (i := 6) (d := some 103) (u := (.agg #[.int .i64 (5), .int .i64 ((p : Int)), .string ((s.extract p (p + 1))), .int .u64 (0)])) rfl rfl (by exact StepS.pure (Seq2.pass (by decide) (by decide)) rfl fun _ => by first | rfl | (go_simp; done) | (go_simp; rfl)) ?_
        try simp only [Act.put, sA, sZ, sS]
        refine Ps.st (i := 7) (d := some 104) (u := (.int .i64 ((p : Int)))) rfl rfl (by exact StepS.pure (Seq2.pass (by decide) (by decide)) rfl fun _ => rfl) ?_
        try simp only [Act.put, sA, sZ, sS]
        refine Ps.st (i := 8) (d := some 105) (u := (.int .i64 ((p : Int) + 1))) rfl rfl ?ywg31_40 ?rwg31_40
        case ywg31_40 =>
          refine StepS.pure (Seq2.pass (by decide) (by decide)) (by rfl) (fun w9 => ?_)
          have hw1 := HW1.out.1
          first | rfl | (go_simp; done) | (go_simp; rfl)
        try simp only [Act.put, sA, sZ, sS]
        refine Ps.st (i := 10) (d := some 107) (u := (.string s)) rfl rfl (by exact StepS.pure (Seq2.pass (by decide) (by decide)) rfl fun _ => rfl) ?_
        try simp only [Act.put, sA, sZ, sS]
        refine Ps.st (i := 11) (d := some 108) (u := (.int .i64 ((p : Int)))) rfl rfl (by exact StepS.pure (Seq2.pass (by decide) (by decide)) rfl fun _ => rfl) ?_
        try simp only [Act.put, sA, sZ, sS]
        refine Ps.st (i := 12) (d := some 109) (u := (.int .i64 ((p : Int)))) rfl rfl (by exact StepS.pure (Seq2.pass (by decide) (by decide)) rfl fun _ => rfl) ?_
        try simp only [Act.put, sA, sZ, sS]
        refine Ps.st (i := 13) (d := some 110) (u := (.int .i64 ((p : Int) + 1))) rfl rfl ?ywg31_44 ?rwg31_44
        case ywg31_44 =>
          refine StepS.pure (Seq2.pass (by decide) (by decide)) (by rfl) (fun w9 => ?_)
          have hw1 := HW1.out.1
          first | rfl | (go_simp; done) | (go_simp; rfl)
        try simp only [Act.put, sA, sZ, sS]
        refine Ps.st (i := 14) (d := some 111) (u := (.string ((s.extract p (p + 1))))) rfl rfl ?ywg31_45 ?rwg31_45
        case ywg31_45 =>
          refine StepS.pure (Seq2.pass (by decide) (by decide)) (by rfl) (fun w9 => ?_)
          obtain ⟨_, k1, k2, k3, k4⟩ := HW1.out
          first | rfl | (go_simp; done) | (go_simp; rfl)
        try simp only [Act.put, sA, sZ, sS]
        refine Ps.one (k := 9) (d := some 106) rfl rfl (by kernel_rfl) (TurnS.call (V := fun v => ∃ g : Nat, v = .slice (some ⟨g, 0, none⟩) 14 14) ?fwg31_46 ?awg31_46 [] (by kernel_rfl) (by rfl) (fun w9 => ?hwg31_46) (fun L9 m9 w9 hSh hAt hDn hS => ?cwg31_46)) (fun v9 hVv9 => ?rwg31_46)
        case hwg31_46 => go_simp; refine ⟨?_, ?_⟩ <;> rfl
        case cwg31_46 =>
          have d16 : Dn L9 16 = false := reach_no hSh (f := 20) (j := 16) (by kernel_rfl) hDn
          have hT : Below w2.heap.size w2 w9 := Seq2.turn hDn d16 hS
          refine (rsigns_any w9).mono ?_
          rintro e w8 ⟨rfl, hr, q8⟩
          exact ⟨_, rfl, ⟨_, rfl⟩, Seq2.called (by decide) d16 (SgV.mk hr (bl_ca hT q8))⟩
        try simp only [Act.put, sA, sZ, sS]
        obtain ⟨gT, rfl⟩ := hVv9
        refine Ps.st (i := 15) (d := some 112) (u := (.bool (Lib.containsS rsignsL (s.extract p (p + 1))))) rfl rfl ?ywg31_47 ?rwg31_47
        case ywg31_47 =>
          refine StepS.call ?fwg31_47 ?awg31_47 [9] (by kernel_rfl) (by rfl) (fun w9 => ?hwg31_47) (fun L9 m9 w9 hSh hAt hDn hS => ?cwg31_47)
          case hwg31_47 => go_simp; refine ⟨?_, ?_⟩ <;> rfl
          case cwg31_47 =>
            have hX0 := Seq2.got hAt (reach_no hSh (f := 20) (j := 16) (by kernel_rfl) hDn) hS
            have hX : SgV w2 (.slice (some ⟨gT, 0, none⟩) 14 14) w9 := hX0
            refine (has_any AllB _ 14 14 rsignsL _ w9 (hX.1 gT rfl) (by omega)).mono ?_
            rintro e w8 ⟨rfl, rfl⟩
            exact ⟨rfl, Seq2.pass (by decide) (by decide) _ _ _ hS⟩
        try simp only [Act.put, sA, sZ, sS]
        refine Ps.st (i := 16) (d := none) (u := undef) rfl rfl ?ywg31_48 ?rwg31_48
        case ywg31_48 =>
          refine StepS.store [9] (by kernel_rfl) (by rfl) (fun L9 m9 w9 hSh hAt hDn hS => ?_)
          have hX0 := Seq2.got hAt hDn hS
          have hX : SgV w2 (.slice (some ⟨gT, 0, none⟩) 14 14) w9 := hX0
          refine (exec_store_blk (w := w9) 29 (.tmp 4) (.tmp 103) (by rfl) w.heap.size 29 #[.int .i64 0, .int .i64 0, .string ⟨#[]⟩, .int .u64 0] #[.int .i64 5, .int .i64 (p : Int), .string (s.extract p (p + 1)), .int .u64 0] (by rfl) (by rfl) (HB2.out.ca hX.2) rfl tokI (by simp [Value.oneCell'])).imp fun w7 hx => ⟨hx.1, Seq2.stored (by decide) hAt ⟨w9, hX.2, hx.2.1, hx.2.2⟩⟩
        try simp only [Act.put]
        refine Ps.st (i := 17) (d := some 5) (u := (.int .i64 ((p : Int) + 1))) rfl rfl (by exact StepS.pure (Seq2.pass (by decide) (by decide)) rfl fun _ => rfl) ?_
        try simp only [Act.put, sA, sZ, sS]
        refine Ps.st (i := 18) (d := some 6) (u := (.bool (Lib.containsS rsignsL (s.extract p (p + 1))))) rfl rfl (by exact StepS.pure (Seq2.pass (by decide) (by decide)) rfl fun _ => rfl) ?_
        try simp only [Act.put, sA, sZ, sS]
        refine Ps.done (by kernel_rfl) (fun wg31 hS => ?_) _
        obtain ⟨w6, hT, h8, g8⟩ := Seq2.fin (by rfl) hS
        clear hS
        obtain ⟨w8, rfl⟩ : ∃ x, x = wg31 := ⟨_, rfl⟩
        obtain ⟨q, hq⟩ : ∃ q, q = Lib.containsS rsignsL (s.extract p (p + 1)) := ⟨_, rfl⟩
        rw [← hq]
        rw [HX1.out] at hq
        go_wp2
        cases q
        · have hno := sgn_no (sg_none (s.data.toList.drop (p + 1)) hq.symm)
          exact bodyPost_ret (res3 Tryz.results16 rfl rfl rfl h8 Tryz.underlying29 rfl tokI) rfl ⟨OneE.mk (t := ⟨5, p, [b], 0⟩) (by rw [HX1.out]; rfl) (by rw [HF.out, hno]) (fun h => by rw [HF.out, hno] at h; cases h), bl_gr (bl_ca HQ2.out hT) g8 (by omega)⟩
        · have hyes := sgn_some (sg_one hq.symm HNT.out)
          exact bodyPost_ret (res3 Tryz.results16 rfl rfl rfl h8 Tryz.underlying29 rfl tokI) rfl ⟨OneE.mk (t := ⟨5, p, [b], 0⟩) (by rw [HX1.out]; rfl) (by rw [HF.out, hyes]) (fun _ => by rw [HF.out, hyes]; exact ⟨rfl, rfl⟩), bl_gr (bl_ca HQ2.out hT) g8 (by omega)⟩
    · have hle : ¬ (p : Int) + 2 ≤ (s.size : Int) := by omega
      have hd2 : decide ((p : Int) + 2 ≤ (s.size : Int)) = false := by simpa using hle
      have HNT := Lib.hid (show ∀ c x, s.data.toList.drop (p + 1) = c :: x → Lib.containsS rsignsL (bS [b, c]) = false from by
        intro c x e
        rw [HN.out h2] at e
        cases e)
      go_upto_region 15 with fail
      refine wp_region_ps (S := fun _ _ w' => Below w1.heap.size w1 w') (by kernel_rfl) ?spswg16 ?ppswg16
      case spswg16 =>
        exact (Below.refl w1.heap.size w1).drew
      refine Ps.st (i := 0) (d := some 74) (u := (.int .i64 ((p : Int)))) rfl rfl (by exact StepS.pure nP rfl fun _ => rfl) ?_
      try simp only [Act.put, sA, sZ, sS]
      refine Ps.st (i := 1) (d := some 75) (u := (.int .i64 ((p : Int) + 2))) rfl rfl ?ywg16_18 ?rwg16_18
      case ywg16_18 =>
        refine StepS.pure nP (by rfl) (fun w9 => ?_)
        have hw2 := HWP.out.1
        first | rfl | (go_simp; done) | (go_simp; rfl)
      try simp only [Act.put, sA, sZ, sS]
      refine Ps.st (i := 2) (d := some 76) (u := (.string s)) rfl rfl (by exact StepS.pure nP rfl fun _ => rfl) ?_
      try simp only [Act.put, sA, sZ, sS]
      refine Ps.st (i := 3) (d := some 77) (u := (.int .i64 ((s.size : Int)))) rfl rfl (by exact StepS.pure nP rfl fun _ => by first | rfl | (go_simp; done) | (go_simp; rfl)) ?_
      try simp only [Act.put, sA, sZ, sS]
      refine Ps.st (i := 4) (d := some 78) (u := (.bool (false))) rfl rfl ?ywg16_21 ?rwg16_21
      case ywg16_21 =>
        refine StepS.pure nP (by rfl) (fun w9 => ?_)
        go_simp
      try simp only [Act.put, sA, sZ, sS]
      refine Ps.st (i := 5) (d := some 79) (u := (.bool (false))) rfl rfl (by exact StepS.pure nP rfl fun _ => rfl) ?_
      try simp only [Act.put, sA, sZ, sS]
      refine Ps.st (i := 6) (d := some 80) (u := undef) rfl rfl (by  exact StepS.skip nP rfl) ?_
      try simp only [Act.put, sA, sZ, sS]
      refine Ps.st (i := 7) (d := some 81) (u := undef) rfl rfl (by  exact StepS.skip nP rfl) ?_
      try simp only [Act.put, sA, sZ, sS]
      refine Ps.st (i := 8) (d := some 82) (u := undef) rfl rfl (by  exact StepS.skip nP rfl) ?_
      try simp only [Act.put, sA, sZ, sS]
      refine Ps.st (i := 9) (d := some 83) (u := undef) rfl rfl (by  exact StepS.skip nP rfl) ?_
      try simp only [Act.put, sA, sZ, sS]
      refine Ps.st (i := 10) (d := some 84) (u := undef) rfl rfl (by  exact StepS.skip nP rfl) ?_
      try simp only [Act.put, sA, sZ, sS]
      refine Ps.st (i := 11) (d := some 85) (u := undef) rfl rfl (by  exact StepS.skip nP rfl) ?_
      try simp only [Act.put, sA, sZ, sS]
      refine Ps.st (i := 12) (d := some 86) (u := undef) rfl rfl (by  exact StepS.skip nP rfl) ?_
      try simp only [Act.put, sA, sZ, sS]
      refine Ps.st (i := 13) (d := some 87) (u := (.bool (false))) rfl rfl (by exact StepS.pure nP rfl fun _ => rfl) ?_
      try simp only [Act.put, sA, sZ, sS]
      refine Ps.done (by kernel_rfl) (fun wg16 hS => ?_) _
      have HW2 := Lib.hid (show Below w1.heap.size w1 wg16 from hS)
      clear hS
      obtain ⟨w2, rfl⟩ : ∃ x, x = wg16 := ⟨_, rfl⟩
      have HB2 := Lib.hid (HB.out.ca HW2.out)
      have HQ2 := Lib.hid (bl_ca HQ.out HW2.out)
      go_upto_region 17 with fail
      refine wp_region_ps (S := Seq2 9 16 (fun w' => Below w2.heap.size w2 w') (SgV w2) (fun _ w' => ∃ w6, Below w2.heap.size w2 w6 ∧ Blk w' w.heap.size 29 #[.int .i64 5, .int .i64 (p : Int), .string (s.extract p (p + 1)), .int .u64 0] ∧ w6.grownBy w' (some w.heap.size))) (by kernel_rfl) ?spswg51 ?ppswg51
      case spswg51 =>
        exact Seq2.start (by decide) (by decide) (Below.refl _ _).drew
      refine Ps.st (i := 0) (d := some 97) (u := (.int .i64 ((p : Int)))) rfl rfl (by exact StepS.pure (Seq2.pass (by decide) (by decide)) rfl fun _ => rfl) ?_
      try simp only [Act.put, sA, sZ, sS]
      refine Ps.st (i := 1) (d := some 98) (u := (.string s)) rfl rfl (by exact StepS.pure (Seq2.pass (by decide) (by decide)) rfl fun _ => rfl) ?_
      try simp only [Act.put, sA, sZ, sS]
      refine Ps.st (i := 2) (d := some 99) (u := (.int .i64 ((p : Int)))) rfl rfl (by exact StepS.pure (Seq2.pass (by decide) (by decide)) rfl fun _ => rfl) ?_
      try simp only [Act.put, sA, sZ, sS]
      refine Ps.st (i := 3) (d := some 100) (u := (.int .i64 ((p : Int)))) rfl rfl (by exact StepS.pure (Seq2.pass (by decide) (by decide)) rfl fun _ => rfl) ?_
      try simp only [Act.put, sA, sZ, sS]
      refine Ps.st (i := 4) (d := some 101) (u := (.int .i64 ((p : Int) + 1))) rfl rfl ?ywg51_56 ?rwg51_56
      case ywg51_56 =>
        refine StepS.pure (Seq2.pass (by decide) (by decide)) (by rfl) (fun w9 => ?_)
        have hw1 := HW1.out.1
        first | rfl | (go_simp; done) | (go_simp; rfl)
      try simp only [Act.put, sA, sZ, sS]
      refine Ps.st (i := 5) (d := some 102) (u := (.string ((s.extract p (p + 1))))) rfl rfl ?ywg51_57 ?rwg51_57
      case ywg51_57 =>
        refine StepS.pure (Seq2.pass (by decide) (by decide)) (by rfl) (fun w9 => ?_)
        obtain ⟨_, k1, k2, k3, k4⟩ := HW1.out
        first | rfl | (go_simp; done) | (go_simp; rfl)
      try simp only [Act.put, sA, sZ, sS]
      refine Ps.st (i := 6) (d := some 103) (u := (.agg #[.int .i64 (5), .int .i64 ((p : Int)), .string ((s.extract p (p + 1))), .int .u64 (0)])) rfl rfl (by exact StepS.pure (Seq2.pass (by decide) (by decide)) rfl fun _ => by first | rfl | (go_simp; done) | (go_simp; rfl)) ?_
      try simp only [Act.put, sA, sZ, sS]
      refine Ps.st (i := 7) (d := some 104) (u := (.int .i64 ((p : Int)))) rfl rfl (by exact StepS.pure (Seq2.pass (by decide) (by decide)) rfl fun _ => rfl) ?_
      try simp only [Act.put, sA, sZ, sS]
      refine Ps.st (i := 8) (d := some 105) (u := (.int .i64 ((p : Int) + 1))) rfl rfl ?ywg51_60 ?rwg51_60
      case ywg51_60 =>
        refine StepS.pure (Seq2.pass (by decide) (by decide)) (by rfl) (fun w9 => ?_)
        have hw1 := HW1.out.1
        first | rfl | (go_simp; done) | (go_simp; rfl)
      try simp only [Act.put, sA, sZ, sS]
      refine Ps.st (i := 10) (d := some 107) (u := (.string s)) rfl rfl (by exact StepS.pure (Seq2.pass (by decide) (by decide)) rfl fun _ => rfl) ?_
      try simp only [Act.put, sA, sZ, sS]
      refine Ps.st (i := 11) (d := some 108) (u := (.int .i64 ((p : Int)))) rfl rfl (by exact StepS.pure (Seq2.pass (by decide) (by decide)) rfl fun _ => rfl) ?_
      try simp only [Act.put, sA, sZ, sS]
      refine Ps.st (i := 12) (d := some 109) (u := (.int .i64 ((p : Int)))) rfl rfl (by exact StepS.pure (Seq2.pass (by decide) (by decide)) rfl fun _ => rfl) ?_
      try simp only [Act.put, sA, sZ, sS]
      refine Ps.st (i := 13) (d := some 110) (u := (.int .i64 ((p : Int) + 1))) rfl rfl ?ywg51_64 ?rwg51_64
      case ywg51_64 =>
        refine StepS.pure (Seq2.pass (by decide) (by decide)) (by rfl) (fun w9 => ?_)
        have hw1 := HW1.out.1
        first | rfl | (go_simp; done) | (go_simp; rfl)
      try simp only [Act.put, sA, sZ, sS]
      refine Ps.st (i := 14) (d := some 111) (u := (.string ((s.extract p (p + 1))))) rfl rfl ?ywg51_65 ?rwg51_65
      case ywg51_65 =>
        refine StepS.pure (Seq2.pass (by decide) (by decide)) (by rfl) (fun w9 => ?_)
        obtain ⟨_, k1, k2, k3, k4⟩ := HW1.out
        first | rfl | (go_simp; done) | (go_simp; rfl)
      try simp only [Act.put, sA, sZ, sS]
      refine Ps.one (k := 9) (d := some 106) rfl rfl (by kernel_rfl) (TurnS.call (V := fun v => ∃ g : Nat, v = .slice (some ⟨g, 0, none⟩) 14 14) ?fwg51_66 ?awg51_66 [] (by kernel_rfl) (by rfl) (fun w9 => ?hwg51_66) (fun L9 m9 w9 hSh hAt hDn hS => ?cwg51_66)) (fun v9 hVv9 => ?rwg51_66)
      case hwg51_66 => go_simp; refine ⟨?_, ?_⟩ <;> rfl
      case cwg51_66 =>
        have d16 : Dn L9 16 = false := reach_no hSh (f := 20) (j := 16) (by kernel_rfl) hDn
        have hT : Below w2.heap.size w2 w9 := Seq2.turn hDn d16 hS
        refine (rsigns_any w9).mono ?_
        rintro e w8 ⟨rfl, hr, q8⟩
        exact ⟨_, rfl, ⟨_, rfl⟩, Seq2.called (by decide) d16 (SgV.mk hr (bl_ca hT q8))⟩
      try simp only [Act.put, sA, sZ, sS]
      obtain ⟨gT, rfl⟩ := hVv9
      refine Ps.st (i := 15) (d := some 112) (u := (.bool (Lib.containsS rsignsL (s.extract p (p + 1))))) rfl rfl ?ywg51_67 ?rwg51_67
      case ywg51_67 =>
        refine StepS.call ?fwg51_67 ?awg51_67 [9] (by kernel_rfl) (by rfl) (fun w9 => ?hwg51_67) (fun L9 m9 w9 hSh hAt hDn hS => ?cwg51_67)
        case hwg51_67 => go_simp; refine ⟨?_, ?_⟩ <;> rfl
        case cwg51_67 =>
          have hX0 := Seq2.got hAt (reach_no hSh (f := 20) (j := 16) (by kernel_rfl) hDn) hS
          have hX : SgV w2 (.slice (some ⟨gT, 0, none⟩) 14 14) w9 := hX0
          refine (has_any AllB _ 14 14 rsignsL _ w9 (hX.1 gT rfl) (by omega)).mono ?_
          rintro e w8 ⟨rfl, rfl⟩
          exact ⟨rfl, Seq2.pass (by decide) (by decide) _ _ _ hS⟩
      try simp only [Act.put, sA, sZ, sS]
      refine Ps.st (i := 16) (d := none) (u := undef) rfl rfl ?ywg51_68 ?rwg51_68
      case ywg51_68 =>
        refine StepS.store [9] (by kernel_rfl) (by rfl) (fun L9 m9 w9 hSh hAt hDn hS => ?_)
        have hX0 := Seq2.got hAt hDn hS
        have hX : SgV w2 (.slice (some ⟨gT, 0, none⟩) 14 14) w9 := hX0
        refine (exec_store_blk (w := w9) 29 (.tmp 4) (.tmp 103) (by rfl) w.heap.size 29 #[.int .i64 0, .int .i64 0, .string ⟨#[]⟩, .int .u64 0] #[.int .i64 5, .int .i64 (p : Int), .string (s.extract p (p + 1)), .int .u64 0] (by rfl) (by rfl) (HB2.out.ca hX.2) rfl tokI (by simp [Value.oneCell'])).imp fun w7 hx => ⟨hx.1, Seq2.stored (by decide) hAt ⟨w9, hX.2, hx.2.1, hx.2.2⟩⟩
      try simp only [Act.put]
      refine Ps.st (i := 17) (d := some 5) (u := (.int .i64 ((p : Int) + 1))) rfl rfl (by exact StepS.pure (Seq2.pass (by decide) (by decide)) rfl fun _ => rfl) ?_
      try simp only [Act.put, sA, sZ, sS]
      refine Ps.st (i := 18) (d := some 6) (u := (.bool (Lib.containsS rsignsL (s.extract p (p + 1))))) rfl rfl (by exact StepS.pure (Seq2.pass (by decide) (by decide)) rfl fun _ => rfl) ?_
      try simp only [Act.put, sA, sZ, sS]
      refine Ps.done (by kernel_rfl) (fun wg51 hS => ?_) _
      obtain ⟨w6, hT, h8, g8⟩ := Seq2.fin (by rfl) hS
      clear hS
      obtain ⟨w8, rfl⟩ : ∃ x, x = wg51 := ⟨_, rfl⟩
      obtain ⟨q, hq⟩ : ∃ q, q = Lib.containsS rsignsL (s.extract p (p + 1)) := ⟨_, rfl⟩
      rw [← hq]
      rw [HX1.out] at hq
      go_wp2
      cases q
      · have hno := sgn_no (sg_none (s.data.toList.drop (p + 1)) hq.symm)
        exact bodyPost_ret (res3 Tryz.results16 rfl rfl rfl h8 Tryz.underlying29 rfl tokI) rfl ⟨OneE.mk (t := ⟨5, p, [b], 0⟩) (by rw [HX1.out]; rfl) (by rw [HF.out, hno]) (fun h => by rw [HF.out, hno] at h; cases h), bl_gr (bl_ca HQ2.out hT) g8 (by omega)⟩
      · have hyes := sgn_some (sg_one hq.symm HNT.out)
        exact bodyPost_ret (res3 Tryz.results16 rfl rfl rfl h8 Tryz.underlying29 rfl tokI) rfl ⟨OneE.mk (t := ⟨5, p, [b], 0⟩) (by rw [HX1.out]; rfl) (by rw [HF.out, hyes]) (fun _ => by rw [HF.out, hyes]; exact ⟨rfl, rfl⟩), bl_gr (bl_ca HQ2.out hT) g8 (by omega)⟩
theorem rone_any (s : ByteArray) (p : Nat) (w : World) (hp : p < s.size) (hs : s.size ≤ 100000) : Calls Tryz.prog 16 #[.string s, .int .i64 (p : Int)] w fun e w' => OneE (s.data.toList.drop p) p e ∧ Below w.heap.size w w' := by
  obtain ⟨b, hb⟩ := byte_at hp
  by_cases h : b = 39
  · subst h; exact rone_quo s p w hp hs hb
  · cases hpa : paU b
    · exact rone_sgn s p b w hp hs hb h hpa
    · exact rone_row s p b w hp hs hb h hpa
end Go.Proofs.YtnpicnddcoaboaaGreatDoor
