/- The layer's quoted. Conditions: a text of at most 100000 bytes. -/
import Derived.Test.YtnpicnddcoaboaaGreatDoorLxG3
namespace Go.Proofs.YtnpicnddcoaboaaGreatDoor
open Go.RowKit
set_option maxRecDepth 100000 in
set_option maxHeartbeats 8000000 in
theorem lquoted_any (s : ByteArray) (w : World) (h1 : 1 ≤ s.size) (hs : s.size ≤ 100000) : Calls Tryz.prog 59 #[.string s] w fun e w' => QuoE (s.data.toList.drop 1) 1 e ∧ Below w.heap.size w w' := by
  have HL := Lib.hid (len_data s)
  obtain ⟨L1, hL1⟩ : ∃ L1, L1 = s.data.toList.drop 1 := ⟨_, rfl⟩
  rw [← hL1]
  have HL1 := Lib.hid hL1
  clear hL1
  go_enter Tryz.func59, Tryz.ntmps59
  go_wp2_with fail
  go_loopg [5, 6] (s.size - 1) (fun g a b wr => ∃ (i : Nat) (A : Option Addr) (n c : Nat) (o : List UInt8), i + g = s.size ∧ a = .slice A n c ∧ b = .int .i64 i ∧ OwnB wr w.heap.size A n c o ∧ Below w.heap.size w wr ∧ Hid (1 ≤ i ∧ n ≤ i ∧ qGo L1 = (qGo (s.data.toList.drop i)).map (fun q => (o ++ q.1, q.2 + (i - 1)))))
  case atStart =>
    refine ⟨1, none, 0, 0, [], by omega, rfl, rfl, OwnB.none_ _ _, Below.refl _ _, Lib.hid ⟨Nat.le_refl _, Nat.zero_le _, ?_⟩⟩
    rw [HL1.out]
    cases qGo (s.data.toList.drop 1) <;> simp
  case round =>
    obtain ⟨i, A, n, c, o, hig, rfl, rfl, ho, hb, HI⟩ := hrel
    have HO := Lib.hid ho
    have HBW := Lib.hid hb
    have HSZ := Lib.hid hb.size
    clear ho hb
    have hn1 := HI.out.2.1
    by_cases hlt : i < s.size
    · have hi1 : (i : Int) < (s.size : Int) := by omega
      obtain ⟨b, hb⟩ := byte_at hlt
      have hix := run_bt hb
      have HB := Lib.hid (drop_at hb)
      clear hb
      have HBB := Lib.hid (show ((b.toNat : Int) = 39 → b = 39) ∧ (¬ (b.toNat : Int) = 39 → b ≠ 39) from ⟨fun h => byte_inj (k := 39) (by decide) h, fun h e => h (by rw [e]; rfl)⟩)
      have HV := Lib.hid (show Value.int .u8 (b.toNat : Int) = vb b from rfl)
      obtain ⟨cc, hc⟩ : ∃ cc, cc = (b.toNat : Int) := ⟨_, rfl⟩
      rw [← hc] at hix HBB HV
      clear hc
      by_cases h39 : cc = 39
      · have hb39 := HBB.out.1 h39
        have e1 : (cc == 39) = true := by simpa using h39
        have e0 : (cc != 39) = false := by simpa using h39
        rw [hb39] at HB HV
        clear h39 HBB hb39
        by_cases hlt2 : i + 1 < s.size
        · have hi2 : (i : Int) + 1 < (s.size : Int) := by omega
          obtain ⟨b2, hb2⟩ := byte_at hlt2
          have hix2 : ∀ W, (Instr.index 9 (.string s) (.int .i64 ((i : Int) + 1))).run Tryz.prog W = .ok (.int .u8 (b2.toNat : Int)) W := fun W => by have := run_bt hb2 W; rwa [show ((i + 1 : Nat) : Int) = (i : Int) + 1 from by omega] at this
          have HB2 := Lib.hid (drop_at hb2)
          clear hb2
          have HBB := Lib.hid (show ((b2.toNat : Int) = 39 → b2 = 39) ∧ (¬ (b2.toNat : Int) = 39 → b2 ≠ 39) from ⟨fun h => byte_inj (k := 39) (by decide) h, fun h e => h (by rw [e]; rfl)⟩)
          obtain ⟨c2, hc2⟩ : ∃ c2, c2 = (b2.toNat : Int) := ⟨_, rfl⟩
          rw [← hc2] at hix2 HBB
          clear hc2
          by_cases h39 : c2 = 39
          · have hb39 := HBB.out.1 h39
            have e2 : (c2 == 39) = true := by simpa using h39
            rw [hb39] at HB2
            clear h39 HBB hb39
            go_wp2_with (at_builtin; refine wpList_appB rfl (.tmp 44) (.tmp 48) rfl w.heap.size A n c o (some ⟨wr.heap.size, 0, none⟩) 1 1 [39] rfl rfl (HO.out.alloc _) (RdB.one wr 39 _ HV.out _) (by omega) (by simp only [World.size_alloc]; have := HSZ.out; omega) ?_; intro A1 c1 w1 ho1 hb1)
            go_roundg (gk - 2)
            · exact ⟨i + 2, A1, n + 1, c1, o ++ [39], by omega, rfl, by go_num, ho1, HBW.out.trans (((Below.refl _ _).alloc HSZ.out _).trans hb1), Lib.hid ⟨by omega, by omega, by
                have h9 := HI.out.1
                rw [HI.out.2.2, HB.out, HB2.out, q_two, Option.map_map]
                congr 1
                funext q
                simp only [Function.comp, List.append_assoc, List.singleton_append, Prod.mk.injEq, true_and]
                omega⟩⟩
            · omega
          · have e2 : (c2 == 39) = false := by simpa using h39
            have HE := Lib.hid (q_end (s.data.toList.drop (i + 1)) (by rw [HB2.out]; intro c x e; cases e; exact HBB.out.2 h39))
            clear h39 HBB
            have HW1 := Lib.hid (show IntKind.i64.wrap ((i : Int) + 1) = (i : Int) + 1 from IntWalk.i64_in _ (by omega))
            have HLO := Lib.hid (show (bS o).size ≤ 9223372036854775807 from by rw [← len_data]; have := HO.out.rd.len; show o.length ≤ _; omega)
            go_upto_region 5 with fail
            clear hix e1 e0
            obtain ⟨w1, rfl⟩ : ∃ x, x = wr := ⟨_, rfl⟩
            refine wp_region_ps (S := fun _ _ w' => Below w1.heap.size w1 w') (by kernel_rfl) ?spswg1 ?ppswg1
            case spswg1 =>
              exact (Below.refl w1.heap.size w1).drew
            refine Ps.st (i := 0) (d := some 13) (u := (.slice A n c)) rfl rfl (by exact StepS.pure nP rfl fun _ => rfl) ?_
            try simp only [Act.put, sA, sZ, sS]
            refine Ps.st (i := 1) (d := some 14) (u := (.string ((bS o)))) rfl rfl ?ywg1_3 ?rwg1_3
            case ywg1_3 =>
              refine StepS.read [] (by kernel_rfl) nP (by rfl) (fun L9 m9 w9 hSh hAt hDn hS => ?_)
              have hT : Below w1.heap.size w1 w9 := hS
              have hcv := ((HO.out.below hT).rd).str c
              clear hT hS
              go_simp
              try rfl
            try simp only [Act.put, sA, sZ, sS]
            refine Ps.st (i := 2) (d := some 15) (u := (.int .i64 ((i : Int)))) rfl rfl (by exact StepS.pure nP rfl fun _ => rfl) ?_
            try simp only [Act.put, sA, sZ, sS]
            refine Ps.st (i := 3) (d := some 16) (u := (.int .i64 ((i : Int) + 1))) rfl rfl ?ywg1_5 ?rwg1_5
            case ywg1_5 =>
              refine StepS.pure nP (by rfl) (fun w9 => ?_)
              have hw1 := HW1.out
              first | rfl | (go_simp; done) | (go_simp; rfl)
            try simp only [Act.put, sA, sZ, sS]
            refine Ps.st (i := 4) (d := some 17) (u := (.slice A n c)) rfl rfl (by exact StepS.pure nP rfl fun _ => rfl) ?_
            try simp only [Act.put, sA, sZ, sS]
            refine Ps.st (i := 5) (d := some 18) (u := (.string ((bS o)))) rfl rfl ?ywg1_7 ?rwg1_7
            case ywg1_7 =>
              refine StepS.read [] (by kernel_rfl) nP (by rfl) (fun L9 m9 w9 hSh hAt hDn hS => ?_)
              have hT : Below w1.heap.size w1 w9 := hS
              have hcv := ((HO.out.below hT).rd).str c
              clear hT hS
              go_simp
              try rfl
            try simp only [Act.put, sA, sZ, sS]
            refine Ps.st (i := 6) (d := some 19) (u := (.bool (plainU (bS o).data.toList))) rfl rfl ?ywg1_8 ?rwg1_8
            case ywg1_8 =>
              refine StepS.call ?fwg1_8 ?awg1_8 [] (by kernel_rfl) (by rfl) (fun w9 => ?hwg1_8) (fun L9 m9 w9 hSh hAt hDn hS => ?cwg1_8)
              case hwg1_8 => go_simp; refine ⟨?_, ?_⟩ <;> rfl
              case cwg1_8 =>
                have hT : Below _ _ w9 := hS
                refine (lplain_any (bS o) w9 HLO.out).mono ?_
                rintro e w8 ⟨rfl, q8⟩
                exact ⟨rfl, bl_ca hT q8⟩
            try simp only [Act.put, sA, sZ, sS]
            refine Ps.st (i := 7) (d := some 2) (u := (.string ((bS o)))) rfl rfl (by exact StepS.pure nP rfl fun _ => rfl) ?_
            try simp only [Act.put, sA, sZ, sS]
            refine Ps.st (i := 8) (d := some 3) (u := (.int .i64 ((i : Int) + 1))) rfl rfl (by exact StepS.pure nP rfl fun _ => rfl) ?_
            try simp only [Act.put, sA, sZ, sS]
            refine Ps.st (i := 9) (d := some 4) (u := (.bool (plainU (bS o).data.toList))) rfl rfl (by exact StepS.pure nP rfl fun _ => rfl) ?_
            try simp only [Act.put, sA, sZ, sS]
            refine Ps.done (by kernel_rfl) (fun wg1 hS => ?_) _
            have HW2 := Lib.hid (show Below w1.heap.size w1 wg1 from hS)
            clear hS
            obtain ⟨w2, rfl⟩ : ∃ x, x = wg1 := ⟨_, rfl⟩
            go_wp2
            go_ret3
            have h9 := HI.out.1
            exact ⟨QuoE.some (t := o) (k := 1 + (i - 1)) (by rw [HI.out.2.2, HB.out, HE.out]; simp) rfl (by omega) rfl, bl_ca HBW.out HW2.out⟩
        · have hi2 : (s.size : Int) ≤ (i : Int) + 1 := by omega
          have HE := Lib.hid (q_end (s.data.toList.drop (i + 1)) (by rw [drop_end (by rw [HL.out]; omega)]; intro c x e; cases e))
          clear hlt2
          have HW1 := Lib.hid (show IntKind.i64.wrap ((i : Int) + 1) = (i : Int) + 1 from IntWalk.i64_in _ (by omega))
          have HLO := Lib.hid (show (bS o).size ≤ 9223372036854775807 from by rw [← len_data]; have := HO.out.rd.len; show o.length ≤ _; omega)
          go_upto_region 5 with fail
          clear hix e1 e0
          obtain ⟨w1, rfl⟩ : ∃ x, x = wr := ⟨_, rfl⟩
          refine wp_region_ps (S := fun _ _ w' => Below w1.heap.size w1 w') (by kernel_rfl) ?spswg12 ?ppswg12
          case spswg12 =>
            exact (Below.refl w1.heap.size w1).drew
          refine Ps.st (i := 0) (d := some 13) (u := (.slice A n c)) rfl rfl (by exact StepS.pure nP rfl fun _ => rfl) ?_
          try simp only [Act.put, sA, sZ, sS]
          refine Ps.st (i := 1) (d := some 14) (u := (.string ((bS o)))) rfl rfl ?ywg12_14 ?rwg12_14
          case ywg12_14 =>
            refine StepS.read [] (by kernel_rfl) nP (by rfl) (fun L9 m9 w9 hSh hAt hDn hS => ?_)
            have hT : Below w1.heap.size w1 w9 := hS
            have hcv := ((HO.out.below hT).rd).str c
            clear hT hS
            go_simp
            try rfl
          try simp only [Act.put, sA, sZ, sS]
          refine Ps.st (i := 2) (d := some 15) (u := (.int .i64 ((i : Int)))) rfl rfl (by exact StepS.pure nP rfl fun _ => rfl) ?_
          try simp only [Act.put, sA, sZ, sS]
          refine Ps.st (i := 3) (d := some 16) (u := (.int .i64 ((i : Int) + 1))) rfl rfl ?ywg12_16 ?rwg12_16
          case ywg12_16 =>
            refine StepS.pure nP (by rfl) (fun w9 => ?_)
            have hw1 := HW1.out
            first | rfl | (go_simp; done) | (go_simp; rfl)
          try simp only [Act.put, sA, sZ, sS]
          refine Ps.st (i := 4) (d := some 17) (u := (.slice A n c)) rfl rfl (by exact StepS.pure nP rfl fun _ => rfl) ?_
          try simp only [Act.put, sA, sZ, sS]
          refine Ps.st (i := 5) (d := some 18) (u := (.string ((bS o)))) rfl rfl ?ywg12_18 ?rwg12_18
          case ywg12_18 =>
            refine StepS.read [] (by kernel_rfl) nP (by rfl) (fun L9 m9 w9 hSh hAt hDn hS => ?_)
            have hT : Below w1.heap.size w1 w9 := hS
            have hcv := ((HO.out.below hT).rd).str c
            clear hT hS
            go_simp
            try rfl
          try simp only [Act.put, sA, sZ, sS]
          refine Ps.st (i := 6) (d := some 19) (u := (.bool (plainU (bS o).data.toList))) rfl rfl ?ywg12_19 ?rwg12_19
          case ywg12_19 =>
            refine StepS.call ?fwg12_19 ?awg12_19 [] (by kernel_rfl) (by rfl) (fun w9 => ?hwg12_19) (fun L9 m9 w9 hSh hAt hDn hS => ?cwg12_19)
            case hwg12_19 => go_simp; refine ⟨?_, ?_⟩ <;> rfl
            case cwg12_19 =>
              have hT : Below _ _ w9 := hS
              refine (lplain_any (bS o) w9 HLO.out).mono ?_
              rintro e w8 ⟨rfl, q8⟩
              exact ⟨rfl, bl_ca hT q8⟩
          try simp only [Act.put, sA, sZ, sS]
          refine Ps.st (i := 7) (d := some 2) (u := (.string ((bS o)))) rfl rfl (by exact StepS.pure nP rfl fun _ => rfl) ?_
          try simp only [Act.put, sA, sZ, sS]
          refine Ps.st (i := 8) (d := some 3) (u := (.int .i64 ((i : Int) + 1))) rfl rfl (by exact StepS.pure nP rfl fun _ => rfl) ?_
          try simp only [Act.put, sA, sZ, sS]
          refine Ps.st (i := 9) (d := some 4) (u := (.bool (plainU (bS o).data.toList))) rfl rfl (by exact StepS.pure nP rfl fun _ => rfl) ?_
          try simp only [Act.put, sA, sZ, sS]
          refine Ps.done (by kernel_rfl) (fun wg12 hS => ?_) _
          have HW2 := Lib.hid (show Below w1.heap.size w1 wg12 from hS)
          clear hS
          obtain ⟨w2, rfl⟩ : ∃ x, x = wg12 := ⟨_, rfl⟩
          go_wp2
          go_ret3
          have h9 := HI.out.1
          exact ⟨QuoE.some (t := o) (k := 1 + (i - 1)) (by rw [HI.out.2.2, HB.out, HE.out]; simp) rfl (by omega) rfl, bl_ca HBW.out HW2.out⟩
      · have e1 : (cc == 39) = false := by simpa using h39
        have e0 : (cc != 39) = true := by simpa using h39
        have HN := Lib.hid (HBB.out.2 h39)
        clear h39 HBB
        go_wp2_with (at_builtin; refine wpList_appB rfl (.tmp 25) (.tmp 29) rfl w.heap.size A n c o (some ⟨wr.heap.size, 0, none⟩) 1 1 [b] rfl rfl (HO.out.alloc _) (RdB.one wr b _ HV.out _) (by omega) (by simp only [World.size_alloc]; have := HSZ.out; omega) ?_; intro A1 c1 w1 ho1 hb1)
        go_roundg (gk - 1)
        · exact ⟨i + 1, A1, n + 1, c1, o ++ [b], by omega, rfl, by go_num, ho1, HBW.out.trans (((Below.refl _ _).alloc HSZ.out _).trans hb1), Lib.hid ⟨by omega, by omega, by
            have h9 := HI.out.1
            rw [HI.out.2.2, HB.out, q_step HN.out, Option.map_map]
            congr 1
            funext q
            simp only [Function.comp, List.append_assoc, List.singleton_append, Prod.mk.injEq, true_and]
            omega⟩⟩
        · omega
    · obtain rfl : i = s.size := by omega
      have hi1 : (s.size : Int) ≤ (s.size : Int) := by omega
      have HE := Lib.hid (show qGo L1 = none from by rw [HI.out.2.2, drop_end (by rw [HL.out]; exact Nat.le_refl _)]; rfl)
      clear HI
      go_wp2
      go_ret3
      exact ⟨QuoE.none HE.out, HBW.out⟩
end Go.Proofs.YtnpicnddcoaboaaGreatDoor
