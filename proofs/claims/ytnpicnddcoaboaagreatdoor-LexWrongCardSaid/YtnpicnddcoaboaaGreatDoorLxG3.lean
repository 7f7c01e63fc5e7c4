/- The layer's number. Conditions: a text of one byte or more, at most 100000. -/
import Derived.Test.YtnpicnddcoaboaaGreatDoorLxG2
namespace Go.Proofs.YtnpicnddcoaboaaGreatDoor
open Go.RowKit Go.Shelf
theorem num_split {s : ByteArray} {b : UInt8} (h : s.data.toList[0]? = some b) (hall : s.data.toList.all dgU = true) : (numU s.data.toList).isSome = (decide (valU 0 s.data.toList ≤ 9223372036854775807) && (decide ((s.size : Int) = 1) || !decide ((b.toNat : Int) = 48))) := by
  rw [numU_iff, Bool.eq_iff_iff, decide_eq_true_eq]
  simp only [Bool.and_eq_true, Bool.or_eq_true, decide_eq_true_eq, Bool.not_eq_true', decide_eq_false_iff_not]
  rw [head_at h, len_data]
  constructor
  · rintro ⟨_, h2, h3⟩
    refine ⟨by omega, ?_⟩
    rcases h3 with h3 | h3
    · left; omega
    · right; intro e; exact h3 (by rw [byte_inj (b := b) (k := 48) (by decide) e]; rfl)
  · rintro ⟨h2, h3⟩
    refine ⟨hall, by omega, ?_⟩
    rcases h3 with h3 | h3
    · left; omega
    · right; intro e; injection e with e; exact h3 (by rw [e]; rfl)
set_option maxRecDepth 100000 in
set_option maxHeartbeats 8000000 in
theorem lnumber_any (s : ByteArray) (w : World) (h1 : 1 ≤ s.size) (hs : s.size ≤ 100000) (hT : Tab w) : Calls Tryz.prog 61 #[.string s] w fun e w' => NumE s.data.toList e ∧ Below w.heap.size w w' := by
  have hL := len_data s
  have HS := Lib.hid (And.intro h1 hs)
  have HT := Lib.hid hT
  clear hT h1
  go_enter Tryz.func61, Tryz.ntmps61
  go_wp2_with fail
  go_loopw [] (fun w' => ∃ pos : Nat, w' = w.iter s pos ∧ Hid (s.data.toList.all dgU = (s.data.toList.drop pos).all dgU)) (fun w' => s.size - w'.iterPos w.heap.size)
  case atStart => exact ⟨0, rfl, Lib.hid (by rw [List.drop_zero])⟩
  case round =>
    obtain ⟨pos, rfl, HI⟩ := hrel
    by_cases hp : pos < s.size
    · obtain ⟨b, hb⟩ := byte_at hp
      have hbe : s[pos]'hp = b := by
        have h9 : s.data.toList[pos]? = some (s[pos]'hp) := by
          rw [List.getElem?_eq_getElem (by simpa using hp)]
          simp
          rfl
        rw [h9] at hb
        injection hb
      have HA := Lib.hid (alls_at (p := dgU) hb)
      have hnx : ∀ ty, (Instr.next (.pointer (some ⟨w.heap.size, 0, none⟩)) true ty).run Tryz.prog (w.iter s pos) = _ := fun ty => run_next_any w s pos ty hp
      have HD := Lib.hid (show dgU b = dgI (b.toNat : Int) from rfl)
      by_cases h128 : b.toNat < 128
      · rw [decode_ascii s pos hp (by rw [hbe]; exact h128), hbe] at hnx
        obtain ⟨c, hc⟩ : ∃ c : Int, c = ((b.toNat : Nat) : Int) := ⟨_, rfl⟩
        rw [← hc] at HD
        dsimp only at hnx
        rw [← hc] at hnx
        clear hb hbe hc h128
        go_wp2_with fail
        refine (ldigit_any c _).mono ?_
        rintro e w2 ⟨rfl, rfl⟩
        clear hnx
        obtain ⟨q, hq⟩ : ∃ q, q = dgI c := ⟨_, rfl⟩
        rw [← hq] at HD ⊢
        clear hq
        cases q
        · have HF := Lib.hid (num_none (l := s.data.toList) (by rw [HI.out, HA.out, HD.out]; simp))
          go_wp2
          go_ret2
          exact ⟨NumE.no HF.out, iter_below _ _ _⟩
        · go_wp2
          go_roundw
          case rel => exact ⟨pos + 1, rfl, Lib.hid (by rw [HI.out, HA.out, HD.out]; rfl)⟩
          all_goals simp only [World.iterPos_iter]; omega
      · have hd := (decode_high s pos hp (by rw [hbe]; omega)).1
        have HDF := Lib.hid (show dgU b = false from by rw [HD.out]; unfold dgI; rw [decide_eq_false (show ¬ (b.toNat : Int) ≤ 57 by omega)]; simp)
        obtain ⟨c, hc⟩ : ∃ c : Int, c = (((Utf8.decode s pos).1 : Nat) : Int) := ⟨_, rfl⟩
        rw [← hc] at hnx
        have hd1 : dgI c = false := by unfold dgI; rw [decide_eq_false (show ¬ c ≤ 57 by omega)]; simp
        have HF := Lib.hid (num_none (l := s.data.toList) (by rw [HI.out, HA.out, HDF.out]; simp))
        clear hc hd hb hbe h128 HDF
        go_wp2_with fail
        refine (ldigit_any c _).mono ?_
        rintro e w2 ⟨rfl, rfl⟩
        rw [hd1]
        clear hnx
        go_wp2
        go_ret2
        exact ⟨NumE.no HF.out, iter_below _ _ _⟩
    · have hnx : ∀ ty, (Instr.next (.pointer (some ⟨w.heap.size, 0, none⟩)) true ty).run Tryz.prog (w.iter s pos) = _ := fun ty => run_next_end w s pos ty hp
      have HALL := Lib.hid (show s.data.toList.all dgU = true from by rw [HI.out, drop_end (by rw [hL]; omega)]; rfl)
      obtain ⟨b0, hb0⟩ := byte_at (s := s) (i := 0) (by have := HS.out.1; omega)
      have HIX := Lib.hid (show ∀ W, (Instr.index 9 (.string s) (.int .i64 0)).run Tryz.prog W = .ok (.int .u8 (b0.toNat : Int)) W from run_bt hb0)
      have HSP := Lib.hid (num_split hb0 HALL.out)
      obtain ⟨c0, hc0⟩ : ∃ c0, c0 = (b0.toNat : Int) := ⟨_, rfl⟩
      rw [← hc0] at HIX HSP
      clear hb0 hc0
      go_wp2_with fail
      refine (puint_any s (by have := HS.out.1; omega) hs HALL.out _ (HT.out.below (iter_below _ _ _))).mono ?_
      rintro e w2 ⟨hpe, q2⟩
      have HQ2 := Lib.hid (bl_ca (iter_below _ _ _) q2)
      clear q2 hnx HI hp
      rcases hpe with ⟨hv, rfl⟩ | ⟨hv, T, p, rfl⟩
      · have HSP2 := Lib.hid (show (numU s.data.toList).isSome = (decide ((s.size : Int) = 1) || !decide (c0 = 48)) from by rw [HSP.out, decide_eq_true hv]; rfl)
        have HV := Lib.hid (show ((valU 0 s.data.toList : Nat) : Int) = (valU 0 s.data.toList : Int) from rfl)
        obtain ⟨z, hz⟩ : ∃ z, z = (valU 0 s.data.toList : Int) := ⟨_, rfl⟩
        rw [← hz]
        have HZ := Lib.hid hz
        clear hv hz HSP HV
        go_upto_region 7 with fail
        refine wp_region_ps (S := fun _ _ w' => Below w2.heap.size w2 w') (by kernel_rfl) ?spswg1 ?ppswg1
        case spswg1 =>
          exact (Below.refl w2.heap.size w2).drew
        refine Ps.st (i := 0) (d := some 21) (u := (.int .u64 (z))) rfl rfl (by exact StepS.pure nP rfl fun _ => rfl) ?_
        try simp only [Act.put, sA, sZ, sS]
        refine Ps.st (i := 1) (d := some 22) (u := (.nilIface)) rfl rfl (by exact StepS.pure nP rfl fun _ => rfl) ?_
        try simp only [Act.put, sA, sZ, sS]
        refine Ps.st (i := 2) (d := some 23) (u := (.bool (true))) rfl rfl (by exact StepS.pure nP rfl fun _ => rfl) ?_
        try simp only [Act.put, sA, sZ, sS]
        refine Ps.st (i := 3) (d := some 24) (u := (.bool (true))) rfl rfl (by exact StepS.pure nP rfl fun _ => rfl) ?_
        try simp only [Act.put, sA, sZ, sS]
        refine Ps.st (i := 4) (d := some 25) (u := (.string s)) rfl rfl (by exact StepS.pure nP rfl fun _ => rfl) ?_
        try simp only [Act.put, sA, sZ, sS]
        refine Ps.st (i := 5) (d := some 26) (u := (.int .i64 ((s.size : Int)))) rfl rfl (by exact StepS.pure nP rfl fun _ => by first | rfl | (go_simp; done) | (go_simp; rfl)) ?_
        try simp only [Act.put, sA, sZ, sS]
        refine Ps.st (i := 6) (d := some 27) (u := (.bool (decide ((s.size : Int) = 1)))) rfl rfl (by exact StepS.pure nP rfl fun _ => rfl) ?_
        try simp only [Act.put, sA, sZ, sS]
        obtain ⟨b7_7, hb9⟩ : ∃ zb : Bool, zb = (decide ((s.size : Int) = 1)) := ⟨_, rfl⟩
        have HEb7_7 := Lib.hid hb9
        clear hb9
        refine Ps.st (i := 7) (d := some 28) (u := (.bool (b7_7))) rfl rfl ?ywg1_9 ?rwg1_9
        case ywg1_9 =>
          refine StepS.pure nP (by rfl) (fun w9 => ?_)
          have e9 : (decide ((s.size : Int) = 1)) = b7_7 := by rw [HEb7_7.out]
          rw [← e9]
          clear e9
          first | rfl | (go_simp; done) | (go_simp; rfl)
        try simp only [Act.put, sA, sZ, sS]
        refine Ps.st (i := 8) (d := some 29) (u := (cond b7_7 (undef) (.string s))) rfl rfl (by cases b7_7; (exact StepS.pure nP rfl fun _ => rfl); exact StepS.skip nP rfl) ?_
        try simp only [Act.put, sA, sZ, sS]
        refine Ps.st (i := 9) (d := some 30) (u := (cond b7_7 (undef) (.int .u8 (c0)))) rfl rfl ?ywg1_11 ?rwg1_11
        case ywg1_11 =>
          cases b7_7
          · skip
            refine StepS.pure nP (by rfl) (fun w9 => ?_)
            have hix := HIX.out
            first | rfl | (go_simp; done) | (go_simp; rfl)
          · exact StepS.skip nP (by rfl)
        try simp only [Act.put, sA, sZ, sS]
        refine Ps.st (i := 10) (d := some 31) (u := (cond b7_7 (undef) (.bool (!decide (c0 = 48))))) rfl rfl (by cases b7_7; (exact StepS.pure nP rfl fun _ => rfl); exact StepS.skip nP rfl) ?_
        try simp only [Act.put, sA, sZ, sS]
        refine Ps.st (i := 11) (d := some 32) (u := (.bool (b7_7 || (!decide (c0 = 48))))) rfl rfl ?ywg1_13 ?rwg1_13
        case ywg1_13 =>
          refine StepS.pure nP (by rfl) (fun w9 => ?_)
          cases b7_7 <;> (first | rfl | (go_simp; done) | (go_simp; rfl))
        try simp only [Act.put, sA, sZ, sS]
        obtain ⟨bT, hb9⟩ : ∃ zb : Bool, zb = ((decide ((s.size : Int) = 1)) || (!decide (c0 = 48))) := ⟨_, rfl⟩
        have HEbT := Lib.hid hb9
        clear hb9
        refine Ps.st (i := 12) (d := some 33) (u := (.bool (bT))) rfl rfl ?ywg1_14 ?rwg1_14
        case ywg1_14 =>
          refine StepS.pure nP (by rfl) (fun w9 => ?_)
          have e9 : (b7_7 || (!decide (c0 = 48))) = bT := by rw [HEbT.out, HEb7_7.out]
          rw [← e9]
          clear e9
          first | rfl | (go_simp; done) | (go_simp; rfl)
        try simp only [Act.put, sA, sZ, sS]
        refine Ps.st (i := 13) (d := some 2) (u := (.int .u64 (z))) rfl rfl (by exact StepS.pure nP rfl fun _ => rfl) ?_
        try simp only [Act.put, sA, sZ, sS]
        refine Ps.st (i := 14) (d := some 3) (u := (.bool (bT))) rfl rfl (by exact StepS.pure nP rfl fun _ => rfl) ?_
        try simp only [Act.put, sA, sZ, sS]
        refine Ps.done (by kernel_rfl) (fun wg1 hS => ?_) _
        try generalize (cond b7_7 (undef) (.bool (!decide (c0 = 48))) : Value) = zz17
        try generalize (.bool (b7_7 || (!decide (c0 = 48))) : Value) = zz18
        try generalize (cond b7_7 (undef) (.int .u8 (c0)) : Value) = zz19
        try generalize (cond b7_7 (undef) (.string s) : Value) = zz20
        have HW2 := Lib.hid (show Below w2.heap.size w2 wg1 from hS)
        clear hS
        obtain ⟨w3, rfl⟩ : ∃ x, x = wg1 := ⟨_, rfl⟩
        go_wp2
        go_ret2
        exact ⟨NumE.yes (by rw [HSP2.out, HEbT.out]) HZ.out, bl_ca HQ2.out HW2.out⟩
      · have HF := Lib.hid (show numU s.data.toList = none from by
          have h9 := HSP.out
          rw [decide_eq_false (by omega), Bool.false_and] at h9
          simpa using h9)
        clear hv HSP
        go_upto_region 7 with fail
        refine wp_region_ps (S := fun _ _ w' => Below w2.heap.size w2 w') (by kernel_rfl) ?spswg21 ?ppswg21
        case spswg21 =>
          exact (Below.refl w2.heap.size w2).drew
        refine Ps.st (i := 0) (d := some 21) (u := (.int .u64 (9223372036854775807))) rfl rfl (by exact StepS.pure nP rfl fun _ => rfl) ?_
        try simp only [Act.put, sA, sZ, sS]
        refine Ps.st (i := 1) (d := some 22) (u := (.iface T p)) rfl rfl (by exact StepS.pure nP rfl fun _ => rfl) ?_
        try simp only [Act.put, sA, sZ, sS]
        refine Ps.st (i := 2) (d := some 23) (u := (.bool (false))) rfl rfl (by exact StepS.pure nP rfl fun _ => rfl) ?_
        try simp only [Act.put, sA, sZ, sS]
        refine Ps.st (i := 3) (d := some 24) (u := (.bool (false))) rfl rfl (by exact StepS.pure nP rfl fun _ => rfl) ?_
        try simp only [Act.put, sA, sZ, sS]
        refine Ps.st (i := 4) (d := some 25) (u := undef) rfl rfl (by  exact StepS.skip nP rfl) ?_
        try simp only [Act.put, sA, sZ, sS]
        refine Ps.st (i := 5) (d := some 26) (u := undef) rfl rfl (by  exact StepS.skip nP rfl) ?_
        try simp only [Act.put, sA, sZ, sS]
        refine Ps.st (i := 6) (d := some 27) (u := undef) rfl rfl (by  exact StepS.skip nP rfl) ?_
        try simp only [Act.put, sA, sZ, sS]
        refine Ps.st (i := 7) (d := some 28) (u := undef) rfl rfl (by  exact StepS.skip nP rfl) ?_
        try simp only [Act.put, sA, sZ, sS]
        refine Ps.st (i := 8) (d := some 29) (u := undef) rfl rfl (by  exact StepS.skip nP rfl) ?_
        try simp only [Act.put, sA, sZ, sS]
        refine Ps.st (i := 9) (d := some 30) (u := undef) rfl rfl (by  exact StepS.skip nP rfl) ?_
        try simp only [Act.put, sA, sZ, sS]
        refine Ps.st (i := 10) (d := some 31) (u := undef) rfl rfl (by  exact StepS.skip nP rfl) ?_
        try simp only [Act.put, sA, sZ, sS]
        refine Ps.st (i := 11) (d := some 32) (u := undef) rfl rfl (by  exact StepS.skip nP rfl) ?_
        try simp only [Act.put, sA, sZ, sS]
        refine Ps.st (i := 12) (d := some 33) (u := (.bool (false))) rfl rfl (by exact StepS.pure nP rfl fun _ => rfl) ?_
        try simp only [Act.put, sA, sZ, sS]
        refine Ps.st (i := 13) (d := some 2) (u := (.int .u64 (9223372036854775807))) rfl rfl (by exact StepS.pure nP rfl fun _ => rfl) ?_
        try simp only [Act.put, sA, sZ, sS]
        refine Ps.st (i := 14) (d := some 3) (u := (.bool (false))) rfl rfl (by exact StepS.pure nP rfl fun _ => rfl) ?_
        try simp only [Act.put, sA, sZ, sS]
        refine Ps.done (by kernel_rfl) (fun wg21 hS => ?_) _
        have HW2 := Lib.hid (show Below w2.heap.size w2 wg21 from hS)
        clear hS
        obtain ⟨w3, rfl⟩ : ∃ x, x = wg21 := ⟨_, rfl⟩
        go_wp2
        go_ret2
        exact ⟨NumE.no HF.out, bl_ca HQ2.out HW2.out⟩
end Go.Proofs.YtnpicnddcoaboaaGreatDoor
