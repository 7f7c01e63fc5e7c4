/- The reference's Right, digits, Written. Conditions: texts of at most 1000 bytes. -/
import Derived.Test.YtnpicnddcoaboaaGreatDoorLxR5
namespace Go.Proofs.YtnpicnddcoaboaaGreatDoor
open Go.RowKit
theorem contains_signs (l : List UInt8) : Lib.containsS rsignsL (bS l) = decide (l ∈ signsU) := by
  have key : ∀ s ∈ signsU, Lib.containsS rsignsL (bS s) = true := by decide
  have e : ∀ x : List UInt8, bS l = bS x → l = x := fun x h => by have h9 := congrArg (fun s => s.data.toList) h; exact h9
  rw [Bool.eq_iff_iff, decide_eq_true_eq]
  refine ⟨fun h => ?_, fun h => key l h⟩
  have h := (Lib.containsS_iff _ _).1 h
  simp only [rsignsL, List.mem_cons, List.not_mem_nil, or_false] at h
  rcases h with h | h | h | h | h | h | h | h | h | h | h | h | h | h
  all_goals
    rw [e _ h]
    decide
theorem bS_empty {l : List UInt8} : (bS l).toList.isEmpty = decide (l = []) := by
  rw [ByteArray.toList_eq]
  cases l <;> rfl
set_option maxRecDepth 100000 in
set_option maxHeartbeats 8000000 in
theorem rright_any (k a : Int) (l : List UInt8) (n : Nat) (w : World) (hl : l.length ≤ 1000) (hn : n < 18446744073709551616) : Calls Tryz.prog 9 #[.agg #[.int .i64 k, .int .i64 a, .string (bS l), .int .u64 (n : Int)]] w fun e w' => e = .returned (.bool (rightU ⟨k, a, l, n⟩)) ∧ Below w.heap.size w w' := by
  have HR := Lib.hid (show rightU ⟨k, a, l, n⟩ = (decide (0 ≤ a) && (if k = 3 then decide (l = []) && decide (n < 9223372036854775808) else decide (n = 0) && (if k = 1 then isWordB (bS l) else if k = 2 then nameB (bS l) else if k = 4 then plainU l else if k = 5 then decide (l ∈ signsU) else false))) from rfl)
  generalize rightU ⟨k, a, l, n⟩ = r at *
  have HQ := Lib.hid (bl_al (Below.refl w.heap.size w) (.cells #[.int .i64 k, .int .i64 a, .string (bS l), .int .u64 (n : Int)] 29))
  have HB := Lib.hid (Blk.new w 29 #[.int .i64 k, .int .i64 a, .string (bS l), .int .u64 (n : Int)])
  have HE := Lib.hid (bS_empty (l := l))
  have HSZ := Lib.hid (show (bS l).size ≤ 1000 from by rw [← len_data]; exact hl)
  have HDT := Lib.hid (show (bS l).data.toList = l from rfl)
  obtain ⟨S, hS⟩ : ∃ S, S = bS l := ⟨_, rfl⟩
  rw [← hS] at HR HQ HB HE HSZ HDT ⊢
  clear hS
  by_cases ha : a < 0
  · have HF := Lib.hid (show r = false from by rw [HR.out, decide_eq_false (by omega)]; rfl)
    go_enter Tryz.func9, Tryz.ntmps9
    go_wp2
    go_ret
    exact ⟨ret_bool HF.out.symm, HQ.out⟩
  have ha' : 0 ≤ a := by omega
  have HR1 := Lib.hid (show r = (if k = 3 then decide (l = []) && decide (n < 9223372036854775808) else decide (n = 0) && (if k = 1 then isWordB S else if k = 2 then nameB S else if k = 4 then plainU l else if k = 5 then decide (l ∈ signsU) else false)) from by rw [HR.out, decide_eq_true ha']; rfl)
  clear ha HR
  by_cases h3 : k = 3
  · subst h3
    have HR2 := Lib.hid (show r = (decide (l = []) && decide (n < 9223372036854775808)) from by rw [HR1.out]; rfl)
    clear HR1
    have hz0 : 0 ≤ (n : Int) := by omega
    have hz1 : (n : Int) ≤ 18446744073709551615 := by omega
    have HZ := Lib.hid (show n < 9223372036854775808 ↔ (n : Int) ≤ 9223372036854775807 from by omega)
    obtain ⟨z, hz⟩ : ∃ z, z = (n : Int) := ⟨_, rfl⟩
    rw [← hz] at HQ HB HZ hz0 hz1 ⊢
    clear hz
    by_cases hl0 : l = []
    · have he : S.toList.isEmpty = true := by rw [HE.out, decide_eq_true hl0]
      have HF := Lib.hid (show r = decide (z ≤ 9223372036854775807) from by rw [HR2.out, decide_eq_true hl0, Bool.true_and]; exact decide_eq_decide.2 HZ.out)
      clear hl0
      go_enter Tryz.func9, Tryz.ntmps9
      go_wp2
      go_ret
      exact ⟨ret_bool HF.out.symm, HQ.out⟩
    · have he : S.toList.isEmpty = false := by rw [HE.out, decide_eq_false hl0]
      have HF := Lib.hid (show r = false from by rw [HR2.out, decide_eq_false hl0]; rfl)
      clear hl0
      go_enter Tryz.func9, Tryz.ntmps9
      go_wp2
      go_ret
      exact ⟨ret_bool HF.out.symm, HQ.out⟩
  have HR2 := Lib.hid (show r = (decide (n = 0) && (if k = 1 then isWordB S else if k = 2 then nameB S else if k = 4 then plainU l else if k = 5 then decide (l ∈ signsU) else false)) from by rw [HR1.out, if_neg h3])
  have k3 : (k == 3) = false := by simpa using h3
  have k3' : (k != 3) = true := by simpa using h3
  clear HR1 h3
  by_cases hn0 : n = 0
  case neg =>
    have HF := Lib.hid (show r = false from by rw [HR2.out, decide_eq_false hn0]; rfl)
    have n1 : ((n : Int) == 0) = false := by simp; omega
    have n2 : ((n : Int) != 0) = true := by simp; omega
    clear hn0
    obtain ⟨z, hz⟩ : ∃ z, z = (n : Int) := ⟨_, rfl⟩
    rw [← hz] at HQ HB n1 n2 ⊢
    clear hz
    go_enter Tryz.func9, Tryz.ntmps9
    go_wp2
    go_ret
    exact ⟨ret_bool HF.out.symm, HQ.out⟩
  subst hn0
  have HR3 := Lib.hid (show r = (if k = 1 then isWordB S else if k = 2 then nameB S else if k = 4 then plainU l else if k = 5 then decide (l ∈ signsU) else false) from by rw [HR2.out]; rfl)
  clear HR2
  by_cases h1 : k = 1
  · subst h1
    have HF := Lib.hid (show r = isWordB S from by rw [HR3.out]; rfl)
    clear HR3 k3 k3'
    go_enter Tryz.func9, Tryz.ntmps9
    go_wp2_with fail
    refine (risword_any S _).mono ?_
    rintro e w2 ⟨rfl, q2⟩
    go_wp2
    go_ret
    exact ⟨ret_bool HF.out.symm, bl_ca HQ.out q2⟩
  have k1 : (k == 1) = false := by simpa using h1
  by_cases h2 : k = 2
  · subst h2
    have HF := Lib.hid (show r = nameB S from by rw [HR3.out]; rfl)
    clear HR3 k3 k3' k1 h1
    have hss := HSZ.out
    go_enter Tryz.func9, Tryz.ntmps9
    go_wp2_with fail
    refine (risname_any S _ (by omega)).mono ?_
    rintro e w2 ⟨rfl, q2⟩
    go_wp2
    go_ret
    exact ⟨ret_bool HF.out.symm, bl_ca HQ.out q2⟩
  have k2 : (k == 2) = false := by simpa using h2
  by_cases h4 : k = 4
  · subst h4
    have HF := Lib.hid (show r = plainU S.data.toList from by rw [HR3.out, HDT.out]; rfl)
    clear HR3 k3 k3' k1 k2 h1 h2
    have hss := HSZ.out
    go_enter Tryz.func9, Tryz.ntmps9
    go_wp2_with fail
    refine (rplain_any S _ (by omega)).mono ?_
    rintro e w2 ⟨rfl, rfl⟩
    go_wp2
    go_ret
    exact ⟨ret_bool HF.out.symm, HQ.out⟩
  have k4 : (k == 4) = false := by simpa using h4
  by_cases h5 : k = 5
  · subst h5
    have HF := Lib.hid (show r = Lib.containsS rsignsL S from by rw [HR3.out, show S = bS l from by rw [← HDT.out], contains_signs]; rfl)
    clear HR3 k3 k3' k1 k2 k4 h1 h2 h4
    go_enter Tryz.func9, Tryz.ntmps9
    go_upto_region 13 with fail
    generalize w.alloc (.cells #[.int .i64 5, .int .i64 a, .string S, .int .u64 0] 29) = w1 at *
    refine wp_region_ps (S := Seq2 0 3 (fun w' => Below w1.heap.size w1 w') (SgV w1) (fun _ w' => Below w1.heap.size w1 w')) (by kernel_rfl) ?spswg1 ?ppswg1
    case spswg1 =>
      exact Seq2.start (by decide) (by decide) (Below.refl _ _).drew
    refine Ps.st (i := 1) (d := some 46) (u := (.pointer (some ⟨w.heap.size, 2, none⟩))) rfl rfl (by exact StepS.pure (Seq2.pass (by decide) (by decide)) rfl fun _ => rfl) ?_
    try simp only [Act.put, sA, sZ, sS]
    refine Ps.st (i := 2) (d := some 47) (u := (.string S)) rfl rfl ?ywg1_3 ?rwg1_3
    case ywg1_3 =>
      refine StepS.read [] (by kernel_rfl) (Seq2.pass (by decide) (by decide)) (by rfl) (fun L9 m9 w9 hSh hAt hDn hS => ?_)
      have hT : Below w1.heap.size w1 w9 := Seq2.early (T := fun w9 => Below w1.heap.size w1 w9) (fun _ h => h) (fun _ _ h => h.2) (reach_no hSh (f := 6) (j := 3) (by kernel_rfl) hDn) hS
      have x0 : w9.cell? ⟨w.heap.size, 2, none⟩ = some (.string S) := (HB.out.ca hT).cell 2
      clear hT hS
      go_simp
      try rfl
    try simp only [Act.put, sA, sZ, sS]
    refine Ps.one (k := 0) (d := some 45) rfl rfl (by kernel_rfl) (TurnS.call (V := fun v => ∃ g : Nat, v = .slice (some ⟨g, 0, none⟩) 14 14) ?fwg1_4 ?awg1_4 [] (by kernel_rfl) (by rfl) (fun w9 => ?hwg1_4) (fun L9 m9 w9 hSh hAt hDn hS => ?cwg1_4)) (fun v6 hVv6 => ?rwg1_4)
    case hwg1_4 => go_simp; refine ⟨?_, ?_⟩ <;> rfl
    case cwg1_4 =>
      have d12 : Dn L9 3 = false := reach_no hSh (f := 6) (j := 3) (by kernel_rfl) hDn
      have hT : Below w1.heap.size w1 w9 := Seq2.turn hDn d12 hS
      refine (rsigns_any w9).mono ?_
      rintro e w8 ⟨rfl, hr, q8⟩
      exact ⟨_, rfl, ⟨_, rfl⟩, Seq2.called (by decide) d12 (SgV.mk hr (bl_ca hT q8))⟩
    try simp only [Act.put, sA, sZ, sS]
    obtain ⟨gS, rfl⟩ := hVv6
    refine Ps.st (i := 3) (d := some 48) (u := (.bool (Lib.containsS rsignsL S))) rfl rfl ?ywg1_5 ?rwg1_5
    case ywg1_5 =>
      refine StepS.call ?fwg1_5 ?awg1_5 [0] (by kernel_rfl) (by rfl) (fun w9 => ?hwg1_5) (fun L9 m9 w9 hSh hAt hDn hS => ?cwg1_5)
      case hwg1_5 => go_simp; refine ⟨?_, ?_⟩ <;> rfl
      case cwg1_5 =>
        have hX0 := Seq2.got hAt hDn hS
        have hX : SgV w1 (.slice (some ⟨gS, 0, none⟩) 14 14) w9 := hX0
        refine (has_any AllB _ 14 14 rsignsL _ w9 (hX.1 gS rfl) (by omega)).mono ?_
        rintro e w8 ⟨rfl, rfl⟩
        exact ⟨rfl, Seq2.stored (by decide) hAt hX.2⟩
    try simp only [Act.put, sA, sZ, sS]
    refine Ps.st (i := 4) (d := some 2) (u := (.bool (Lib.containsS rsignsL S))) rfl rfl (by exact StepS.pure (Seq2.pass (by decide) (by decide)) rfl fun _ => rfl) ?_
    try simp only [Act.put, sA, sZ, sS]
    refine Ps.done (by kernel_rfl) (fun wg1 hS => ?_) _
    have HW2 := Lib.hid (show Below w1.heap.size w1 wg1 from Seq2.fin (by rfl) hS)
    clear hS
    obtain ⟨w2, rfl⟩ : ∃ x, x = wg1 := ⟨_, rfl⟩
    go_wp2
    go_ret
    exact ⟨ret_bool HF.out.symm, bl_ca HQ.out HW2.out⟩
  have k5 : (k == 5) = false := by simpa using h5
  have HF := Lib.hid (show r = false from by rw [HR3.out, if_neg h1, if_neg h2, if_neg h4, if_neg h5])
  clear HR3 h1 h2 h4 h5
  go_enter Tryz.func9, Tryz.ntmps9
  go_wp2
  go_ret
  exact ⟨ret_bool HF.out.symm, HQ.out⟩
end Go.Proofs.YtnpicnddcoaboaaGreatDoor
