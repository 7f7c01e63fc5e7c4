/- bowspritref24.Same. Conditions: the slices read as these parcels. -/
import Derived.Test.YtnbcffnhgijmcaaRFind
namespace Go.Proofs.Ytnbcffnhgijmcaa
open Go.RowKit
theorem cell_ca {w w' : World} {p : Addr} {v : Value} (h : w.cell? p = some v) (hl : p.block < w.heap.size) (q : Below w.heap.size w w') : w'.cell? p = some v := (cell_of_heap (q.block p.block hl)).trans h
set_option maxRecDepth 100000 in
set_option maxHeartbeats 8000000 in
theorem rsame_any (s : Int) (A : Option Addr) (m c : Nat) (ps : List PC) (t : Int) (B : Option Addr) (l d : Nat) (qs : List PC) (w : World) (h : LP.rd w AllB A m ps) (k : LP.rd w AllB B l qs) (hm : m ≤ 9223372036854775807) :
    Calls Try.prog 15 #[.agg #[.int .u64 s, .slice A m c], .agg #[.int .u64 t, .slice B l d]] w fun e w' => e = .returned (.bool (decide (s = t ∧ ps = qs))) ∧ Below w.heap.size w w' := by
  have HL := Lib.hid h.1
  have HK := Lib.hid k.1
  obtain ⟨r, hr⟩ : ∃ r, r = decide (s = t ∧ ps = qs) := ⟨_, rfl⟩
  rw [← hr]
  have HR := Lib.hid hr
  clear hr
  have bb := Below.refl w.heap.size w
  have bN := Blk.new w 26 #[.int .u64 s, .slice A m c]
  replace bb := bl_al bb (.cells #[.int .u64 s, .slice A m c] 26)
  replace bN := bN.ca (bl_al (Below.refl _ _) (.cells #[.int .u64 t, .slice B l d] 26))
  have bM : Blk ((w.alloc (.cells #[.int .u64 s, .slice A m c] 26)).alloc (.cells #[.int .u64 t, .slice B l d] 26)) (w.heap.size + 1) 26 #[.int .u64 t, .slice B l d] := Blk.mk' (by simp only [World.size_alloc])
  replace bb := bl_al bb (.cells #[.int .u64 t, .slice B l d] 26)
  have hsz : w.heap.size + 2 ≤ ((w.alloc (.cells #[.int .u64 s, .slice A m c] 26)).alloc (.cells #[.int .u64 t, .slice B l d] 26)).heap.size := by simp only [World.size_alloc]; omega
  have n0 : ((w.alloc (.cells #[.int .u64 s, .slice A m c] 26)).alloc (.cells #[.int .u64 t, .slice B l d] 26)).cell? ⟨w.heap.size, 0, none⟩ = some (.int .u64 s) := bN.cell 0
  have n1 : ((w.alloc (.cells #[.int .u64 s, .slice A m c] 26)).alloc (.cells #[.int .u64 t, .slice B l d] 26)).cell? ⟨w.heap.size, 1, none⟩ = some (.slice A m c) := bN.cell 1
  have n2 : ((w.alloc (.cells #[.int .u64 s, .slice A m c] 26)).alloc (.cells #[.int .u64 t, .slice B l d] 26)).cell? ⟨w.heap.size + 1, 0, none⟩ = some (.int .u64 t) := bM.cell 0
  have n3 : ((w.alloc (.cells #[.int .u64 s, .slice A m c] 26)).alloc (.cells #[.int .u64 t, .slice B l d] 26)).cell? ⟨w.heap.size + 1, 1, none⟩ = some (.slice B l d) := bM.cell 1
  have HBB := Lib.hid bb
  by_cases hst : s = t
  case neg =>
    have d1 : (s != t) = true := by simpa using hst
    clear h k bN bM bb
    go_enter Try.func15, Try.ntmps15
    go_wp2
    go_ret
    exact ⟨ret_bool (by rw [HR.out, decide_eq_false (fun e => hst e.1)]), HBB.out⟩
  have d1 : (s != t) = false := by simpa using hst
  have HST := Lib.hid hst
  clear hst
  by_cases hml : m = l
  case neg =>
    have d2 : ((m : Int) != (l : Int)) = true := by simp; omega
    have HML := Lib.hid hml
    clear hml
    clear h k bN bM bb
    go_enter Try.func15, Try.ntmps15
    go_wp2
    go_ret
    exact ⟨ret_bool (by rw [HR.out, decide_eq_false (fun e => HML.out (by rw [← HL.out, ← HK.out, e.2]))]), HBB.out⟩
  subst hml
  have d2 : ((m : Int) != (m : Int)) = false := by simp
  go_enter Try.func15, Try.ntmps15
  go_wp2_with fail
  clear n0 n1 n2 n3 d1 d2 hsz HBB
  generalize ((w.alloc (.cells #[.int .u64 s, .slice A m c] 26)).alloc (.cells #[.int .u64 t, .slice B m d] 26)) = w1 at *
  go_loopg [23] m (fun g a wr => ∃ i : Nat, i + g = m ∧ a = .int .i64 i ∧ ps.take i = qs.take i ∧ Blk wr w.heap.size 26 #[.int .u64 s, .slice A m c] ∧ Blk wr (w.heap.size + 1) 26 #[.int .u64 t, .slice B m d] ∧ Below w.heap.size w wr)
  case atStart => exact ⟨0, by omega, rfl, rfl, bN, bM, bb⟩
  case round =>
    clear bb bN bM
    obtain ⟨i, hig, rfl, heq, bN, bM, bb⟩ := hrel
    have HE := Lib.hid heq
    have HBB := Lib.hid bb
    have HN := Lib.hid bN
    have HM := Lib.hid bM
    clear heq bN bM
    by_cases hlt : i < m
    · have hi1 : (i : Int) < (m : Int) := by omega
      obtain ⟨p, q, B', n', c', rfl, hx, s1⟩ := LP_at (Lay.rd_below h bb) hlt
      obtain ⟨p2, q2, B2, n2, c2, rfl, hx2, s2⟩ := LP_at (Lay.rd_below k bb) hlt
      have e0 := s1.c0
      have e1 := s1.c1
      have e2 := s1.c2
      have e3 := s1.c3
      have e4 := s1.c4
      have el := s1.lt
      have f0 := s2.c0
      have f1 := s2.c1
      have f2 := s2.c2
      have f3 := s2.c3
      have f4 := s2.c4
      have fl := s2.lt
      have HRB := Lib.hid s1.rb
      have HRB2 := Lib.hid s2.rb
      have HX := Lib.hid hx
      have HX2 := Lib.hid hx2
      clear hx hx2 s1 s2 bb
      go_wp2_with fail
      refine wp_region_ps (S := fun _ _ w' => Below wr.heap.size wr w') (by kernel_rfl) ?spswq ?ppswq
      case spswq =>
        exact (Below.refl _ _).drew
      refine Ps.step (i := 0) (d := some 26) (u := ?uwq_1) rfl rfl (by kernel_rfl) (by kernel_rfl) (by kernel_rfl) (by kernel_rfl) ?ywq_1 ?rwq_1
      case ywq_1 =>
        refine StepS.pure (fun _ _ _ h => h) (by rfl) (fun w9 => ?_)
        go_simp
        try rfl
      try simp only [Act.put, List.setIfInBounds_toArray, List.set_cons_zero, List.set_cons_succ]
      refine Ps.step (i := 1) (d := some 27) (u := ?uwq_2) rfl rfl (by kernel_rfl) (by kernel_rfl) (by kernel_rfl) (by kernel_rfl) ?ywq_2 ?rwq_2
      case ywq_2 =>
        refine StepS.read [] (by kernel_rfl) (fun _ _ _ h => h) (by rfl) (fun L9 m9 w9 hSh hAt hDn hS => ?_)
        have hT : Below wr.heap.size wr w9 := hS
        have n1 : w9.cell? ⟨w.heap.size, 1, none⟩ = some (.slice (some p) m c) := (HN.out.ca hT).cell 1
        go_simp
        try rfl
      try simp only [Act.put, List.setIfInBounds_toArray, List.set_cons_zero, List.set_cons_succ]
      refine Ps.step (i := 2) (d := some 28) (u := ?uwq_3) rfl rfl (by kernel_rfl) (by kernel_rfl) (by kernel_rfl) (by kernel_rfl) ?ywq_3 ?rwq_3
      case ywq_3 =>
        refine StepS.pure (fun _ _ _ h => h) (by rfl) (fun w9 => ?_)
        go_simp
        try rfl
      try simp only [Act.put, List.setIfInBounds_toArray, List.set_cons_zero, List.set_cons_succ]
      refine Ps.step (i := 3) (d := some 29) (u := ?uwq_4) rfl rfl (by kernel_rfl) (by kernel_rfl) (by kernel_rfl) (by kernel_rfl) ?ywq_4 ?rwq_4
      case ywq_4 =>
        refine StepS.pure (fun _ _ _ h => h) (by rfl) (fun w9 => ?_)
        go_simp
        try rfl
      try simp only [Act.put, List.setIfInBounds_toArray, List.set_cons_zero, List.set_cons_succ]
      refine Ps.step (i := 4) (d := some 30) (u := ?uwq_5) rfl rfl (by kernel_rfl) (by kernel_rfl) (by kernel_rfl) (by kernel_rfl) ?ywq_5 ?rwq_5
      case ywq_5 =>
        refine StepS.read [] (by kernel_rfl) (fun _ _ _ h => h) (by rfl) (fun L9 m9 w9 hSh hAt hDn hS => ?_)
        have hT : Below wr.heap.size wr w9 := hS
        have ke0 : w9.cell? (p.add (i * 5)) = some (.int .u64 q.num) := cell_ca e0 el hT
        have ke1 : w9.cell? ⟨(p.add (i * 5)).block, (p.add (i * 5)).off + 1, none⟩ = some (.int .i64 q.frm) := cell_ca e1 el hT
        have ke2 : w9.cell? ⟨(p.add (i * 5)).block, (p.add (i * 5)).off + 2, none⟩ = some (.int .i64 q.to) := cell_ca e2 el hT
        have ke3 : w9.cell? ⟨(p.add (i * 5)).block, (p.add (i * 5)).off + 3, none⟩ = some (.slice B' n' c') := cell_ca e3 el hT
        have ke4 : w9.cell? ⟨(p.add (i * 5)).block, (p.add (i * 5)).off + 4, none⟩ = some (.bool q.sp) := cell_ca e4 el hT
        go_simp
        try rfl
      try simp only [Act.put, List.setIfInBounds_toArray, List.set_cons_zero, List.set_cons_succ]
      refine Ps.step (i := 5) (d := some 31) (u := ?uwq_6) rfl rfl (by kernel_rfl) (by kernel_rfl) (by kernel_rfl) (by kernel_rfl) ?ywq_6 ?rwq_6
      case ywq_6 =>
        refine StepS.pure (fun _ _ _ h => h) (by rfl) (fun w9 => ?_)
        go_simp
        try rfl
      try simp only [Act.put, List.setIfInBounds_toArray, List.set_cons_zero, List.set_cons_succ]
      refine Ps.step (i := 6) (d := some 32) (u := ?uwq_7) rfl rfl (by kernel_rfl) (by kernel_rfl) (by kernel_rfl) (by kernel_rfl) ?ywq_7 ?rwq_7
      case ywq_7 =>
        refine StepS.read [] (by kernel_rfl) (fun _ _ _ h => h) (by rfl) (fun L9 m9 w9 hSh hAt hDn hS => ?_)
        have hT : Below wr.heap.size wr w9 := hS
        have n1 : w9.cell? ⟨w.heap.size + 1, 1, none⟩ = some (.slice (some p2) m d) := (HM.out.ca hT).cell 1
        go_simp
        try rfl
      try simp only [Act.put, List.setIfInBounds_toArray, List.set_cons_zero, List.set_cons_succ]
      refine Ps.step (i := 7) (d := some 33) (u := ?uwq_8) rfl rfl (by kernel_rfl) (by kernel_rfl) (by kernel_rfl) (by kernel_rfl) ?ywq_8 ?rwq_8
      case ywq_8 =>
        refine StepS.pure (fun _ _ _ h => h) (by rfl) (fun w9 => ?_)
        go_simp
        try rfl
      try simp only [Act.put, List.setIfInBounds_toArray, List.set_cons_zero, List.set_cons_succ]
      refine Ps.step (i := 8) (d := some 34) (u := ?uwq_9) rfl rfl (by kernel_rfl) (by kernel_rfl) (by kernel_rfl) (by kernel_rfl) ?ywq_9 ?rwq_9
      case ywq_9 =>
        refine StepS.pure (fun _ _ _ h => h) (by rfl) (fun w9 => ?_)
        go_simp
        try rfl
      try simp only [Act.put, List.setIfInBounds_toArray, List.set_cons_zero, List.set_cons_succ]
      refine Ps.step (i := 9) (d := some 35) (u := ?uwq_10) rfl rfl (by kernel_rfl) (by kernel_rfl) (by kernel_rfl) (by kernel_rfl) ?ywq_10 ?rwq_10
      case ywq_10 =>
        refine StepS.read [] (by kernel_rfl) (fun _ _ _ h => h) (by rfl) (fun L9 m9 w9 hSh hAt hDn hS => ?_)
        have hT : Below wr.heap.size wr w9 := hS
        have kf0 : w9.cell? (p2.add (i * 5)) = some (.int .u64 q2.num) := cell_ca f0 fl hT
        have kf1 : w9.cell? ⟨(p2.add (i * 5)).block, (p2.add (i * 5)).off + 1, none⟩ = some (.int .i64 q2.frm) := cell_ca f1 fl hT
        have kf2 : w9.cell? ⟨(p2.add (i * 5)).block, (p2.add (i * 5)).off + 2, none⟩ = some (.int .i64 q2.to) := cell_ca f2 fl hT
        have kf3 : w9.cell? ⟨(p2.add (i * 5)).block, (p2.add (i * 5)).off + 3, none⟩ = some (.slice B2 n2 c2) := cell_ca f3 fl hT
        have kf4 : w9.cell? ⟨(p2.add (i * 5)).block, (p2.add (i * 5)).off + 4, none⟩ = some (.bool q2.sp) := cell_ca f4 fl hT
        go_simp
        try rfl
      try simp only [Act.put, List.setIfInBounds_toArray, List.set_cons_zero, List.set_cons_succ]
      refine Ps.step (i := 10) (d := some 36) (u := (.bool (sameP q q2))) rfl rfl (by kernel_rfl) (by kernel_rfl) (by kernel_rfl) (by kernel_rfl) ?ywq_11 ?rwq_11
      case ywq_11 =>
        refine StepS.call ?fwq_11 ?awq_11 [] (by kernel_rfl) (by rfl) (fun w9 => ?hwq_11) (fun L9 m9 w9 hSh hAt hDn hS => ?cwq_11)
        case hwq_11 => go_simp; refine ⟨?_, ?_⟩ <;> rfl
        case cwq_11 =>
          have hT : Below wr.heap.size wr w9 := hS
          exact (rsamep_any q q2 B' n' c' B2 n2 c2 w9 (HRB.out.below hT) (HRB2.out.below hT)).mono fun _ _ ⟨h1, h2⟩ => ⟨h1, bl_ca hT h2⟩
      try simp only [Act.put, List.setIfInBounds_toArray, List.set_cons_zero, List.set_cons_succ]
      refine Ps.step (i := 11) (d := some 37) (u := ?uwq_12) rfl rfl (by kernel_rfl) (by kernel_rfl) (by kernel_rfl) (by kernel_rfl) ?ywq_12 ?rwq_12
      case ywq_12 =>
        refine StepS.pure (fun _ _ _ h => h) (by rfl) (fun w9 => ?_)
        go_simp
        try rfl
      try simp only [Act.put, List.setIfInBounds_toArray, List.set_cons_zero, List.set_cons_succ]
      refine Ps.done (by kernel_rfl) (fun wq hS => ?_) _
      have T1 := Lib.hid (show Below wr.heap.size wr wq from hS)
      clear hS
      cases hq : sameP q q2
      · have HF := Lib.hid (show decide (s = t ∧ ps = qs) = false from decide_eq_false (fun e => by
          have h1 := HX.out
          rw [e.2, HX2.out] at h1
          injection h1 with h1
          rw [sameP_iff.2 h1.symm] at hq
          cases hq))
        clear hq
        go_wp2
        go_ret
        exact ⟨ret_bool (by rw [HR.out, HF.out]), bl_ca HBB.out T1.out⟩
      · have HF := Lib.hid (show ps.take (i + 1) = qs.take (i + 1) from by
          rw [List.take_add_one, List.take_add_one, HE.out, HX.out, HX2.out, sameP_iff.1 hq])
        clear hq
        go_wp2
        go_roundg (gk - 1)
        · exact ⟨i + 1, by omega, by go_num, HF.out, HN.out.ca T1.out, HM.out.ca T1.out, bl_ca HBB.out T1.out⟩
        · omega
    · obtain rfl : i = m := by omega
      have hi1 : (i : Int) ≤ (i : Int) := by omega
      clear bb
      go_wp2
      go_ret
      exact ⟨ret_bool (by rw [HR.out, decide_eq_true ⟨HST.out, by have h1 := HE.out; rwa [List.take_of_length_le (by rw [HL.out]; exact Nat.le_refl _), List.take_of_length_le (by rw [HK.out]; exact Nat.le_refl _)] at h1⟩]), HBB.out⟩
end Go.Proofs.Ytnbcffnhgijmcaa
