/- What counts of a node. Conditions: what the tables hold. -/
import Derived.Test.YtoaggmldekejoaaDoorAsW1
import Derived.Test.YtoaggmldekejoaaDoorGs
import Derived.Test.YtoaggmldekejoaaDoorApp
namespace Go.Proofs.YtoaggmldekejoaaDoor
open Go.RowKit
theorem plainV_eq (k n u : Int) (s : ByteArray) : plainV k n u s = plainB k n u s := by
  unfold plainV plainB rightB
  rw [toList_data]
  by_cases h0 : k = 0
  · subst h0; simp
  · rw [if_neg h0, if_neg h0]
    by_cases h1 : k = 1
    · subst h1; simp
    · rw [if_neg h1, if_neg h1]
      by_cases h2 : k = 2
      · subst h2; simp
      · rw [if_neg h2, if_neg h2]
        by_cases h3 : k = 3
        · subst h3; simp
        · rw [if_neg h3, Bool.eq_iff_iff]
          simp only [decide_eq_true_eq, Bool.and_eq_true, bne_iff_ne]
          omega
def zvB (p : Py) : Bool := decide (p.k = 0 ∧ p.n = 0 ∧ p.u = 0 ∧ p.s.data.toList = [])
theorem run_eqZ (k n u : Int) (s : ByteArray) : ∀ W, (Op.equalIn 10000 25 (.agg #[.int .i64 k, .int .i64 n, .int .u64 u, .string s]) (.agg #[.int .i64 0, .int .i64 0, .int .u64 0, .string ⟨#[]⟩])).run Tryd.prog W = .ok (decide (k = 0 ∧ n = 0 ∧ u = 0 ∧ s.data.toList = [])) W := by
  intro W
  rw [run_equalIn_agg W 9999 _ _ _ (by kernel_rfl) (by kernel_rfl)]
  have e : (s.toList = (⟨#[]⟩ : ByteArray).toList) ↔ s.data.toList = [] := by rw [toList_data, toList_data]
  go_simp
  by_cases h1 : k = 0 <;> by_cases h2 : n = 0 <;> by_cases h3 : u = 0 <;> by_cases h4 : s.data.toList = [] <;> simp_all [toList_data]
theorem eB_eq : (eB.toList == (⟨#[]⟩ : ByteArray).toList) = true := beq_self_eq_true _
theorem ne_list {s : ByteArray} (h : s.data.toList ≠ []) : (s.toList == (⟨#[]⟩ : ByteArray).toList) = false := by
  rw [toList_data, toList_data]
  cases hs : s.data.toList with
  | nil => exact absurd hs h
  | cons b r => rfl
set_option maxRecDepth 100000 in
set_option maxHeartbeats 8000000 in
theorem counts_any (p : Py) (l r : Int) (w : World) (hT : Tab w) (h1 : p.s.size ≤ 9223372036854775807) (h2 : p.tb.size ≤ 9223372036854775807) (h3 : p.nm.size ≤ 9223372036854775807) :
    Calls Tryd.prog 32 #[.agg (Nd.cells ⟨p, l, r⟩)] w fun e w' => e = .returned (.bool (cntB p)) ∧ Below w.heap.size w w' := by
  have HC := Lib.hid (show cntB p = if p.tag = 1 then decide (p.tb.data.toList = []) && (decide (p.nm.data.toList = []) && (plainV p.k p.n p.u p.s && (decide (0 ≤ p.n) && p.s.data.toList.all plU))) else if p.tag = 2 then zvB p && (nameB p.nm && (decide (p.tb.data.toList = []) || nameB p.tb)) else zvB p && (decide (p.tb.data.toList = []) && decide (p.nm.data.toList = [])) from rfl)
  have HZ := Lib.hid (show ∀ W, (Op.equalIn 10000 25 (.agg #[.int .i64 p.k, .int .i64 p.n, .int .u64 p.u, .string p.s]) (.agg #[.int .i64 0, .int .i64 0, .int .u64 0, .string ⟨#[]⟩])).run Tryd.prog W = .ok (zvB p) W from run_eqZ p.k p.n p.u p.s)
  obtain ⟨t, k, n, u, s, tb, nm⟩ := p
  generalize cntB ⟨t, k, n, u, s, tb, nm⟩ = res at *
  generalize zvB ⟨t, k, n, u, s, tb, nm⟩ = zv at *
  simp only at HC HZ h1 h2 h3 ⊢
  rw [plainV_eq] at HC
  have HQ := Lib.hid (bl_al (Below.refl w.heap.size w) (.cells (Nd.cells ⟨⟨t, k, n, u, s, tb, nm⟩, l, r⟩) 27))
  have HB := Lib.hid (Blk.new w 27 (Nd.cells ⟨⟨t, k, n, u, s, tb, nm⟩, l, r⟩))
  have HT := Lib.hid (hT.below HQ.out)
  have HS := Lib.hid (And.intro h1 (And.intro h2 h3))
  clear hT h1 h2 h3
  go_enter Tryd.func32, Tryd.ntmps32
  go_upto_region 1 with fail
  generalize w.alloc (.cells #[.int .i64 t, .int .i64 l, .int .i64 r, .int .i64 k, .int .i64 n, .int .u64 u, .string s, .string tb, .string nm] 27) = w1 at *
  by_cases htb : tb.data.toList = []
  case neg =>
    have etb := ne_list htb
    refine wp_region_ps (S := fun _ _ w' => Below w1.heap.size w1 w') (by kernel_rfl) ?spswg1 ?ppswg1
    case spswg1 =>
      exact (Below.refl w1.heap.size w1).drew
    refine Ps.st (i := 0) (d := some 5) (u := (.pointer (some ⟨w.heap.size, 7, none⟩))) rfl rfl (by exact StepS.pure nP rfl fun _ => rfl) ?_
    try simp only [Act.put, sA, sZ, sS]
    refine Ps.st (i := 1) (d := some 6) (u := (.string tb)) rfl rfl ?ywg1_3 ?rwg1_3
    case ywg1_3 =>
      refine StepS.read [] (by kernel_rfl) nP (by rfl) (fun L9 m9 w9 hSh hAt hDn hS => ?_)
      have hT : Below _ _ w9 := hS
      have x0 : w9.cell? ⟨w.heap.size, 7, none⟩ = some (.string tb) := (HB.out.ca hT).cell 7
      clear hT hS
      go_simp
      try rfl
    try simp only [Act.put, sA, sZ, sS]
    refine Ps.st (i := 2) (d := some 7) (u := (.bool (true))) rfl rfl ?ywg1_4 ?rwg1_4
    case ywg1_4 =>
      refine StepS.pure nP (by rfl) (fun w9 => ?_)
      refine Eq.trans ?_ (congrArg (fun b => Result.ok (Next.value (Value.bool b)) w9) (show (!(tb.toList == (⟨#[]⟩ : ByteArray).toList)) = true from by rw [etb]; rfl))
      first | rfl | (go_simp; done) | (go_simp; rfl)
    try simp only [Act.put, sA, sZ, sS]
    refine Ps.st (i := 3) (d := some 8) (u := (.bool (true))) rfl rfl (by exact StepS.pure nP rfl fun _ => rfl) ?_
    try simp only [Act.put, sA, sZ, sS]
    refine Ps.st (i := 4) (d := some 9) (u := undef) rfl rfl (by  exact StepS.skip nP rfl) ?_
    try simp only [Act.put, sA, sZ, sS]
    refine Ps.st (i := 5) (d := some 10) (u := undef) rfl rfl (by  exact StepS.skip nP rfl) ?_
    try simp only [Act.put, sA, sZ, sS]
    refine Ps.st (i := 6) (d := some 11) (u := undef) rfl rfl (by  exact StepS.skip nP rfl) ?_
    try simp only [Act.put, sA, sZ, sS]
    refine Ps.st (i := 7) (d := some 12) (u := (.bool (true))) rfl rfl (by exact StepS.pure nP rfl fun _ => rfl) ?_
    try simp only [Act.put, sA, sZ, sS]
    refine Ps.st (i := 8) (d := some 13) (u := (.pointer (some ⟨w.heap.size, 3, none⟩))) rfl rfl (by exact StepS.pure nP rfl fun _ => rfl) ?_
    try simp only [Act.put, sA, sZ, sS]
    refine Ps.st (i := 9) (d := some 14) (u := (.agg #[.int .i64 (k), .int .i64 (n), .int .u64 (u), .string s])) rfl rfl ?ywg1_11 ?rwg1_11
    case ywg1_11 =>
      refine StepS.read [] (by kernel_rfl) nP (by rfl) (fun L9 m9 w9 hSh hAt hDn hS => ?_)
      have hT : Below _ _ w9 := hS
      have x0 : w9.cell? ⟨w.heap.size, 3, none⟩ = some (.int .i64 (k)) := (HB.out.ca hT).cell 3
      have x1 : w9.cell? ⟨w.heap.size, 4, none⟩ = some (.int .i64 (n)) := (HB.out.ca hT).cell 4
      have x2 : w9.cell? ⟨w.heap.size, 5, none⟩ = some (.int .u64 (u)) := (HB.out.ca hT).cell 5
      have x3 : w9.cell? ⟨w.heap.size, 6, none⟩ = some (.string s) := (HB.out.ca hT).cell 6
      clear hT hS
      go_simp
      try rfl
    try simp only [Act.put, sA, sZ, sS]
    refine Ps.st (i := 10) (d := some 15) (u := (.agg #[.int .i64 (0), .int .i64 (0), .int .u64 (0), .string ⟨#[]⟩])) rfl rfl (by exact StepS.pure nP rfl fun _ => by first | rfl | (go_simp; done) | (go_simp; rfl)) ?_
    try simp only [Act.put, sA, sZ, sS]
    refine Ps.st (i := 11) (d := some 16) (u := (.bool (!zv))) rfl rfl ?ywg1_13 ?rwg1_13
    case ywg1_13 =>
      refine StepS.pure nP (by rfl) (fun w9 => ?_)
      have heq := HZ.out
      first | rfl | (go_simp; done) | (go_simp; rfl)
    try simp only [Act.put, sA, sZ, sS]
    refine Ps.st (i := 12) (d := some 3) (u := (.bool (true))) rfl rfl (by exact StepS.pure nP rfl fun _ => rfl) ?_
    try simp only [Act.put, sA, sZ, sS]
    refine Ps.st (i := 13) (d := some 4) (u := (.bool (!zv))) rfl rfl (by exact StepS.pure nP rfl fun _ => rfl) ?_
    try simp only [Act.put, sA, sZ, sS]
    refine Ps.done (by kernel_rfl) (fun wg1 hS => ?_) _
    have HW2 := Lib.hid (show Below w1.heap.size w1 wg1 from hS)
    clear hS
    obtain ⟨w2, rfl⟩ : ∃ x, x = wg1 := ⟨_, rfl⟩
    clear etb
    have HTB := Lib.hid htb
    clear htb
    have HQ2 := Lib.hid (bl_ca HQ.out HW2.out)
    have HT2 := Lib.hid (HT.out.below HW2.out)
    have HB2 := Lib.hid (HB.out.ca HW2.out)
    have x0 := HB2.out.cell 0
    have x3 := HB2.out.cell 3
    have x4 := HB2.out.cell 4
    have x5 := HB2.out.cell 5
    have x6 := HB2.out.cell 6
    have x7 := HB2.out.cell 7
    have x8 := HB2.out.cell 8
    simp at x0 x3 x4 x5 x6 x7 x8
    by_cases t1 : t = 1
    · subst t1
      have HF := Lib.hid (show res = false from by rw [HC.out, if_pos rfl]; rw [decide_eq_false HTB.out]; rfl)
      clear HC
      go_wp2
      go_ret
      exact ⟨ret_bool HF.out.symm, HQ2.out⟩
    have g1 : (t == 1) = false := by simpa using t1
    by_cases t2 : t = 2
    · subst t2
      have HF := Lib.hid (show res = (zv && (nameB nm && (decide (tb.data.toList = []) || nameB tb))) from by rw [HC.out, if_neg t1, if_pos rfl])
      clear HC g1 t1
      cases zv
      · go_wp2
        go_ret
        exact ⟨ret_bool (by rw [HF.out]; rfl), HQ2.out⟩
      · go_wp2_with fail
        refine (isname_any nm _ HT2.out HS.out.2.2).mono ?_
        rintro e w3 ⟨rfl, q3⟩
        have HQ3 := Lib.hid (bl_ca HQ2.out q3)
        have HT3 := Lib.hid (HT2.out.below q3)
        have y7 := (HB2.out.ca q3).cell 7
        simp at y7
        clear q3 x0 x3 x4 x5 x6 x7 x8
        cases hnn : nameB nm
        · have HF2 := Lib.hid (show res = false from by rw [HF.out, hnn]; rfl)
          clear hnn
          go_wp2
          go_ret
          exact ⟨ret_bool HF2.out.symm, HQ3.out⟩
        · have HF2 := Lib.hid (show res = mayB tb from by rw [HF.out, hnn]; rfl)
          clear hnn
          go_wp2_with fail
          refine (maybe_any tb _ HT3.out HS.out.2.1).mono ?_
          rintro e w4 ⟨rfl, q4⟩
          have HQ4 := Lib.hid (bl_ca HQ3.out q4)
          clear q4
          go_wp2
          go_ret
          exact ⟨ret_bool HF2.out.symm, HQ4.out⟩
    have g2 : (t == 2) = false := by simpa using t2
    have HF := Lib.hid (show res = (zv && false) from by rw [HC.out, if_neg t1, if_neg t2]; rw [decide_eq_false HTB.out]; rfl)
    clear HC t1 t2
    cases zv
    · go_wp2
      go_ret
      exact ⟨ret_bool (by rw [HF.out]; rfl), HQ2.out⟩
    · go_wp2
      go_ret
      exact ⟨ret_bool (by rw [HF.out]; rfl), HQ2.out⟩
  case pos =>
  have htb2 := ba_e htb
  by_cases hnm : nm.data.toList = []
  case neg =>
    have enm := ne_list hnm
    refine wp_region_ps (S := fun _ _ w' => Below w1.heap.size w1 w') (by kernel_rfl) ?spswg16 ?ppswg16
    case spswg16 =>
      exact (Below.refl w1.heap.size w1).drew
    refine Ps.st (i := 0) (d := some 5) (u := (.pointer (some ⟨w.heap.size, 7, none⟩))) rfl rfl (by exact StepS.pure nP rfl fun _ => rfl) ?_
    try simp only [Act.put, sA, sZ, sS]
    refine Ps.st (i := 1) (d := some 6) (u := (.string tb)) rfl rfl ?ywg16_18 ?rwg16_18
    case ywg16_18 =>
      refine StepS.read [] (by kernel_rfl) nP (by rfl) (fun L9 m9 w9 hSh hAt hDn hS => ?_)
      have hT : Below _ _ w9 := hS
      have x0 : w9.cell? ⟨w.heap.size, 7, none⟩ = some (.string tb) := (HB.out.ca hT).cell 7
      clear hT hS
      go_simp
      try rfl
    try simp only [Act.put, sA, sZ, sS]
    refine Ps.st (i := 2) (d := some 7) (u := (.bool (false))) rfl rfl ?ywg16_19 ?rwg16_19
    case ywg16_19 =>
      refine StepS.pure nP (by rfl) (fun w9 => ?_)
      refine Eq.trans ?_ (congrArg (fun b => Result.ok (Next.value (Value.bool b)) w9) (show (!(tb.toList == (⟨#[]⟩ : ByteArray).toList)) = false from by rw [htb2, eB_eq]; rfl))
      first | rfl | (go_simp; done) | (go_simp; rfl)
    try simp only [Act.put, sA, sZ, sS]
    refine Ps.st (i := 3) (d := some 8) (u := (.bool (false))) rfl rfl (by exact StepS.pure nP rfl fun _ => rfl) ?_
    try simp only [Act.put, sA, sZ, sS]
    refine Ps.st (i := 4) (d := some 9) (u := (.pointer (some ⟨w.heap.size, 8, none⟩))) rfl rfl (by exact StepS.pure nP rfl fun _ => rfl) ?_
    try simp only [Act.put, sA, sZ, sS]
    refine Ps.st (i := 5) (d := some 10) (u := (.string nm)) rfl rfl ?ywg16_22 ?rwg16_22
    case ywg16_22 =>
      refine StepS.read [] (by kernel_rfl) nP (by rfl) (fun L9 m9 w9 hSh hAt hDn hS => ?_)
      have hT : Below _ _ w9 := hS
      have x0 : w9.cell? ⟨w.heap.size, 8, none⟩ = some (.string nm) := (HB.out.ca hT).cell 8
      clear hT hS
      go_simp
      try rfl
    try simp only [Act.put, sA, sZ, sS]
    refine Ps.st (i := 6) (d := some 11) (u := (.bool (true))) rfl rfl ?ywg16_23 ?rwg16_23
    case ywg16_23 =>
      refine StepS.pure nP (by rfl) (fun w9 => ?_)
      refine Eq.trans ?_ (congrArg (fun b => Result.ok (Next.value (Value.bool b)) w9) (show (!(nm.toList == (⟨#[]⟩ : ByteArray).toList)) = true from by rw [enm]; rfl))
      first | rfl | (go_simp; done) | (go_simp; rfl)
    try simp only [Act.put, sA, sZ, sS]
    refine Ps.st (i := 7) (d := some 12) (u := (.bool (true))) rfl rfl (by exact StepS.pure nP rfl fun _ => rfl) ?_
    try simp only [Act.put, sA, sZ, sS]
    refine Ps.st (i := 8) (d := some 13) (u := (.pointer (some ⟨w.heap.size, 3, none⟩))) rfl rfl (by exact StepS.pure nP rfl fun _ => rfl) ?_
    try simp only [Act.put, sA, sZ, sS]
    refine Ps.st (i := 9) (d := some 14) (u := (.agg #[.int .i64 (k), .int .i64 (n), .int .u64 (u), .string s])) rfl rfl ?ywg16_26 ?rwg16_26
    case ywg16_26 =>
      refine StepS.read [] (by kernel_rfl) nP (by rfl) (fun L9 m9 w9 hSh hAt hDn hS => ?_)
      have hT : Below _ _ w9 := hS
      have x0 : w9.cell? ⟨w.heap.size, 3, none⟩ = some (.int .i64 (k)) := (HB.out.ca hT).cell 3
      have x1 : w9.cell? ⟨w.heap.size, 4, none⟩ = some (.int .i64 (n)) := (HB.out.ca hT).cell 4
      have x2 : w9.cell? ⟨w.heap.size, 5, none⟩ = some (.int .u64 (u)) := (HB.out.ca hT).cell 5
      have x3 : w9.cell? ⟨w.heap.size, 6, none⟩ = some (.string s) := (HB.out.ca hT).cell 6
      clear hT hS
      go_simp
      try rfl
    try simp only [Act.put, sA, sZ, sS]
    refine Ps.st (i := 10) (d := some 15) (u := (.agg #[.int .i64 (0), .int .i64 (0), .int .u64 (0), .string ⟨#[]⟩])) rfl rfl (by exact StepS.pure nP rfl fun _ => by first | rfl | (go_simp; done) | (go_simp; rfl)) ?_
    try simp only [Act.put, sA, sZ, sS]
    refine Ps.st (i := 11) (d := some 16) (u := (.bool (!zv))) rfl rfl ?ywg16_28 ?rwg16_28
    case ywg16_28 =>
      refine StepS.pure nP (by rfl) (fun w9 => ?_)
      have heq := HZ.out
      first | rfl | (go_simp; done) | (go_simp; rfl)
    try simp only [Act.put, sA, sZ, sS]
    refine Ps.st (i := 12) (d := some 3) (u := (.bool (true))) rfl rfl (by exact StepS.pure nP rfl fun _ => rfl) ?_
    try simp only [Act.put, sA, sZ, sS]
    refine Ps.st (i := 13) (d := some 4) (u := (.bool (!zv))) rfl rfl (by exact StepS.pure nP rfl fun _ => rfl) ?_
    try simp only [Act.put, sA, sZ, sS]
    refine Ps.done (by kernel_rfl) (fun wg16 hS => ?_) _
    have HW2 := Lib.hid (show Below w1.heap.size w1 wg16 from hS)
    clear hS
    obtain ⟨w2, rfl⟩ : ∃ x, x = wg16 := ⟨_, rfl⟩
    clear enm htb2
    have HTB := Lib.hid htb
    have HNM := Lib.hid hnm
    clear htb hnm
    have HQ2 := Lib.hid (bl_ca HQ.out HW2.out)
    have HT2 := Lib.hid (HT.out.below HW2.out)
    have HB2 := Lib.hid (HB.out.ca HW2.out)
    have x0 := HB2.out.cell 0
    have x3 := HB2.out.cell 3
    have x4 := HB2.out.cell 4
    have x5 := HB2.out.cell 5
    have x6 := HB2.out.cell 6
    have x7 := HB2.out.cell 7
    have x8 := HB2.out.cell 8
    simp at x0 x3 x4 x5 x6 x7 x8
    by_cases t1 : t = 1
    · subst t1
      have HF := Lib.hid (show res = false from by rw [HC.out, if_pos rfl]; rw [decide_eq_false HNM.out, Bool.false_and, Bool.and_false])
      clear HC
      go_wp2
      go_ret
      exact ⟨ret_bool HF.out.symm, HQ2.out⟩
    have g1 : (t == 1) = false := by simpa using t1
    by_cases t2 : t = 2
    · subst t2
      have HF := Lib.hid (show res = (zv && (nameB nm && (decide (tb.data.toList = []) || nameB tb))) from by rw [HC.out, if_neg t1, if_pos rfl])
      clear HC g1 t1
      cases zv
      · go_wp2
        go_ret
        exact ⟨ret_bool (by rw [HF.out]; rfl), HQ2.out⟩
      · go_wp2_with fail
        refine (isname_any nm _ HT2.out HS.out.2.2).mono ?_
        rintro e w3 ⟨rfl, q3⟩
        have HQ3 := Lib.hid (bl_ca HQ2.out q3)
        have HT3 := Lib.hid (HT2.out.below q3)
        have y7 := (HB2.out.ca q3).cell 7
        simp at y7
        clear q3 x0 x3 x4 x5 x6 x7 x8
        cases hnn : nameB nm
        · have HF2 := Lib.hid (show res = false from by rw [HF.out, hnn]; rfl)
          clear hnn
          go_wp2
          go_ret
          exact ⟨ret_bool HF2.out.symm, HQ3.out⟩
        · have HF2 := Lib.hid (show res = mayB tb from by rw [HF.out, hnn]; rfl)
          clear hnn
          go_wp2_with fail
          refine (maybe_any tb _ HT3.out HS.out.2.1).mono ?_
          rintro e w4 ⟨rfl, q4⟩
          have HQ4 := Lib.hid (bl_ca HQ3.out q4)
          clear q4
          go_wp2
          go_ret
          exact ⟨ret_bool HF2.out.symm, HQ4.out⟩
    have g2 : (t == 2) = false := by simpa using t2
    have HF := Lib.hid (show res = (zv && false) from by rw [HC.out, if_neg t1, if_neg t2]; rw [decide_eq_false HNM.out, Bool.and_false])
    clear HC t1 t2
    cases zv
    · go_wp2
      go_ret
      exact ⟨ret_bool (by rw [HF.out]; rfl), HQ2.out⟩
    · go_wp2
      go_ret
      exact ⟨ret_bool (by rw [HF.out]; rfl), HQ2.out⟩
  case pos =>
    have hnm2 := ba_e hnm
    refine wp_region_ps (S := fun _ _ w' => Below w1.heap.size w1 w') (by kernel_rfl) ?spswg31 ?ppswg31
    case spswg31 =>
      exact (Below.refl w1.heap.size w1).drew
    refine Ps.st (i := 0) (d := some 5) (u := (.pointer (some ⟨w.heap.size, 7, none⟩))) rfl rfl (by exact StepS.pure nP rfl fun _ => rfl) ?_
    try simp only [Act.put, sA, sZ, sS]
    refine Ps.st (i := 1) (d := some 6) (u := (.string tb)) rfl rfl ?ywg31_33 ?rwg31_33
    case ywg31_33 =>
      refine StepS.read [] (by kernel_rfl) nP (by rfl) (fun L9 m9 w9 hSh hAt hDn hS => ?_)
      have hT : Below _ _ w9 := hS
      have x0 : w9.cell? ⟨w.heap.size, 7, none⟩ = some (.string tb) := (HB.out.ca hT).cell 7
      clear hT hS
      go_simp
      try rfl
    try simp only [Act.put, sA, sZ, sS]
    refine Ps.st (i := 2) (d := some 7) (u := (.bool (false))) rfl rfl ?ywg31_34 ?rwg31_34
    case ywg31_34 =>
      refine StepS.pure nP (by rfl) (fun w9 => ?_)
      refine Eq.trans ?_ (congrArg (fun b => Result.ok (Next.value (Value.bool b)) w9) (show (!(tb.toList == (⟨#[]⟩ : ByteArray).toList)) = false from by rw [htb2, eB_eq]; rfl))
      first | rfl | (go_simp; done) | (go_simp; rfl)
    try simp only [Act.put, sA, sZ, sS]
    refine Ps.st (i := 3) (d := some 8) (u := (.bool (false))) rfl rfl (by exact StepS.pure nP rfl fun _ => rfl) ?_
    try simp only [Act.put, sA, sZ, sS]
    refine Ps.st (i := 4) (d := some 9) (u := (.pointer (some ⟨w.heap.size, 8, none⟩))) rfl rfl (by exact StepS.pure nP rfl fun _ => rfl) ?_
    try simp only [Act.put, sA, sZ, sS]
    refine Ps.st (i := 5) (d := some 10) (u := (.string nm)) rfl rfl ?ywg31_37 ?rwg31_37
    case ywg31_37 =>
      refine StepS.read [] (by kernel_rfl) nP (by rfl) (fun L9 m9 w9 hSh hAt hDn hS => ?_)
      have hT : Below _ _ w9 := hS
      have x0 : w9.cell? ⟨w.heap.size, 8, none⟩ = some (.string nm) := (HB.out.ca hT).cell 8
      clear hT hS
      go_simp
      try rfl
    try simp only [Act.put, sA, sZ, sS]
    refine Ps.st (i := 6) (d := some 11) (u := (.bool (false))) rfl rfl ?ywg31_38 ?rwg31_38
    case ywg31_38 =>
      refine StepS.pure nP (by rfl) (fun w9 => ?_)
      refine Eq.trans ?_ (congrArg (fun b => Result.ok (Next.value (Value.bool b)) w9) (show (!(nm.toList == (⟨#[]⟩ : ByteArray).toList)) = false from by rw [hnm2, eB_eq]; rfl))
      first | rfl | (go_simp; done) | (go_simp; rfl)
    try simp only [Act.put, sA, sZ, sS]
    refine Ps.st (i := 7) (d := some 12) (u := (.bool (false))) rfl rfl (by exact StepS.pure nP rfl fun _ => rfl) ?_
    try simp only [Act.put, sA, sZ, sS]
    refine Ps.st (i := 8) (d := some 13) (u := (.pointer (some ⟨w.heap.size, 3, none⟩))) rfl rfl (by exact StepS.pure nP rfl fun _ => rfl) ?_
    try simp only [Act.put, sA, sZ, sS]
    refine Ps.st (i := 9) (d := some 14) (u := (.agg #[.int .i64 (k), .int .i64 (n), .int .u64 (u), .string s])) rfl rfl ?ywg31_41 ?rwg31_41
    case ywg31_41 =>
      refine StepS.read [] (by kernel_rfl) nP (by rfl) (fun L9 m9 w9 hSh hAt hDn hS => ?_)
      have hT : Below _ _ w9 := hS
      have x0 : w9.cell? ⟨w.heap.size, 3, none⟩ = some (.int .i64 (k)) := (HB.out.ca hT).cell 3
      have x1 : w9.cell? ⟨w.heap.size, 4, none⟩ = some (.int .i64 (n)) := (HB.out.ca hT).cell 4
      have x2 : w9.cell? ⟨w.heap.size, 5, none⟩ = some (.int .u64 (u)) := (HB.out.ca hT).cell 5
      have x3 : w9.cell? ⟨w.heap.size, 6, none⟩ = some (.string s) := (HB.out.ca hT).cell 6
      clear hT hS
      go_simp
      try rfl
    try simp only [Act.put, sA, sZ, sS]
    refine Ps.st (i := 10) (d := some 15) (u := (.agg #[.int .i64 (0), .int .i64 (0), .int .u64 (0), .string ⟨#[]⟩])) rfl rfl (by exact StepS.pure nP rfl fun _ => by first | rfl | (go_simp; done) | (go_simp; rfl)) ?_
    try simp only [Act.put, sA, sZ, sS]
    refine Ps.st (i := 11) (d := some 16) (u := (.bool (!zv))) rfl rfl ?ywg31_43 ?rwg31_43
    case ywg31_43 =>
      refine StepS.pure nP (by rfl) (fun w9 => ?_)
      have heq := HZ.out
      first | rfl | (go_simp; done) | (go_simp; rfl)
    try simp only [Act.put, sA, sZ, sS]
    refine Ps.st (i := 12) (d := some 3) (u := (.bool (false))) rfl rfl (by exact StepS.pure nP rfl fun _ => rfl) ?_
    try simp only [Act.put, sA, sZ, sS]
    refine Ps.st (i := 13) (d := some 4) (u := (.bool (!zv))) rfl rfl (by exact StepS.pure nP rfl fun _ => rfl) ?_
    try simp only [Act.put, sA, sZ, sS]
    refine Ps.done (by kernel_rfl) (fun wg31 hS => ?_) _
    have HW2 := Lib.hid (show Below w1.heap.size w1 wg31 from hS)
    clear hS
    obtain ⟨w2, rfl⟩ : ∃ x, x = wg31 := ⟨_, rfl⟩
    clear htb2 hnm2
    have HTB := Lib.hid htb
    have HNM := Lib.hid hnm
    clear htb hnm
    have HQ2 := Lib.hid (bl_ca HQ.out HW2.out)
    have HT2 := Lib.hid (HT.out.below HW2.out)
    have HB2 := Lib.hid (HB.out.ca HW2.out)
    have x0 := HB2.out.cell 0
    have x3 := HB2.out.cell 3
    have x4 := HB2.out.cell 4
    have x5 := HB2.out.cell 5
    have x6 := HB2.out.cell 6
    have x7 := HB2.out.cell 7
    have x8 := HB2.out.cell 8
    simp at x0 x3 x4 x5 x6 x7 x8
    by_cases t1 : t = 1
    · subst t1
      have HF := Lib.hid (show res = (plainB k n u s && (decide (0 ≤ n) && wriB s)) from by rw [HC.out, if_pos rfl, decide_eq_true HTB.out, decide_eq_true HNM.out]; rfl)
      clear HC
      go_wp2_with fail
      refine (plain_any k n u s _).mono ?_
      rintro e w3 ⟨rfl, q3⟩
      have HQ3 := Lib.hid (bl_ca HQ2.out q3)
      have y4 := (HB2.out.ca q3).cell 4
      have y6 := (HB2.out.ca q3).cell 6
      simp at y4 y6
      clear q3 x0 x3 x4 x5 x6 x7 x8
      cases hpp : plainB k n u s
      · have HF2 := Lib.hid (show res = false from by rw [HF.out, hpp]; rfl)
        clear hpp
        go_wp2
        go_ret
        exact ⟨ret_bool HF2.out.symm, HQ3.out⟩
      · by_cases hn0 : 0 ≤ n
        · have HF2 := Lib.hid (show res = wriB s from by rw [HF.out, hpp, decide_eq_true hn0]; rfl)
          clear hpp
          go_wp2_with fail
          refine (written_any s _ HS.out.1).mono ?_
          rintro e w4 ⟨rfl, q4⟩
          have HQ4 := Lib.hid (bl_ca HQ3.out q4)
          clear q4
          go_wp2
          go_ret
          exact ⟨ret_bool HF2.out.symm, HQ4.out⟩
        · have HF2 := Lib.hid (show res = false from by rw [HF.out, hpp, decide_eq_false hn0]; rfl)
          have hn1 : n < 0 := by omega
          clear hpp hn0
          go_wp2
          go_ret
          exact ⟨ret_bool HF2.out.symm, HQ3.out⟩
    have g1 : (t == 1) = false := by simpa using t1
    by_cases t2 : t = 2
    · subst t2
      have HF := Lib.hid (show res = (zv && (nameB nm && (decide (tb.data.toList = []) || nameB tb))) from by rw [HC.out, if_neg t1, if_pos rfl])
      clear HC g1 t1
      cases zv
      · go_wp2
        go_ret
        exact ⟨ret_bool (by rw [HF.out]; rfl), HQ2.out⟩
      · go_wp2_with fail
        refine (isname_any nm _ HT2.out HS.out.2.2).mono ?_
        rintro e w3 ⟨rfl, q3⟩
        have HQ3 := Lib.hid (bl_ca HQ2.out q3)
        have HT3 := Lib.hid (HT2.out.below q3)
        have y7 := (HB2.out.ca q3).cell 7
        simp at y7
        clear q3 x0 x3 x4 x5 x6 x7 x8
        cases hnn : nameB nm
        · have HF2 := Lib.hid (show res = false from by rw [HF.out, hnn]; rfl)
          clear hnn
          go_wp2
          go_ret
          exact ⟨ret_bool HF2.out.symm, HQ3.out⟩
        · have HF2 := Lib.hid (show res = mayB tb from by rw [HF.out, hnn]; rfl)
          clear hnn
          go_wp2_with fail
          refine (maybe_any tb _ HT3.out HS.out.2.1).mono ?_
          rintro e w4 ⟨rfl, q4⟩
          have HQ4 := Lib.hid (bl_ca HQ3.out q4)
          clear q4
          go_wp2
          go_ret
          exact ⟨ret_bool HF2.out.symm, HQ4.out⟩
    have g2 : (t == 2) = false := by simpa using t2
    have HF := Lib.hid (show res = (zv && true) from by rw [HC.out, if_neg t1, if_neg t2]; rw [decide_eq_true HTB.out, decide_eq_true HNM.out]; rfl)
    clear HC t1 t2
    cases zv
    · go_wp2
      go_ret
      exact ⟨ret_bool (by rw [HF.out]; rfl), HQ2.out⟩
    · go_wp2
      go_ret
      exact ⟨ret_bool (by rw [HF.out]; rfl), HQ2.out⟩
end Go.Proofs.YtoaggmldekejoaaDoor
