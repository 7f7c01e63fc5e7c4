/- The layer's Check. Conditions: texts of at most 1000 bytes; what the tables hold. -/
import Derived.Test.YtnpicnddcoaboaaGreatDoorLxG9
import Derived.Test.YtnpicnddcoaboaaGreatDoorLxG6
namespace Go.Proofs.YtnpicnddcoaboaaGreatDoor
open Go.RowKit
def chkE (b : Bool) : Int := if b then 0 else 171
theorem ret_chk {b : Bool} {x : Int} (h : x = chkE b) : Ending.returned (.int .i64 x) = Ending.returned (.int .i64 (chkE b)) := by rw [h]
theorem signs_list (l : List UInt8) : Lib.containsS ((signsU.map bS).take 14) (bS l) = decide (l ∈ signsU) := by
  rw [Bool.eq_iff_iff, Lib.containsS_iff, decide_eq_true_eq, List.take_of_length_le (by decide)]
  constructor
  · intro h
    obtain ⟨x, hx, e⟩ := List.mem_map.1 h
    have h9 := congrArg (fun s => s.data.toList) e
    have h8 : x = l := h9
    rw [← h8]; exact hx
  · intro h; exact List.mem_map.2 ⟨l, h, rfl⟩
theorem Tab.sgD {w : World} (h : Tab w) : ∀ j, j < (signsU.map bS).length → w.cell? ⟨0, 0 + j, none⟩ = some (.string ((signsU.map bS).getD j ByteArray.empty)) := fun j hj => by
  rw [Nat.zero_add, h.sg j (signsU.getD j []) (by rw [List.length_map] at hj; rw [List.getD_eq_getElem?_getD, List.getElem?_eq_getElem hj]; rfl)]
  rw [List.getD_eq_getElem?_getD, List.getD_eq_getElem?_getD, List.getElem?_map]
  rw [List.length_map] at hj
  rw [List.getElem?_eq_getElem hj]
  rfl
theorem signs_any (l : List UInt8) (w : World) (hT : Tab w) : Calls Tryz.prog 47 #[.slice (some ⟨0, 0, none⟩) 14 14, .string (bS l)] w fun e w' => e = .returned (.bool (decide (l ∈ signsU))) ∧ w = w' :=
  (Tryz.slices_Contains_string 0 0 14 14 (signsU.map bS) (bS l) w (by decide) (by decide) hT.sgD).mono fun e w' ⟨h1, h2⟩ => ⟨by rw [h1, signs_list], h2.symm⟩
set_option maxRecDepth 100000 in
set_option maxHeartbeats 8000000 in
theorem lcheck_k1 (a : Int) (l : List UInt8) (n : Nat) (w : World) (hl : l.length ≤ 1000) (_hn : n < 18446744073709551616) (hT : Tab w) : Calls Tryz.prog 22 #[.agg #[.int .i64 1, .int .i64 a, .string (bS l), .int .u64 (n : Int)]] w fun e w' => e = .returned (.int .i64 (chkE (rightU ⟨1, a, l, n⟩))) ∧ Below w.heap.size w w' := by
  have HR := Lib.hid (show rightU ⟨1, a, l, n⟩ = (decide (0 ≤ a) && (if (1 : Int) = 3 then decide (l = []) && decide (n < 9223372036854775808) else decide (n = 0) && (if (1 : Int) = 1 then isWordB (bS l) else if (1 : Int) = 2 then nameB (bS l) else if (1 : Int) = 4 then plainU l else if (1 : Int) = 5 then decide (l ∈ signsU) else false))) from rfl)
  obtain ⟨r, hr⟩ : ∃ r, r = rightU ⟨1, a, l, n⟩ := ⟨_, rfl⟩
  rw [← hr] at HR ⊢
  clear hr
  have HQ := Lib.hid (bl_al (Below.refl w.heap.size w) (.cells #[.int .i64 1, .int .i64 a, .string (bS l), .int .u64 (n : Int)] 29))
  have HTB := Lib.hid (hT.below HQ.out)
  have HE := Lib.hid (bS_empty (l := l))
  have HSZ := Lib.hid (show (bS l).size ≤ 1000 from by rw [← len_data]; exact hl)
  have HDT := Lib.hid (show (bS l).data.toList = l from rfl)
  have HSG := Lib.hid (fun w hT => signs_any l w hT)
  have HB := Lib.hid (Blk.new w 29 #[.int .i64 1, .int .i64 a, .string (bS l), .int .u64 (n : Int)])
  obtain ⟨S, hS⟩ : ∃ S, S = bS l := ⟨_, rfl⟩
  rw [← hS] at HR HQ HTB HE HSZ HDT HSG HB ⊢
  have HSL := Lib.hid hS
  clear hS hl hT
  have HR1 := Lib.hid (show r = (decide (0 ≤ a) && (decide (n = 0) && isWordB S)) from by rw [HR.out]; rfl)
  clear HR
  by_cases ha : a < 0
  · have HF := Lib.hid (show r = false from by rw [HR1.out, decide_eq_false (by omega)]; rfl)
    clear HR1
    go_enter Tryz.func22, Tryz.ntmps22
    go_wp2
    go_ret
    exact ⟨ret_chk (by rw [HF.out]; rfl), HQ.out⟩
  have ha' : 0 ≤ a := by omega
  have HR2 := Lib.hid (show r = (decide (n = 0) && isWordB S) from by rw [HR1.out, decide_eq_true ha']; rfl)
  clear ha HR1
  go_enter Tryz.func22, Tryz.ntmps22
  go_wp2_with fail
  refine (isword_any S _ HTB.out).mono ?_
  rintro e w2 ⟨rfl, rfl⟩
  have HQ2 := Lib.hid (HQ.out)
  have x3 := (HB.out).cell 3
  obtain ⟨q, hq⟩ : ∃ q, q = isWordB S := ⟨_, rfl⟩
  rw [← hq] at HR2 ⊢
  clear hq
  simp at x3
  cases q
  · have HF := Lib.hid (show r = false from by rw [HR2.out, Bool.and_false])
    go_wp2
    go_ret
    exact ⟨ret_chk (by rw [HF.out]; rfl), HQ2.out⟩
  · have HF := Lib.hid (show r = decide (n = 0) from by rw [HR2.out, Bool.and_true])
    clear HR2
    by_cases h0 : n = 0
    · have HF2 := Lib.hid (show r = true from by rw [HF.out, decide_eq_true h0])
      have n1 : ((n : Int) == 0) = true := by simp; omega
      have n2 : ((n : Int) != 0) = false := by simp; omega
      clear h0
      obtain ⟨z, hz⟩ : ∃ z, z = (n : Int) := ⟨_, rfl⟩
      rw [← hz] at n1 n2
      try rw [← hz] at x3
      try rw [← hz] at HQ2
      try rw [← hz]
      clear hz
      go_wp2
      go_ret
      exact ⟨ret_chk (by rw [HF2.out]; rfl), HQ2.out⟩
    · have HF2 := Lib.hid (show r = false from by rw [HF.out, decide_eq_false h0])
      have n1 : ((n : Int) == 0) = false := by simp; omega
      have n2 : ((n : Int) != 0) = true := by simp; omega
      clear h0
      obtain ⟨z, hz⟩ : ∃ z, z = (n : Int) := ⟨_, rfl⟩
      rw [← hz] at n1 n2
      try rw [← hz] at x3
      try rw [← hz] at HQ2
      try rw [← hz]
      clear hz
      go_wp2
      go_ret
      exact ⟨ret_chk (by rw [HF2.out]; rfl), HQ2.out⟩

set_option maxRecDepth 100000 in
set_option maxHeartbeats 8000000 in
theorem lcheck_k2 (a : Int) (l : List UInt8) (n : Nat) (w : World) (hl : l.length ≤ 1000) (_hn : n < 18446744073709551616) (hT : Tab w) : Calls Tryz.prog 22 #[.agg #[.int .i64 2, .int .i64 a, .string (bS l), .int .u64 (n : Int)]] w fun e w' => e = .returned (.int .i64 (chkE (rightU ⟨2, a, l, n⟩))) ∧ Below w.heap.size w w' := by
  have HR := Lib.hid (show rightU ⟨2, a, l, n⟩ = (decide (0 ≤ a) && (if (2 : Int) = 3 then decide (l = []) && decide (n < 9223372036854775808) else decide (n = 0) && (if (2 : Int) = 1 then isWordB (bS l) else if (2 : Int) = 2 then nameB (bS l) else if (2 : Int) = 4 then plainU l else if (2 : Int) = 5 then decide (l ∈ signsU) else false))) from rfl)
  obtain ⟨r, hr⟩ : ∃ r, r = rightU ⟨2, a, l, n⟩ := ⟨_, rfl⟩
  rw [← hr] at HR ⊢
  clear hr
  have HQ := Lib.hid (bl_al (Below.refl w.heap.size w) (.cells #[.int .i64 2, .int .i64 a, .string (bS l), .int .u64 (n : Int)] 29))
  have HTB := Lib.hid (hT.below HQ.out)
  have HE := Lib.hid (bS_empty (l := l))
  have HSZ := Lib.hid (show (bS l).size ≤ 1000 from by rw [← len_data]; exact hl)
  have HDT := Lib.hid (show (bS l).data.toList = l from rfl)
  have HSG := Lib.hid (fun w hT => signs_any l w hT)
  have HB := Lib.hid (Blk.new w 29 #[.int .i64 2, .int .i64 a, .string (bS l), .int .u64 (n : Int)])
  obtain ⟨S, hS⟩ : ∃ S, S = bS l := ⟨_, rfl⟩
  rw [← hS] at HR HQ HTB HE HSZ HDT HSG HB ⊢
  have HSL := Lib.hid hS
  clear hS hl hT
  have HR1 := Lib.hid (show r = (decide (0 ≤ a) && (decide (n = 0) && nameB S)) from by rw [HR.out]; rfl)
  clear HR
  by_cases ha : a < 0
  · have HF := Lib.hid (show r = false from by rw [HR1.out, decide_eq_false (by omega)]; rfl)
    clear HR1
    go_enter Tryz.func22, Tryz.ntmps22
    go_wp2
    go_ret
    exact ⟨ret_chk (by rw [HF.out]; rfl), HQ.out⟩
  have ha' : 0 ≤ a := by omega
  have HR2 := Lib.hid (show r = (decide (n = 0) && nameB S) from by rw [HR1.out, decide_eq_true ha']; rfl)
  clear ha HR1
  go_enter Tryz.func22, Tryz.ntmps22
  go_wp2_with fail
  refine (isname_any S _ HTB.out (by have := HSZ.out; omega)).mono ?_
  rintro e w2 ⟨rfl, q2⟩
  have HQ2 := Lib.hid (bl_ca HQ.out q2)
  have x3 := (HB.out.ca q2).cell 3
  obtain ⟨q, hq⟩ : ∃ q, q = nameB S := ⟨_, rfl⟩
  rw [← hq] at HR2 ⊢
  clear hq
  simp at x3
  cases q
  · have HF := Lib.hid (show r = false from by rw [HR2.out, Bool.and_false])
    go_wp2
    go_ret
    exact ⟨ret_chk (by rw [HF.out]; rfl), HQ2.out⟩
  · have HF := Lib.hid (show r = decide (n = 0) from by rw [HR2.out, Bool.and_true])
    clear HR2
    by_cases h0 : n = 0
    · have HF2 := Lib.hid (show r = true from by rw [HF.out, decide_eq_true h0])
      have n1 : ((n : Int) == 0) = true := by simp; omega
      have n2 : ((n : Int) != 0) = false := by simp; omega
      clear h0
      obtain ⟨z, hz⟩ : ∃ z, z = (n : Int) := ⟨_, rfl⟩
      rw [← hz] at n1 n2
      try rw [← hz] at x3
      try rw [← hz] at HQ2
      try rw [← hz]
      clear hz
      go_wp2
      go_ret
      exact ⟨ret_chk (by rw [HF2.out]; rfl), HQ2.out⟩
    · have HF2 := Lib.hid (show r = false from by rw [HF.out, decide_eq_false h0])
      have n1 : ((n : Int) == 0) = false := by simp; omega
      have n2 : ((n : Int) != 0) = true := by simp; omega
      clear h0
      obtain ⟨z, hz⟩ : ∃ z, z = (n : Int) := ⟨_, rfl⟩
      rw [← hz] at n1 n2
      try rw [← hz] at x3
      try rw [← hz] at HQ2
      try rw [← hz]
      clear hz
      go_wp2
      go_ret
      exact ⟨ret_chk (by rw [HF2.out]; rfl), HQ2.out⟩

set_option maxRecDepth 100000 in
set_option maxHeartbeats 8000000 in
theorem lcheck_k4 (a : Int) (l : List UInt8) (n : Nat) (w : World) (hl : l.length ≤ 1000) (_hn : n < 18446744073709551616) (hT : Tab w) : Calls Tryz.prog 22 #[.agg #[.int .i64 4, .int .i64 a, .string (bS l), .int .u64 (n : Int)]] w fun e w' => e = .returned (.int .i64 (chkE (rightU ⟨4, a, l, n⟩))) ∧ Below w.heap.size w w' := by
  have HR := Lib.hid (show rightU ⟨4, a, l, n⟩ = (decide (0 ≤ a) && (if (4 : Int) = 3 then decide (l = []) && decide (n < 9223372036854775808) else decide (n = 0) && (if (4 : Int) = 1 then isWordB (bS l) else if (4 : Int) = 2 then nameB (bS l) else if (4 : Int) = 4 then plainU l else if (4 : Int) = 5 then decide (l ∈ signsU) else false))) from rfl)
  obtain ⟨r, hr⟩ : ∃ r, r = rightU ⟨4, a, l, n⟩ := ⟨_, rfl⟩
  rw [← hr] at HR ⊢
  clear hr
  have HQ := Lib.hid (bl_al (Below.refl w.heap.size w) (.cells #[.int .i64 4, .int .i64 a, .string (bS l), .int .u64 (n : Int)] 29))
  have HTB := Lib.hid (hT.below HQ.out)
  have HE := Lib.hid (bS_empty (l := l))
  have HSZ := Lib.hid (show (bS l).size ≤ 1000 from by rw [← len_data]; exact hl)
  have HDT := Lib.hid (show (bS l).data.toList = l from rfl)
  have HSG := Lib.hid (fun w hT => signs_any l w hT)
  have HB := Lib.hid (Blk.new w 29 #[.int .i64 4, .int .i64 a, .string (bS l), .int .u64 (n : Int)])
  obtain ⟨S, hS⟩ : ∃ S, S = bS l := ⟨_, rfl⟩
  rw [← hS] at HR HQ HTB HE HSZ HDT HSG HB ⊢
  have HSL := Lib.hid hS
  clear hS hl hT
  have HR1 := Lib.hid (show r = (decide (0 ≤ a) && (decide (n = 0) && plainU S.data.toList)) from by rw [HR.out, HDT.out]; rfl)
  clear HR
  by_cases ha : a < 0
  · have HF := Lib.hid (show r = false from by rw [HR1.out, decide_eq_false (by omega)]; rfl)
    clear HR1
    go_enter Tryz.func22, Tryz.ntmps22
    go_wp2
    go_ret
    exact ⟨ret_chk (by rw [HF.out]; rfl), HQ.out⟩
  have ha' : 0 ≤ a := by omega
  have HR2 := Lib.hid (show r = (decide (n = 0) && plainU S.data.toList) from by rw [HR1.out, decide_eq_true ha']; rfl)
  clear ha HR1
  go_enter Tryz.func22, Tryz.ntmps22
  go_wp2_with fail
  refine (lplain_any S _ (by have := HSZ.out; omega)).mono ?_
  rintro e w2 ⟨rfl, q2⟩
  have HQ2 := Lib.hid (bl_ca HQ.out q2)
  have x3 := (HB.out.ca q2).cell 3
  obtain ⟨q, hq⟩ : ∃ q, q = plainU S.data.toList := ⟨_, rfl⟩
  rw [← hq] at HR2 ⊢
  clear hq
  simp at x3
  cases q
  · have HF := Lib.hid (show r = false from by rw [HR2.out, Bool.and_false])
    go_wp2
    go_ret
    exact ⟨ret_chk (by rw [HF.out]; rfl), HQ2.out⟩
  · have HF := Lib.hid (show r = decide (n = 0) from by rw [HR2.out, Bool.and_true])
    clear HR2
    by_cases h0 : n = 0
    · have HF2 := Lib.hid (show r = true from by rw [HF.out, decide_eq_true h0])
      have n1 : ((n : Int) == 0) = true := by simp; omega
      have n2 : ((n : Int) != 0) = false := by simp; omega
      clear h0
      obtain ⟨z, hz⟩ : ∃ z, z = (n : Int) := ⟨_, rfl⟩
      rw [← hz] at n1 n2
      try rw [← hz] at x3
      try rw [← hz] at HQ2
      try rw [← hz]
      clear hz
      go_wp2
      go_ret
      exact ⟨ret_chk (by rw [HF2.out]; rfl), HQ2.out⟩
    · have HF2 := Lib.hid (show r = false from by rw [HF.out, decide_eq_false h0])
      have n1 : ((n : Int) == 0) = false := by simp; omega
      have n2 : ((n : Int) != 0) = true := by simp; omega
      clear h0
      obtain ⟨z, hz⟩ : ∃ z, z = (n : Int) := ⟨_, rfl⟩
      rw [← hz] at n1 n2
      try rw [← hz] at x3
      try rw [← hz] at HQ2
      try rw [← hz]
      clear hz
      go_wp2
      go_ret
      exact ⟨ret_chk (by rw [HF2.out]; rfl), HQ2.out⟩

set_option maxRecDepth 100000 in
set_option maxHeartbeats 8000000 in
theorem lcheck_k5 (a : Int) (l : List UInt8) (n : Nat) (w : World) (hl : l.length ≤ 1000) (_hn : n < 18446744073709551616) (hT : Tab w) : Calls Tryz.prog 22 #[.agg #[.int .i64 5, .int .i64 a, .string (bS l), .int .u64 (n : Int)]] w fun e w' => e = .returned (.int .i64 (chkE (rightU ⟨5, a, l, n⟩))) ∧ Below w.heap.size w w' := by
  have HR := Lib.hid (show rightU ⟨5, a, l, n⟩ = (decide (0 ≤ a) && (if (5 : Int) = 3 then decide (l = []) && decide (n < 9223372036854775808) else decide (n = 0) && (if (5 : Int) = 1 then isWordB (bS l) else if (5 : Int) = 2 then nameB (bS l) else if (5 : Int) = 4 then plainU l else if (5 : Int) = 5 then decide (l ∈ signsU) else false))) from rfl)
  obtain ⟨r, hr⟩ : ∃ r, r = rightU ⟨5, a, l, n⟩ := ⟨_, rfl⟩
  rw [← hr] at HR ⊢
  clear hr
  have HQ := Lib.hid (bl_al (Below.refl w.heap.size w) (.cells #[.int .i64 5, .int .i64 a, .string (bS l), .int .u64 (n : Int)] 29))
  have HTB := Lib.hid (hT.below HQ.out)
  have HE := Lib.hid (bS_empty (l := l))
  have HSZ := Lib.hid (show (bS l).size ≤ 1000 from by rw [← len_data]; exact hl)
  have HDT := Lib.hid (show (bS l).data.toList = l from rfl)
  have HSG := Lib.hid (fun w hT => signs_any l w hT)
  have HB := Lib.hid (Blk.new w 29 #[.int .i64 5, .int .i64 a, .string (bS l), .int .u64 (n : Int)])
  obtain ⟨S, hS⟩ : ∃ S, S = bS l := ⟨_, rfl⟩
  rw [← hS] at HR HQ HTB HE HSZ HDT HSG HB ⊢
  have HSL := Lib.hid hS
  clear hS hl hT
  have HR1 := Lib.hid (show r = (decide (0 ≤ a) && (decide (n = 0) && decide (l ∈ signsU))) from by rw [HR.out]; rfl)
  clear HR
  by_cases ha : a < 0
  · have HF := Lib.hid (show r = false from by rw [HR1.out, decide_eq_false (by omega)]; rfl)
    clear HR1
    have hda : decide (0 ≤ a) = false := decide_eq_false (by omega)
    clear ha
    go_enter Tryz.func22, Tryz.ntmps22
    go_upto_region 14 with fail
    generalize w.alloc (.cells #[.int .i64 5, .int .i64 a, .string S, .int .u64 (n : Int)] 29) = w1 at *
    obtain ⟨q0, hq0⟩ : ∃ q0 : Bool, q0 = false := ⟨_, rfl⟩
    refine wp_region_ps (S := fun _ _ w' => Below w1.heap.size w1 w') (by kernel_rfl) ?spswg1 ?ppswg1
    case spswg1 =>
      exact (Below.refl w1.heap.size w1).drew
    refine Ps.st (i := 0) (d := some 49) (u := (.bool (false))) rfl rfl (by exact StepS.pure nP rfl fun _ => rfl) ?_
    try simp only [Act.put, sA, sZ, sS]
    refine Ps.st (i := 1) (d := some 50) (u := (.bool (false))) rfl rfl (by exact StepS.pure nP rfl fun _ => rfl) ?_
    try simp only [Act.put, sA, sZ, sS]
    refine Ps.st (i := 2) (d := some 51) (u := undef) rfl rfl (by  exact StepS.skip nP rfl) ?_
    try simp only [Act.put, sA, sZ, sS]
    refine Ps.st (i := 3) (d := some 52) (u := undef) rfl rfl (by  exact StepS.skip nP rfl) ?_
    try simp only [Act.put, sA, sZ, sS]
    refine Ps.st (i := 4) (d := some 53) (u := undef) rfl rfl (by  exact StepS.skip nP rfl) ?_
    try simp only [Act.put, sA, sZ, sS]
    refine Ps.st (i := 5) (d := some 54) (u := undef) rfl rfl (by  exact StepS.skip nP rfl) ?_
    try simp only [Act.put, sA, sZ, sS]
    refine Ps.st (i := 6) (d := some 55) (u := (.bool (false))) rfl rfl (by exact StepS.pure nP rfl fun _ => rfl) ?_
    try simp only [Act.put, sA, sZ, sS]
    refine Ps.st (i := 7) (d := some 3) (u := (.bool (false))) rfl rfl (by exact StepS.pure nP rfl fun _ => rfl) ?_
    try simp only [Act.put, sA, sZ, sS]
    refine Ps.done (by kernel_rfl) (fun wg1 hS => ?_) _
    have HW2 := Lib.hid (show Below w1.heap.size w1 wg1 from hS)
    clear hS
    obtain ⟨w2, rfl⟩ : ∃ x, x = wg1 := ⟨_, rfl⟩
    have x3 := (HB.out.ca HW2.out).cell 3
    clear hq0
    go_wp2
    go_ret
    exact ⟨ret_chk (by rw [HF.out]; rfl), bl_ca HQ.out HW2.out⟩
  have ha' : 0 ≤ a := by omega
  have HR2 := Lib.hid (show r = (decide (n = 0) && decide (l ∈ signsU)) from by rw [HR1.out, decide_eq_true ha']; rfl)
  clear ha HR1
  have hda : decide (0 ≤ a) = true := decide_eq_true ha'
  clear ha'
  go_enter Tryz.func22, Tryz.ntmps22
  go_upto_region 14 with fail
  generalize w.alloc (.cells #[.int .i64 5, .int .i64 a, .string S, .int .u64 (n : Int)] 29) = w1 at *
  refine wp_region_ps (S := fun _ _ w' => Below w1.heap.size w1 w') (by kernel_rfl) ?spswg10 ?ppswg10
  case spswg10 =>
    exact (Below.refl w1.heap.size w1).drew
  refine Ps.st (i := 0) (d := some 49) (u := (.bool (true))) rfl rfl (by exact StepS.pure nP rfl fun _ => rfl) ?_
  try simp only [Act.put, sA, sZ, sS]
  refine Ps.st (i := 1) (d := some 50) (u := (.bool (true))) rfl rfl (by exact StepS.pure nP rfl fun _ => rfl) ?_
  try simp only [Act.put, sA, sZ, sS]
  refine Ps.st (i := 2) (d := some 51) (u := (.slice (some ⟨0, 0, none⟩) 14 14)) rfl rfl (by exact StepS.pure nP rfl fun _ => by first | rfl | (go_simp; done) | (go_simp; rfl)) ?_
  try simp only [Act.put, sA, sZ, sS]
  refine Ps.st (i := 3) (d := some 52) (u := (.pointer (some ⟨w.heap.size, 2, none⟩))) rfl rfl (by exact StepS.pure nP rfl fun _ => rfl) ?_
  try simp only [Act.put, sA, sZ, sS]
  refine Ps.st (i := 4) (d := some 53) (u := (.string S)) rfl rfl ?ywg10_15 ?rwg10_15
  case ywg10_15 =>
    refine StepS.read [] (by kernel_rfl) nP (by rfl) (fun L9 m9 w9 hSh hAt hDn hS => ?_)
    have hT : Below _ _ w9 := hS
    have x0 : w9.cell? ⟨w.heap.size, 2, none⟩ = some (.string S) := (HB.out.ca hT).cell 2
    clear hT hS
    go_simp
    try rfl
  try simp only [Act.put, sA, sZ, sS]
  refine Ps.st (i := 5) (d := some 54) (u := (.bool (decide (l ∈ signsU)))) rfl rfl ?ywg10_16 ?rwg10_16
  case ywg10_16 =>
    refine StepS.call ?fwg10_16 ?awg10_16 [] (by kernel_rfl) (by rfl) (fun w9 => ?hwg10_16) (fun L9 m9 w9 hSh hAt hDn hS => ?cwg10_16)
    case hwg10_16 => go_simp; refine ⟨?_, ?_⟩ <;> rfl
    case cwg10_16 =>
      have hT : Below _ _ w9 := hS
      refine (HSG.out w9 (HTB.out.below hT)).mono ?_
      rintro e w8 ⟨rfl, rfl⟩
      exact ⟨rfl, hT⟩
  try simp only [Act.put, sA, sZ, sS]
  refine Ps.st (i := 6) (d := some 55) (u := (.bool (decide (l ∈ signsU)))) rfl rfl (by exact StepS.pure nP rfl fun _ => rfl) ?_
  try simp only [Act.put, sA, sZ, sS]
  refine Ps.st (i := 7) (d := some 3) (u := (.bool (decide (l ∈ signsU)))) rfl rfl (by exact StepS.pure nP rfl fun _ => rfl) ?_
  try simp only [Act.put, sA, sZ, sS]
  refine Ps.done (by kernel_rfl) (fun wg10 hS => ?_) _
  have HW2 := Lib.hid (show Below w1.heap.size w1 wg10 from hS)
  clear hS
  obtain ⟨w2, rfl⟩ : ∃ x, x = wg10 := ⟨_, rfl⟩
  have HQ2 := Lib.hid (bl_ca HQ.out HW2.out)
  have x3 := (HB.out.ca HW2.out).cell 3
  obtain ⟨q, hq⟩ : ∃ q, q = decide (l ∈ signsU) := ⟨_, rfl⟩
  rw [← hq] at HR2 ⊢
  clear hq
  simp at x3
  cases q
  · have HF := Lib.hid (show r = false from by rw [HR2.out, Bool.and_false])
    go_wp2
    go_ret
    exact ⟨ret_chk (by rw [HF.out]; rfl), HQ2.out⟩
  · have HF := Lib.hid (show r = decide (n = 0) from by rw [HR2.out, Bool.and_true])
    clear HR2
    by_cases h0 : n = 0
    · have HF2 := Lib.hid (show r = true from by rw [HF.out, decide_eq_true h0])
      have n1 : ((n : Int) == 0) = true := by simp; omega
      have n2 : ((n : Int) != 0) = false := by simp; omega
      clear h0
      obtain ⟨z, hz⟩ : ∃ z, z = (n : Int) := ⟨_, rfl⟩
      rw [← hz] at n1 n2
      try rw [← hz] at x3
      try rw [← hz] at HQ2
      try rw [← hz]
      clear hz
      go_wp2
      go_ret
      exact ⟨ret_chk (by rw [HF2.out]; rfl), HQ2.out⟩
    · have HF2 := Lib.hid (show r = false from by rw [HF.out, decide_eq_false h0])
      have n1 : ((n : Int) == 0) = false := by simp; omega
      have n2 : ((n : Int) != 0) = true := by simp; omega
      clear h0
      obtain ⟨z, hz⟩ : ∃ z, z = (n : Int) := ⟨_, rfl⟩
      rw [← hz] at n1 n2
      try rw [← hz] at x3
      try rw [← hz] at HQ2
      try rw [← hz]
      clear hz
      go_wp2
      go_ret
      exact ⟨ret_chk (by rw [HF2.out]; rfl), HQ2.out⟩

set_option maxRecDepth 100000 in
set_option maxHeartbeats 8000000 in
theorem lcheck_k3 (a : Int) (l : List UInt8) (n : Nat) (w : World) (hl : l.length ≤ 1000) (hn : n < 18446744073709551616) (hT : Tab w) : Calls Tryz.prog 22 #[.agg #[.int .i64 3, .int .i64 a, .string (bS l), .int .u64 (n : Int)]] w fun e w' => e = .returned (.int .i64 (chkE (rightU ⟨3, a, l, n⟩))) ∧ Below w.heap.size w w' := by
  have HR := Lib.hid (show rightU ⟨3, a, l, n⟩ = (decide (0 ≤ a) && (if (3 : Int) = 3 then decide (l = []) && decide (n < 9223372036854775808) else decide (n = 0) && (if (3 : Int) = 1 then isWordB (bS l) else if (3 : Int) = 2 then nameB (bS l) else if (3 : Int) = 4 then plainU l else if (3 : Int) = 5 then decide (l ∈ signsU) else false))) from rfl)
  obtain ⟨r, hr⟩ : ∃ r, r = rightU ⟨3, a, l, n⟩ := ⟨_, rfl⟩
  rw [← hr] at HR ⊢
  clear hr
  have HQ := Lib.hid (bl_al (Below.refl w.heap.size w) (.cells #[.int .i64 3, .int .i64 a, .string (bS l), .int .u64 (n : Int)] 29))
  have HTB := Lib.hid (hT.below HQ.out)
  have HE := Lib.hid (bS_empty (l := l))
  have HSZ := Lib.hid (show (bS l).size ≤ 1000 from by rw [← len_data]; exact hl)
  have HDT := Lib.hid (show (bS l).data.toList = l from rfl)
  have HSG := Lib.hid (fun w hT => signs_any l w hT)
  have HB := Lib.hid (Blk.new w 29 #[.int .i64 3, .int .i64 a, .string (bS l), .int .u64 (n : Int)])
  obtain ⟨S, hS⟩ : ∃ S, S = bS l := ⟨_, rfl⟩
  rw [← hS] at HR HQ HTB HE HSZ HDT HSG HB ⊢
  have HSL := Lib.hid hS
  clear hS hl hT
  have HR1 := Lib.hid (show r = (decide (0 ≤ a) && (decide (l = []) && decide (n < 9223372036854775808))) from by rw [HR.out]; rfl)
  clear HR
  have hz0 : 0 ≤ (n : Int) := by omega
  have hz1 : (n : Int) ≤ 18446744073709551615 := by omega
  have HZ := Lib.hid (show n < 9223372036854775808 ↔ (n : Int) < 9223372036854775808 from by omega)
  obtain ⟨z, hz⟩ : ∃ z, z = (n : Int) := ⟨_, rfl⟩
  rw [← hz] at HQ HTB HB HZ hz0 hz1 ⊢
  clear hz hn
  by_cases ha : a < 0
  · have HF := Lib.hid (show r = false from by rw [HR1.out, decide_eq_false (by omega)]; rfl)
    clear HR1
    go_enter Tryz.func22, Tryz.ntmps22
    go_wp2
    go_ret
    exact ⟨ret_chk (by rw [HF.out]; rfl), bl_al (Below.refl _ _) _⟩
  have ha' : 0 ≤ a := by omega
  have HR2 := Lib.hid (show r = (decide (l = []) && decide (n < 9223372036854775808)) from by rw [HR1.out, decide_eq_true ha']; rfl)
  clear ha HR1
  by_cases hl0 : l = []
  · have he : S.toList.isEmpty = true := by rw [HE.out, decide_eq_true hl0]
    have HF := Lib.hid (show r = decide (z < 9223372036854775808) from by rw [HR2.out, decide_eq_true hl0, Bool.true_and]; exact decide_eq_decide.2 HZ.out)
    clear hl0 HR2
    by_cases hzz : z < 9223372036854775808
    · have HF2 := Lib.hid (show r = true from by rw [HF.out, decide_eq_true hzz])
      go_enter Tryz.func22, Tryz.ntmps22
      go_wp2
      go_ret
      exact ⟨ret_chk (by rw [HF2.out]; rfl), bl_al (Below.refl _ _) _⟩
    · have HF2 := Lib.hid (show r = false from by rw [HF.out, decide_eq_false hzz])
      have hzz' : 9223372036854775808 ≤ z := by omega
      clear hzz
      go_enter Tryz.func22, Tryz.ntmps22
      go_wp2
      go_ret
      exact ⟨ret_chk (by rw [HF2.out]; rfl), bl_al (Below.refl _ _) _⟩
  · have he : S.toList.isEmpty = false := by rw [HE.out, decide_eq_false hl0]
    have HF := Lib.hid (show r = false from by rw [HR2.out, decide_eq_false hl0]; rfl)
    clear hl0
    go_enter Tryz.func22, Tryz.ntmps22
    go_wp2
    go_ret
    exact ⟨ret_chk (by rw [HF.out]; rfl), bl_al (Below.refl _ _) _⟩

set_option maxRecDepth 100000 in
set_option maxHeartbeats 8000000 in
theorem lcheck_else (k a : Int) (l : List UInt8) (n : Nat) (w : World) (hl : l.length ≤ 1000) (_hn : n < 18446744073709551616) (hT : Tab w) (h1 : k ≠ 1) (h2 : k ≠ 2) (h3 : k ≠ 3) (h4 : k ≠ 4) (h5 : k ≠ 5) : Calls Tryz.prog 22 #[.agg #[.int .i64 k, .int .i64 a, .string (bS l), .int .u64 (n : Int)]] w fun e w' => e = .returned (.int .i64 (chkE (rightU ⟨k, a, l, n⟩))) ∧ Below w.heap.size w w' := by
  have HR := Lib.hid (show rightU ⟨k, a, l, n⟩ = (decide (0 ≤ a) && (if k = 3 then decide (l = []) && decide (n < 9223372036854775808) else decide (n = 0) && (if k = 1 then isWordB (bS l) else if k = 2 then nameB (bS l) else if k = 4 then plainU l else if k = 5 then decide (l ∈ signsU) else false))) from rfl)
  obtain ⟨r, hr⟩ : ∃ r, r = rightU ⟨k, a, l, n⟩ := ⟨_, rfl⟩
  rw [← hr] at HR ⊢
  clear hr
  have HQ := Lib.hid (bl_al (Below.refl w.heap.size w) (.cells #[.int .i64 k, .int .i64 a, .string (bS l), .int .u64 (n : Int)] 29))
  have HTB := Lib.hid (hT.below HQ.out)
  have HE := Lib.hid (bS_empty (l := l))
  have HSZ := Lib.hid (show (bS l).size ≤ 1000 from by rw [← len_data]; exact hl)
  have HDT := Lib.hid (show (bS l).data.toList = l from rfl)
  have HSG := Lib.hid (fun w hT => signs_any l w hT)
  have HB := Lib.hid (Blk.new w 29 #[.int .i64 k, .int .i64 a, .string (bS l), .int .u64 (n : Int)])
  obtain ⟨S, hS⟩ : ∃ S, S = bS l := ⟨_, rfl⟩
  rw [← hS] at HR HQ HTB HE HSZ HDT HSG HB ⊢
  have HSL := Lib.hid hS
  clear hS hl hT
  have HF := Lib.hid (show r = false from by rw [HR.out, if_neg h3, if_neg h1, if_neg h2, if_neg h4, if_neg h5, Bool.and_false, Bool.and_false])
  have k1 : (k == 1) = false := by simpa using h1
  have k2 : (k == 2) = false := by simpa using h2
  have k3 : (k == 3) = false := by simpa using h3
  have k4 : (k == 4) = false := by simpa using h4
  have k5 : (k == 5) = false := by simpa using h5
  clear h1 h2 h3 h4 h5 HR
  go_enter Tryz.func22, Tryz.ntmps22
  go_wp2
  go_ret
  exact ⟨ret_chk (by rw [HF.out]; rfl), HQ.out⟩

theorem lcheck_any (t : Tk) (w : World) (hl : t.text.length ≤ 1000) (hn : t.n < 18446744073709551616) (hT : Tab w) : Calls Tryz.prog 22 #[.agg t.cells] w fun e w' => e = .returned (.int .i64 (chkE (rightU t))) ∧ Below w.heap.size w w' := by
  obtain ⟨k, a, l, n⟩ := t
  by_cases h1 : k = 1
  · subst h1; exact lcheck_k1 a l n w hl hn hT
  by_cases h2 : k = 2
  · subst h2; exact lcheck_k2 a l n w hl hn hT
  by_cases h3 : k = 3
  · subst h3; exact lcheck_k3 a l n w hl hn hT
  by_cases h4 : k = 4
  · subst h4; exact lcheck_k4 a l n w hl hn hT
  by_cases h5 : k = 5
  · subst h5; exact lcheck_k5 a l n w hl hn hT
  exact lcheck_else k a l n w hl hn hT h1 h2 h3 h4 h5

end Go.Proofs.YtnpicnddcoaboaaGreatDoor
