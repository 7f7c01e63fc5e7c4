/- The walk of the law LexReads. Conditions: what the tables hold. -/
import Derived.Test.YtnpicnddcoaboaaGreatDoorLxW
namespace Go.Proofs.YtnpicnddcoaboaaGreatDoor
open Go.RowKit
set_option maxRecDepth 100000 in
set_option maxHeartbeats 8000000 in
theorem reads_walk (s : ByteArray) (w : World) (hs : s.size ≤ 9223372036854775807) (hT : Tab w) : Calls Tryz.prog 3 #[.string s] w fun e w' => e = .returned (.bool true) ∧ Below w.heap.size w w' := by
  have HT := Lib.hid hT
  have HS := Lib.hid hs
  clear hT
  by_cases h5 : 5000 < s.size
  · have h5' : 5000 < (s.size : Int) := by omega
    go_enter Tryz.func3, Tryz.ntmps3
    go_wp2_with fail
    refine (wakes_any _ HT.out).mono ?_
    rintro e w2 ⟨rfl, q2⟩
    go_wp2
    go_ret
    exact ⟨rfl, q2⟩
  have h5' : (s.size : Int) ≤ 5000 := by omega
  clear h5 hs
  go_enter Tryz.func3, Tryz.ntmps3
  go_wp2_with fail
  refine (wakes_any _ HT.out).mono ?_
  rintro e w2 ⟨rfl, q2⟩
  have HT2 := Lib.hid (HT.out.below q2)
  have HQ2 := Lib.hid q2
  clear q2 HT
  go_wp2_with fail
  refine (ltokens_any s _ HS.out HT2.out).mono ?_
  rintro e w3 ⟨⟨A, n, c, rfl, ho3⟩, q3⟩
  have HQ3 := Lib.hid (bl_ca HQ2.out q3)
  have HO3 := Lib.hid ho3
  clear q3 ho3 HQ2 HT2
  obtain ⟨⟨ts, pl, er⟩, hR⟩ : ∃ R, R = tokM s.data.toList := ⟨_, rfl⟩
  rw [← hR] at HO3 ⊢
  simp only
  go_wp2_with fail
  refine (rtokens_any s _ HS.out).mono ?_
  rintro e w4 ⟨⟨B, n2, c2, rfl, ho4⟩, q4⟩
  rw [← hR] at ho4 ⊢
  have hn := Lay.own_len HO3.out
  have hn2 := Lay.own_len ho4
  simp only at hn hn2
  obtain rfl : n2 = n := by omega
  have HQ4 := Lib.hid (bl_ca HQ3.out q4)
  have HR1 := Lib.hid (OwnT.rdA (Lay.own_below HO3.out q4))
  have HR2 := Lib.hid (OwnT.rdA ho4)
  have hm : n2 ≤ 9223372036854775807 := Nat.le_trans (Lay.own_caps ho4).1 (Lay.own_caps ho4).2
  clear q4 ho4 hR hn hn2 HO3 HQ3
  simp only
  go_wp2_with fail
  go_loopg [44] n2 (fun g a wr => ∃ i : Nat, i + g = n2 ∧ a = .int .i64 i ∧ Below w4.heap.size w4 wr)
  case atStart => exact ⟨0, by omega, rfl, Below.refl _ _⟩
  case round =>
    obtain ⟨i, hig, rfl, hb⟩ := hrel
    have HB := Lib.hid hb
    by_cases hlt : i < n2
    · have hi1 : (i : Int) < (n2 : Int) := by omega
      obtain ⟨A1, x, hA, hx, s1⟩ := LT_at (Lay.rd_below HR1.out hb) hlt
      obtain ⟨A2, y, hA2, hy, s2⟩ := LT_at (Lay.rd_below HR2.out hb) hlt
      subst hA hA2
      obtain rfl : x = y := at_eq' hx hy
      have HS1 := Lib.hid s1
      have HS2 := Lib.hid s2
      have HEQ := Lib.hid (fun W => by have := run_eqFull x x W; rw [decide_eq_true rfl] at this; exact this)
      clear hx hy s1 s2 hb
      obtain ⟨w1, rfl⟩ : ∃ x, x = wr := ⟨_, rfl⟩
      go_upto_region 12 with fail
      refine wp_region_ps (S := fun _ _ w' => Below w1.heap.size w1 w') (by kernel_rfl) ?spswg1 ?ppswg1
      case spswg1 =>
        exact (Below.refl w1.heap.size w1).drew
      refine Ps.st (i := 0) (d := some 47) (u := (.slice (some A1) n2 c)) rfl rfl (by exact StepS.pure nP rfl fun _ => rfl) ?_
      try simp only [Act.put, sA, sZ, sS]
      refine Ps.st (i := 1) (d := some 48) (u := (.int .i64 ((i : Int)))) rfl rfl (by exact StepS.pure nP rfl fun _ => rfl) ?_
      try simp only [Act.put, sA, sZ, sS]
      refine Ps.st (i := 2) (d := some 49) (u := (.pointer (some ((A1.add (i * 4)))))) rfl rfl (by exact StepS.pure nP rfl fun _ => by first | rfl | (go_simp; done) | (go_simp; rfl)) ?_
      try simp only [Act.put, sA, sZ, sS]
      refine Ps.st (i := 3) (d := some 50) (u := (.agg #[.int .i64 (x.kind), .int .i64 (x.at_), .string ((bS x.text)), .int .u64 ((x.n : Int))])) rfl rfl ?ywg1_5 ?rwg1_5
      case ywg1_5 =>
        refine StepS.read [] (by kernel_rfl) nP (by rfl) (fun L9 m9 w9 hSh hAt hDn hS => ?_)
        have hT : Below _ _ w9 := hS
        have x0 : w9.cell? ((A1.add (i * 4))) = some (.int .i64 (x.kind)) := ce HS1.out.c0 hT
        have x1 : w9.cell? ⟨((A1.add (i * 4))).block, ((A1.add (i * 4))).off + 1, none⟩ = some (.int .i64 (x.at_)) := ce HS1.out.c1 hT
        have x2 : w9.cell? ⟨((A1.add (i * 4))).block, ((A1.add (i * 4))).off + 2, none⟩ = some (.string ((bS x.text))) := ce HS1.out.c2 hT
        have x3 : w9.cell? ⟨((A1.add (i * 4))).block, ((A1.add (i * 4))).off + 3, none⟩ = some (.int .u64 ((x.n : Int))) := ce HS1.out.c3 hT
        clear hT hS
        go_simp
        try rfl
      try simp only [Act.put, sA, sZ, sS]
      refine Ps.st (i := 4) (d := some 51) (u := (.slice (some A2) n2 c2)) rfl rfl (by exact StepS.pure nP rfl fun _ => rfl) ?_
      try simp only [Act.put, sA, sZ, sS]
      refine Ps.st (i := 5) (d := some 52) (u := (.int .i64 ((i : Int)))) rfl rfl (by exact StepS.pure nP rfl fun _ => rfl) ?_
      try simp only [Act.put, sA, sZ, sS]
      refine Ps.st (i := 6) (d := some 53) (u := (.pointer (some ((A2.add (i * 4)))))) rfl rfl (by exact StepS.pure nP rfl fun _ => by first | rfl | (go_simp; done) | (go_simp; rfl)) ?_
      try simp only [Act.put, sA, sZ, sS]
      refine Ps.st (i := 7) (d := some 54) (u := (.agg #[.int .i64 (x.kind), .int .i64 (x.at_), .string ((bS x.text)), .int .u64 ((x.n : Int))])) rfl rfl ?ywg1_9 ?rwg1_9
      case ywg1_9 =>
        refine StepS.read [] (by kernel_rfl) nP (by rfl) (fun L9 m9 w9 hSh hAt hDn hS => ?_)
        have hT : Below _ _ w9 := hS
        have x0 : w9.cell? ((A2.add (i * 4))) = some (.int .i64 (x.kind)) := ce HS2.out.c0 hT
        have x1 : w9.cell? ⟨((A2.add (i * 4))).block, ((A2.add (i * 4))).off + 1, none⟩ = some (.int .i64 (x.at_)) := ce HS2.out.c1 hT
        have x2 : w9.cell? ⟨((A2.add (i * 4))).block, ((A2.add (i * 4))).off + 2, none⟩ = some (.string ((bS x.text))) := ce HS2.out.c2 hT
        have x3 : w9.cell? ⟨((A2.add (i * 4))).block, ((A2.add (i * 4))).off + 3, none⟩ = some (.int .u64 ((x.n : Int))) := ce HS2.out.c3 hT
        clear hT hS
        go_simp
        try rfl
      try simp only [Act.put, sA, sZ, sS]
      refine Ps.st (i := 8) (d := some 55) (u := (.bool (false))) rfl rfl ?ywg1_10 ?rwg1_10
      case ywg1_10 =>
        refine StepS.pure nP (by rfl) (fun w9 => ?_)
        have heq := HEQ.out
        first | rfl | (go_simp; done) | (go_simp; rfl)
      try simp only [Act.put, sA, sZ, sS]
      refine Ps.done (by kernel_rfl) (fun wg1 hS => ?_) _
      have HW2 := Lib.hid (show Below w1.heap.size w1 wg1 from hS)
      clear hS
      obtain ⟨w5, rfl⟩ : ∃ x, x = wg1 := ⟨_, rfl⟩
      go_wp2
      go_roundg (gk - 1)
      · exact ⟨i + 1, by omega, by go_num, bl_ca HB.out HW2.out⟩
      · omega
    · obtain rfl : i = n2 := by omega
      have hi1 : (i : Int) ≤ (i : Int) := by omega
      clear hb
      go_wp2
      go_ret
      exact ⟨rfl, bl_ca HQ4.out HB.out⟩
end Go.Proofs.YtnpicnddcoaboaaGreatDoor
