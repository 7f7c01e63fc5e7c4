/- (*pair).does: the end is put. Conditions: the pair is sound. -/
import Derived.Test.YtojghgbaiiajfaaPkE21
namespace Go.Proofs.Ytojghgbaiiajfaa
open Go.RowKit
set_option maxRecDepth 100000 in
set_option maxHeartbeats 16000000 in
theorem does_end (B0 g : Nat) (w : World) (σ room : Int) (s : SC) (r : RC) (way : List PK) (put taken : List BC) (A : Option Addr) (n c : Nat) (A2 : Option Addr) (n2 c2 : Nat) (A3 : Option Addr) (n3 c3 : Nat) (A4 : Option Addr) (n4 c4 : Nat) (A5 : Option Addr) (n5 c5 : Nat) (A6 : Option Addr) (n6 c6 : Nat) (kind pick k : Int) (stays : Bool) (row : List VV) (R : Option Addr) (rn rc : Nat)
 (h : PM B0 g w s r way put taken A n c A2 n2 c2 A3 n3 c3 A4 n4 c4 A5 n5 c5 A6 n6 c6) (hi : SInv σ room s r way put taken) (hx : EX s r way) (hrow : LV.rd w (PF w g A4 A5 A6) R rn row) (_hrn : rn ≤ rc ∧ rc ≤ 9223372036854775807) (hB : B0 ≤ w.heap.size) (hn4 : n4 ≤ 1000) (hn5 : n5 ≤ 1000) (hk : Int.tmod (IntKind.u64.wrap kind) 11 = k) (hk1 : ¬ k < 2) (hk2 : k = 2) :
 Calls Try.prog 40 #[.pointer (some ⟨g, 0, none⟩), .agg (deedC kind pick stays R rn rc)] w (DoesC B0 g σ room n4 n5 w) := by
 have HK2 := Lib.hid hk2
 clear hk2
 have q1 := bl_al (Below.refl w.heap.size w) (.cells (deedC kind pick stays R rn rc) 91)
 have HP1 := Lib.hid (h.below q1)
 have HD1 := Lib.hid (Blk.new w 91 (deedC kind pick stays R rn rc))
 have HROW1 := Lib.hid (Lay.rd_weak (fun _ hb _ => PF.up q1.size hb) (Lay.rd_below hrow q1))
 have HQ1 := Lib.hid q1
 have HKK := Lib.hid hk
 have HI := Lib.hid hi
 have HX := Lib.hid hx
 have HSB := Lib.hid ((sp_iff s).2 hi.sb)
 have HRB := Lib.hid ((rp_iff r).2 hi.rb)
 have hb0 : 0 ≤ s.base := by have := hi.sb.b1; omega
 have hb1 : B0 ≤ w.heap.size + 1 := by omega
 have hsz : (w.alloc (.cells (deedC kind pick stays R rn rc) 91)).heap.size = w.heap.size + 1 := World.size_alloc _ _
 have HB1 := Lib.hid (show B0 ≤ (w.alloc (.cells (deedC kind pick stays R rn rc) 91)).heap.size by rw [hsz]; exact hb1)
 have hcq := h.cq
 have hca := h.ca
 have hcb := h.cb
 have htl : n6 ≤ n5 := by
  have h1 := hi.tn.2
  have h2 := Lay.ownO_len h.pt
  have h3 := Lay.ownO_len h.tk
  omega
 clear q1 h hi hx hrow hk hsz hb1
 go_enter Try.func40, Try.ntmps40
 go_upto_region 1 with fail
 generalize w.alloc (.cells (deedC kind pick stays R rn rc) 91) = w1 at *
 refine wp_region_ps0 .text (S := fun _ _ w' => w' = w1) (by kernel_rfl) ?spswg34 ?ppswg34
 case spswg34 =>
  rfl
 refine Pz 0 (some 23) (.pointer (some ⟨w.heap.size, 0, none⟩)) rfl rfl (by exact StepS.pure nP rfl fun _ => rfl) ?_
 try simp only [Act.put, sA, sZ, sS]
 refine Pz 1 (some 24) (.int .i64 (kind)) rfl rfl ?ywg34_36 ?rwg34_36
 case ywg34_36 =>
  refine StepS.read [] (by kernel_rfl) nP (by rfl) (fun L9 m9 w9 hSh hAt hDn hS => ?_)
  have hT : Below w1.heap.size w1 w9 := by rw [show w9 = w1 from hS]; exact Below.refl _ _
  have x0 : w9.cell? ⟨w.heap.size, 0, none⟩ = some (.int .i64 (kind)) := (HD1.out.ca hT).cell 0
  clear hT hS
  go_simp
  try rfl
 try simp only [Act.put, sA, sZ, sS]
 refine Pz 2 (some 25) (.int .u64 (IntKind.u64.wrap (kind))) rfl rfl (by exact StepS.pure nP rfl fun _ => rfl) ?_
 try simp only [Act.put, sA, sZ, sS]
 refine Pz 3 (some 26) (.int .u64 (k)) rfl rfl ?ywg34_38 ?rwg34_38
 case ywg34_38 =>
  refine StepS.pure nP (by rfl) (fun w9 => ?_)
  refine Eq.trans ?_ (congrArg (fun z => Result.ok (Next.value (Value.int .u64 z)) w9) HKK.out)
  first | rfl | (go_simp; done) | (go_simp; rfl)
 try simp only [Act.put, sA, sZ, sS]
 refine Pz 4 (some 5) (.int .u64 (k)) rfl rfl (by exact StepS.pure nP rfl fun _ => rfl) ?_
 try simp only [Act.put, sA, sZ, sS]
 refine Ps.done (by kernel_rfl) (fun wg34 hS => ?_) _
 obtain rfl : w1 = wg34 := (show wg34 = w1 from hS).symm
 clear hS
 have y13 := HP1.out.blk.cell 13
 go_upto_if 33 with fail
 clear y13
 go_cut [6, 7] (fun at9 n9 wx => (∃ i : Int, at9 = .int .i64 i) ∧ n9 = .int .i64 (n4 : Int) ∧ wx = w1)
 case first =>
  by_cases hn : n4 = 0
  · have hn0 : (0 < n4) = False := by simp [hn]
    go_wp2_with fail
    go_meet
    exact ⟨⟨_, rfl⟩, by simp [hn], rfl⟩
  · have hn0 : 0 < n4 := by omega
    obtain ⟨i, hi9, hin⟩ : ∃ i : Nat, Int.tmod (IntKind.u64.wrap pick) (n4 : Int) = (i : Int) ∧ i < n4 := by
     have h0 : 0 ≤ IntKind.u64.wrap pick := by simp [IntKind.wrap, IntKind.signed, IntKind.bits]; omega
     refine ⟨(Int.tmod (IntKind.u64.wrap pick) (n4 : Int)).toNat, ?_, ?_⟩
     · have := Int.tmod_nonneg (n4 : Int) h0; omega
     · have h1 := Int.tmod_nonneg (n4 : Int) h0; have h2 := Int.tmod_lt_of_pos (IntKind.u64.wrap pick) (show (0 : Int) < n4 by omega); omega
    have HIX := Lib.hid hi9
    have hnz : ¬ n4 = 0 := by omega
    have HW1 := Lib.hid (show IntKind.u64.wrap (n4 : Int) = (n4 : Int) from u64_in (by omega) (by omega))
    have HW2 := Lib.hid (show IntKind.i64.wrap (i : Int) = (i : Int) from i64_inE (by omega) (by omega))
    clear hi9
    have y13 := HP1.out.blk.cell 13
    go_upto_region 5 with fail
    clear y13
    refine wp_region_ps0 .text (S := fun _ _ w' => w' = w1) (by kernel_rfl) ?spswg40 ?ppswg40
    case spswg40 =>
     rfl
    refine Pz 0 (some 34) (.pointer (some ⟨w.heap.size, 1, none⟩)) rfl rfl (by exact StepS.pure nP rfl fun _ => rfl) ?_
    try simp only [Act.put, sA, sZ, sS]
    refine Pz 1 (some 35) (.int .i64 (pick)) rfl rfl ?ywg40_42 ?rwg40_42
    case ywg40_42 =>
     refine StepS.read [] (by kernel_rfl) nP (by rfl) (fun L9 m9 w9 hSh hAt hDn hS => ?_)
     have hT : Below w1.heap.size w1 w9 := by rw [show w9 = w1 from hS]; exact Below.refl _ _
     have x0 : w9.cell? ⟨w.heap.size, 1, none⟩ = some (.int .i64 (pick)) := (HD1.out.ca hT).cell 1
     clear hT hS
     go_simp
     try rfl
    try simp only [Act.put, sA, sZ, sS]
    refine Pz 2 (some 36) (.int .u64 (IntKind.u64.wrap (pick))) rfl rfl (by exact StepS.pure nP rfl fun _ => rfl) ?_
    try simp only [Act.put, sA, sZ, sS]
    refine Pz 3 (some 37) (.int .i64 ((n4 : Int))) rfl rfl (by exact StepS.pure nP rfl fun _ => rfl) ?_
    try simp only [Act.put, sA, sZ, sS]
    refine Pz 4 (some 38) (.int .u64 ((n4 : Int))) rfl rfl ?ywg40_45 ?rwg40_45
    case ywg40_45 =>
     refine StepS.pure nP (by rfl) (fun w9 => ?_)
     refine Eq.trans ?_ (congrArg (fun z => Result.ok (Next.value (Value.int .u64 z)) w9) HW1.out)
     first | rfl | (go_simp; done) | (go_simp; rfl)
    try simp only [Act.put, sA, sZ, sS]
    refine Pz 5 (some 39) (.int .u64 ((i : Int))) rfl rfl ?ywg40_46 ?rwg40_46
    case ywg40_46 =>
     refine StepS.pure nP (by rfl) (fun w9 => ?_)
     refine Eq.trans ?_ (congrArg (fun z => Result.ok (Next.value (Value.int .u64 z)) w9) HIX.out)
     first | rfl | (go_simp; done) | (go_simp; rfl)
    try simp only [Act.put, sA, sZ, sS]
    refine Pz 6 (some 40) (.int .i64 ((i : Int))) rfl rfl ?ywg40_47 ?rwg40_47
    case ywg40_47 =>
     refine StepS.pure nP (by rfl) (fun w9 => ?_)
     refine Eq.trans ?_ (congrArg (fun z => Result.ok (Next.value (Value.int .i64 z)) w9) HW2.out)
     first | rfl | (go_simp; done) | (go_simp; rfl)
    try simp only [Act.put, sA, sZ, sS]
    refine Pz 7 (some 6) (.int .i64 ((i : Int))) rfl rfl (by exact StepS.pure nP rfl fun _ => rfl) ?_
    try simp only [Act.put, sA, sZ, sS]
    refine Ps.done (by kernel_rfl) (fun wg40 hS => ?_) _
    obtain rfl : w1 = wg40 := (show wg40 = w1 from hS).symm
    clear hS
    go_wp2_with fail
    go_meet
    exact ⟨⟨_, rfl⟩, rfl, rfl⟩
 case rest =>
 obtain ⟨⟨i0, rfl⟩, rfl, hw9⟩ := hcut
 obtain rfl := hw9.symm
 have hk2b : (k == 2) = true := by simpa using HK2.out
 have y0 := HP1.out.blk.cell 0
 have y1 := HP1.out.blk.cell 1
 have y2 := HP1.out.blk.cell 2
 have y3 := HP1.out.blk.cell 3
 have y4 := HP1.out.blk.cell 4
 have y5 := HP1.out.blk.cell 5
 have y6 := HP1.out.blk.cell 6
 go_wp2_with fail
 refine (close_any (PF w1 g A4 A5 A6) s A n c w1 (fun k hk => hk.1) HP1.out.q (by omega) hb0).mono ?_
 rintro e w3 ⟨T0, A', n', c', N, rfl, ho⟩
 obtain ⟨q4, ho⟩ := HP1.out.sends ho HSB.out
 clear y0 y1 y2 y3 y4 y5 y6
 obtain ⟨E, hE⟩ : ∃ E, E = putE s := ⟨_, rfl⟩
 rw [← hE] at ho
 have HE := Lib.hid hE
 clear hE
 rcases ho with ⟨h0, hC, rfl⟩ | ⟨h0, rfl, A7, n7, c7, hC, hcap, hrd⟩
 · rw [hC]
   have q5 := bl_al q4 (.cells (zeroS.cells none 0 0) 29)
   have HQ5 := Lib.hid (bl_ca HQ1.out q5)
   have HP5 := Lib.hid (HP1.out.below q5)
   have hN : (N == 0) = false := by simpa using h0
   clear hC q4 q5 h0
   go_wp2_with fail
   go_ret
   exact DoesC.mk rfl (HQ5.out.mono hB) HP5.out HI.out HX.out (by omega) (by omega)
 obtain ⟨T, hT⟩ : ∃ T, T = putR s (lastB s) := ⟨_, rfl⟩
 rw [← hT] at hC hrd
 have HT := Lib.hid hT
 rw [hC]
 have q5 := bl_al q4 (.cells (T.cells A7 n7 c7) 29)
 have HE0 := Lib.hid h0
 have HQ5 := Lib.hid (bl_ca HQ1.out q5)
 have HP5 := Lib.hid (HP1.out.below q5)
 have HB5 := Lib.hid (Nat.le_trans HB1.out q5.size)
 have HV5 := Lib.hid (Blk.new w3 29 (T.cells A7 n7 c7))
 have q6 := bl_al (Below.refl w3.heap.size w3) (.cells (T.cells A7 n7 c7) 29)
 have HRD5 := Lib.hid (Lay.rd_weak (fun _ hb _ => PF.up q6.size hb) (Lay.rd_below hrd q6))
 have HVN := Lib.hid (show ob A5 ≠ some w3.heap.size from fun e => by have := (HP1.out.base4.2.1 _ e).2; have := q4.size; omega)
 have HW5 := Lib.hid (show IntKind.u64.wrap (n5 : Int) = (n5 : Int) from u64_in (by omega) (by omega))
 clear hC hT h0 q4 q5 q6 hrd
 go_upto_region 14 with fail
 generalize w3.alloc (.cells (T.cells A7 n7 c7) 29) = w5 at *
 refine wp_region_ps (S := SeqN [14, 15, 18, 21] (fun z mm w' => match z with | 0 => Below w5.heap.size w5 w' | 1 => Below w5.heap.size w5 w' ∧ ∃ gb, mm 14 = .slice (some ⟨gb, 0, none⟩) 1 1 ∧ w5.heap.size ≤ gb ∧ Blk w' gb 45 #[.slice none 0 0, .bool (true), .int .u64 ((n5 : Int))] | 2 => ∃ X x, mm 15 = .slice X (n5 + 1) x ∧ AppY LB3 45 w5 B0 g A5 A4 A5 A6 (put ++ [⟨[], true, (n5 : Int)⟩]) X (n5 + 1) x w' | 3 => ∃ X x wq, mm 15 = .slice X (n5 + 1) x ∧ AppY LB3 45 w5 B0 g A5 A4 A5 A6 (put ++ [⟨[], true, (n5 : Int)⟩]) X (n5 + 1) x wq ∧ wq.grownBy w' (some g) ∧ Blk w' g 93 (pairC T r A7 n7 c7 A2 n2 c2 A3 n3 c3 (.slice A4 n4 c4) (.slice A5 n5 c5) (.slice A6 n6 c6)) | _ => ∃ X x wq, mm 15 = .slice X (n5 + 1) x ∧ AppY LB3 45 w5 B0 g A5 A4 A5 A6 (put ++ [⟨[], true, (n5 : Int)⟩]) X (n5 + 1) x wq ∧ wq.grownBy w' (some g) ∧ Blk w' g 93 (pairC T r A7 n7 c7 A2 n2 c2 A3 n3 c3 (.slice A4 n4 c4) (.slice X (n5 + 1) x) (.slice A6 n6 c6)))) (by kernel_rfl) ?spswg49 ?ppswg49
 case spswg49 =>
  exact SeqN.start (by decide) (Below.refl _ _).drew
 refine Pz 0 (some 87) (.pointer (some ⟨g, 0, none⟩)) rfl rfl (by exact StepS.pure (SeqN.pass (by decide)) rfl fun _ => rfl) ?_
 try simp only [Act.put, sA, sZ, sS]
 refine Pz 1 (some 88) (.pointer (some ⟨g, 0, none⟩)) rfl rfl (by exact StepS.pure (SeqN.pass (by decide)) rfl fun _ => rfl) ?_
 try simp only [Act.put, sA, sZ, sS]
 refine Pz 2 (some 89) (.agg #[.int .u32 (T.ses), .int .u64 (T.base), .slice A7 n7 c7, .int .u64 (T.sent), .int .u64 (T.lim), .int .i64 (T.timer), .bool (T.ended)]) rfl rfl ?ywg49_52 ?rwg49_52
 case ywg49_52 =>
  refine StepS.read [] (by kernel_rfl) (SeqN.pass (by decide)) (by rfl) (fun L9 m9 w9 hSh hAt hDn hS => ?_)
  have hT : Chg (fun k => ob A5 = some k) w5 w9 := SeqN.le [14, 15] [18, 21] (T := fun w9 => Chg (fun k => ob A5 = some k) w5 w9) (post_no hSh hDn (by kernel_rfl)) (fun z _ _ hz h => by match z, hz, h with | 0, _, h => exact Chg.of_below h | 1, _, h => exact Chg.of_below h.1 | 2, _, h => exact (let ⟨_, _, _, hy⟩ := h; hy.ch) | _ + 3, hz, _ => exact absurd hz (by simp)) hS
  have x0 : w9.cell? ⟨w3.heap.size, 0, none⟩ = some (.int .u32 (T.ses)) := (HV5.out.chg hT HVN.out).cell 0
  have x1 : w9.cell? ⟨w3.heap.size, 1, none⟩ = some (.int .u64 (T.base)) := (HV5.out.chg hT HVN.out).cell 1
  have x2 : w9.cell? ⟨w3.heap.size, 2, none⟩ = some (.slice A7 n7 c7) := (HV5.out.chg hT HVN.out).cell 2
  have x3 : w9.cell? ⟨w3.heap.size, 3, none⟩ = some (.int .u64 (T.sent)) := (HV5.out.chg hT HVN.out).cell 3
  have x4 : w9.cell? ⟨w3.heap.size, 4, none⟩ = some (.int .u64 (T.lim)) := (HV5.out.chg hT HVN.out).cell 4
  have x5 : w9.cell? ⟨w3.heap.size, 5, none⟩ = some (.int .i64 (T.timer)) := (HV5.out.chg hT HVN.out).cell 5
  have x6 : w9.cell? ⟨w3.heap.size, 6, none⟩ = some (.bool (T.ended)) := (HV5.out.chg hT HVN.out).cell 6
  clear hT hS
  go_simp
  try rfl
 try simp only [Act.put, sA, sZ, sS]
 refine Pz 3 (some 90) (.pointer (some ⟨g, 0, none⟩)) rfl rfl (by exact StepS.pure (SeqN.pass (by decide)) rfl fun _ => rfl) ?_
 try simp only [Act.put, sA, sZ, sS]
 refine Pz 4 (some 91) (.pointer (some ⟨g, 0, none⟩)) rfl rfl (by exact StepS.pure (SeqN.pass (by decide)) rfl fun _ => by first | rfl | (go_simp; done) | (go_simp; rfl)) ?_
 try simp only [Act.put, sA, sZ, sS]
 refine Pz 5 (some 92) (.pointer (some ⟨g, 14, none⟩)) rfl rfl (by exact StepS.pure (SeqN.pass (by decide)) rfl fun _ => rfl) ?_
 try simp only [Act.put, sA, sZ, sS]
 refine Pz 6 (some 93) (.slice A5 n5 c5) rfl rfl ?ywg49_56 ?rwg49_56
 case ywg49_56 =>
  refine StepS.read [] (by kernel_rfl) (SeqN.pass (by decide)) (by rfl) (fun L9 m9 w9 hSh hAt hDn hS => ?_)
  have hT : Chg (fun k => ob A5 = some k) w5 w9 := SeqN.le [14, 15] [18, 21] (T := fun w9 => Chg (fun k => ob A5 = some k) w5 w9) (post_no hSh hDn (by kernel_rfl)) (fun z _ _ hz h => by match z, hz, h with | 0, _, h => exact Chg.of_below h | 1, _, h => exact Chg.of_below h.1 | 2, _, h => exact (let ⟨_, _, _, hy⟩ := h; hy.ch) | _ + 3, hz, _ => exact absurd hz (by simp)) hS
  have x0 : w9.cell? ⟨g, 14, none⟩ = some (.slice A5 n5 c5) := (HP5.out.blk.chg hT HP5.out.dg.2.1).cell 14
  clear hT hS
  go_simp
  try rfl
 try simp only [Act.put, sA, sZ, sS]
 refine Pz 7 (some 94) (.pointer (some ⟨g, 0, none⟩)) rfl rfl (by exact StepS.pure (SeqN.pass (by decide)) rfl fun _ => rfl) ?_
 try simp only [Act.put, sA, sZ, sS]
 refine Pz 8 (some 95) (.pointer (some ⟨g, 0, none⟩)) rfl rfl (by exact StepS.pure (SeqN.pass (by decide)) rfl fun _ => by first | rfl | (go_simp; done) | (go_simp; rfl)) ?_
 try simp only [Act.put, sA, sZ, sS]
 refine Pz 9 (some 96) (.pointer (some ⟨g, 14, none⟩)) rfl rfl (by exact StepS.pure (SeqN.pass (by decide)) rfl fun _ => rfl) ?_
 try simp only [Act.put, sA, sZ, sS]
 refine Pz 10 (some 97) (.slice A5 n5 c5) rfl rfl ?ywg49_60 ?rwg49_60
 case ywg49_60 =>
  refine StepS.read [] (by kernel_rfl) (SeqN.pass (by decide)) (by rfl) (fun L9 m9 w9 hSh hAt hDn hS => ?_)
  have hT : Chg (fun k => ob A5 = some k) w5 w9 := SeqN.le [14, 15] [18, 21] (T := fun w9 => Chg (fun k => ob A5 = some k) w5 w9) (post_no hSh hDn (by kernel_rfl)) (fun z _ _ hz h => by match z, hz, h with | 0, _, h => exact Chg.of_below h | 1, _, h => exact Chg.of_below h.1 | 2, _, h => exact (let ⟨_, _, _, hy⟩ := h; hy.ch) | _ + 3, hz, _ => exact absurd hz (by simp)) hS
  have x0 : w9.cell? ⟨g, 14, none⟩ = some (.slice A5 n5 c5) := (HP5.out.blk.chg hT HP5.out.dg.2.1).cell 14
  clear hT hS
  go_simp
  try rfl
 try simp only [Act.put, sA, sZ, sS]
 refine Pz 11 (some 98) (.int .i64 ((n5 : Int))) rfl rfl (by exact StepS.pure (SeqN.pass (by decide)) rfl fun _ => by first | rfl | (go_simp; done) | (go_simp; rfl)) ?_
 try simp only [Act.put, sA, sZ, sS]
 refine Pz 12 (some 99) (.int .u64 ((n5 : Int))) rfl rfl ?ywg49_62 ?rwg49_62
 case ywg49_62 =>
  refine StepS.pure (SeqN.pass (by decide)) (by rfl) (fun w9 => ?_)
  refine Eq.trans ?_ (congrArg (fun z => Result.ok (Next.value (Value.int .u64 z)) w9) HW5.out)
  first | rfl | (go_simp; done) | (go_simp; rfl)
 try simp only [Act.put, sA, sZ, sS]
 refine Pz 13 (some 100) (.agg #[.slice none 0 0, .bool (true), .int .u64 ((n5 : Int))]) rfl rfl (by exact StepS.pure (SeqN.pass (by decide)) rfl fun _ => by first | rfl | (go_simp; done) | (go_simp; rfl)) ?_
 try simp only [Act.put, sA, sZ, sS]
 refine Ps.one (k := 14) (d := some 101) rfl rfl (by kernel_rfl) (TurnS.value (V := fun v => ∃ gb, v = .slice (some ⟨gb, 0, none⟩) 1 1) [] (by kernel_rfl) (by rfl) (fun L9 m9 w9 hSh hAt hDn hS => ?cwg49_64)) (fun v14 hVv14 => ?rwg49_64)
 case cwg49_64 =>
  have hT := SeqN.at_ (m0 := m9) (m1 := m9) [] [15, 18, 21] hSh (fun d hd => by cases hd) hDn (by kernel_rfl) hS
  refine ⟨.slice (some ⟨w9.heap.size, 0, none⟩) 1 1, w9.alloc (.cells #[.slice none 0 0, .bool (true), .int .u64 ((n5 : Int))] 45), ?_, ⟨_, rfl⟩, SeqN.set_ (m0 := m9) (m1 := m9) [] [15, 18, 21] hSh (fun d hd => by cases hd) hDn (by kernel_rfl) (by decide) (by decide) ⟨bl_al hT _, _, upd_same _ _ _, hT.size, Blk.new _ _ _⟩⟩
  clear hT hS
  go_simp
 try simp only [Act.put, sA, sZ, sS]
 obtain ⟨gb, rfl⟩ := hVv14
 refine Ps.one (k := 15) (d := some 102) rfl rfl (by kernel_rfl) (TurnS.value (V := fun v => ∃ X x, v = .slice X (n5 + 1) x) [14] (by kernel_rfl) (by rfl) (fun L9 m9 w9 hSh hAt hDn hS => ?cwg49_65)) (fun v15 hVv15 => ?rwg49_65)
 case cwg49_65 =>
  obtain ⟨hT, gb2, hv, hg1, hg2⟩ := SeqN.at_ [14] [18, 21] hSh hAt hDn (by kernel_rfl) hS
  obtain rfl : gb = gb2 := by have h9 : Value.slice (some ⟨gb, 0, none⟩) 1 1 = .slice (some ⟨gb2, 0, none⟩) 1 1 := (hAt 14 (by simp)).2.symm.trans hv; simpa using h9
  have hone : LB3.rd w9 (PF w9 g A4 A5 A6) (some ⟨gb, 0, none⟩) 1 [⟨[], true, (n5 : Int)⟩] := rd_blk1 hg2 ⟨none, 0, 0, rfl, by omega, by omega, Lay.rd_nil _⟩ (HP5.out.fence hT.size (.inr hg1) hg2.lt)
  obtain ⟨X, x, w8, hrun, hy⟩ := HP5.out.app5 hT (d := 1) hone (by omega) HB5.out
  exact ⟨_, w8, exec_append (.tmp 93) (.tmp 101) 27 rfl rfl rfl hrun, ⟨X, x, rfl⟩, SeqN.set_ [14] [18, 21] hSh hAt hDn (by kernel_rfl) (by decide) (by decide) ⟨X, x, upd_same _ _ _, hy⟩⟩
 try simp only [Act.put, sA, sZ, sS]
 obtain ⟨X, x, rfl⟩ := hVv15
 refine Pz 16 (some 103) (.pointer (some ⟨g, 0, none⟩)) rfl rfl (by exact StepS.pure (SeqN.pass (by decide)) rfl fun _ => by first | rfl | (go_simp; done) | (go_simp; rfl)) ?_
 try simp only [Act.put, sA, sZ, sS]
 refine Pz 17 (some 104) (.pointer (some ⟨g, 0, none⟩)) rfl rfl (by exact StepS.pure (SeqN.pass (by decide)) rfl fun _ => rfl) ?_
 try simp only [Act.put, sA, sZ, sS]
 refine Pz 18 none undef rfl rfl ?ywg49_68 ?rwg49_68
 case ywg49_68 =>
  refine StepS.store [14, 15] (by kernel_rfl) (by rfl) (fun L9 m9 w9 hSh hAt hDn hS => ?_)
  obtain ⟨X2, x2, hv, hy⟩ := SeqN.at_ [14, 15] [21] hSh hAt hDn (by kernel_rfl) hS
  obtain ⟨rfl, rfl⟩ : X = X2 ∧ x = x2 := by have h9 : Value.slice X (n5 + 1) x = .slice X2 (n5 + 1) x2 := (hAt 15 (by simp)).2.symm.trans hv; simpa using h9
  have hbk := HP5.out.blk.chg hy.ch HP5.out.dg.2.1
  refine (exec_store_part (w := w9) 29 (.tmp 104) (.tmp 89) (by rfl) g 0 93 (pairC s r A n c A2 n2 c2 A3 n3 c3 (.slice A4 n4 c4) (.slice A5 n5 c5) (.slice A6 n6 c6)) (T.cells A7 n7 c7) (pairC T r A7 n7 c7 A2 n2 c2 A3 n3 c3 (.slice A4 n4 c4) (.slice A5 n5 c5) (.slice A6 n6 c6)) (by rfl) (by rfl) hbk (by simp) senderI (by simp [Value.oneCell']) (by rfl)).imp fun w7 hx => ⟨hx.1, SeqN.set_ [14, 15] [21] hSh hAt hDn (by kernel_rfl) (by decide) (by decide) ⟨X, x, w9, hv, hy, hx.2.2, hx.2.1⟩⟩
 try simp only [Act.put]
 refine Pz 19 (some 105) (.pointer (some ⟨g, 0, none⟩)) rfl rfl (by exact StepS.pure (SeqN.pass (by decide)) rfl fun _ => by first | rfl | (go_simp; done) | (go_simp; rfl)) ?_
 try simp only [Act.put, sA, sZ, sS]
 refine Pz 20 (some 106) (.pointer (some ⟨g, 14, none⟩)) rfl rfl (by exact StepS.pure (SeqN.pass (by decide)) rfl fun _ => rfl) ?_
 try simp only [Act.put, sA, sZ, sS]
 refine Pz 21 none undef rfl rfl ?ywg49_71 ?rwg49_71
 case ywg49_71 =>
  refine StepS.store [14, 15, 18] (by kernel_rfl) (by rfl) (fun L9 m9 w9 hSh hAt hDn hS => ?_)
  obtain ⟨X2, x2, wq, hv, hy, hg, hbk⟩ := SeqN.at_ [14, 15, 18] [] hSh hAt hDn (by kernel_rfl) hS
  obtain ⟨rfl, rfl⟩ : X = X2 ∧ x = x2 := by have h9 : Value.slice X (n5 + 1) x = .slice X2 (n5 + 1) x2 := (hAt 15 (by simp)).2.symm.trans hv; simpa using h9
  have hN2 : Blk (w9.setCell ⟨g, 14, none⟩ (.slice X (n5 + 1) x)) g 93 (pairC T r A7 n7 c7 A2 n2 c2 A3 n3 c3 (.slice A4 n4 c4) (.slice X (n5 + 1) x) (.slice A6 n6 c6)) := by simpa using hbk.set_ 14 (.slice X (n5 + 1) x)
  have hg2 : w9.grownBy (w9.setCell ⟨g, 14, none⟩ (.slice X (n5 + 1) x)) (some g) := only_setCell (World.grownBy.refl _ _) (.inl rfl) _
  have y9 : w9.cell? ⟨g, 14, none⟩ = some (.slice A5 n5 c5) := hbk.cell 14
  have fx : w9.frozen? ⟨g, 14, none⟩ = false := hbk.frozen 14
  refine ⟨w9.setCell ⟨g, 14, none⟩ (.slice X (n5 + 1) x), ?_, SeqN.set_ [14, 15, 18] [] hSh hAt hDn (by kernel_rfl) (by decide) (by decide) ⟨X, x, wq, hv, hy, (grown_two hg hg2), hN2⟩⟩
  clear hv hy hbk hN2 hg2 hS hg
  go_simp
 try simp only [Act.put]
 refine Ps.done (by kernel_rfl) (fun wg49 hS => ?_) _
 obtain ⟨X2, x2, wq, hv, hy, hg, hbk⟩ := SeqN.fin (by rfl) hS
 clear hS
 obtain ⟨rfl, rfl⟩ : X = X2 ∧ x = x2 := by have h9 : Value.slice X (n5 + 1) x = .slice X2 (n5 + 1) x2 := hv; simpa using h9
 clear hv
 have HY := Lib.hid hy
 have HG := Lib.hid hg
 have HBK := Lib.hid hbk
 clear hy hg hbk
 obtain ⟨w8, rfl⟩ : ∃ x, x = wg49 := ⟨_, rfl⟩
 go_wp2_with fail
 go_ret
 refine DoesC.mk rfl ((HQ5.out.mono hB).trans (HY.out.bel HP5.out.base4.2.1 HG.out HP5.out.g0 HB5.out)) (HP5.out.aput HY.out.ch HY.out.own HY.out.at_ HG.out HBK.out HRD5.out hcap HP5.out.ah HP5.out.ca HP5.out.bf HP5.out.cb) ?_ ?_ (by omega) (by omega)
 · rw [HT.out, ← Lay.ownO_len HP5.out.pt]; exact HI.out.end_ok (by rw [← HE.out]; exact HE0.out)
 · rw [HT.out]; exact HX.out.puts _
end Go.Proofs.Ytojghgbaiiajfaa
/- (*pair).does: the sender ticks. Conditions: the pair is sound. -/
namespace Go.Proofs.Ytojghgbaiiajfaa
open Go.RowKit
theorem dataP_le (ses lim above : Int) : ∀ (l : List BC) (n : Int), (dataP ses lim above n l).length ≤ l.length
 | [], _ => Nat.le_refl _
 | x :: l, n => by
  have ih := dataP_le ses lim above l (n + 1)
  unfold dataP
  split
  · exact Nat.zero_le _
  · rw [List.length_append, List.length_cons]
    split
    · rw [List.length_singleton]; omega
    · rw [List.length_nil]; omega
set_option maxRecDepth 100000 in
set_option maxHeartbeats 16000000 in
theorem does_tick (B0 g : Nat) (w : World) (σ room : Int) (s : SC) (r : RC) (way : List PK) (put taken : List BC) (A : Option Addr) (n c : Nat) (A2 : Option Addr) (n2 c2 : Nat) (A3 : Option Addr) (n3 c3 : Nat) (A4 : Option Addr) (n4 c4 : Nat) (A5 : Option Addr) (n5 c5 : Nat) (A6 : Option Addr) (n6 c6 : Nat) (kind pick k : Int) (stays : Bool) (row : List VV) (R : Option Addr) (rn rc : Nat)
 (h : PM B0 g w s r way put taken A n c A2 n2 c2 A3 n3 c3 A4 n4 c4 A5 n5 c5 A6 n6 c6) (hi : SInv σ room s r way put taken) (hx : EX s r way) (hrow : LV.rd w (PF w g A4 A5 A6) R rn row) (_hrn : rn ≤ rc ∧ rc ≤ 9223372036854775807) (hB : B0 ≤ w.heap.size) (hn4 : n4 ≤ 1000) (_hn5 : n5 ≤ 1000) (hk : Int.tmod (IntKind.u64.wrap kind) 11 = k) (hk1 : ¬ k < 2) (hk2 : ¬ k = 2) (hk3 : k < 5) :
 Calls Try.prog 40 #[.pointer (some ⟨g, 0, none⟩), .agg (deedC kind pick stays R rn rc)] w (DoesC B0 g σ room n4 n5 w) := by
 have HK2 := Lib.hid hk2
 clear hk2
 have q1 := bl_al (Below.refl w.heap.size w) (.cells (deedC kind pick stays R rn rc) 91)
 have HP1 := Lib.hid (h.below q1)
 have HD1 := Lib.hid (Blk.new w 91 (deedC kind pick stays R rn rc))
 have HROW1 := Lib.hid (Lay.rd_weak (fun _ hb _ => PF.up q1.size hb) (Lay.rd_below hrow q1))
 have HQ1 := Lib.hid q1
 have HKK := Lib.hid hk
 have HI := Lib.hid hi
 have HX := Lib.hid hx
 have HSB := Lib.hid ((sp_iff s).2 hi.sb)
 have HRB := Lib.hid ((rp_iff r).2 hi.rb)
 have hb0 : 0 ≤ s.base := by have := hi.sb.b1; omega
 have hb1 : B0 ≤ w.heap.size + 1 := by omega
 have hsz : (w.alloc (.cells (deedC kind pick stays R rn rc) 91)).heap.size = w.heap.size + 1 := World.size_alloc _ _
 have HB1 := Lib.hid (show B0 ≤ (w.alloc (.cells (deedC kind pick stays R rn rc) 91)).heap.size by rw [hsz]; exact hb1)
 have hcq := h.cq
 have hca := h.ca
 have hcb := h.cb
 have htl : n6 ≤ n5 := by
  have h1 := hi.tn.2
  have h2 := Lay.ownO_len h.pt
  have h3 := Lay.ownO_len h.tk
  omega
 clear q1 h hi hx hrow hk hsz hb1
 go_enter Try.func40, Try.ntmps40
 go_upto_region 1 with fail
 generalize w.alloc (.cells (deedC kind pick stays R rn rc) 91) = w1 at *
 refine wp_region_ps0 .text (S := fun _ _ w' => w' = w1) (by kernel_rfl) ?spswg72 ?ppswg72
 case spswg72 =>
  rfl
 refine Pz 0 (some 23) (.pointer (some ⟨w.heap.size, 0, none⟩)) rfl rfl (by exact StepS.pure nP rfl fun _ => rfl) ?_
 try simp only [Act.put, sA, sZ, sS]
 refine Pz 1 (some 24) (.int .i64 (kind)) rfl rfl ?ywg72_74 ?rwg72_74
 case ywg72_74 =>
  refine StepS.read [] (by kernel_rfl) nP (by rfl) (fun L9 m9 w9 hSh hAt hDn hS => ?_)
  have hT : Below w1.heap.size w1 w9 := by rw [show w9 = w1 from hS]; exact Below.refl _ _
  have x0 : w9.cell? ⟨w.heap.size, 0, none⟩ = some (.int .i64 (kind)) := (HD1.out.ca hT).cell 0
  clear hT hS
  go_simp
  try rfl
 try simp only [Act.put, sA, sZ, sS]
 refine Pz 2 (some 25) (.int .u64 (IntKind.u64.wrap (kind))) rfl rfl (by exact StepS.pure nP rfl fun _ => rfl) ?_
 try simp only [Act.put, sA, sZ, sS]
 refine Pz 3 (some 26) (.int .u64 (k)) rfl rfl ?ywg72_76 ?rwg72_76
 case ywg72_76 =>
  refine StepS.pure nP (by rfl) (fun w9 => ?_)
  refine Eq.trans ?_ (congrArg (fun z => Result.ok (Next.value (Value.int .u64 z)) w9) HKK.out)
  first | rfl | (go_simp; done) | (go_simp; rfl)
 try simp only [Act.put, sA, sZ, sS]
 refine Pz 4 (some 5) (.int .u64 (k)) rfl rfl (by exact StepS.pure nP rfl fun _ => rfl) ?_
 try simp only [Act.put, sA, sZ, sS]
 refine Ps.done (by kernel_rfl) (fun wg72 hS => ?_) _
 obtain rfl : w1 = wg72 := (show wg72 = w1 from hS).symm
 clear hS
 have y13 := HP1.out.blk.cell 13
 go_upto_if 33 with fail
 clear y13
 go_cut [6, 7] (fun at9 n9 wx => (∃ i : Int, at9 = .int .i64 i) ∧ n9 = .int .i64 (n4 : Int) ∧ wx = w1)
 case first =>
  by_cases hn : n4 = 0
  · have hn0 : (0 < n4) = False := by simp [hn]
    go_wp2_with fail
    go_meet
    exact ⟨⟨_, rfl⟩, by simp [hn], rfl⟩
  · have hn0 : 0 < n4 := by omega
    obtain ⟨i, hi9, hin⟩ : ∃ i : Nat, Int.tmod (IntKind.u64.wrap pick) (n4 : Int) = (i : Int) ∧ i < n4 := by
     have h0 : 0 ≤ IntKind.u64.wrap pick := by simp [IntKind.wrap, IntKind.signed, IntKind.bits]; omega
     refine ⟨(Int.tmod (IntKind.u64.wrap pick) (n4 : Int)).toNat, ?_, ?_⟩
     · have := Int.tmod_nonneg (n4 : Int) h0; omega
     · have h1 := Int.tmod_nonneg (n4 : Int) h0; have h2 := Int.tmod_lt_of_pos (IntKind.u64.wrap pick) (show (0 : Int) < n4 by omega); omega
    have HIX := Lib.hid hi9
    have hnz : ¬ n4 = 0 := by omega
    have HW1 := Lib.hid (show IntKind.u64.wrap (n4 : Int) = (n4 : Int) from u64_in (by omega) (by omega))
    have HW2 := Lib.hid (show IntKind.i64.wrap (i : Int) = (i : Int) from i64_inE (by omega) (by omega))
    clear hi9
    have y13 := HP1.out.blk.cell 13
    go_upto_region 5 with fail
    clear y13
    refine wp_region_ps0 .text (S := fun _ _ w' => w' = w1) (by kernel_rfl) ?spswg78 ?ppswg78
    case spswg78 =>
     rfl
    refine Pz 0 (some 34) (.pointer (some ⟨w.heap.size, 1, none⟩)) rfl rfl (by exact StepS.pure nP rfl fun _ => rfl) ?_
    try simp only [Act.put, sA, sZ, sS]
    refine Pz 1 (some 35) (.int .i64 (pick)) rfl rfl ?ywg78_80 ?rwg78_80
    case ywg78_80 =>
     refine StepS.read [] (by kernel_rfl) nP (by rfl) (fun L9 m9 w9 hSh hAt hDn hS => ?_)
     have hT : Below w1.heap.size w1 w9 := by rw [show w9 = w1 from hS]; exact Below.refl _ _
     have x0 : w9.cell? ⟨w.heap.size, 1, none⟩ = some (.int .i64 (pick)) := (HD1.out.ca hT).cell 1
     clear hT hS
     go_simp
     try rfl
    try simp only [Act.put, sA, sZ, sS]
    refine Pz 2 (some 36) (.int .u64 (IntKind.u64.wrap (pick))) rfl rfl (by exact StepS.pure nP rfl fun _ => rfl) ?_
    try simp only [Act.put, sA, sZ, sS]
    refine Pz 3 (some 37) (.int .i64 ((n4 : Int))) rfl rfl (by exact StepS.pure nP rfl fun _ => rfl) ?_
    try simp only [Act.put, sA, sZ, sS]
    refine Pz 4 (some 38) (.int .u64 ((n4 : Int))) rfl rfl ?ywg78_83 ?rwg78_83
    case ywg78_83 =>
     refine StepS.pure nP (by rfl) (fun w9 => ?_)
     refine Eq.trans ?_ (congrArg (fun z => Result.ok (Next.value (Value.int .u64 z)) w9) HW1.out)
     first | rfl | (go_simp; done) | (go_simp; rfl)
    try simp only [Act.put, sA, sZ, sS]
    refine Pz 5 (some 39) (.int .u64 ((i : Int))) rfl rfl ?ywg78_84 ?rwg78_84
    case ywg78_84 =>
     refine StepS.pure nP (by rfl) (fun w9 => ?_)
     refine Eq.trans ?_ (congrArg (fun z => Result.ok (Next.value (Value.int .u64 z)) w9) HIX.out)
     first | rfl | (go_simp; done) | (go_simp; rfl)
    try simp only [Act.put, sA, sZ, sS]
    refine Pz 6 (some 40) (.int .i64 ((i : Int))) rfl rfl ?ywg78_85 ?rwg78_85
    case ywg78_85 =>
     refine StepS.pure nP (by rfl) (fun w9 => ?_)
     refine Eq.trans ?_ (congrArg (fun z => Result.ok (Next.value (Value.int .i64 z)) w9) HW2.out)
     first | rfl | (go_simp; done) | (go_simp; rfl)
    try simp only [Act.put, sA, sZ, sS]
    refine Pz 7 (some 6) (.int .i64 ((i : Int))) rfl rfl (by exact StepS.pure nP rfl fun _ => rfl) ?_
    try simp only [Act.put, sA, sZ, sS]
    refine Ps.done (by kernel_rfl) (fun wg78 hS => ?_) _
    obtain rfl : w1 = wg78 := (show wg78 = w1 from hS).symm
    clear hS
    go_wp2_with fail
    go_meet
    exact ⟨⟨_, rfl⟩, rfl, rfl⟩
 case rest =>
 obtain ⟨⟨i0, rfl⟩, rfl, hw9⟩ := hcut
 obtain rfl := hw9.symm
 have hk2b : (k == 2) = false := by simpa using HK2.out
 have y0 := HP1.out.blk.cell 0
 have y1 := HP1.out.blk.cell 1
 have y2 := HP1.out.blk.cell 2
 have y3 := HP1.out.blk.cell 3
 have y4 := HP1.out.blk.cell 4
 have y5 := HP1.out.blk.cell 5
 have y6 := HP1.out.blk.cell 6
 go_wp2_with fail
 refine (tick_any (PF w1 g A4 A5 A6) s A n c w1 (fun k hk => hk.1) HP1.out.q (by omega) hb0).mono ?_
 rintro e w3 ⟨T0, A', n', c', N, PA, pn, pc, rfl, ho, hto⟩
 obtain ⟨q4, ho⟩ := HP1.out.sends ho HSB.out
 clear y0 y1 y2 y3 y4 y5 y6
 rcases ho with ⟨h0, _⟩ | ⟨_, rfl, A7, n7, c7, hC, hcap, hrd⟩
 · exact absurd rfl h0
 unfold TickO at hto
 rw [if_pos HSB.out] at hto
 have hpl := Lay.own_caps hto
 have hpn : pn ≤ 8 := by
  have h1 := Lay.own_len hto
  have h2 := dataP_le s.ses s.lim (aboveS s) s.q s.base
  have h3 := HI.out.sb.ln
  have h4 : (outP s).length = (dataP s.ses s.lim (aboveS s) s.base s.q).length := rfl
  omega
 have hout : LP7.rd w3 (PF w3 g A4 A5 A6) PA pn (outP s) := Lay.own_rd hto (fun b h1 h2 => HP1.out.fence q4.size (.inr h1) h2) (fun b hb hl => HP1.out.fence q4.size (.inl hb) hl)
 obtain ⟨T, hT⟩ : ∃ T, T = tickR s := ⟨_, rfl⟩
 rw [← hT] at hC hrd
 have HT := Lib.hid hT
 rw [hC]
 have q5 := bl_al q4 (.cells (T.cells A7 n7 c7) 29)
 have HQ5 := Lib.hid (bl_ca HQ1.out q5)
 have HP5 := Lib.hid (HP1.out.below q5)
 have HB5 := Lib.hid (Nat.le_trans HB1.out q5.size)
 have HV5 := Lib.hid (Blk.new w3 29 (T.cells A7 n7 c7))
 have q6 := bl_al (Below.refl w3.heap.size w3) (.cells (T.cells A7 n7 c7) 29)
 have HRD5 := Lib.hid (Lay.rd_weak (fun _ hb _ => PF.up q6.size hb) (Lay.rd_below hrd q6))
 have HOUT5 := Lib.hid (Lay.rd_weak (fun _ hb _ => PF.up q6.size hb) (Lay.rd_below hout q6))
 have HVN := Lib.hid (show ob A4 ≠ some w3.heap.size from fun e => by have := (HP1.out.base4.1 _ e).2; have := q4.size; omega)
 clear hC hT q4 q5 q6 hrd hout hto
 go_upto_region 17 with fail
 generalize w3.alloc (.cells (T.cells A7 n7 c7) 29) = w5 at *
 refine wp_region_ps (S := SeqN [8, 11, 14] (fun z mm w' => match z with | 0 => Below w5.heap.size w5 w' | 1 => ∃ X x, mm 8 = .slice X (n4 + pn) x ∧ AppY LP7 47 w5 B0 g A4 A4 A5 A6 (way ++ outP s) X (n4 + pn) x w' | 2 => ∃ X x wq, mm 8 = .slice X (n4 + pn) x ∧ AppY LP7 47 w5 B0 g A4 A4 A5 A6 (way ++ outP s) X (n4 + pn) x wq ∧ wq.grownBy w' (some g) ∧ Blk w' g 93 (pairC T r A7 n7 c7 A2 n2 c2 A3 n3 c3 (.slice A4 n4 c4) (.slice A5 n5 c5) (.slice A6 n6 c6)) | _ => ∃ X x wq, mm 8 = .slice X (n4 + pn) x ∧ AppY LP7 47 w5 B0 g A4 A4 A5 A6 (way ++ outP s) X (n4 + pn) x wq ∧ wq.grownBy w' (some g) ∧ Blk w' g 93 (pairC T r A7 n7 c7 A2 n2 c2 A3 n3 c3 (.slice X (n4 + pn) x) (.slice A5 n5 c5) (.slice A6 n6 c6)))) (by kernel_rfl) ?spswg87 ?ppswg87
 case spswg87 =>
  exact SeqN.start (by decide) (Below.refl _ _).drew
 refine Pz 0 (some 119) (.pointer (some ⟨g, 0, none⟩)) rfl rfl (by exact StepS.pure (SeqN.pass (by decide)) rfl fun _ => rfl) ?_
 try simp only [Act.put, sA, sZ, sS]
 refine Pz 1 (some 120) (.pointer (some ⟨g, 0, none⟩)) rfl rfl (by exact StepS.pure (SeqN.pass (by decide)) rfl fun _ => rfl) ?_
 try simp only [Act.put, sA, sZ, sS]
 refine Pz 2 (some 121) (.agg #[.int .u32 (T.ses), .int .u64 (T.base), .slice A7 n7 c7, .int .u64 (T.sent), .int .u64 (T.lim), .int .i64 (T.timer), .bool (T.ended)]) rfl rfl ?ywg87_90 ?rwg87_90
 case ywg87_90 =>
  refine StepS.read [] (by kernel_rfl) (SeqN.pass (by decide)) (by rfl) (fun L9 m9 w9 hSh hAt hDn hS => ?_)
  have hT : Chg (fun k => ob A4 = some k) w5 w9 := SeqN.le [8] [11, 14] (T := fun w9 => Chg (fun k => ob A4 = some k) w5 w9) (post_no hSh hDn (by kernel_rfl)) (fun z _ _ hz h => by match z, hz, h with | 0, _, h => exact Chg.of_below h | 1, _, h => exact (let ⟨_, _, _, hy⟩ := h; hy.ch) | _ + 2, hz, _ => exact absurd hz (by simp)) hS
  have x0 : w9.cell? ⟨w3.heap.size, 0, none⟩ = some (.int .u32 (T.ses)) := (HV5.out.chg hT HVN.out).cell 0
  have x1 : w9.cell? ⟨w3.heap.size, 1, none⟩ = some (.int .u64 (T.base)) := (HV5.out.chg hT HVN.out).cell 1
  have x2 : w9.cell? ⟨w3.heap.size, 2, none⟩ = some (.slice A7 n7 c7) := (HV5.out.chg hT HVN.out).cell 2
  have x3 : w9.cell? ⟨w3.heap.size, 3, none⟩ = some (.int .u64 (T.sent)) := (HV5.out.chg hT HVN.out).cell 3
  have x4 : w9.cell? ⟨w3.heap.size, 4, none⟩ = some (.int .u64 (T.lim)) := (HV5.out.chg hT HVN.out).cell 4
  have x5 : w9.cell? ⟨w3.heap.size, 5, none⟩ = some (.int .i64 (T.timer)) := (HV5.out.chg hT HVN.out).cell 5
  have x6 : w9.cell? ⟨w3.heap.size, 6, none⟩ = some (.bool (T.ended)) := (HV5.out.chg hT HVN.out).cell 6
  clear hT hS
  go_simp
  try rfl
 try simp only [Act.put, sA, sZ, sS]
 refine Pz 3 (some 122) (.pointer (some ⟨g, 0, none⟩)) rfl rfl (by exact StepS.pure (SeqN.pass (by decide)) rfl fun _ => rfl) ?_
 try simp only [Act.put, sA, sZ, sS]
 refine Pz 4 (some 123) (.pointer (some ⟨g, 0, none⟩)) rfl rfl (by exact StepS.pure (SeqN.pass (by decide)) rfl fun _ => by first | rfl | (go_simp; done) | (go_simp; rfl)) ?_
 try simp only [Act.put, sA, sZ, sS]
 refine Pz 5 (some 124) (.pointer (some ⟨g, 13, none⟩)) rfl rfl (by exact StepS.pure (SeqN.pass (by decide)) rfl fun _ => rfl) ?_
 try simp only [Act.put, sA, sZ, sS]
 refine Pz 6 (some 125) (.slice A4 n4 c4) rfl rfl ?ywg87_94 ?rwg87_94
 case ywg87_94 =>
  refine StepS.read [] (by kernel_rfl) (SeqN.pass (by decide)) (by rfl) (fun L9 m9 w9 hSh hAt hDn hS => ?_)
  have hT : Chg (fun k => ob A4 = some k) w5 w9 := SeqN.le [8] [11, 14] (T := fun w9 => Chg (fun k => ob A4 = some k) w5 w9) (post_no hSh hDn (by kernel_rfl)) (fun z _ _ hz h => by match z, hz, h with | 0, _, h => exact Chg.of_below h | 1, _, h => exact (let ⟨_, _, _, hy⟩ := h; hy.ch) | _ + 2, hz, _ => exact absurd hz (by simp)) hS
  have x0 : w9.cell? ⟨g, 13, none⟩ = some (.slice A4 n4 c4) := (HP5.out.blk.chg hT HP5.out.dg.1).cell 13
  clear hT hS
  go_simp
  try rfl
 try simp only [Act.put, sA, sZ, sS]
 refine Pz 7 (some 126) (.slice PA pn pc) rfl rfl (by exact StepS.pure (SeqN.pass (by decide)) rfl fun _ => rfl) ?_
 try simp only [Act.put, sA, sZ, sS]
 refine Ps.one (k := 8) (d := some 127) rfl rfl (by kernel_rfl) (TurnS.value (V := fun v => ∃ X x, v = .slice X (n4 + pn) x) [] (by kernel_rfl) (by rfl) (fun L9 m9 w9 hSh hAt hDn hS => ?cwg87_96)) (fun v8 hVv8 => ?rwg87_96)
 case cwg87_96 =>
  have hT := SeqN.at_ (m0 := m9) (m1 := m9) [] [11, 14] hSh (fun d hd => by cases hd) hDn (by kernel_rfl) hS
  obtain ⟨X, x, w8, hrun, hy⟩ := HP5.out.app4 hT (d := pc) (Lay.rd_weak (fun b hb hl => HP5.out.fence hT.size (.inl hb) hl) (Lay.rd_below HOUT5.out hT)) (by omega) HB5.out
  exact ⟨_, w8, exec_append (.tmp 125) (.tmp 126) 50 rfl rfl rfl hrun, ⟨X, x, rfl⟩, SeqN.set_ (m0 := m9) (m1 := m9) [] [11, 14] hSh (fun d hd => by cases hd) hDn (by kernel_rfl) (by decide) (by decide) ⟨X, x, upd_same _ _ _, hy⟩⟩
 try simp only [Act.put, sA, sZ, sS]
 obtain ⟨X, x, rfl⟩ := hVv8
 refine Pz 9 (some 128) (.pointer (some ⟨g, 0, none⟩)) rfl rfl (by exact StepS.pure (SeqN.pass (by decide)) rfl fun _ => by first | rfl | (go_simp; done) | (go_simp; rfl)) ?_
 try simp only [Act.put, sA, sZ, sS]
 refine Pz 10 (some 129) (.pointer (some ⟨g, 0, none⟩)) rfl rfl (by exact StepS.pure (SeqN.pass (by decide)) rfl fun _ => rfl) ?_
 try simp only [Act.put, sA, sZ, sS]
 refine Pz 11 none undef rfl rfl ?ywg87_99 ?rwg87_99
 case ywg87_99 =>
  refine StepS.store [8] (by kernel_rfl) (by rfl) (fun L9 m9 w9 hSh hAt hDn hS => ?_)
  obtain ⟨X2, x2, hv, hy⟩ := SeqN.at_ [8] [14] hSh hAt hDn (by kernel_rfl) hS
  obtain ⟨rfl, rfl⟩ : X = X2 ∧ x = x2 := by have h9 : Value.slice X (n4 + pn) x = .slice X2 (n4 + pn) x2 := (hAt 8 (by simp)).2.symm.trans hv; simpa using h9
  have hbk := HP5.out.blk.chg hy.ch HP5.out.dg.1
  refine (exec_store_part (w := w9) 29 (.tmp 129) (.tmp 121) (by rfl) g 0 93 (pairC s r A n c A2 n2 c2 A3 n3 c3 (.slice A4 n4 c4) (.slice A5 n5 c5) (.slice A6 n6 c6)) (T.cells A7 n7 c7) (pairC T r A7 n7 c7 A2 n2 c2 A3 n3 c3 (.slice A4 n4 c4) (.slice A5 n5 c5) (.slice A6 n6 c6)) (by rfl) (by rfl) hbk (by simp) senderI (by simp [Value.oneCell']) (by rfl)).imp fun w7 hx => ⟨hx.1, SeqN.set_ [8] [14] hSh hAt hDn (by kernel_rfl) (by decide) (by decide) ⟨X, x, w9, hv, hy, hx.2.2, hx.2.1⟩⟩
 try simp only [Act.put]
 refine Pz 12 (some 130) (.pointer (some ⟨g, 0, none⟩)) rfl rfl (by exact StepS.pure (SeqN.pass (by decide)) rfl fun _ => by first | rfl | (go_simp; done) | (go_simp; rfl)) ?_
 try simp only [Act.put, sA, sZ, sS]
 refine Pz 13 (some 131) (.pointer (some ⟨g, 13, none⟩)) rfl rfl (by exact StepS.pure (SeqN.pass (by decide)) rfl fun _ => rfl) ?_
 try simp only [Act.put, sA, sZ, sS]
 refine Pz 14 none undef rfl rfl ?ywg87_102 ?rwg87_102
 case ywg87_102 =>
  refine StepS.store [8, 11] (by kernel_rfl) (by rfl) (fun L9 m9 w9 hSh hAt hDn hS => ?_)
  obtain ⟨X2, x2, wq, hv, hy, hg, hbk⟩ := SeqN.at_ [8, 11] [] hSh hAt hDn (by kernel_rfl) hS
  obtain ⟨rfl, rfl⟩ : X = X2 ∧ x = x2 := by have h9 : Value.slice X (n4 + pn) x = .slice X2 (n4 + pn) x2 := (hAt 8 (by simp)).2.symm.trans hv; simpa using h9
  have hN2 : Blk (w9.setCell ⟨g, 13, none⟩ (.slice X (n4 + pn) x)) g 93 (pairC T r A7 n7 c7 A2 n2 c2 A3 n3 c3 (.slice X (n4 + pn) x) (.slice A5 n5 c5) (.slice A6 n6 c6)) := by simpa using hbk.set_ 13 (.slice X (n4 + pn) x)
  have hg2 : w9.grownBy (w9.setCell ⟨g, 13, none⟩ (.slice X (n4 + pn) x)) (some g) := only_setCell (World.grownBy.refl _ _) (.inl rfl) _
  have y9 : w9.cell? ⟨g, 13, none⟩ = some (.slice A4 n4 c4) := hbk.cell 13
  have fx : w9.frozen? ⟨g, 13, none⟩ = false := hbk.frozen 13
  refine ⟨w9.setCell ⟨g, 13, none⟩ (.slice X (n4 + pn) x), ?_, SeqN.set_ [8, 11] [] hSh hAt hDn (by kernel_rfl) (by decide) (by decide) ⟨X, x, wq, hv, hy, (grown_two hg hg2), hN2⟩⟩
  clear hv hy hbk hN2 hg2 hS hg
  go_simp
 try simp only [Act.put]
 refine Ps.done (by kernel_rfl) (fun wg87 hS => ?_) _
 obtain ⟨X2, x2, wq, hv, hy, hg, hbk⟩ := SeqN.fin (by rfl) hS
 clear hS
 obtain ⟨rfl, rfl⟩ : X = X2 ∧ x = x2 := by have h9 : Value.slice X (n4 + pn) x = .slice X2 (n4 + pn) x2 := hv; simpa using h9
 clear hv
 have HY := Lib.hid hy
 have HG := Lib.hid hg
 have HBK := Lib.hid hbk
 clear hy hg hbk
 obtain ⟨w8, rfl⟩ : ∃ x, x = wg87 := ⟨_, rfl⟩
 go_wp2_with fail
 go_ret
 refine DoesC.mk rfl ((HQ5.out.mono hB).trans (HY.out.bel HP5.out.base4.1 HG.out HP5.out.g0 HB5.out)) (HP5.out.away HY.out.ch HY.out.own HY.out.at_ HG.out HBK.out HRD5.out hcap HP5.out.ah HP5.out.ca HP5.out.bf HP5.out.cb) ?_ ?_ (by omega) (by omega)
 · rw [HT.out]; exact HI.out.tick
 · rw [HT.out]; exact HX.out.tick
end Go.Proofs.Ytojghgbaiiajfaa
/- (*pair).does: an ack is said. Conditions: the pair is sound. -/
namespace Go.Proofs.Ytojghgbaiiajfaa
open Go.RowKit
set_option maxRecDepth 100000 in
set_option maxHeartbeats 16000000 in
theorem does_ack (B0 g : Nat) (w : World) (σ room : Int) (s : SC) (r : RC) (way : List PK) (put taken : List BC) (A : Option Addr) (n c : Nat) (A2 : Option Addr) (n2 c2 : Nat) (A3 : Option Addr) (n3 c3 : Nat) (A4 : Option Addr) (n4 c4 : Nat) (A5 : Option Addr) (n5 c5 : Nat) (A6 : Option Addr) (n6 c6 : Nat) (kind pick k : Int) (stays : Bool) (row : List VV) (R : Option Addr) (rn rc : Nat)
 (h : PM B0 g w s r way put taken A n c A2 n2 c2 A3 n3 c3 A4 n4 c4 A5 n5 c5 A6 n6 c6) (hi : SInv σ room s r way put taken) (hx : EX s r way) (hrow : LV.rd w (PF w g A4 A5 A6) R rn row) (_hrn : rn ≤ rc ∧ rc ≤ 9223372036854775807) (hB : B0 ≤ w.heap.size) (hn4 : n4 ≤ 1000) (_hn5 : n5 ≤ 1000) (hk : Int.tmod (IntKind.u64.wrap kind) 11 = k) (hk2 : k = 8) :
 Calls Try.prog 40 #[.pointer (some ⟨g, 0, none⟩), .agg (deedC kind pick stays R rn rc)] w (DoesC B0 g σ room n4 n5 w) := by
 subst hk2
 have q1 := bl_al (Below.refl w.heap.size w) (.cells (deedC kind pick stays R rn rc) 91)
 have HP1 := Lib.hid (h.below q1)
 have HD1 := Lib.hid (Blk.new w 91 (deedC kind pick stays R rn rc))
 have HROW1 := Lib.hid (Lay.rd_weak (fun _ hb _ => PF.up q1.size hb) (Lay.rd_below hrow q1))
 have HQ1 := Lib.hid q1
 have HKK := Lib.hid hk
 have HI := Lib.hid hi
 have HX := Lib.hid hx
 have HSB := Lib.hid ((sp_iff s).2 hi.sb)
 have HRB := Lib.hid ((rp_iff r).2 hi.rb)
 have hb0 : 0 ≤ s.base := by have := hi.sb.b1; omega
 have hb1 : B0 ≤ w.heap.size + 1 := by omega
 have hsz : (w.alloc (.cells (deedC kind pick stays R rn rc) 91)).heap.size = w.heap.size + 1 := World.size_alloc _ _
 have HB1 := Lib.hid (show B0 ≤ (w.alloc (.cells (deedC kind pick stays R rn rc) 91)).heap.size by rw [hsz]; exact hb1)
 have hcq := h.cq
 have hca := h.ca
 have hcb := h.cb
 have htl : n6 ≤ n5 := by
  have h1 := hi.tn.2
  have h2 := Lay.ownO_len h.pt
  have h3 := Lay.ownO_len h.tk
  omega
 clear q1 h hi hx hrow hk hsz hb1
 go_enter Try.func40, Try.ntmps40
 go_upto_region 1 with fail
 generalize w.alloc (.cells (deedC kind pick stays R rn rc) 91) = w1 at *
 refine wp_region_ps0 .text (S := fun _ _ w' => w' = w1) (by kernel_rfl) ?spswg103 ?ppswg103
 case spswg103 =>
  rfl
 refine Pz 0 (some 23) (.pointer (some ⟨w.heap.size, 0, none⟩)) rfl rfl (by exact StepS.pure nP rfl fun _ => rfl) ?_
 try simp only [Act.put, sA, sZ, sS]
 refine Pz 1 (some 24) (.int .i64 (kind)) rfl rfl ?ywg103_105 ?rwg103_105
 case ywg103_105 =>
  refine StepS.read [] (by kernel_rfl) nP (by rfl) (fun L9 m9 w9 hSh hAt hDn hS => ?_)
  have hT : Below w1.heap.size w1 w9 := by rw [show w9 = w1 from hS]; exact Below.refl _ _
  have x0 : w9.cell? ⟨w.heap.size, 0, none⟩ = some (.int .i64 (kind)) := (HD1.out.ca hT).cell 0
  clear hT hS
  go_simp
  try rfl
 try simp only [Act.put, sA, sZ, sS]
 refine Pz 2 (some 25) (.int .u64 (IntKind.u64.wrap (kind))) rfl rfl (by exact StepS.pure nP rfl fun _ => rfl) ?_
 try simp only [Act.put, sA, sZ, sS]
 refine Pz 3 (some 26) (.int .u64 (8)) rfl rfl ?ywg103_107 ?rwg103_107
 case ywg103_107 =>
  refine StepS.pure nP (by rfl) (fun w9 => ?_)
  refine Eq.trans ?_ (congrArg (fun z => Result.ok (Next.value (Value.int .u64 z)) w9) HKK.out)
  first | rfl | (go_simp; done) | (go_simp; rfl)
 try simp only [Act.put, sA, sZ, sS]
 refine Pz 4 (some 5) (.int .u64 (8)) rfl rfl (by exact StepS.pure nP rfl fun _ => rfl) ?_
 try simp only [Act.put, sA, sZ, sS]
 refine Ps.done (by kernel_rfl) (fun wg103 hS => ?_) _
 obtain rfl : w1 = wg103 := (show wg103 = w1 from hS).symm
 clear hS
 have y13 := HP1.out.blk.cell 13
 go_upto_if 33 with fail
 clear y13
 go_cut [6, 7] (fun at9 n9 wx => (∃ i : Int, at9 = .int .i64 i) ∧ n9 = .int .i64 (n4 : Int) ∧ wx = w1)
 case first =>
  by_cases hn : n4 = 0
  · have hn0 : (0 < n4) = False := by simp [hn]
    go_wp2_with fail
    go_meet
    exact ⟨⟨_, rfl⟩, by simp [hn], rfl⟩
  · have hn0 : 0 < n4 := by omega
    obtain ⟨i, hi9, hin⟩ : ∃ i : Nat, Int.tmod (IntKind.u64.wrap pick) (n4 : Int) = (i : Int) ∧ i < n4 := by
     have h0 : 0 ≤ IntKind.u64.wrap pick := by simp [IntKind.wrap, IntKind.signed, IntKind.bits]; omega
     refine ⟨(Int.tmod (IntKind.u64.wrap pick) (n4 : Int)).toNat, ?_, ?_⟩
     · have := Int.tmod_nonneg (n4 : Int) h0; omega
     · have h1 := Int.tmod_nonneg (n4 : Int) h0; have h2 := Int.tmod_lt_of_pos (IntKind.u64.wrap pick) (show (0 : Int) < n4 by omega); omega
    have HIX := Lib.hid hi9
    have hnz : ¬ n4 = 0 := by omega
    have HW1 := Lib.hid (show IntKind.u64.wrap (n4 : Int) = (n4 : Int) from u64_in (by omega) (by omega))
    have HW2 := Lib.hid (show IntKind.i64.wrap (i : Int) = (i : Int) from i64_inE (by omega) (by omega))
    clear hi9
    have y13 := HP1.out.blk.cell 13
    go_upto_region 5 with fail
    clear y13
    refine wp_region_ps0 .text (S := fun _ _ w' => w' = w1) (by kernel_rfl) ?spswg109 ?ppswg109
    case spswg109 =>
     rfl
    refine Pz 0 (some 34) (.pointer (some ⟨w.heap.size, 1, none⟩)) rfl rfl (by exact StepS.pure nP rfl fun _ => rfl) ?_
    try simp only [Act.put, sA, sZ, sS]
    refine Pz 1 (some 35) (.int .i64 (pick)) rfl rfl ?ywg109_111 ?rwg109_111
    case ywg109_111 =>
     refine StepS.read [] (by kernel_rfl) nP (by rfl) (fun L9 m9 w9 hSh hAt hDn hS => ?_)
     have hT : Below w1.heap.size w1 w9 := by rw [show w9 = w1 from hS]; exact Below.refl _ _
     have x0 : w9.cell? ⟨w.heap.size, 1, none⟩ = some (.int .i64 (pick)) := (HD1.out.ca hT).cell 1
     clear hT hS
     go_simp
     try rfl
    try simp only [Act.put, sA, sZ, sS]
    refine Pz 2 (some 36) (.int .u64 (IntKind.u64.wrap (pick))) rfl rfl (by exact StepS.pure nP rfl fun _ => rfl) ?_
    try simp only [Act.put, sA, sZ, sS]
    refine Pz 3 (some 37) (.int .i64 ((n4 : Int))) rfl rfl (by exact StepS.pure nP rfl fun _ => rfl) ?_
    try simp only [Act.put, sA, sZ, sS]
    refine Pz 4 (some 38) (.int .u64 ((n4 : Int))) rfl rfl ?ywg109_114 ?rwg109_114
    case ywg109_114 =>
     refine StepS.pure nP (by rfl) (fun w9 => ?_)
     refine Eq.trans ?_ (congrArg (fun z => Result.ok (Next.value (Value.int .u64 z)) w9) HW1.out)
     first | rfl | (go_simp; done) | (go_simp; rfl)
    try simp only [Act.put, sA, sZ, sS]
    refine Pz 5 (some 39) (.int .u64 ((i : Int))) rfl rfl ?ywg109_115 ?rwg109_115
    case ywg109_115 =>
     refine StepS.pure nP (by rfl) (fun w9 => ?_)
     refine Eq.trans ?_ (congrArg (fun z => Result.ok (Next.value (Value.int .u64 z)) w9) HIX.out)
     first | rfl | (go_simp; done) | (go_simp; rfl)
    try simp only [Act.put, sA, sZ, sS]
    refine Pz 6 (some 40) (.int .i64 ((i : Int))) rfl rfl ?ywg109_116 ?rwg109_116
    case ywg109_116 =>
     refine StepS.pure nP (by rfl) (fun w9 => ?_)
     refine Eq.trans ?_ (congrArg (fun z => Result.ok (Next.value (Value.int .i64 z)) w9) HW2.out)
     first | rfl | (go_simp; done) | (go_simp; rfl)
    try simp only [Act.put, sA, sZ, sS]
    refine Pz 7 (some 6) (.int .i64 ((i : Int))) rfl rfl (by exact StepS.pure nP rfl fun _ => rfl) ?_
    try simp only [Act.put, sA, sZ, sS]
    refine Ps.done (by kernel_rfl) (fun wg109 hS => ?_) _
    obtain rfl : w1 = wg109 := (show wg109 = w1 from hS).symm
    clear hS
    go_wp2_with fail
    go_meet
    exact ⟨⟨_, rfl⟩, rfl, rfl⟩
 case rest =>
 obtain ⟨⟨i0, rfl⟩, rfl, hw9⟩ := hcut
 obtain rfl := hw9.symm
 have y7 := HP1.out.blk.cell 7
 have y8 := HP1.out.blk.cell 8
 have y9 := HP1.out.blk.cell 9
 have y10 := HP1.out.blk.cell 10
 have y11 := HP1.out.blk.cell 11
 have y12 := HP1.out.blk.cell 12
 go_wp2_with fail
 refine (ack_any _ _ r A2 n2 c2 A3 n3 c3 w1 HP1.out.ah HP1.out.bf (by omega) (by omega)).mono ?_
 rintro e w3 ⟨rfl, q4⟩
 rw [if_pos HRB.out]
 clear y7 y8 y9 y10 y11 y12
 obtain ⟨pk, hpk⟩ : ∃ pk, pk = ackR r := ⟨_, rfl⟩
 have hpr : pk.b.rows = [] := by rw [hpk]; unfold ackR; rw [if_pos HRB.out]
 rw [← hpk]
 have HPK := Lib.hid hpk
 have HPR := Lib.hid hpr
 have q5 := bl_al q4 (.cells (pk.cells none 0 0) 47)
 have HQ5 := Lib.hid (bl_ca HQ1.out q5)
 have HP5 := Lib.hid (HP1.out.below q5)
 have HB5 := Lib.hid (Nat.le_trans HB1.out q5.size)
 have HV5 := Lib.hid (Blk.new w3 47 (pk.cells none 0 0))
 have HVN := Lib.hid (show ob A4 ≠ some w3.heap.size from fun e => by have := (HP1.out.base4.1 _ e).2; have := q4.size; omega)
 clear hpk hpr q4 q5
 go_upto_region 28 with fail
 generalize w3.alloc (.cells (pk.cells none 0 0) 47) = w5 at *
 refine wp_region_ps (S := SeqN [6, 7, 10] (fun z mm w' => match z with | 0 => Below w5.heap.size w5 w' | 1 => Below w5.heap.size w5 w' ∧ ∃ gb, mm 6 = .slice (some ⟨gb, 0, none⟩) 1 1 ∧ w5.heap.size ≤ gb ∧ Blk w' gb 47 #[.int .i64 (pk.kind), .int .u32 (pk.ses), .int .u64 (pk.seq), .int .u64 (pk.lim), .slice none 0 0, .bool (pk.b.fin), .int .u64 (pk.b.cnt)] | 2 => ∃ X x, mm 7 = .slice X (n4 + 1) x ∧ AppY LP7 47 w5 B0 g A4 A4 A5 A6 (way ++ [pk]) X (n4 + 1) x w' | _ => ∃ X x wq, mm 7 = .slice X (n4 + 1) x ∧ AppY LP7 47 w5 B0 g A4 A4 A5 A6 (way ++ [pk]) X (n4 + 1) x wq ∧ wq.grownBy w' (some g) ∧ Blk w' g 93 (pairC s r A n c A2 n2 c2 A3 n3 c3 (.slice X (n4 + 1) x) (.slice A5 n5 c5) (.slice A6 n6 c6)))) (by kernel_rfl) ?spswg118 ?ppswg118
 case spswg118 =>
  exact SeqN.start (by decide) (Below.refl _ _).drew
 refine Pz 0 (some 204) (.pointer (some ⟨g, 0, none⟩)) rfl rfl (by exact StepS.pure (SeqN.pass (by decide)) rfl fun _ => rfl) ?_
 try simp only [Act.put, sA, sZ, sS]
 refine Pz 1 (some 205) (.pointer (some ⟨g, 0, none⟩)) rfl rfl (by exact StepS.pure (SeqN.pass (by decide)) rfl fun _ => rfl) ?_
 try simp only [Act.put, sA, sZ, sS]
 refine Pz 2 (some 206) (.pointer (some ⟨g, 0, none⟩)) rfl rfl (by exact StepS.pure (SeqN.pass (by decide)) rfl fun _ => by first | rfl | (go_simp; done) | (go_simp; rfl)) ?_
 try simp only [Act.put, sA, sZ, sS]
 refine Pz 3 (some 207) (.pointer (some ⟨g, 13, none⟩)) rfl rfl (by exact StepS.pure (SeqN.pass (by decide)) rfl fun _ => rfl) ?_
 try simp only [Act.put, sA, sZ, sS]
 refine Pz 4 (some 208) (.slice A4 n4 c4) rfl rfl ?ywg118_123 ?rwg118_123
 case ywg118_123 =>
  refine StepS.read [] (by kernel_rfl) (SeqN.pass (by decide)) (by rfl) (fun L9 m9 w9 hSh hAt hDn hS => ?_)
  have hT : Chg (fun k => ob A4 = some k) w5 w9 := SeqN.le [6, 7] [10] (T := fun w9 => Chg (fun k => ob A4 = some k) w5 w9) (post_no hSh hDn (by kernel_rfl)) (fun z _ _ hz h => by match z, hz, h with | 0, _, h => exact Chg.of_below h | 1, _, h => exact Chg.of_below h.1 | 2, _, h => exact (let ⟨_, _, _, hy⟩ := h; hy.ch) | _ + 3, hz, _ => exact absurd hz (by simp)) hS
  have x0 : w9.cell? ⟨g, 13, none⟩ = some (.slice A4 n4 c4) := (HP5.out.blk.chg hT HP5.out.dg.1).cell 13
  clear hT hS
  go_simp
  try rfl
 try simp only [Act.put, sA, sZ, sS]
 refine Pz 5 (some 209) (.agg #[.int .i64 (pk.kind), .int .u32 (pk.ses), .int .u64 (pk.seq), .int .u64 (pk.lim), .slice none 0 0, .bool (pk.b.fin), .int .u64 (pk.b.cnt)]) rfl rfl ?ywg118_124 ?rwg118_124
 case ywg118_124 =>
  refine StepS.read [] (by kernel_rfl) (SeqN.pass (by decide)) (by rfl) (fun L9 m9 w9 hSh hAt hDn hS => ?_)
  have hT : Chg (fun k => ob A4 = some k) w5 w9 := SeqN.le [6, 7] [10] (T := fun w9 => Chg (fun k => ob A4 = some k) w5 w9) (post_no hSh hDn (by kernel_rfl)) (fun z _ _ hz h => by match z, hz, h with | 0, _, h => exact Chg.of_below h | 1, _, h => exact Chg.of_below h.1 | 2, _, h => exact (let ⟨_, _, _, hy⟩ := h; hy.ch) | _ + 3, hz, _ => exact absurd hz (by simp)) hS
  have x0 : w9.cell? ⟨w3.heap.size, 0, none⟩ = some (.int .i64 (pk.kind)) := (HV5.out.chg hT HVN.out).cell 0
  have x1 : w9.cell? ⟨w3.heap.size, 1, none⟩ = some (.int .u32 (pk.ses)) := (HV5.out.chg hT HVN.out).cell 1
  have x2 : w9.cell? ⟨w3.heap.size, 2, none⟩ = some (.int .u64 (pk.seq)) := (HV5.out.chg hT HVN.out).cell 2
  have x3 : w9.cell? ⟨w3.heap.size, 3, none⟩ = some (.int .u64 (pk.lim)) := (HV5.out.chg hT HVN.out).cell 3
  have x4 : w9.cell? ⟨w3.heap.size, 4, none⟩ = some (.slice none 0 0) := (HV5.out.chg hT HVN.out).cell 4
  have x5 : w9.cell? ⟨w3.heap.size, 5, none⟩ = some (.bool (pk.b.fin)) := (HV5.out.chg hT HVN.out).cell 5
  have x6 : w9.cell? ⟨w3.heap.size, 6, none⟩ = some (.int .u64 (pk.b.cnt)) := (HV5.out.chg hT HVN.out).cell 6
  clear hT hS
  go_simp
  try rfl
 try simp only [Act.put, sA, sZ, sS]
 refine Ps.one (k := 6) (d := some 210) rfl rfl (by kernel_rfl) (TurnS.value (V := fun v => ∃ gb, v = .slice (some ⟨gb, 0, none⟩) 1 1) [] (by kernel_rfl) (by rfl) (fun L9 m9 w9 hSh hAt hDn hS => ?cwg118_125)) (fun v6 hVv6 => ?rwg118_125)
 case cwg118_125 =>
  have hT := SeqN.at_ (m0 := m9) (m1 := m9) [] [7, 10] hSh (fun d hd => by cases hd) hDn (by kernel_rfl) hS
  refine ⟨.slice (some ⟨w9.heap.size, 0, none⟩) 1 1, w9.alloc (.cells #[.int .i64 (pk.kind), .int .u32 (pk.ses), .int .u64 (pk.seq), .int .u64 (pk.lim), .slice none 0 0, .bool (pk.b.fin), .int .u64 (pk.b.cnt)] 47), ?_, ⟨_, rfl⟩, SeqN.set_ (m0 := m9) (m1 := m9) [] [7, 10] hSh (fun d hd => by cases hd) hDn (by kernel_rfl) (by decide) (by decide) ⟨bl_al hT _, _, upd_same _ _ _, hT.size, Blk.new _ _ _⟩⟩
  clear hT hS
  go_simp
 try simp only [Act.put, sA, sZ, sS]
 obtain ⟨gb, rfl⟩ := hVv6
 refine Ps.one (k := 7) (d := some 211) rfl rfl (by kernel_rfl) (TurnS.value (V := fun v => ∃ X x, v = .slice X (n4 + 1) x) [6] (by kernel_rfl) (by rfl) (fun L9 m9 w9 hSh hAt hDn hS => ?cwg118_126)) (fun v7 hVv7 => ?rwg118_126)
 case cwg118_126 =>
  obtain ⟨hT, gb2, hv, hg1, hg2⟩ := SeqN.at_ [6] [10] hSh hAt hDn (by kernel_rfl) hS
  obtain rfl : gb = gb2 := by have h9 : Value.slice (some ⟨gb, 0, none⟩) 1 1 = .slice (some ⟨gb2, 0, none⟩) 1 1 := (hAt 6 (by simp)).2.symm.trans hv; simpa using h9
  have hone : LP7.rd w9 (PF w9 g A4 A5 A6) (some ⟨gb, 0, none⟩) 1 [pk] := rd_blk1 hg2 ⟨none, 0, 0, rfl, by omega, by omega, by rw [HPR.out]; exact Lay.rd_nil _⟩ (HP5.out.fence hT.size (.inr hg1) hg2.lt)
  obtain ⟨X, x, w8, hrun, hy⟩ := HP5.out.app4 hT (d := 1) hone (by omega) HB5.out
  exact ⟨_, w8, exec_append (.tmp 208) (.tmp 210) 50 rfl rfl rfl hrun, ⟨X, x, rfl⟩, SeqN.set_ [6] [10] hSh hAt hDn (by kernel_rfl) (by decide) (by decide) ⟨X, x, upd_same _ _ _, hy⟩⟩
 try simp only [Act.put, sA, sZ, sS]
 obtain ⟨X, x, rfl⟩ := hVv7
 refine Pz 8 (some 212) (.pointer (some ⟨g, 0, none⟩)) rfl rfl (by exact StepS.pure (SeqN.pass (by decide)) rfl fun _ => by first | rfl | (go_simp; done) | (go_simp; rfl)) ?_
 try simp only [Act.put, sA, sZ, sS]
 refine Pz 9 (some 213) (.pointer (some ⟨g, 13, none⟩)) rfl rfl (by exact StepS.pure (SeqN.pass (by decide)) rfl fun _ => rfl) ?_
 try simp only [Act.put, sA, sZ, sS]
 refine Pz 10 none undef rfl rfl ?ywg118_129 ?rwg118_129
 case ywg118_129 =>
  refine StepS.store [6, 7] (by kernel_rfl) (by rfl) (fun L9 m9 w9 hSh hAt hDn hS => ?_)
  obtain ⟨X2, x2, hv, hy⟩ := SeqN.at_ [6, 7] [] hSh hAt hDn (by kernel_rfl) hS
  obtain ⟨rfl, rfl⟩ : X = X2 ∧ x = x2 := by have h9 : Value.slice X (n4 + 1) x = .slice X2 (n4 + 1) x2 := (hAt 7 (by simp)).2.symm.trans hv; simpa using h9
  have hbk := HP5.out.blk.chg hy.ch HP5.out.dg.1
  have hN2 : Blk (w9.setCell ⟨g, 13, none⟩ (.slice X (n4 + 1) x)) g 93 (pairC s r A n c A2 n2 c2 A3 n3 c3 (.slice X (n4 + 1) x) (.slice A5 n5 c5) (.slice A6 n6 c6)) := by simpa using hbk.set_ 13 (.slice X (n4 + 1) x)
  have hg2 : w9.grownBy (w9.setCell ⟨g, 13, none⟩ (.slice X (n4 + 1) x)) (some g) := only_setCell (World.grownBy.refl _ _) (.inl rfl) _
  have y9 : w9.cell? ⟨g, 13, none⟩ = some (.slice A4 n4 c4) := hbk.cell 13
  have fx : w9.frozen? ⟨g, 13, none⟩ = false := hbk.frozen 13
  refine ⟨w9.setCell ⟨g, 13, none⟩ (.slice X (n4 + 1) x), ?_, SeqN.set_ [6, 7] [] hSh hAt hDn (by kernel_rfl) (by decide) (by decide) ⟨X, x, w9, hv, hy, hg2, hN2⟩⟩
  clear hv hy hbk hN2 hg2 hS
  go_simp
 try simp only [Act.put]
 refine Ps.done (by kernel_rfl) (fun wg118 hS => ?_) _
 obtain ⟨X2, x2, wq, hv, hy, hg, hbk⟩ := SeqN.fin (by rfl) hS
 clear hS
 obtain ⟨rfl, rfl⟩ : X = X2 ∧ x = x2 := by have h9 : Value.slice X (n4 + 1) x = .slice X2 (n4 + 1) x2 := hv; simpa using h9
 clear hv
 have HY := Lib.hid hy
 have HG := Lib.hid hg
 have HBK := Lib.hid hbk
 clear hy hg hbk
 obtain ⟨w8, rfl⟩ : ∃ x, x = wg118 := ⟨_, rfl⟩
 go_wp2_with fail
 go_ret
 refine DoesC.mk rfl ((HQ5.out.mono hB).trans (HY.out.bel HP5.out.base4.1 HG.out HP5.out.g0 HB5.out)) (HP5.out.away HY.out.ch HY.out.own HY.out.at_ HG.out HBK.out HP5.out.q HP5.out.cq HP5.out.ah HP5.out.ca HP5.out.bf HP5.out.cb) ?_ ?_ (by omega) (by omega)
 · rw [HPK.out]; exact HI.out.says
 · rw [HPK.out]; exact HX.out.says HRB.out
end Go.Proofs.Ytojghgbaiiajfaa
