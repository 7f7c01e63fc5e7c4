/- (*pair).does: one is taken. Conditions: the pair is sound. -/
import Derived.Test.YtojghgbaiiajfaaPkE22
namespace Go.Proofs.Ytojghgbaiiajfaa
open Go.RowKit
set_option maxRecDepth 100000 in
set_option maxHeartbeats 16000000 in
theorem does_take (B0 g : Nat) (w : World) (σ room : Int) (s : SC) (r : RC) (way : List PK) (put taken : List BC) (A : Option Addr) (n c : Nat) (A2 : Option Addr) (n2 c2 : Nat) (A3 : Option Addr) (n3 c3 : Nat) (A4 : Option Addr) (n4 c4 : Nat) (A5 : Option Addr) (n5 c5 : Nat) (A6 : Option Addr) (n6 c6 : Nat) (kind pick k : Int) (stays : Bool) (row : List VV) (R : Option Addr) (rn rc : Nat)
 (h : PM B0 g w s r way put taken A n c A2 n2 c2 A3 n3 c3 A4 n4 c4 A5 n5 c5 A6 n6 c6) (hi : SInv σ room s r way put taken) (hx : EX s r way) (hrow : LV.rd w (PF w g A4 A5 A6) R rn row) (_hrn : rn ≤ rc ∧ rc ≤ 9223372036854775807) (hB : B0 ≤ w.heap.size) (hn4 : n4 ≤ 1000) (hn5 : n5 ≤ 1000) (hk : Int.tmod (IntKind.u64.wrap kind) 11 = k) (hk2 : k = 9) :
 Calls Try.prog 40 #[.pointer (some ⟨g, 0, none⟩), .agg (deedC kind pick stays R rn rc)] w (DoesC B0 g σ room n4 n5 w) := by
 subst hk2
 have q1 := bl_al (Below.refl w.heap.size w) (.cells (deedC kind pick stays R rn rc) 91)
 have HP1 := Lib.hid (h.below q1)
 have HD1 := Lib.hid (Blk.new w 91 (deedC kind pick stays R rn rc))
 have HROW1 := Lib.hid (Lay.rd_weak (fun _ hb _ => PF.up q1.size hb) (Lay.rd_below hrow q1))
 have HQ1 := Lib.hid q1
 have HKK := Lib.hid hk
 have HI := Lib.hid hi
 have HX := Lib.hid hx
 have HSB := Lib.hid ((sp_iff s).2 hi.sb)
 have HRB := Lib.hid ((rp_iff r).2 hi.rb)
 have hb0 : 0 ≤ s.base := by have := hi.sb.b1; omega
 have hb1 : B0 ≤ w.heap.size + 1 := by omega
 have hsz : (w.alloc (.cells (deedC kind pick stays R rn rc) 91)).heap.size = w.heap.size + 1 := World.size_alloc _ _
 have HB1 := Lib.hid (show B0 ≤ (w.alloc (.cells (deedC kind pick stays R rn rc) 91)).heap.size by rw [hsz]; exact hb1)
 have hcq := h.cq
 have hca := h.ca
 have hcb := h.cb
 have htl : n6 ≤ n5 := by
  have h1 := hi.tn.2
  have h2 := Lay.ownO_len h.pt
  have h3 := Lay.ownO_len h.tk
  omega
 clear q1 h hi hx hrow hk hsz hb1
 go_enter Try.func40, Try.ntmps40
 go_upto_region 1 with fail
 generalize w.alloc (.cells (deedC kind pick stays R rn rc) 91) = w1 at *
 refine wp_region_ps0 .text (S := fun _ _ w' => w' = w1) (by kernel_rfl) ?spswg130 ?ppswg130
 case spswg130 =>
  rfl
 refine Pz 0 (some 23) (.pointer (some ⟨w.heap.size, 0, none⟩)) rfl rfl (by exact StepS.pure nP rfl fun _ => rfl) ?_
 try simp only [Act.put, sA, sZ, sS]
 refine Pz 1 (some 24) (.int .i64 (kind)) rfl rfl ?ywg130_132 ?rwg130_132
 case ywg130_132 =>
  refine StepS.read [] (by kernel_rfl) nP (by rfl) (fun L9 m9 w9 hSh hAt hDn hS => ?_)
  have hT : Below w1.heap.size w1 w9 := by rw [show w9 = w1 from hS]; exact Below.refl _ _
  have x0 : w9.cell? ⟨w.heap.size, 0, none⟩ = some (.int .i64 (kind)) := (HD1.out.ca hT).cell 0
  clear hT hS
  go_simp
  try rfl
 try simp only [Act.put, sA, sZ, sS]
 refine Pz 2 (some 25) (.int .u64 (IntKind.u64.wrap (kind))) rfl rfl (by exact StepS.pure nP rfl fun _ => rfl) ?_
 try simp only [Act.put, sA, sZ, sS]
 refine Pz 3 (some 26) (.int .u64 (9)) rfl rfl ?ywg130_134 ?rwg130_134
 case ywg130_134 =>
  refine StepS.pure nP (by rfl) (fun w9 => ?_)
  refine Eq.trans ?_ (congrArg (fun z => Result.ok (Next.value (Value.int .u64 z)) w9) HKK.out)
  first | rfl | (go_simp; done) | (go_simp; rfl)
 try simp only [Act.put, sA, sZ, sS]
 refine Pz 4 (some 5) (.int .u64 (9)) rfl rfl (by exact StepS.pure nP rfl fun _ => rfl) ?_
 try simp only [Act.put, sA, sZ, sS]
 refine Ps.done (by kernel_rfl) (fun wg130 hS => ?_) _
 obtain rfl : w1 = wg130 := (show wg130 = w1 from hS).symm
 clear hS
 have y13 := HP1.out.blk.cell 13
 go_upto_if 33 with fail
 clear y13
 go_cut [6, 7] (fun at9 n9 wx => (∃ i : Int, at9 = .int .i64 i) ∧ n9 = .int .i64 (n4 : Int) ∧ wx = w1)
 case first =>
  by_cases hn : n4 = 0
  · have hn0 : (0 < n4) = False := by simp [hn]
    go_wp2_with fail
    go_meet
    exact ⟨⟨_, rfl⟩, by simp [hn], rfl⟩
  · have hn0 : 0 < n4 := by omega
    obtain ⟨i, hi9, hin⟩ : ∃ i : Nat, Int.tmod (IntKind.u64.wrap pick) (n4 : Int) = (i : Int) ∧ i < n4 := by
     have h0 : 0 ≤ IntKind.u64.wrap pick := by simp [IntKind.wrap, IntKind.signed, IntKind.bits]; omega
     refine ⟨(Int.tmod (IntKind.u64.wrap pick) (n4 : Int)).toNat, ?_, ?_⟩
     · have := Int.tmod_nonneg (n4 : Int) h0; omega
     · have h1 := Int.tmod_nonneg (n4 : Int) h0; have h2 := Int.tmod_lt_of_pos (IntKind.u64.wrap pick) (show (0 : Int) < n4 by omega); omega
    have HIX := Lib.hid hi9
    have hnz : ¬ n4 = 0 := by omega
    have HW1 := Lib.hid (show IntKind.u64.wrap (n4 : Int) = (n4 : Int) from u64_in (by omega) (by omega))
    have HW2 := Lib.hid (show IntKind.i64.wrap (i : Int) = (i : Int) from i64_inE (by omega) (by omega))
    clear hi9
    have y13 := HP1.out.blk.cell 13
    go_upto_region 5 with fail
    clear y13
    refine wp_region_ps0 .text (S := fun _ _ w' => w' = w1) (by kernel_rfl) ?spswg136 ?ppswg136
    case spswg136 =>
     rfl
    refine Pz 0 (some 34) (.pointer (some ⟨w.heap.size, 1, none⟩)) rfl rfl (by exact StepS.pure nP rfl fun _ => rfl) ?_
    try simp only [Act.put, sA, sZ, sS]
    refine Pz 1 (some 35) (.int .i64 (pick)) rfl rfl ?ywg136_138 ?rwg136_138
    case ywg136_138 =>
     refine StepS.read [] (by kernel_rfl) nP (by rfl) (fun L9 m9 w9 hSh hAt hDn hS => ?_)
     have hT : Below w1.heap.size w1 w9 := by rw [show w9 = w1 from hS]; exact Below.refl _ _
     have x0 : w9.cell? ⟨w.heap.size, 1, none⟩ = some (.int .i64 (pick)) := (HD1.out.ca hT).cell 1
     clear hT hS
     go_simp
     try rfl
    try simp only [Act.put, sA, sZ, sS]
    refine Pz 2 (some 36) (.int .u64 (IntKind.u64.wrap (pick))) rfl rfl (by exact StepS.pure nP rfl fun _ => rfl) ?_
    try simp only [Act.put, sA, sZ, sS]
    refine Pz 3 (some 37) (.int .i64 ((n4 : Int))) rfl rfl (by exact StepS.pure nP rfl fun _ => rfl) ?_
    try simp only [Act.put, sA, sZ, sS]
    refine Pz 4 (some 38) (.int .u64 ((n4 : Int))) rfl rfl ?ywg136_141 ?rwg136_141
    case ywg136_141 =>
     refine StepS.pure nP (by rfl) (fun w9 => ?_)
     refine Eq.trans ?_ (congrArg (fun z => Result.ok (Next.value (Value.int .u64 z)) w9) HW1.out)
     first | rfl | (go_simp; done) | (go_simp; rfl)
    try simp only [Act.put, sA, sZ, sS]
    refine Pz 5 (some 39) (.int .u64 ((i : Int))) rfl rfl ?ywg136_142 ?rwg136_142
    case ywg136_142 =>
     refine StepS.pure nP (by rfl) (fun w9 => ?_)
     refine Eq.trans ?_ (congrArg (fun z => Result.ok (Next.value (Value.int .u64 z)) w9) HIX.out)
     first | rfl | (go_simp; done) | (go_simp; rfl)
    try simp only [Act.put, sA, sZ, sS]
    refine Pz 6 (some 40) (.int .i64 ((i : Int))) rfl rfl ?ywg136_143 ?rwg136_143
    case ywg136_143 =>
     refine StepS.pure nP (by rfl) (fun w9 => ?_)
     refine Eq.trans ?_ (congrArg (fun z => Result.ok (Next.value (Value.int .i64 z)) w9) HW2.out)
     first | rfl | (go_simp; done) | (go_simp; rfl)
    try simp only [Act.put, sA, sZ, sS]
    refine Pz 7 (some 6) (.int .i64 ((i : Int))) rfl rfl (by exact StepS.pure nP rfl fun _ => rfl) ?_
    try simp only [Act.put, sA, sZ, sS]
    refine Ps.done (by kernel_rfl) (fun wg136 hS => ?_) _
    obtain rfl : w1 = wg136 := (show wg136 = w1 from hS).symm
    clear hS
    go_wp2_with fail
    go_meet
    exact ⟨⟨_, rfl⟩, rfl, rfl⟩
 case rest =>
 obtain ⟨⟨i0, rfl⟩, rfl, hw9⟩ := hcut
 obtain rfl := hw9.symm
 have y7 := HP1.out.blk.cell 7
 have y8 := HP1.out.blk.cell 8
 have y9 := HP1.out.blk.cell 9
 have y10 := HP1.out.blk.cell 10
 have y11 := HP1.out.blk.cell 11
 have y12 := HP1.out.blk.cell 12
 go_wp2_with fail
 refine (take_any (PF w1 g A4 A5 A6) r A2 n2 c2 A3 n3 c3 w1 (fun k hk => hk.1) HP1.out.ah HP1.out.bf (by omega) (by omega)).mono ?_
 rintro e w3 ⟨A7, n7, c7, A8, n8, c8, Bx, kx, kc, rfl, q4, hro, hbx, hkc⟩
 clear y7 y8 y9 y10 y11 y12
 obtain ⟨T, hT⟩ : ∃ T, T = takT r := ⟨_, rfl⟩
 obtain ⟨U, hU⟩ : ∃ U, U = takU r := ⟨_, rfl⟩
 obtain ⟨N, hN⟩ : ∃ N, N = takN r := ⟨_, rfl⟩
 have hTU : T = takR r ∧ U = takB r ∧ N = takE r := by
  rw [hT, hU, hN]; unfold takT takU takN; rw [if_pos HRB.out, if_pos HRB.out, if_pos HRB.out]; exact ⟨rfl, rfl, rfl⟩
 rw [← hT, ← hU, ← hN]
 rw [← hT] at hro
 rw [← hU] at hbx
 have HTU := Lib.hid hTU
 clear hT hU hN hTU
 have hra := Lay.rd_weak (fun b hb hl => HP1.out.fence q4.size hb.2 hl) hro.ra
 have hrb := Lay.rd_weak (fun b hb hl => HP1.out.fence q4.size hb.2 hl) hro.rb
 have hrx := Lay.rd_weak (fun b hb hl => HP1.out.fence q4.size (.inl hb) hl) hbx
 have hca8 := hro.ca
 have hcb8 := hro.cb
 clear hro hbx
 have p5 := bl_al (Below.refl w3.heap.size w3) (.cells (T.cells A7 n7 c7 A8 n8 c8) 36)
 have p6 := bl_al p5 (.cells (U.cells Bx kx kc) 45)
 have hs5 : (w3.alloc (.cells (T.cells A7 n7 c7 A8 n8 c8) 36)).heap.size = w3.heap.size + 1 := World.size_alloc _ _
 have HV5 := Lib.hid ((Blk.new w3 36 (T.cells A7 n7 c7 A8 n8 c8)).ca (bl_al (Below.refl _ (w3.alloc (.cells (T.cells A7 n7 c7 A8 n8 c8) 36))) (.cells (U.cells Bx kx kc) 45)))
 have hu5 := Blk.new (w3.alloc (.cells (T.cells A7 n7 c7 A8 n8 c8) 36)) 45 (U.cells Bx kx kc)
 rw [hs5] at hu5
 have HU5 := Lib.hid hu5
 have q6 := bl_ca q4 p6
 have HQ5 := Lib.hid (bl_ca HQ1.out q6)
 have HP5 := Lib.hid (HP1.out.below q6)
 have HB5 := Lib.hid (Nat.le_trans HB1.out q6.size)
 have HRA5 := Lib.hid (Lay.rd_weak (fun _ hb _ => PF.up p6.size hb) (Lay.rd_below hra p6))
 have HRB5 := Lib.hid (Lay.rd_weak (fun _ hb _ => PF.up p6.size hb) (Lay.rd_below hrb p6))
 have HRX5 := Lib.hid (Lay.rd_weak (fun _ hb _ => PF.up p6.size hb) (Lay.rd_below hrx p6))
 have HVN := Lib.hid (show ob A6 ≠ some w3.heap.size ∧ ob A6 ≠ some (w3.heap.size + 1) from ⟨fun e => by have := (HP1.out.base4.2.2 _ e).2; have := q4.size; omega, fun e => by have := (HP1.out.base4.2.2 _ e).2; have := q4.size; omega⟩)
 clear hs5 hu5 p5 p6 q4 q6 hra hrb hrx
 by_cases hN : N = 0
 · have HN := Lib.hid hN
   subst hN
   go_upto_region 33 with fail
   generalize (w3.alloc (.cells (T.cells A7 n7 c7 A8 n8 c8) 36)).alloc (.cells (U.cells Bx kx kc) 45) = w5 at *
   refine wp_region_ps (S := SeqN [8, 9, 12, 15] (fun z mm w' => match z with | 0 => Below w5.heap.size w5 w' | 1 => Below w5.heap.size w5 w' ∧ ∃ gb, mm 8 = .slice (some ⟨gb, 0, none⟩) 1 1 ∧ w5.heap.size ≤ gb ∧ Blk w' gb 45 #[.slice Bx kx kc, .bool (U.fin), .int .u64 (U.cnt)] | 2 => ∃ X x, mm 9 = .slice X (n6 + 1) x ∧ AppY LB3 45 w5 B0 g A6 A4 A5 A6 (taken ++ [U]) X (n6 + 1) x w' | 3 => ∃ X x wq, mm 9 = .slice X (n6 + 1) x ∧ AppY LB3 45 w5 B0 g A6 A4 A5 A6 (taken ++ [U]) X (n6 + 1) x wq ∧ wq.grownBy w' (some g) ∧ Blk w' g 93 (pairC s T A n c A7 n7 c7 A8 n8 c8 (.slice A4 n4 c4) (.slice A5 n5 c5) (.slice A6 n6 c6)) | _ => ∃ X x wq, mm 9 = .slice X (n6 + 1) x ∧ AppY LB3 45 w5 B0 g A6 A4 A5 A6 (taken ++ [U]) X (n6 + 1) x wq ∧ wq.grownBy w' (some g) ∧ Blk w' g 93 (pairC s T A n c A7 n7 c7 A8 n8 c8 (.slice A4 n4 c4) (.slice A5 n5 c5) (.slice X (n6 + 1) x)))) (by kernel_rfl) ?spswg145 ?ppswg145
   case spswg145 =>
    exact SeqN.start (by decide) (Below.refl _ _).drew
   refine Pz 0 (some 230) (.pointer (some ⟨g, 0, none⟩)) rfl rfl (by exact StepS.pure (SeqN.pass (by decide)) rfl fun _ => rfl) ?_
   try simp only [Act.put, sA, sZ, sS]
   refine Pz 1 (some 231) (.pointer (some ⟨g, 0, none⟩)) rfl rfl (by exact StepS.pure (SeqN.pass (by decide)) rfl fun _ => rfl) ?_
   try simp only [Act.put, sA, sZ, sS]
   refine Pz 2 (some 232) (.agg #[.int .u32 (T.ses), .int .u64 (T.next), .slice A7 n7 c7, .slice A8 n8 c8, .int .i64 (T.room), .bool (T.over)]) rfl rfl ?ywg145_148 ?rwg145_148
   case ywg145_148 =>
    refine StepS.read [] (by kernel_rfl) (SeqN.pass (by decide)) (by rfl) (fun L9 m9 w9 hSh hAt hDn hS => ?_)
    have hT : Chg (fun k => ob A6 = some k) w5 w9 := SeqN.le [8, 9] [12, 15] (T := fun w9 => Chg (fun k => ob A6 = some k) w5 w9) (post_no hSh hDn (by kernel_rfl)) (fun z _ _ hz h => by match z, hz, h with | 0, _, h => exact Chg.of_below h | 1, _, h => exact Chg.of_below h.1 | 2, _, h => exact (let ⟨_, _, _, hy⟩ := h; hy.ch) | _ + 3, hz, _ => exact absurd hz (by simp)) hS
    have x0 : w9.cell? ⟨w3.heap.size, 0, none⟩ = some (.int .u32 (T.ses)) := (HV5.out.chg hT HVN.out.1).cell 0
    have x1 : w9.cell? ⟨w3.heap.size, 1, none⟩ = some (.int .u64 (T.next)) := (HV5.out.chg hT HVN.out.1).cell 1
    have x2 : w9.cell? ⟨w3.heap.size, 2, none⟩ = some (.slice A7 n7 c7) := (HV5.out.chg hT HVN.out.1).cell 2
    have x3 : w9.cell? ⟨w3.heap.size, 3, none⟩ = some (.slice A8 n8 c8) := (HV5.out.chg hT HVN.out.1).cell 3
    have x4 : w9.cell? ⟨w3.heap.size, 4, none⟩ = some (.int .i64 (T.room)) := (HV5.out.chg hT HVN.out.1).cell 4
    have x5 : w9.cell? ⟨w3.heap.size, 5, none⟩ = some (.bool (T.over)) := (HV5.out.chg hT HVN.out.1).cell 5
    clear hT hS
    go_simp
    try rfl
   try simp only [Act.put, sA, sZ, sS]
   refine Pz 3 (some 233) (.pointer (some ⟨g, 0, none⟩)) rfl rfl (by exact StepS.pure (SeqN.pass (by decide)) rfl fun _ => rfl) ?_
   try simp only [Act.put, sA, sZ, sS]
   refine Pz 4 (some 234) (.pointer (some ⟨g, 0, none⟩)) rfl rfl (by exact StepS.pure (SeqN.pass (by decide)) rfl fun _ => by first | rfl | (go_simp; done) | (go_simp; rfl)) ?_
   try simp only [Act.put, sA, sZ, sS]
   refine Pz 5 (some 235) (.pointer (some ⟨g, 15, none⟩)) rfl rfl (by exact StepS.pure (SeqN.pass (by decide)) rfl fun _ => rfl) ?_
   try simp only [Act.put, sA, sZ, sS]
   refine Pz 6 (some 236) (.slice A6 n6 c6) rfl rfl ?ywg145_152 ?rwg145_152
   case ywg145_152 =>
    refine StepS.read [] (by kernel_rfl) (SeqN.pass (by decide)) (by rfl) (fun L9 m9 w9 hSh hAt hDn hS => ?_)
    have hT : Chg (fun k => ob A6 = some k) w5 w9 := SeqN.le [8, 9] [12, 15] (T := fun w9 => Chg (fun k => ob A6 = some k) w5 w9) (post_no hSh hDn (by kernel_rfl)) (fun z _ _ hz h => by match z, hz, h with | 0, _, h => exact Chg.of_below h | 1, _, h => exact Chg.of_below h.1 | 2, _, h => exact (let ⟨_, _, _, hy⟩ := h; hy.ch) | _ + 3, hz, _ => exact absurd hz (by simp)) hS
    have x0 : w9.cell? ⟨g, 15, none⟩ = some (.slice A6 n6 c6) := (HP5.out.blk.chg hT HP5.out.dg.2.2).cell 15
    clear hT hS
    go_simp
    try rfl
   try simp only [Act.put, sA, sZ, sS]
   refine Pz 7 (some 237) (.agg #[.slice Bx kx kc, .bool (U.fin), .int .u64 (U.cnt)]) rfl rfl ?ywg145_153 ?rwg145_153
   case ywg145_153 =>
    refine StepS.read [] (by kernel_rfl) (SeqN.pass (by decide)) (by rfl) (fun L9 m9 w9 hSh hAt hDn hS => ?_)
    have hT : Chg (fun k => ob A6 = some k) w5 w9 := SeqN.le [8, 9] [12, 15] (T := fun w9 => Chg (fun k => ob A6 = some k) w5 w9) (post_no hSh hDn (by kernel_rfl)) (fun z _ _ hz h => by match z, hz, h with | 0, _, h => exact Chg.of_below h | 1, _, h => exact Chg.of_below h.1 | 2, _, h => exact (let ⟨_, _, _, hy⟩ := h; hy.ch) | _ + 3, hz, _ => exact absurd hz (by simp)) hS
    have x0 : w9.cell? ⟨w3.heap.size + 1, 0, none⟩ = some (.slice Bx kx kc) := (HU5.out.chg hT HVN.out.2).cell 0
    have x1 : w9.cell? ⟨w3.heap.size + 1, 1, none⟩ = some (.bool (U.fin)) := (HU5.out.chg hT HVN.out.2).cell 1
    have x2 : w9.cell? ⟨w3.heap.size + 1, 2, none⟩ = some (.int .u64 (U.cnt)) := (HU5.out.chg hT HVN.out.2).cell 2
    clear hT hS
    go_simp
    try rfl
   try simp only [Act.put, sA, sZ, sS]
   refine Ps.one (k := 8) (d := some 238) rfl rfl (by kernel_rfl) (TurnS.value (V := fun v => ∃ gb, v = .slice (some ⟨gb, 0, none⟩) 1 1) [] (by kernel_rfl) (by rfl) (fun L9 m9 w9 hSh hAt hDn hS => ?cwg145_154)) (fun v8 hVv8 => ?rwg145_154)
   case cwg145_154 =>
    have hT := SeqN.at_ (m0 := m9) (m1 := m9) [] [9, 12, 15] hSh (fun d hd => by cases hd) hDn (by kernel_rfl) hS
    refine ⟨.slice (some ⟨w9.heap.size, 0, none⟩) 1 1, w9.alloc (.cells #[.slice Bx kx kc, .bool (U.fin), .int .u64 (U.cnt)] 45), ?_, ⟨_, rfl⟩, SeqN.set_ (m0 := m9) (m1 := m9) [] [9, 12, 15] hSh (fun d hd => by cases hd) hDn (by kernel_rfl) (by decide) (by decide) ⟨bl_al hT _, _, upd_same _ _ _, hT.size, Blk.new _ _ _⟩⟩
    clear hT hS
    go_simp
   try simp only [Act.put, sA, sZ, sS]
   obtain ⟨gb, rfl⟩ := hVv8
   refine Ps.one (k := 9) (d := some 239) rfl rfl (by kernel_rfl) (TurnS.value (V := fun v => ∃ X x, v = .slice X (n6 + 1) x) [8] (by kernel_rfl) (by rfl) (fun L9 m9 w9 hSh hAt hDn hS => ?cwg145_155)) (fun v9 hVv9 => ?rwg145_155)
   case cwg145_155 =>
    obtain ⟨hT, gb2, hv, hg1, hg2⟩ := SeqN.at_ [8] [12, 15] hSh hAt hDn (by kernel_rfl) hS
    obtain rfl : gb = gb2 := by have h9 : Value.slice (some ⟨gb, 0, none⟩) 1 1 = .slice (some ⟨gb2, 0, none⟩) 1 1 := (hAt 8 (by simp)).2.symm.trans hv; simpa using h9
    have hone : LB3.rd w9 (PF w9 g A4 A5 A6) (some ⟨gb, 0, none⟩) 1 [U] := rd_blk1 hg2 ⟨Bx, kx, kc, rfl, hkc.1, hkc.2, Lay.rd_weak (fun b hb hl => HP5.out.fence hT.size (.inl hb) hl) (Lay.rd_below HRX5.out hT)⟩ (HP5.out.fence hT.size (.inr hg1) hg2.lt)
    obtain ⟨X, x, w8, hrun, hy⟩ := HP5.out.app6 hT (d := 1) hone (by omega) HB5.out
    exact ⟨_, w8, exec_append (.tmp 236) (.tmp 238) 27 rfl rfl rfl hrun, ⟨X, x, rfl⟩, SeqN.set_ [8] [12, 15] hSh hAt hDn (by kernel_rfl) (by decide) (by decide) ⟨X, x, upd_same _ _ _, hy⟩⟩
   try simp only [Act.put, sA, sZ, sS]
   obtain ⟨X, x, rfl⟩ := hVv9
   refine Pz 10 (some 240) (.pointer (some ⟨g, 0, none⟩)) rfl rfl (by exact StepS.pure (SeqN.pass (by decide)) rfl fun _ => by first | rfl | (go_simp; done) | (go_simp; rfl)) ?_
   try simp only [Act.put, sA, sZ, sS]
   refine Pz 11 (some 241) (.pointer (some ⟨g, 7, none⟩)) rfl rfl (by exact StepS.pure (SeqN.pass (by decide)) rfl fun _ => rfl) ?_
   try simp only [Act.put, sA, sZ, sS]
   refine Pz 12 none undef rfl rfl ?ywg145_158 ?rwg145_158
   case ywg145_158 =>
    refine StepS.store [8, 9] (by kernel_rfl) (by rfl) (fun L9 m9 w9 hSh hAt hDn hS => ?_)
    obtain ⟨X2, x2, hv, hy⟩ := SeqN.at_ [8, 9] [15] hSh hAt hDn (by kernel_rfl) hS
    obtain ⟨rfl, rfl⟩ : X = X2 ∧ x = x2 := by have h9 : Value.slice X (n6 + 1) x = .slice X2 (n6 + 1) x2 := (hAt 9 (by simp)).2.symm.trans hv; simpa using h9
    have hbk := HP5.out.blk.chg hy.ch HP5.out.dg.2.2
    refine (exec_store_part (w := w9) 36 (.tmp 241) (.tmp 232) (by rfl) g 7 93 (pairC s r A n c A2 n2 c2 A3 n3 c3 (.slice A4 n4 c4) (.slice A5 n5 c5) (.slice A6 n6 c6)) (T.cells A7 n7 c7 A8 n8 c8) (pairC s T A n c A7 n7 c7 A8 n8 c8 (.slice A4 n4 c4) (.slice A5 n5 c5) (.slice A6 n6 c6)) (by rfl) (by rfl) hbk (by simp) receiverI (by simp [Value.oneCell']) (by rfl)).imp fun w7 hx => ⟨hx.1, SeqN.set_ [8, 9] [15] hSh hAt hDn (by kernel_rfl) (by decide) (by decide) ⟨X, x, w9, hv, hy, hx.2.2, hx.2.1⟩⟩
   try simp only [Act.put]
   refine Pz 13 (some 242) (.pointer (some ⟨g, 0, none⟩)) rfl rfl (by exact StepS.pure (SeqN.pass (by decide)) rfl fun _ => by first | rfl | (go_simp; done) | (go_simp; rfl)) ?_
   try simp only [Act.put, sA, sZ, sS]
   refine Pz 14 (some 243) (.pointer (some ⟨g, 15, none⟩)) rfl rfl (by exact StepS.pure (SeqN.pass (by decide)) rfl fun _ => rfl) ?_
   try simp only [Act.put, sA, sZ, sS]
   refine Pz 15 none undef rfl rfl ?ywg145_161 ?rwg145_161
   case ywg145_161 =>
    refine StepS.store [8, 9, 12] (by kernel_rfl) (by rfl) (fun L9 m9 w9 hSh hAt hDn hS => ?_)
    obtain ⟨X2, x2, wq, hv, hy, hg, hbk⟩ := SeqN.at_ [8, 9, 12] [] hSh hAt hDn (by kernel_rfl) hS
    obtain ⟨rfl, rfl⟩ : X = X2 ∧ x = x2 := by have h9 : Value.slice X (n6 + 1) x = .slice X2 (n6 + 1) x2 := (hAt 9 (by simp)).2.symm.trans hv; simpa using h9
    have hN2 : Blk (w9.setCell ⟨g, 15, none⟩ (.slice X (n6 + 1) x)) g 93 (pairC s T A n c A7 n7 c7 A8 n8 c8 (.slice A4 n4 c4) (.slice A5 n5 c5) (.slice X (n6 + 1) x)) := by simpa using hbk.set_ 15 (.slice X (n6 + 1) x)
    have hg2 : w9.grownBy (w9.setCell ⟨g, 15, none⟩ (.slice X (n6 + 1) x)) (some g) := only_setCell (World.grownBy.refl _ _) (.inl rfl) _
    have y9 : w9.cell? ⟨g, 15, none⟩ = some (.slice A6 n6 c6) := hbk.cell 15
    have fx : w9.frozen? ⟨g, 15, none⟩ = false := hbk.frozen 15
    refine ⟨w9.setCell ⟨g, 15, none⟩ (.slice X (n6 + 1) x), ?_, SeqN.set_ [8, 9, 12] [] hSh hAt hDn (by kernel_rfl) (by decide) (by decide) ⟨X, x, wq, hv, hy, (grown_two hg hg2), hN2⟩⟩
    clear hv hy hbk hN2 hg2 hS hg
    go_simp
   try simp only [Act.put]
   refine Ps.done (by kernel_rfl) (fun wg145 hS => ?_) _
   obtain ⟨X2, x2, wq, hv, hy, hg, hbk⟩ := SeqN.fin (by rfl) hS
   clear hS
   obtain ⟨rfl, rfl⟩ : X = X2 ∧ x = x2 := by have h9 : Value.slice X (n6 + 1) x = .slice X2 (n6 + 1) x2 := hv; simpa using h9
   clear hv
   have HY := Lib.hid hy
   have HG := Lib.hid hg
   have HBK := Lib.hid hbk
   clear hy hg hbk
   obtain ⟨w8, rfl⟩ : ∃ x, x = wg145 := ⟨_, rfl⟩
   go_wp2_with fail
   go_ret
   refine DoesC.mk rfl ((HQ5.out.mono hB).trans (HY.out.bel HP5.out.base4.2.2 HG.out HP5.out.g0 HB5.out)) (HP5.out.ataken HY.out.ch HY.out.own HY.out.at_ HG.out HBK.out HP5.out.q HP5.out.cq HRA5.out hca8 HRB5.out hcb8) ?_ ?_ (by omega) (by omega)
   · rw [HTU.out.1, HTU.out.2.1]; exact HI.out.takes (HTU.out.2.2.symm)
   · rw [HTU.out.1]; exact HX.out.takes (HTU.out.2.2.symm)
 · have hN0 : (N == 0) = false := by simpa using hN
   go_wp2_with fail
   go_ret
   exact DoesC.mk rfl (HQ5.out.mono hB) HP5.out HI.out HX.out (by omega) (by omega)
end Go.Proofs.Ytojghgbaiiajfaa
/- slices.Delete of one packet of packets of one's own. Conditions: the place is there. -/
namespace Go.Proofs.Ytojghgbaiiajfaa
open Go.RowKit
set_option maxHeartbeats 8000000 in
set_option maxRecDepth 100000 in
theorem delP_run (b n c i j : Nat) (cs : List Value) (cur : Array Value) (w : World) (hi : i < j) (hi2 : j ≤ i + 1) (hj : j ≤ n) (hnc : n ≤ c) (hbig : n ≤ 100000) (hcl : cs.length = n * 7)
 (hB : Blk w b 47 cur) (hcur : cur.size = c * 7) (htk : cur.toList.take (n * 7) = cs) (h1c : ∀ v ∈ cs, v.oneCell' = true) :
 Calls Try.prog 88 #[.slice (some ⟨b, 0, none⟩) n c, .int .i64 i, .int .i64 j] w fun e w' =>
  ∃ zs : List Value, zs.length = 7 ∧ e = .returned (.slice (some ⟨b, 0, none⟩) (n - 1) c) ∧ w' = (w.drew.setCells b (i * 7) (cs.drop (j * 7))).setCells b ((n - 1) * 7) zs := by
 obtain ⟨i0, hi0, hz0, hzs, hzb⟩ := info_parts infoP
 obtain ⟨news, hnews⟩ : ∃ news, news = cs.drop (j * 7) := ⟨_, rfl⟩
 have hlen : news.length = (n - j) * 7 := by rw [hnews, List.length_drop, hcl]; omega
 have hcs : ∀ k v, cs[k]? = some v → w.cell? ⟨b, k, none⟩ = some v := fun k v hk => cell_list hB (by
  rw [← htk, List.getElem?_take] at hk
  split at hk
  · exact hk
  · cases hk)
 obtain ⟨A, hA, hsrc⟩ : ∃ A : Addr, (if c = j then some (⟨b, 0, none⟩ : Addr) else some ⟨b, j * 7, none⟩) = some A ∧ Hid (∀ t u, news[t]? = some u → w.drew.cell? (A.add t) = some u) := by
  by_cases h : c = j
  · refine ⟨⟨b, 0, none⟩, by simp [h], fun t u hu => ?_⟩
    have h0 : news.length = 0 := by rw [hlen]; omega
    rw [List.length_eq_zero_iff.1 h0] at hu
    simp at hu
  · refine ⟨⟨b, j * 7, none⟩, by simp [h], fun t u hu => ?_⟩
    rw [Addr.add_lit]
    rw [hnews, List.getElem?_drop] at hu
    exact hcs _ _ hu
 have s1 : Hid (news.length = (n - j) * 7) := hlen
 have s2 : Hid (∀ u ∈ news, u.oneCell' = true) := fun u hu => h1c u (by rw [hnews] at hu; exact List.mem_of_mem_drop hu)
 have hsp : ∀ k, k < n * 7 → (w.cell? ⟨b, k, none⟩).isSome = true := fun k hk => by
  rw [hB.cell k, Array.getElem?_eq_getElem (show k < cur.size by rw [hcur]; omega)]; rfl
 have s3 : Hid (∀ t, t < news.length → (w.drew.cell? ⟨b, 0 + i * 7 + t, none⟩).isSome = true ∧ w.drew.frozen? ⟨b, 0 + i * 7 + t, none⟩ = false) := fun t ht => by
  rw [hlen] at ht
  exact ⟨hsp (0 + i * 7 + t) (by omega), hB.frozen _⟩
 obtain ⟨W1, hW1⟩ : ∃ W1, W1 = w.drew.setCells b (0 + i * 7) news := ⟨_, rfl⟩
 obtain ⟨zz, hzz⟩ : ∃ zz : Value, zz = .agg #[.int .i64 0, .int .u32 0, .int .u64 0, .int .u64 0, .slice none 0 0, .bool false, .int .u64 0] := ⟨_, rfl⟩
 obtain ⟨zs, hzsd⟩ : ∃ zs, zs = (Builtin.zeroCells zz.cells (n - (i + (n - j)))).toList := ⟨_, rfl⟩
 have hzl : zs.length = 7 := by
  rw [hzsd, Array.length_toList, size_zeroCells, hzz]
  show (n - (i + (n - j))) * 7 = _
  omega
 have hz1 : ∀ v ∈ zs, v.oneCell' = true := fun v hv => by
  rw [hzsd, hzz] at hv
  simp only [Builtin.zeroCells, Array.toList_map, List.mem_map] at hv
  obtain ⟨i, _, rfl⟩ := hv
  have h4 : i % 7 < 7 := Nat.mod_lt _ (by omega)
  show ((#[.int .i64 0, .int .u32 0, .int .u64 0, .int .u64 0, .slice none 0 0, .bool false, .int .u64 0] : Array Value)[i % 7]!).oneCell' = true
  rcases (show i % 7 = 0 ∨ i % 7 = 1 ∨ i % 7 = 2 ∨ i % 7 = 3 ∨ i % 7 = 4 ∨ i % 7 = 5 ∨ i % 7 = 6 by omega) with h | h | h | h | h | h | h <;> rw [h] <;> rfl
 have hcl : ∀ ty cp, (Builtin.clear_ #[50] ty #[.slice (some ⟨b, (i + (n - j)) * 7, none⟩) (n - (i + (n - j))) cp]).run Try.prog W1 = .ok (.tuple #[]) (W1.setCells b ((i + (n - j)) * 7) zs) := fun ty cp =>
  run_clear_sliceK W1 _ _ ty zz Try.underlying50 (by rw [hzz]; kernel_rfl) b ((i + (n - j)) * 7) (n - (i + (n - j))) cp (by omega) zs hzsd.symm hz1
   (fun t ht => by rw [hW1]; exact isSome_setCellsI b _ _ w.drew (fun k hk => hsp (0 + i * 7 + k) (by rw [hlen] at hk; omega)) _ (hsp ((i + (n - j)) * 7 + t) (by rw [hzl] at ht; omega)))
   (fun t _ => by rw [hW1, World.frozen?_setCells]; exact hB.frozen _)
 have hW : Hid (W1 = w.drew.setCells b (0 + i * 7) news) := hW1
 have hNW : Hid (news = cs.drop (j * 7)) := hnews
 have hjc : j ≤ c := by omega
 have hic : i ≤ c := by omega
 have hz2 : ¬ ((i : Int) = (j : Int)) := by omega
 have hcj : ¬ (c = i + (n - j)) := by omega
 have hu0 := Try.underlying50
 have mixed : Try.prog.follows Departure.mixedOrders = true := by kernel_rfl
 clear hW1 hnews hlen hcs hsp hz1 hzsd hzz htk h1c
 go_enter Try.func88, Try.ntmps88
 go_wp2_with fail
 go_region_law_o (refine step_append_room rfl (.tmp 22) (.tmp 25) 50 rfl 47 i0 7 hu0 hi0 hzs b 0 i c (by simp [Act.eval, Act.put]) A (n - j) (c - j) news (by simp [Act.eval, Act.put]) s1.out hsrc.out s2.out (by omega) s3.out ?_; rw [← hW.out])
 go_wp2
 go_ret
 exact ⟨zs, hzl, by simp; omega, by rw [hW.out, hNW.out, show i + (n - j) = n - 1 by omega, Nat.zero_add]⟩
set_option maxRecDepth 100000 in
theorem delP_any (B : Nat) (G : Nat → Prop) (A : Option Addr) (n c i j : Nat) (xs : List PK) (w : World) (hown : LP7.own 47 w B G A n c xs) (hi : i < j) (hi2 : j ≤ i + 1) (hj : j ≤ n) (hbig : n ≤ 100000) :
 Calls Try.prog 88 #[.slice A n c, .int .i64 i, .int .i64 j] w fun e w' =>
  e = .returned (.slice A (n - 1) c) ∧ LP7.own 47 w' B G A (n - 1) c (xs.eraseIdx i) ∧ w.grownBy w' (Value.slice A n c).ownBlock := by
 obtain ⟨hl, cs, hreps, hrow⟩ := hown
 have hcl := Lay.reps_len hreps
 rw [hl] at hcl
 have hcl4 : cs.length = n * 7 := hcl
 have hdc : (cs.drop (j * 7)).length = (n - j) * 7 := by rw [List.length_drop]; omega
 rcases hrow.2 with ⟨_, h⟩ | ⟨g, cap, cur, e, hg, hh, hnc, hcm, hcs, htk⟩
 · omega
 injection e with e1 _ e3
 subst e1 e3
 have hcs4 : cur.size = c * 7 := hcs
 have htk4 : cur.toList.take (n * 7) = cs := htk
 refine (delP_run g n c i j cs cur w hi hi2 hj hnc hbig hcl4 hh hcs4 htk4 (Lay.reps_one hreps)).mono ?_
 rintro e w' ⟨zs, hzl, rfl, rfl⟩
 have b0 : Blk w.drew g 47 cur.toList.toArray := by simpa using (show Blk w g _ cur from hh).drew
 have b1 := blk_setMid (cs.drop (j * 7)) (i * 7) _ cur.toList b0 (by rw [hdc, Array.length_toList, hcs4]; omega)
 have b2 := blk_setMid zs ((n - 1) * 7) _ _ b1 (by simp only [List.length_append, List.length_take, List.length_drop, Array.length_toList, hcs4, hzl, hdc]; omega)
 have hgr : w.grownBy ((w.drew.setCells g (i * 7) (cs.drop (j * 7))).setCells g ((n - 1) * 7) zs) (some g) := grown_setCells _ _ _ (grown_setCells _ _ _ (only_drew (World.grownBy.refl w _)))
 have hs0 := Lay.reps_keep (fun b hb hl => hgr.block b hl (fun e => hb.2 (by simp [Value.ownBlock]; injection e with e; exact e.symm))) hreps
 have hij : j = i + 1 := by omega
 have herase : xs.eraseIdx i = xs.take i ++ xs.drop j := by rw [hij]; exact List.eraseIdx_eq_take_drop_succ xs i
 have hs := Lay.reps_append (Lay.reps_take i hs0) (Lay.reps_drop j hs0)
 rw [← herase] at hs
 have hel : (xs.eraseIdx i).length = n - 1 := by rw [herase, List.length_append, List.length_take, List.length_drop, hl]; omega
 have hdl : (cs.take (i * 7) ++ cs.drop (j * 7)).length = (n - 1) * 7 := by rw [List.length_append, List.length_take, hdc, hcl4]; omega
 refine ⟨rfl, ⟨hel, _, hs, hdl, .inr ⟨_, _, _, rfl, hg, b2, by omega, hcm, ?_, ?_⟩⟩, hgr⟩
 · simp only [List.size_toArray, List.length_append, List.length_take, List.length_drop, Array.length_toList, hcs4, hzl, hdc]
   show _ = c * 7
   omega
 · show List.take ((n - 1) * 7) _ = _
   have h9 : cur.toList.take (i * 7) = cs.take (i * 7) := by rw [← htk4, List.take_take, Nat.min_eq_left (by omega)]
   have hlc : cur.toList.length = c * 7 := by rw [Array.length_toList]; exact hcs4
   have h8 : (n - 1) * 7 ≤ (List.take ((n - 1) * 7) (List.take (i * 7) cs ++ List.drop (j * 7) cs ++ List.drop (i * 7 + (List.drop (j * 7) cs).length) cur.toList)).length := by
    simp only [List.length_append, List.length_take, List.length_drop, hlc, hcl4]
    omega
   rw [h9, List.append_assoc, List.take_append_of_le_length h8, List.take_take, Nat.min_self]
   exact List.take_left' hdl
end Go.Proofs.Ytojghgbaiiajfaa
/- A packet is taken out of what is under way; one of them is read. Conditions: each law's own. -/
namespace Go.Proofs.Ytojghgbaiiajfaa
open Go.RowKit
theorem LP7_ownAt {e : TypeId} {w : World} {B n c i : Nat} {G : Nat → Prop} {A : Option Addr} {xs : List PK} (h : LP7.ownO e w B G A n c xs) (hi : i < n) : ∃ ad z Bz kz cz, A = some ad ∧ xs[i]? = some z ∧ SPP w (fun b => G b ∧ ob A ≠ some b) (ad.add (i * 7)) z Bz kz cz := by
 obtain ⟨hl, cs, hr, ho⟩ := h
 rcases ho.2 with ⟨_, e2⟩ | ⟨g, o, cap, cur, e1, h2, h3, h4, h5, h6, h7⟩
 · omega
 injection e1 with e1 _ _
 subst e1
 have hx : xs[i]? = some xs[i] := List.getElem?_eq_getElem (by omega)
 obtain ⟨ds, ⟨Bz, kz, cz, rfl, k1, k2, k3⟩, hd⟩ := Lay.reps_at hr hx
 have hc : ∀ j u, ([.int .i64 xs[i].kind, .int .u32 xs[i].ses, .int .u64 xs[i].seq, .int .u64 xs[i].lim, .slice Bz kz cz, .bool xs[i].b.fin, .int .u64 xs[i].b.cnt] : List Value)[j]? = some u → w.cell? ((⟨g, o, none⟩ : Addr).add (i * 7 + j)) = some u := fun j u hu => by
  have hj := hd j u hu
  rw [Addr.add_lit, ]
  rw [← h7, List.getElem?_take] at hj
  split at hj
  · rw [List.getElem?_drop, Array.getElem?_toList] at hj
    unfold World.cell?
    rw [h3]; exact hj
  · cases hj
 exact ⟨⟨g, o, none⟩, xs[i], Bz, kz, cz, rfl, hx, ⟨hc 0 _ rfl, (by rw [← addr_more _ _ 1 (by omega)]; exact hc 1 _ rfl), (by rw [← addr_more _ _ 2 (by omega)]; exact hc 2 _ rfl), (by rw [← addr_more _ _ 3 (by omega)]; exact hc 3 _ rfl), (by rw [← addr_more _ _ 4 (by omega)]; exact hc 4 _ rfl), (by rw [← addr_more _ _ 5 (by omega)]; exact hc 5 _ rfl), (by rw [← addr_more _ _ 6 (by omega)]; exact hc 6 _ rfl), k1, k2, Lay.rd_weak (fun b hb _ => ⟨hb.1, by rw [← ob_slice _ n c]; exact hb.2⟩) k3⟩⟩
theorem Lay.ownO_less {α : Type} {L : Lay α} {e : TypeId} {w : World} {B B' n c : Nat} {G : Nat → Prop} {A : Option Addr} {xs : List α} (h : L.ownO e w B G A n c xs) (hB : B' ≤ B) : L.ownO e w B' G A n c xs := by
 obtain ⟨hl, cs, hr, ho⟩ := h
 exact ⟨hl, cs, hr, ho.less hB⟩
section
variable {B0 g : Nat} {w w4 : World} {s : SC} {r : RC} {way : List PK} {put taken : List BC} {A : Option Addr} {n c : Nat} {A2 : Option Addr} {n2 c2 : Nat} {A3 : Option Addr} {n3 c3 : Nat} {A4 : Option Addr} {n4 c4 : Nat} {A5 : Option Addr} {n5 c5 : Nat} {A6 : Option Addr} {n6 c6 : Nat}
theorem PM.wayrd (h : PM B0 g w s r way put taken A n c A2 n2 c2 A3 n3 c3 A4 n4 c4 A5 n5 c5 A6 n6 c6) : LP7.rd w (fun b => PF w g A4 A5 A6 b ∨ ob A4 = some b) A4 n4 way :=
 Lay.ownO_rd h.wy (fun k e => .inr (by rw [← ob_slice A4 n4 c4]; exact e)) (fun b hb _ => .inl hb)
/-- what is under way is stored anew -/
theorem PM.cut1 (h : PM B0 g w s r way put taken A n c A2 n2 c2 A3 n3 c3 A4 n4 c4 A5 n5 c5 A6 n6 c6) {X : Option Addr} {m x : Nat} {xs : List PK} (ho : LP7.own 47 w4 w.heap.size (fun b => (PF w g A4 A5 A6 b ∨ ob A4 = some b) ∧ b < w.heap.size) X m x xs) (q : Below w.heap.size w w4) (hB : B0 ≤ w.heap.size) :
 PM B0 g (w4.setCell ⟨g, 13, none⟩ (.slice X m x)) s r xs put taken A n c A2 n2 c2 A3 n3 c3 X m x A5 n5 c5 A6 n6 c6 ∧ Below B0 w (w4.setCell ⟨g, 13, none⟩ (.slice X m x)) ∧ w4.grownBy (w4.setCell ⟨g, 13, none⟩ (.slice X m x)) (some g) ∧ ∀ b, PF w g A4 A5 A6 b → b < (w4.setCell ⟨g, 13, none⟩ (.slice X m x)).heap.size → PF (w4.setCell ⟨g, 13, none⟩ (.slice X m x)) g X A5 A6 b := by
 have hg : w4.grownBy (w4.setCell ⟨g, 13, none⟩ (.slice X m x)) (some g) := only_setCell (World.grownBy.refl _ _) (.inl rfl) _
 have hob : ∀ k, ob X = some k → w.heap.size ≤ k := fun k e => (Lay.own_base ho k (by rw [ob_slice]; exact e)).1
 have hb : Blk (w4.setCell ⟨g, 13, none⟩ (.slice X m x)) g 93 (pairC s r A n c A2 n2 c2 A3 n3 c3 (.slice X m x) (.slice A5 n5 c5) (.slice A6 n6 c6)) := by simpa using (h.blk.ca q).set_ 13 (.slice X m x)
 refine ⟨h.away2 (Chg.of_below q) (Lay.ownO_weak2 (fun b hb _ hl => ?_) (Lay.ownO_less (Lay.ownO_of ho) hB)) (fun k e => .inr (hob k e)) hg hb h.q h.cq h.ah h.ca h.bf h.cb, ?_, hg, fun b hb hl => ⟨hl, hb.2.1, fun e => by have := hob b e; have := hb.1; omega, hb.2.2.2⟩⟩
 · rcases hb.1 with h1 | h1
   · exact ⟨hl, h1.2.1, h1.2.2.2⟩
   · exact ⟨hl, fun e => h.dg.1 (by rw [← e]; exact h1), h.d45 b h1, h.d46 b h1⟩
 · exact Chg.bel (X := fun k => k = g) (Below.refl B0 w) ((Chg.of_below q).grown hg (fun k e => .inl (Option.some.inj e).symm)) (fun b _ hx => by rw [hx]; exact h.g0) hB
end
end Go.Proofs.Ytojghgbaiiajfaa
/- (*pair).does: a packet is lost. Conditions: the pair is sound. -/
namespace Go.Proofs.Ytojghgbaiiajfaa
open Go.RowKit
set_option maxRecDepth 100000 in
set_option maxHeartbeats 16000000 in
theorem does_lose (B0 g : Nat) (w : World) (σ room : Int) (s : SC) (r : RC) (way : List PK) (put taken : List BC) (A : Option Addr) (n c : Nat) (A2 : Option Addr) (n2 c2 : Nat) (A3 : Option Addr) (n3 c3 : Nat) (A4 : Option Addr) (n4 c4 : Nat) (A5 : Option Addr) (n5 c5 : Nat) (A6 : Option Addr) (n6 c6 : Nat) (kind pick k : Int) (stays : Bool) (row : List VV) (R : Option Addr) (rn rc : Nat)
 (h : PM B0 g w s r way put taken A n c A2 n2 c2 A3 n3 c3 A4 n4 c4 A5 n5 c5 A6 n6 c6) (hi : SInv σ room s r way put taken) (hx : EX s r way) (hrow : LV.rd w (PF w g A4 A5 A6) R rn row) (_hrn : rn ≤ rc ∧ rc ≤ 9223372036854775807) (hB : B0 ≤ w.heap.size) (hn4 : n4 ≤ 1000) (_hn5 : n5 ≤ 1000) (hk : Int.tmod (IntKind.u64.wrap kind) 11 = k) (hk2 : k = 7) (hn0 : 0 < n4) :
 Calls Try.prog 40 #[.pointer (some ⟨g, 0, none⟩), .agg (deedC kind pick stays R rn rc)] w (DoesC B0 g σ room n4 n5 w) := by
 subst hk2
 have q1 := bl_al (Below.refl w.heap.size w) (.cells (deedC kind pick stays R rn rc) 91)
 have HP1 := Lib.hid (h.below q1)
 have HD1 := Lib.hid (Blk.new w 91 (deedC kind pick stays R rn rc))
 have HROW1 := Lib.hid (Lay.rd_weak (fun _ hb _ => PF.up q1.size hb) (Lay.rd_below hrow q1))
 have HQ1 := Lib.hid q1
 have HKK := Lib.hid hk
 have HI := Lib.hid hi
 have HX := Lib.hid hx
 have HSB := Lib.hid ((sp_iff s).2 hi.sb)
 have HRB := Lib.hid ((rp_iff r).2 hi.rb)
 have hb0 : 0 ≤ s.base := by have := hi.sb.b1; omega
 have hb1 : B0 ≤ w.heap.size + 1 := by omega
 have hsz : (w.alloc (.cells (deedC kind pick stays R rn rc) 91)).heap.size = w.heap.size + 1 := World.size_alloc _ _
 have HB1 := Lib.hid (show B0 ≤ (w.alloc (.cells (deedC kind pick stays R rn rc) 91)).heap.size by rw [hsz]; exact hb1)
 have hcq := h.cq
 have hca := h.ca
 have hcb := h.cb
 have htl : n6 ≤ n5 := by
  have h1 := hi.tn.2
  have h2 := Lay.ownO_len h.pt
  have h3 := Lay.ownO_len h.tk
  omega
 clear q1 h hi hx hrow hk hsz hb1
 go_enter Try.func40, Try.ntmps40
 go_upto_region 1 with fail
 generalize w.alloc (.cells (deedC kind pick stays R rn rc) 91) = w1 at *
 refine wp_region_ps0 .text (S := fun _ _ w' => w' = w1) (by kernel_rfl) ?spswg162 ?ppswg162
 case spswg162 =>
  rfl
 refine Pz 0 (some 23) (.pointer (some ⟨w.heap.size, 0, none⟩)) rfl rfl (by exact StepS.pure nP rfl fun _ => rfl) ?_
 try simp only [Act.put, sA, sZ, sS]
 refine Pz 1 (some 24) (.int .i64 (kind)) rfl rfl ?ywg162_164 ?rwg162_164
 case ywg162_164 =>
  refine StepS.read [] (by kernel_rfl) nP (by rfl) (fun L9 m9 w9 hSh hAt hDn hS => ?_)
  have hT : Below w1.heap.size w1 w9 := by rw [show w9 = w1 from hS]; exact Below.refl _ _
  have x0 : w9.cell? ⟨w.heap.size, 0, none⟩ = some (.int .i64 (kind)) := (HD1.out.ca hT).cell 0
  clear hT hS
  go_simp
  try rfl
 try simp only [Act.put, sA, sZ, sS]
 refine Pz 2 (some 25) (.int .u64 (IntKind.u64.wrap (kind))) rfl rfl (by exact StepS.pure nP rfl fun _ => rfl) ?_
 try simp only [Act.put, sA, sZ, sS]
 refine Pz 3 (some 26) (.int .u64 (7)) rfl rfl ?ywg162_166 ?rwg162_166
 case ywg162_166 =>
  refine StepS.pure nP (by rfl) (fun w9 => ?_)
  refine Eq.trans ?_ (congrArg (fun z => Result.ok (Next.value (Value.int .u64 z)) w9) HKK.out)
  first | rfl | (go_simp; done) | (go_simp; rfl)
 try simp only [Act.put, sA, sZ, sS]
 refine Pz 4 (some 5) (.int .u64 (7)) rfl rfl (by exact StepS.pure nP rfl fun _ => rfl) ?_
 try simp only [Act.put, sA, sZ, sS]
 refine Ps.done (by kernel_rfl) (fun wg162 hS => ?_) _
 obtain rfl : w1 = wg162 := (show wg162 = w1 from hS).symm
 clear hS
 obtain ⟨i, hi9, hin⟩ : ∃ i : Nat, Int.tmod (IntKind.u64.wrap pick) (n4 : Int) = (i : Int) ∧ i < n4 := by
  have h0 : 0 ≤ IntKind.u64.wrap pick := by simp [IntKind.wrap, IntKind.signed, IntKind.bits]; omega
  refine ⟨(Int.tmod (IntKind.u64.wrap pick) (n4 : Int)).toNat, ?_, ?_⟩
  · have := Int.tmod_nonneg (n4 : Int) h0; omega
  · have h1 := Int.tmod_nonneg (n4 : Int) h0; have h2 := Int.tmod_lt_of_pos (IntKind.u64.wrap pick) (show (0 : Int) < n4 by omega); omega
 have HIX := Lib.hid hi9
 have hnz : ¬ n4 = 0 := by omega
 have HW1 := Lib.hid (show IntKind.u64.wrap (n4 : Int) = (n4 : Int) from u64_in (by omega) (by omega))
 have HW2 := Lib.hid (show IntKind.i64.wrap (i : Int) = (i : Int) from i64_inE (by omega) (by omega))
 clear hi9
 have y13 := HP1.out.blk.cell 13
 go_upto_region 5 with fail
 clear y13
 refine wp_region_ps0 .text (S := fun _ _ w' => w' = w1) (by kernel_rfl) ?spswg168 ?ppswg168
 case spswg168 =>
  rfl
 refine Pz 0 (some 34) (.pointer (some ⟨w.heap.size, 1, none⟩)) rfl rfl (by exact StepS.pure nP rfl fun _ => rfl) ?_
 try simp only [Act.put, sA, sZ, sS]
 refine Pz 1 (some 35) (.int .i64 (pick)) rfl rfl ?ywg168_170 ?rwg168_170
 case ywg168_170 =>
  refine StepS.read [] (by kernel_rfl) nP (by rfl) (fun L9 m9 w9 hSh hAt hDn hS => ?_)
  have hT : Below w1.heap.size w1 w9 := by rw [show w9 = w1 from hS]; exact Below.refl _ _
  have x0 : w9.cell? ⟨w.heap.size, 1, none⟩ = some (.int .i64 (pick)) := (HD1.out.ca hT).cell 1
  clear hT hS
  go_simp
  try rfl
 try simp only [Act.put, sA, sZ, sS]
 refine Pz 2 (some 36) (.int .u64 (IntKind.u64.wrap (pick))) rfl rfl (by exact StepS.pure nP rfl fun _ => rfl) ?_
 try simp only [Act.put, sA, sZ, sS]
 refine Pz 3 (some 37) (.int .i64 ((n4 : Int))) rfl rfl (by exact StepS.pure nP rfl fun _ => rfl) ?_
 try simp only [Act.put, sA, sZ, sS]
 refine Pz 4 (some 38) (.int .u64 ((n4 : Int))) rfl rfl ?ywg168_173 ?rwg168_173
 case ywg168_173 =>
  refine StepS.pure nP (by rfl) (fun w9 => ?_)
  refine Eq.trans ?_ (congrArg (fun z => Result.ok (Next.value (Value.int .u64 z)) w9) HW1.out)
  first | rfl | (go_simp; done) | (go_simp; rfl)
 try simp only [Act.put, sA, sZ, sS]
 refine Pz 5 (some 39) (.int .u64 ((i : Int))) rfl rfl ?ywg168_174 ?rwg168_174
 case ywg168_174 =>
  refine StepS.pure nP (by rfl) (fun w9 => ?_)
  refine Eq.trans ?_ (congrArg (fun z => Result.ok (Next.value (Value.int .u64 z)) w9) HIX.out)
  first | rfl | (go_simp; done) | (go_simp; rfl)
 try simp only [Act.put, sA, sZ, sS]
 refine Pz 6 (some 40) (.int .i64 ((i : Int))) rfl rfl ?ywg168_175 ?rwg168_175
 case ywg168_175 =>
  refine StepS.pure nP (by rfl) (fun w9 => ?_)
  refine Eq.trans ?_ (congrArg (fun z => Result.ok (Next.value (Value.int .i64 z)) w9) HW2.out)
  first | rfl | (go_simp; done) | (go_simp; rfl)
 try simp only [Act.put, sA, sZ, sS]
 refine Pz 7 (some 6) (.int .i64 ((i : Int))) rfl rfl (by exact StepS.pure nP rfl fun _ => rfl) ?_
 try simp only [Act.put, sA, sZ, sS]
 refine Ps.done (by kernel_rfl) (fun wg168 hS => ?_) _
 obtain rfl : w1 = wg168 := (show wg168 = w1 from hS).symm
 clear hS
 have hwr := HP1.out.wayrd
 have y13 := HP1.out.blk.cell 13
 go_wp2_with fail
 refine (cloneP _ A4 n4 c4 way w1 hwr (by omega)).mono ?_
 rintro e w3 ⟨X, x0, rfl, hown, q3⟩
 clear hwr y13
 have hcx := Lay.own_caps hown
 obtain ⟨j, hij⟩ : ∃ j : Nat, (i : Int) + 1 = (j : Int) := ⟨i + 1, by omega⟩
 go_wp2_with fail
 refine (delP_any w1.heap.size _ X n4 x0 i j way w3 hown (by omega) (by omega) (by omega) (by omega)).mono ?_
 rintro e w4 ⟨rfl, hown4, hg4⟩
 have q4 : Below w1.heap.size w1 w4 := q3.grown hg4 q3.size (fun k e => (Lay.own_base hown k e).1)
 clear hij
 have HC := Lib.hid (HP1.out.cut1 hown4 q4 HB1.out)
 have HQ4 := Lib.hid q4
 have y13 := (HP1.out.blk.ca q4).cell 13
 have f13 : w4.frozen? ⟨g, 13, none⟩ = false := (HP1.out.blk.ca q4).frozen 13
 clear hown hown4 hg4 q3 q4
 go_wp2_with fail
 go_ret
 obtain ⟨h1, h2, _, _⟩ := HC.out
 exact DoesC.mk rfl ((HQ1.out.mono hB).trans h2) h1 (HI.out.less (fun p hp => List.mem_of_mem_eraseIdx hp)) (HX.out.less (fun p hp => List.mem_of_mem_eraseIdx hp)) (by omega) (by omega)
end Go.Proofs.Ytojghgbaiiajfaa
/- (*pair).does: a packet comes and stays. Conditions: the pair is sound. -/
namespace Go.Proofs.Ytojghgbaiiajfaa
open Go.RowKit
set_option maxRecDepth 100000 in
set_option maxHeartbeats 16000000 in
theorem does_stays (B0 g : Nat) (w : World) (σ room : Int) (s : SC) (r : RC) (way : List PK) (put taken : List BC) (A : Option Addr) (n c : Nat) (A2 : Option Addr) (n2 c2 : Nat) (A3 : Option Addr) (n3 c3 : Nat) (A4 : Option Addr) (n4 c4 : Nat) (A5 : Option Addr) (n5 c5 : Nat) (A6 : Option Addr) (n6 c6 : Nat) (kind pick k : Int) (row : List VV) (R : Option Addr) (rn rc : Nat)
 (h : PM B0 g w s r way put taken A n c A2 n2 c2 A3 n3 c3 A4 n4 c4 A5 n5 c5 A6 n6 c6) (hi : SInv σ room s r way put taken) (hx : EX s r way) (hrow : LV.rd w (PF w g A4 A5 A6) R rn row) (_hrn : rn ≤ rc ∧ rc ≤ 9223372036854775807) (hB : B0 ≤ w.heap.size) (hn4 : n4 ≤ 1000) (_hn5 : n5 ≤ 1000) (hk : Int.tmod (IntKind.u64.wrap kind) 11 = k) (hk1 : ¬ k < 2) (hk2 : ¬ k = 2) (hk3 : ¬ k < 5) (hk4 : k < 7) (hn0 : 0 < n4) :
 Calls Try.prog 40 #[.pointer (some ⟨g, 0, none⟩), .agg (deedC kind pick true R rn rc)] w (DoesC B0 g σ room n4 n5 w) := by
 have HK2 := Lib.hid hk2
 clear hk2
 have q1 := bl_al (Below.refl w.heap.size w) (.cells (deedC kind pick true R rn rc) 91)
 have HP1 := Lib.hid (h.below q1)
 have HD1 := Lib.hid (Blk.new w 91 (deedC kind pick true R rn rc))
 have HROW1 := Lib.hid (Lay.rd_weak (fun _ hb _ => PF.up q1.size hb) (Lay.rd_below hrow q1))
 have HQ1 := Lib.hid q1
 have HKK := Lib.hid hk
 have HI := Lib.hid hi
 have HX := Lib.hid hx
 have HSB := Lib.hid ((sp_iff s).2 hi.sb)
 have HRB := Lib.hid ((rp_iff r).2 hi.rb)
 have hb0 : 0 ≤ s.base := by have := hi.sb.b1; omega
 have hb1 : B0 ≤ w.heap.size + 1 := by omega
 have hsz : (w.alloc (.cells (deedC kind pick true R rn rc) 91)).heap.size = w.heap.size + 1 := World.size_alloc _ _
 have HB1 := Lib.hid (show B0 ≤ (w.alloc (.cells (deedC kind pick true R rn rc) 91)).heap.size by rw [hsz]; exact hb1)
 have hcq := h.cq
 have hca := h.ca
 have hcb := h.cb
 have htl : n6 ≤ n5 := by
  have h1 := hi.tn.2
  have h2 := Lay.ownO_len h.pt
  have h3 := Lay.ownO_len h.tk
  omega
 clear q1 h hi hx hrow hk hsz hb1
 go_enter Try.func40, Try.ntmps40
 go_upto_region 1 with fail
 generalize w.alloc (.cells (deedC kind pick true R rn rc) 91) = w1 at *
 refine wp_region_ps0 .text (S := fun _ _ w' => w' = w1) (by kernel_rfl) ?spswg177 ?ppswg177
 case spswg177 =>
  rfl
 refine Pz 0 (some 23) (.pointer (some ⟨w.heap.size, 0, none⟩)) rfl rfl (by exact StepS.pure nP rfl fun _ => rfl) ?_
 try simp only [Act.put, sA, sZ, sS]
 refine Pz 1 (some 24) (.int .i64 (kind)) rfl rfl ?ywg177_179 ?rwg177_179
 case ywg177_179 =>
  refine StepS.read [] (by kernel_rfl) nP (by rfl) (fun L9 m9 w9 hSh hAt hDn hS => ?_)
  have hT : Below w1.heap.size w1 w9 := by rw [show w9 = w1 from hS]; exact Below.refl _ _
  have x0 : w9.cell? ⟨w.heap.size, 0, none⟩ = some (.int .i64 (kind)) := (HD1.out.ca hT).cell 0
  clear hT hS
  go_simp
  try rfl
 try simp only [Act.put, sA, sZ, sS]
 refine Pz 2 (some 25) (.int .u64 (IntKind.u64.wrap (kind))) rfl rfl (by exact StepS.pure nP rfl fun _ => rfl) ?_
 try simp only [Act.put, sA, sZ, sS]
 refine Pz 3 (some 26) (.int .u64 (k)) rfl rfl ?ywg177_181 ?rwg177_181
 case ywg177_181 =>
  refine StepS.pure nP (by rfl) (fun w9 => ?_)
  refine Eq.trans ?_ (congrArg (fun z => Result.ok (Next.value (Value.int .u64 z)) w9) HKK.out)
  first | rfl | (go_simp; done) | (go_simp; rfl)
 try simp only [Act.put, sA, sZ, sS]
 refine Pz 4 (some 5) (.int .u64 (k)) rfl rfl (by exact StepS.pure nP rfl fun _ => rfl) ?_
 try simp only [Act.put, sA, sZ, sS]
 refine Ps.done (by kernel_rfl) (fun wg177 hS => ?_) _
 obtain rfl : w1 = wg177 := (show wg177 = w1 from hS).symm
 clear hS
 obtain ⟨i, hi9, hin⟩ : ∃ i : Nat, Int.tmod (IntKind.u64.wrap pick) (n4 : Int) = (i : Int) ∧ i < n4 := by
  have h0 : 0 ≤ IntKind.u64.wrap pick := by simp [IntKind.wrap, IntKind.signed, IntKind.bits]; omega
  refine ⟨(Int.tmod (IntKind.u64.wrap pick) (n4 : Int)).toNat, ?_, ?_⟩
  · have := Int.tmod_nonneg (n4 : Int) h0; omega
  · have h1 := Int.tmod_nonneg (n4 : Int) h0; have h2 := Int.tmod_lt_of_pos (IntKind.u64.wrap pick) (show (0 : Int) < n4 by omega); omega
 have HIX := Lib.hid hi9
 have hnz : ¬ n4 = 0 := by omega
 have HW1 := Lib.hid (show IntKind.u64.wrap (n4 : Int) = (n4 : Int) from u64_in (by omega) (by omega))
 have HW2 := Lib.hid (show IntKind.i64.wrap (i : Int) = (i : Int) from i64_inE (by omega) (by omega))
 clear hi9
 have y13 := HP1.out.blk.cell 13
 go_upto_region 5 with fail
 clear y13
 refine wp_region_ps0 .text (S := fun _ _ w' => w' = w1) (by kernel_rfl) ?spswg183 ?ppswg183
 case spswg183 =>
  rfl
 refine Pz 0 (some 34) (.pointer (some ⟨w.heap.size, 1, none⟩)) rfl rfl (by exact StepS.pure nP rfl fun _ => rfl) ?_
 try simp only [Act.put, sA, sZ, sS]
 refine Pz 1 (some 35) (.int .i64 (pick)) rfl rfl ?ywg183_185 ?rwg183_185
 case ywg183_185 =>
  refine StepS.read [] (by kernel_rfl) nP (by rfl) (fun L9 m9 w9 hSh hAt hDn hS => ?_)
  have hT : Below w1.heap.size w1 w9 := by rw [show w9 = w1 from hS]; exact Below.refl _ _
  have x0 : w9.cell? ⟨w.heap.size, 1, none⟩ = some (.int .i64 (pick)) := (HD1.out.ca hT).cell 1
  clear hT hS
  go_simp
  try rfl
 try simp only [Act.put, sA, sZ, sS]
 refine Pz 2 (some 36) (.int .u64 (IntKind.u64.wrap (pick))) rfl rfl (by exact StepS.pure nP rfl fun _ => rfl) ?_
 try simp only [Act.put, sA, sZ, sS]
 refine Pz 3 (some 37) (.int .i64 ((n4 : Int))) rfl rfl (by exact StepS.pure nP rfl fun _ => rfl) ?_
 try simp only [Act.put, sA, sZ, sS]
 refine Pz 4 (some 38) (.int .u64 ((n4 : Int))) rfl rfl ?ywg183_188 ?rwg183_188
 case ywg183_188 =>
  refine StepS.pure nP (by rfl) (fun w9 => ?_)
  refine Eq.trans ?_ (congrArg (fun z => Result.ok (Next.value (Value.int .u64 z)) w9) HW1.out)
  first | rfl | (go_simp; done) | (go_simp; rfl)
 try simp only [Act.put, sA, sZ, sS]
 refine Pz 5 (some 39) (.int .u64 ((i : Int))) rfl rfl ?ywg183_189 ?rwg183_189
 case ywg183_189 =>
  refine StepS.pure nP (by rfl) (fun w9 => ?_)
  refine Eq.trans ?_ (congrArg (fun z => Result.ok (Next.value (Value.int .u64 z)) w9) HIX.out)
  first | rfl | (go_simp; done) | (go_simp; rfl)
 try simp only [Act.put, sA, sZ, sS]
 refine Pz 6 (some 40) (.int .i64 ((i : Int))) rfl rfl ?ywg183_190 ?rwg183_190
 case ywg183_190 =>
  refine StepS.pure nP (by rfl) (fun w9 => ?_)
  refine Eq.trans ?_ (congrArg (fun z => Result.ok (Next.value (Value.int .i64 z)) w9) HW2.out)
  first | rfl | (go_simp; done) | (go_simp; rfl)
 try simp only [Act.put, sA, sZ, sS]
 refine Pz 7 (some 6) (.int .i64 ((i : Int))) rfl rfl (by exact StepS.pure nP rfl fun _ => rfl) ?_
 try simp only [Act.put, sA, sZ, sS]
 refine Ps.done (by kernel_rfl) (fun wg183 hS => ?_) _
 obtain rfl : w1 = wg183 := (show wg183 = w1 from hS).symm
 clear hS
 have hk2b : (k == 2) = false := by simpa using HK2.out
 obtain ⟨ad, z, Bz, kz, cz, rfl, hax, sp⟩ := LP7_ownAt HP1.out.wy hin
 have hadb : ad.block < w1.heap.size := HP1.out.base4.1 _ rfl |>.2
 have x0 := sp.c0
 have x1 := sp.c1
 have x2 := sp.c2
 have x3 := sp.c3
 have x4 := sp.c4
 have x5 := sp.c5
 have x6 := sp.c6
 have y13 := HP1.out.blk.cell 13
 have HRZ1 := Lib.hid (Lay.rd_weak (fun b hb _ => hb.1) sp.rd)
 have hzc : kz ≤ cz ∧ cz ≤ 9223372036854775807 := ⟨sp.nc, sp.cm⟩
 have HZ := Lib.hid (List.mem_of_getElem? hax)
 have HWZ := Lib.hid (HI.out.wy z HZ.out)
 clear sp hax
 go_upto_region 21 with fail
 clear x0 x1 x2 x3 x4 x5 x6 y13
 have q2 := bl_al (Below.refl w1.heap.size w1) (.cells (z.cells Bz kz cz) 47)
 have HP2 := Lib.hid (HP1.out.below q2)
 have HQ2 := Lib.hid (bl_ca HQ1.out q2)
 have HB2 := Lib.hid (Nat.le_trans HB1.out q2.size)
 have HV2 := Lib.hid (Blk.new w1 47 (z.cells Bz kz cz))
 have HRZ2 := Lib.hid (Lay.rd_weak (fun _ hb _ => PF.up q2.size hb) (Lay.rd_below HRZ1.out q2))
 have hgv : g < w1.heap.size := HP1.out.blk.lt
 have HD2 := Lib.hid (HD1.out.ca q2)
 clear q2
 generalize w1.alloc (.cells (z.cells Bz kz cz) 47) = w2 at *
 have d2 := HD2.out.cell 2
 go_upto_region 23 with fail
 clear d2
 have HV5 := HV2
 have HR5 := HRZ2
 have HP5 := HP2
 have HQ5 := Lib.hid (HQ2.out.mono hB)
 have HB5 := HB2
 have v0 := HV5.out.cell 0
 have v1 := HV5.out.cell 1
 have v2 := HV5.out.cell 2
 have v3 := HV5.out.cell 3
 have v4 := HV5.out.cell 4
 have v5 := HV5.out.cell 5
 have v6 := HV5.out.cell 6
 go_wp2_with fail
 refine (comes_any B0 g w2 s r way put taken A n c A2 n2 c2 A3 n3 c3 (some ad) n4 c4 A5 n5 c5 A6 n6 c6 z Bz kz cz HP5.out HR5.out hzc.1 hzc.2 HSB.out HRB.out HB5.out).mono ?_
 rintro e w6 ⟨rfl, qb, A7, n7, c7, A8, n8, c8, A9, n9, c9, hPM⟩
 have HPM := Lib.hid hPM
 have HQB := Lib.hid qb
 clear v0 v1 v2 v3 v4 v5 v6 hPM qb
 go_wp2_with fail
 go_ret
 exact DoesC.mk rfl (HQ5.out.trans HQB.out) HPM.out ((HI.out.less (fun p hp => hp)).comes HWZ.out) (((HX.out.less (fun p hp => hp)).acked z).heard (fun hk => by rw [acked_sent]; exact HX.out.wy z HZ.out hk)) (by omega) (by omega)
end Go.Proofs.Ytojghgbaiiajfaa
