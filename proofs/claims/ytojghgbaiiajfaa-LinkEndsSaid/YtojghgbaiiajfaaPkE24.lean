/- (*pair).does: a packet comes. Conditions: the pair is sound. -/
import Derived.Test.YtojghgbaiiajfaaPkE23
import Derived.Shelf.Spec.SlicesGrow
namespace Go.Proofs.Ytojghgbaiiajfaa
open Go.RowKit
set_option maxRecDepth 100000 in
set_option maxHeartbeats 16000000 in
theorem does_comes (B0 g : Nat) (w : World) (σ room : Int) (s : SC) (r : RC) (way : List PK) (put taken : List BC) (A : Option Addr) (n c : Nat) (A2 : Option Addr) (n2 c2 : Nat) (A3 : Option Addr) (n3 c3 : Nat) (A4 : Option Addr) (n4 c4 : Nat) (A5 : Option Addr) (n5 c5 : Nat) (A6 : Option Addr) (n6 c6 : Nat) (kind pick k : Int) (row : List VV) (R : Option Addr) (rn rc : Nat)
 (h : PM B0 g w s r way put taken A n c A2 n2 c2 A3 n3 c3 A4 n4 c4 A5 n5 c5 A6 n6 c6) (hi : SInv σ room s r way put taken) (hx : EX s r way) (hrow : LV.rd w (PF w g A4 A5 A6) R rn row) (_hrn : rn ≤ rc ∧ rc ≤ 9223372036854775807) (hB : B0 ≤ w.heap.size) (hn4 : n4 ≤ 1000) (_hn5 : n5 ≤ 1000) (hk : Int.tmod (IntKind.u64.wrap kind) 11 = k) (hk1 : ¬ k < 2) (hk2 : ¬ k = 2) (hk3 : ¬ k < 5) (hk4 : k < 7) (hn0 : 0 < n4) :
 Calls Try.prog 40 #[.pointer (some ⟨g, 0, none⟩), .agg (deedC kind pick false R rn rc)] w (DoesC B0 g σ room n4 n5 w) := by
 have HK2 := Lib.hid hk2
 clear hk2
 have q1 := bl_al (Below.refl w.heap.size w) (.cells (deedC kind pick false R rn rc) 91)
 have HP1 := Lib.hid (h.below q1)
 have HD1 := Lib.hid (Blk.new w 91 (deedC kind pick false R rn rc))
 have HROW1 := Lib.hid (Lay.rd_weak (fun _ hb _ => PF.up q1.size hb) (Lay.rd_below hrow q1))
 have HQ1 := Lib.hid q1
 have HKK := Lib.hid hk
 have HI := Lib.hid hi
 have HX := Lib.hid hx
 have HSB := Lib.hid ((sp_iff s).2 hi.sb)
 have HRB := Lib.hid ((rp_iff r).2 hi.rb)
 have hb0 : 0 ≤ s.base := by have := hi.sb.b1; omega
 have hb1 : B0 ≤ w.heap.size + 1 := by omega
 have hsz : (w.alloc (.cells (deedC kind pick false R rn rc) 91)).heap.size = w.heap.size + 1 := World.size_alloc _ _
 have HB1 := Lib.hid (show B0 ≤ (w.alloc (.cells (deedC kind pick false R rn rc) 91)).heap.size by rw [hsz]; exact hb1)
 have hcq := h.cq
 have hca := h.ca
 have hcb := h.cb
 have htl : n6 ≤ n5 := by
  have h1 := hi.tn.2
  have h2 := Lay.ownO_len h.pt
  have h3 := Lay.ownO_len h.tk
  omega
 clear q1 h hi hx hrow hk hsz hb1
 go_enter Try.func40, Try.ntmps40
 go_upto_region 1 with fail
 generalize w.alloc (.cells (deedC kind pick false R rn rc) 91) = w1 at *
 refine wp_region_ps0 .text (S := fun _ _ w' => w' = w1) (by kernel_rfl) ?spswg192 ?ppswg192
 case spswg192 =>
  rfl
 refine Pz 0 (some 23) (.pointer (some ⟨w.heap.size, 0, none⟩)) rfl rfl (by exact StepS.pure nP rfl fun _ => rfl) ?_
 try simp only [Act.put, sA, sZ, sS]
 refine Pz 1 (some 24) (.int .i64 (kind)) rfl rfl ?ywg192_194 ?rwg192_194
 case ywg192_194 =>
  refine StepS.read [] (by kernel_rfl) nP (by rfl) (fun L9 m9 w9 hSh hAt hDn hS => ?_)
  have hT : Below w1.heap.size w1 w9 := by rw [show w9 = w1 from hS]; exact Below.refl _ _
  have x0 : w9.cell? ⟨w.heap.size, 0, none⟩ = some (.int .i64 (kind)) := (HD1.out.ca hT).cell 0
  clear hT hS
  go_simp
  try rfl
 try simp only [Act.put, sA, sZ, sS]
 refine Pz 2 (some 25) (.int .u64 (IntKind.u64.wrap (kind))) rfl rfl (by exact StepS.pure nP rfl fun _ => rfl) ?_
 try simp only [Act.put, sA, sZ, sS]
 refine Pz 3 (some 26) (.int .u64 (k)) rfl rfl ?ywg192_196 ?rwg192_196
 case ywg192_196 =>
  refine StepS.pure nP (by rfl) (fun w9 => ?_)
  refine Eq.trans ?_ (congrArg (fun z => Result.ok (Next.value (Value.int .u64 z)) w9) HKK.out)
  first | rfl | (go_simp; done) | (go_simp; rfl)
 try simp only [Act.put, sA, sZ, sS]
 refine Pz 4 (some 5) (.int .u64 (k)) rfl rfl (by exact StepS.pure nP rfl fun _ => rfl) ?_
 try simp only [Act.put, sA, sZ, sS]
 refine Ps.done (by kernel_rfl) (fun wg192 hS => ?_) _
 obtain rfl : w1 = wg192 := (show wg192 = w1 from hS).symm
 clear hS
 obtain ⟨i, hi9, hin⟩ : ∃ i : Nat, Int.tmod (IntKind.u64.wrap pick) (n4 : Int) = (i : Int) ∧ i < n4 := by
  have h0 : 0 ≤ IntKind.u64.wrap pick := by simp [IntKind.wrap, IntKind.signed, IntKind.bits]; omega
  refine ⟨(Int.tmod (IntKind.u64.wrap pick) (n4 : Int)).toNat, ?_, ?_⟩
  · have := Int.tmod_nonneg (n4 : Int) h0; omega
  · have h1 := Int.tmod_nonneg (n4 : Int) h0; have h2 := Int.tmod_lt_of_pos (IntKind.u64.wrap pick) (show (0 : Int) < n4 by omega); omega
 have HIX := Lib.hid hi9
 have hnz : ¬ n4 = 0 := by omega
 have HW1 := Lib.hid (show IntKind.u64.wrap (n4 : Int) = (n4 : Int) from u64_in (by omega) (by omega))
 have HW2 := Lib.hid (show IntKind.i64.wrap (i : Int) = (i : Int) from i64_inE (by omega) (by omega))
 clear hi9
 have y13 := HP1.out.blk.cell 13
 go_upto_region 5 with fail
 clear y13
 refine wp_region_ps0 .text (S := fun _ _ w' => w' = w1) (by kernel_rfl) ?spswg198 ?ppswg198
 case spswg198 =>
  rfl
 refine Pz 0 (some 34) (.pointer (some ⟨w.heap.size, 1, none⟩)) rfl rfl (by exact StepS.pure nP rfl fun _ => rfl) ?_
 try simp only [Act.put, sA, sZ, sS]
 refine Pz 1 (some 35) (.int .i64 (pick)) rfl rfl ?ywg198_200 ?rwg198_200
 case ywg198_200 =>
  refine StepS.read [] (by kernel_rfl) nP (by rfl) (fun L9 m9 w9 hSh hAt hDn hS => ?_)
  have hT : Below w1.heap.size w1 w9 := by rw [show w9 = w1 from hS]; exact Below.refl _ _
  have x0 : w9.cell? ⟨w.heap.size, 1, none⟩ = some (.int .i64 (pick)) := (HD1.out.ca hT).cell 1
  clear hT hS
  go_simp
  try rfl
 try simp only [Act.put, sA, sZ, sS]
 refine Pz 2 (some 36) (.int .u64 (IntKind.u64.wrap (pick))) rfl rfl (by exact StepS.pure nP rfl fun _ => rfl) ?_
 try simp only [Act.put, sA, sZ, sS]
 refine Pz 3 (some 37) (.int .i64 ((n4 : Int))) rfl rfl (by exact StepS.pure nP rfl fun _ => rfl) ?_
 try simp only [Act.put, sA, sZ, sS]
 refine Pz 4 (some 38) (.int .u64 ((n4 : Int))) rfl rfl ?ywg198_203 ?rwg198_203
 case ywg198_203 =>
  refine StepS.pure nP (by rfl) (fun w9 => ?_)
  refine Eq.trans ?_ (congrArg (fun z => Result.ok (Next.value (Value.int .u64 z)) w9) HW1.out)
  first | rfl | (go_simp; done) | (go_simp; rfl)
 try simp only [Act.put, sA, sZ, sS]
 refine Pz 5 (some 39) (.int .u64 ((i : Int))) rfl rfl ?ywg198_204 ?rwg198_204
 case ywg198_204 =>
  refine StepS.pure nP (by rfl) (fun w9 => ?_)
  refine Eq.trans ?_ (congrArg (fun z => Result.ok (Next.value (Value.int .u64 z)) w9) HIX.out)
  first | rfl | (go_simp; done) | (go_simp; rfl)
 try simp only [Act.put, sA, sZ, sS]
 refine Pz 6 (some 40) (.int .i64 ((i : Int))) rfl rfl ?ywg198_205 ?rwg198_205
 case ywg198_205 =>
  refine StepS.pure nP (by rfl) (fun w9 => ?_)
  refine Eq.trans ?_ (congrArg (fun z => Result.ok (Next.value (Value.int .i64 z)) w9) HW2.out)
  first | rfl | (go_simp; done) | (go_simp; rfl)
 try simp only [Act.put, sA, sZ, sS]
 refine Pz 7 (some 6) (.int .i64 ((i : Int))) rfl rfl (by exact StepS.pure nP rfl fun _ => rfl) ?_
 try simp only [Act.put, sA, sZ, sS]
 refine Ps.done (by kernel_rfl) (fun wg198 hS => ?_) _
 obtain rfl : w1 = wg198 := (show wg198 = w1 from hS).symm
 clear hS
 have hk2b : (k == 2) = false := by simpa using HK2.out
 obtain ⟨ad, z, Bz, kz, cz, rfl, hax, sp⟩ := LP7_ownAt HP1.out.wy hin
 have hadb : ad.block < w1.heap.size := HP1.out.base4.1 _ rfl |>.2
 have x0 := sp.c0
 have x1 := sp.c1
 have x2 := sp.c2
 have x3 := sp.c3
 have x4 := sp.c4
 have x5 := sp.c5
 have x6 := sp.c6
 have y13 := HP1.out.blk.cell 13
 have HRZ1 := Lib.hid (Lay.rd_weak (fun b hb _ => hb.1) sp.rd)
 have hzc : kz ≤ cz ∧ cz ≤ 9223372036854775807 := ⟨sp.nc, sp.cm⟩
 have HZ := Lib.hid (List.mem_of_getElem? hax)
 have HWZ := Lib.hid (HI.out.wy z HZ.out)
 clear sp hax
 go_upto_region 21 with fail
 clear x0 x1 x2 x3 x4 x5 x6 y13
 have q2 := bl_al (Below.refl w1.heap.size w1) (.cells (z.cells Bz kz cz) 47)
 have HP2 := Lib.hid (HP1.out.below q2)
 have HQ2 := Lib.hid (bl_ca HQ1.out q2)
 have HB2 := Lib.hid (Nat.le_trans HB1.out q2.size)
 have HV2 := Lib.hid (Blk.new w1 47 (z.cells Bz kz cz))
 have HRZ2 := Lib.hid (Lay.rd_weak (fun _ hb _ => PF.up q2.size hb) (Lay.rd_below HRZ1.out q2))
 have hgv : g < w1.heap.size := HP1.out.blk.lt
 have HD2 := Lib.hid (HD1.out.ca q2)
 clear q2
 generalize w1.alloc (.cells (z.cells Bz kz cz) 47) = w2 at *
 have d2 := HD2.out.cell 2
 go_upto_region 22 with fail
 clear d2
 have hwr := HP2.out.wayrd
 have y13 := HP2.out.blk.cell 13
 go_wp2_with fail
 refine (cloneP _ (some ad) n4 c4 way w2 hwr (by omega)).mono ?_
 rintro e w3 ⟨X, x0, rfl, hown, q3⟩
 clear hwr y13
 have hcx := Lay.own_caps hown
 obtain ⟨j, hij⟩ : ∃ j : Nat, (i : Int) + 1 = (j : Int) := ⟨i + 1, by omega⟩
 go_wp2_with fail
 refine (delP_any w2.heap.size _ X n4 x0 i j way w3 hown (by omega) (by omega) (by omega) (by omega)).mono ?_
 rintro e w4 ⟨rfl, hown4, hg4⟩
 have q4 : Below w2.heap.size w2 w4 := q3.grown hg4 q3.size (fun k e => (Lay.own_base hown k e).1)
 clear hij
 have HC := Lib.hid (HP2.out.cut1 hown4 q4 HB2.out)
 have HQ4 := Lib.hid q4
 have y13 := (HP2.out.blk.ca q4).cell 13
 have f13 : w4.frozen? ⟨g, 13, none⟩ = false := (HP2.out.blk.ca q4).frozen 13
 clear hown hown4 hg4 q3 q4
 go_upto_region 23 with fail
 clear y13 f13
 have HV5 := Lib.hid ((HV2.out.ca HQ4.out).grown HC.out.2.2.1 (fun e => by injection e with e; omega))
 have HR5 := Lib.hid (Lay.rd_weak HC.out.2.2.2 (Lay.rd_keep (fun b hb hl => (HC.out.2.2.1.block b (Nat.lt_of_lt_of_le hl HQ4.out.size) (fun e => hb.2.1 (Option.some.inj e))).trans (HQ4.out.block b hl)) HRZ2.out))
 have HP5 := Lib.hid HC.out.1
 have HQ5 := Lib.hid ((HQ2.out.mono hB).trans HC.out.2.1)
 have HB5 := Lib.hid (Nat.le_trans HB2.out (Nat.le_trans HQ4.out.size HC.out.2.2.1.size))
 clear HC
 generalize w4.setCell ⟨g, 13, none⟩ (.slice X (n4 - 1) x0) = w5 at *
 have v0 := HV5.out.cell 0
 have v1 := HV5.out.cell 1
 have v2 := HV5.out.cell 2
 have v3 := HV5.out.cell 3
 have v4 := HV5.out.cell 4
 have v5 := HV5.out.cell 5
 have v6 := HV5.out.cell 6
 go_wp2_with fail
 refine (comes_any B0 g w5 s r (way.eraseIdx i) put taken A n c A2 n2 c2 A3 n3 c3 X (n4 - 1) x0 A5 n5 c5 A6 n6 c6 z Bz kz cz HP5.out HR5.out hzc.1 hzc.2 HSB.out HRB.out HB5.out).mono ?_
 rintro e w6 ⟨rfl, qb, A7, n7, c7, A8, n8, c8, A9, n9, c9, hPM⟩
 have HPM := Lib.hid hPM
 have HQB := Lib.hid qb
 clear v0 v1 v2 v3 v4 v5 v6 hPM qb
 go_wp2_with fail
 go_ret
 exact DoesC.mk rfl (HQ5.out.trans HQB.out) HPM.out ((HI.out.less (fun p hp => List.mem_of_mem_eraseIdx hp)).comes HWZ.out) (((HX.out.less (fun p hp => List.mem_of_mem_eraseIdx hp)).acked z).heard (fun hk => by rw [acked_sent]; exact HX.out.wy z HZ.out hk)) (by omega) (by omega)
end Go.Proofs.Ytojghgbaiiajfaa
/- (*pair).does: a packet of another session comes. Conditions: the pair is sound. -/
namespace Go.Proofs.Ytojghgbaiiajfaa
open Go.RowKit
theorem next_ses {x : Int} (h1 : 1 ≤ x) (h2 : x ≤ 2147483647) : IntKind.u32.wrap (Int.tmod x 2147483647 + 1) ≠ x := by
 have h7 : Int.tmod x 2147483647 = x % 2147483647 := Int.tmod_eq_emod_of_nonneg (by omega)
 have h8 : IntKind.u32.wrap (x % 2147483647 + 1) = (x % 2147483647 + 1) % 4294967296 := by simp [IntKind.wrap, IntKind.signed, IntKind.bits]
 rw [h7, h8]
 rcases Int.lt_or_eq_of_le h2 with h | h
 · rw [Int.emod_eq_of_lt (by omega) h, Int.emod_eq_of_lt (by omega) (by omega)]; omega
 · subst h; decide
set_option maxRecDepth 100000 in
set_option maxHeartbeats 16000000 in
theorem does_oth (B0 g : Nat) (w : World) (σ room : Int) (s : SC) (r : RC) (way : List PK) (put taken : List BC) (A : Option Addr) (n c : Nat) (A2 : Option Addr) (n2 c2 : Nat) (A3 : Option Addr) (n3 c3 : Nat) (A4 : Option Addr) (n4 c4 : Nat) (A5 : Option Addr) (n5 c5 : Nat) (A6 : Option Addr) (n6 c6 : Nat) (kind pick k : Int) (stays : Bool) (row : List VV) (R : Option Addr) (rn rc : Nat)
 (h : PM B0 g w s r way put taken A n c A2 n2 c2 A3 n3 c3 A4 n4 c4 A5 n5 c5 A6 n6 c6) (hi : SInv σ room s r way put taken) (hx : EX s r way) (hrow : LV.rd w (PF w g A4 A5 A6) R rn row) (_hrn : rn ≤ rc ∧ rc ≤ 9223372036854775807) (hB : B0 ≤ w.heap.size) (hn4 : n4 ≤ 1000) (_hn5 : n5 ≤ 1000) (hk : Int.tmod (IntKind.u64.wrap kind) 11 = k) (hk2 : k = 10) (hn0 : 0 < n4) :
 Calls Try.prog 40 #[.pointer (some ⟨g, 0, none⟩), .agg (deedC kind pick stays R rn rc)] w (DoesC B0 g σ room n4 n5 w) := by
 subst hk2
 have q1 := bl_al (Below.refl w.heap.size w) (.cells (deedC kind pick stays R rn rc) 91)
 have HP1 := Lib.hid (h.below q1)
 have HD1 := Lib.hid (Blk.new w 91 (deedC kind pick stays R rn rc))
 have HROW1 := Lib.hid (Lay.rd_weak (fun _ hb _ => PF.up q1.size hb) (Lay.rd_below hrow q1))
 have HQ1 := Lib.hid q1
 have HKK := Lib.hid hk
 have HI := Lib.hid hi
 have HX := Lib.hid hx
 have HSB := Lib.hid ((sp_iff s).2 hi.sb)
 have HRB := Lib.hid ((rp_iff r).2 hi.rb)
 have hb0 : 0 ≤ s.base := by have := hi.sb.b1; omega
 have hb1 : B0 ≤ w.heap.size + 1 := by omega
 have hsz : (w.alloc (.cells (deedC kind pick stays R rn rc) 91)).heap.size = w.heap.size + 1 := World.size_alloc _ _
 have HB1 := Lib.hid (show B0 ≤ (w.alloc (.cells (deedC kind pick stays R rn rc) 91)).heap.size by rw [hsz]; exact hb1)
 have hcq := h.cq
 have hca := h.ca
 have hcb := h.cb
 have htl : n6 ≤ n5 := by
  have h1 := hi.tn.2
  have h2 := Lay.ownO_len h.pt
  have h3 := Lay.ownO_len h.tk
  omega
 clear q1 h hi hx hrow hk hsz hb1
 go_enter Try.func40, Try.ntmps40
 go_upto_region 1 with fail
 generalize w.alloc (.cells (deedC kind pick stays R rn rc) 91) = w1 at *
 refine wp_region_ps0 .text (S := fun _ _ w' => w' = w1) (by kernel_rfl) ?spswg207 ?ppswg207
 case spswg207 =>
  rfl
 refine Pz 0 (some 23) (.pointer (some ⟨w.heap.size, 0, none⟩)) rfl rfl (by exact StepS.pure nP rfl fun _ => rfl) ?_
 try simp only [Act.put, sA, sZ, sS]
 refine Pz 1 (some 24) (.int .i64 (kind)) rfl rfl ?ywg207_209 ?rwg207_209
 case ywg207_209 =>
  refine StepS.read [] (by kernel_rfl) nP (by rfl) (fun L9 m9 w9 hSh hAt hDn hS => ?_)
  have hT : Below w1.heap.size w1 w9 := by rw [show w9 = w1 from hS]; exact Below.refl _ _
  have x0 : w9.cell? ⟨w.heap.size, 0, none⟩ = some (.int .i64 (kind)) := (HD1.out.ca hT).cell 0
  clear hT hS
  go_simp
  try rfl
 try simp only [Act.put, sA, sZ, sS]
 refine Pz 2 (some 25) (.int .u64 (IntKind.u64.wrap (kind))) rfl rfl (by exact StepS.pure nP rfl fun _ => rfl) ?_
 try simp only [Act.put, sA, sZ, sS]
 refine Pz 3 (some 26) (.int .u64 (10)) rfl rfl ?ywg207_211 ?rwg207_211
 case ywg207_211 =>
  refine StepS.pure nP (by rfl) (fun w9 => ?_)
  refine Eq.trans ?_ (congrArg (fun z => Result.ok (Next.value (Value.int .u64 z)) w9) HKK.out)
  first | rfl | (go_simp; done) | (go_simp; rfl)
 try simp only [Act.put, sA, sZ, sS]
 refine Pz 4 (some 5) (.int .u64 (10)) rfl rfl (by exact StepS.pure nP rfl fun _ => rfl) ?_
 try simp only [Act.put, sA, sZ, sS]
 refine Ps.done (by kernel_rfl) (fun wg207 hS => ?_) _
 obtain rfl : w1 = wg207 := (show wg207 = w1 from hS).symm
 clear hS
 obtain ⟨i, hi9, hin⟩ : ∃ i : Nat, Int.tmod (IntKind.u64.wrap pick) (n4 : Int) = (i : Int) ∧ i < n4 := by
  have h0 : 0 ≤ IntKind.u64.wrap pick := by simp [IntKind.wrap, IntKind.signed, IntKind.bits]; omega
  refine ⟨(Int.tmod (IntKind.u64.wrap pick) (n4 : Int)).toNat, ?_, ?_⟩
  · have := Int.tmod_nonneg (n4 : Int) h0; omega
  · have h1 := Int.tmod_nonneg (n4 : Int) h0; have h2 := Int.tmod_lt_of_pos (IntKind.u64.wrap pick) (show (0 : Int) < n4 by omega); omega
 have HIX := Lib.hid hi9
 have hnz : ¬ n4 = 0 := by omega
 have HW1 := Lib.hid (show IntKind.u64.wrap (n4 : Int) = (n4 : Int) from u64_in (by omega) (by omega))
 have HW2 := Lib.hid (show IntKind.i64.wrap (i : Int) = (i : Int) from i64_inE (by omega) (by omega))
 clear hi9
 have y13 := HP1.out.blk.cell 13
 go_upto_region 5 with fail
 clear y13
 refine wp_region_ps0 .text (S := fun _ _ w' => w' = w1) (by kernel_rfl) ?spswg213 ?ppswg213
 case spswg213 =>
  rfl
 refine Pz 0 (some 34) (.pointer (some ⟨w.heap.size, 1, none⟩)) rfl rfl (by exact StepS.pure nP rfl fun _ => rfl) ?_
 try simp only [Act.put, sA, sZ, sS]
 refine Pz 1 (some 35) (.int .i64 (pick)) rfl rfl ?ywg213_215 ?rwg213_215
 case ywg213_215 =>
  refine StepS.read [] (by kernel_rfl) nP (by rfl) (fun L9 m9 w9 hSh hAt hDn hS => ?_)
  have hT : Below w1.heap.size w1 w9 := by rw [show w9 = w1 from hS]; exact Below.refl _ _
  have x0 : w9.cell? ⟨w.heap.size, 1, none⟩ = some (.int .i64 (pick)) := (HD1.out.ca hT).cell 1
  clear hT hS
  go_simp
  try rfl
 try simp only [Act.put, sA, sZ, sS]
 refine Pz 2 (some 36) (.int .u64 (IntKind.u64.wrap (pick))) rfl rfl (by exact StepS.pure nP rfl fun _ => rfl) ?_
 try simp only [Act.put, sA, sZ, sS]
 refine Pz 3 (some 37) (.int .i64 ((n4 : Int))) rfl rfl (by exact StepS.pure nP rfl fun _ => rfl) ?_
 try simp only [Act.put, sA, sZ, sS]
 refine Pz 4 (some 38) (.int .u64 ((n4 : Int))) rfl rfl ?ywg213_218 ?rwg213_218
 case ywg213_218 =>
  refine StepS.pure nP (by rfl) (fun w9 => ?_)
  refine Eq.trans ?_ (congrArg (fun z => Result.ok (Next.value (Value.int .u64 z)) w9) HW1.out)
  first | rfl | (go_simp; done) | (go_simp; rfl)
 try simp only [Act.put, sA, sZ, sS]
 refine Pz 5 (some 39) (.int .u64 ((i : Int))) rfl rfl ?ywg213_219 ?rwg213_219
 case ywg213_219 =>
  refine StepS.pure nP (by rfl) (fun w9 => ?_)
  refine Eq.trans ?_ (congrArg (fun z => Result.ok (Next.value (Value.int .u64 z)) w9) HIX.out)
  first | rfl | (go_simp; done) | (go_simp; rfl)
 try simp only [Act.put, sA, sZ, sS]
 refine Pz 6 (some 40) (.int .i64 ((i : Int))) rfl rfl ?ywg213_220 ?rwg213_220
 case ywg213_220 =>
  refine StepS.pure nP (by rfl) (fun w9 => ?_)
  refine Eq.trans ?_ (congrArg (fun z => Result.ok (Next.value (Value.int .i64 z)) w9) HW2.out)
  first | rfl | (go_simp; done) | (go_simp; rfl)
 try simp only [Act.put, sA, sZ, sS]
 refine Pz 7 (some 6) (.int .i64 ((i : Int))) rfl rfl (by exact StepS.pure nP rfl fun _ => rfl) ?_
 try simp only [Act.put, sA, sZ, sS]
 refine Ps.done (by kernel_rfl) (fun wg213 hS => ?_) _
 obtain rfl : w1 = wg213 := (show wg213 = w1 from hS).symm
 clear hS
 obtain ⟨ad, z, Bz, kz, cz, rfl, hax, sp⟩ := LP7_ownAt HP1.out.wy hin
 have hadb : ad.block < w1.heap.size := HP1.out.base4.1 _ rfl |>.2
 have x0 := sp.c0
 have x1 := sp.c1
 have x2 := sp.c2
 have x3 := sp.c3
 have x4 := sp.c4
 have x5 := sp.c5
 have x6 := sp.c6
 have y13 := HP1.out.blk.cell 13
 have HRZ1 := Lib.hid (Lay.rd_weak (fun b hb _ => hb.1) sp.rd)
 have hzc : kz ≤ cz ∧ cz ≤ 9223372036854775807 := ⟨sp.nc, sp.cm⟩
 have HZ := Lib.hid (List.mem_of_getElem? hax)
 have HWZ := Lib.hid (HI.out.wy z HZ.out)
 clear sp hax
 go_upto_region 36 with fail
 clear x0 x1 x2 x3 x4 x5 x6 y13
 have q2 := bl_al (Below.refl w1.heap.size w1) (.cells (z.cells Bz kz cz) 47)
 have HP2 := Lib.hid (HP1.out.below q2)
 have HQ2 := Lib.hid (bl_ca HQ1.out q2)
 have HB2 := Lib.hid (Nat.le_trans HB1.out q2.size)
 have HV2 := Lib.hid (Blk.new w1 47 (z.cells Bz kz cz))
 have HRZ2 := Lib.hid (Lay.rd_weak (fun _ hb _ => PF.up q2.size hb) (Lay.rd_below HRZ1.out q2))
 have hgv : g < w1.heap.size := HP1.out.blk.lt
 have HQ21 := Lib.hid q2
 clear q2
 generalize w1.alloc (.cells (z.cells Bz kz cz) 47) = w2 at *
 obtain ⟨v, hv9⟩ : ∃ v, IntKind.u32.wrap (Int.tmod z.ses 2147483647 + 1) = v := ⟨_, rfl⟩
 have HVV := Lib.hid hv9
 clear hv9
 refine wp_region_ps0 .text (S := SeqN [5] (fun z _ w' => match z with | 0 => w' = w2 | _ => w' = w2.setCell ⟨w1.heap.size, 1, none⟩ (.int .u32 v))) (by kernel_rfl) ?spswg222 ?ppswg222
 case spswg222 =>
  exact SeqN.start (by decide) rfl
 refine Pz 0 (some 262) (.pointer (some ⟨w1.heap.size, 1, none⟩)) rfl rfl (by exact StepS.pure (SeqN.pass (by decide)) rfl fun _ => rfl) ?_
 try simp only [Act.put, sA, sZ, sS]
 refine Pz 1 (some 263) (.int .u32 (z.ses)) rfl rfl ?ywg222_224 ?rwg222_224
 case ywg222_224 =>
  refine StepS.read [] (by kernel_rfl) (SeqN.pass (by decide)) (by rfl) (fun L9 m9 w9 hSh hAt hDn hS => ?_)
  have hT : Below w2.heap.size w2 w9 := by rw [show w9 = w2 from SeqN.le [] [5] (T := fun w9 => w9 = w2) (post_no hSh hDn (by kernel_rfl)) (fun z _ _ hz h => by match z, hz, h with | 0, _, h => exact h | _ + 1, hz, _ => exact absurd hz (by simp)) hS]; exact Below.refl _ _
  have x0 : w9.cell? ⟨w1.heap.size, 1, none⟩ = some (.int .u32 (z.ses)) := (HV2.out.ca hT).cell 1
  clear hT hS
  go_simp
  try rfl
 try simp only [Act.put, sA, sZ, sS]
 refine Pz 2 (some 264) (.int .u32 (Int.tmod z.ses 2147483647)) rfl rfl (by exact StepS.pure (SeqN.pass (by decide)) rfl fun _ => by first | rfl | (go_simp; done) | (go_simp; rfl)) ?_
 try simp only [Act.put, sA, sZ, sS]
 refine Pz 3 (some 265) (.int .u32 (v)) rfl rfl ?ywg222_226 ?rwg222_226
 case ywg222_226 =>
  refine StepS.pure (SeqN.pass (by decide)) (by rfl) (fun w9 => ?_)
  refine Eq.trans ?_ (congrArg (fun z => Result.ok (Next.value (Value.int .u32 z)) w9) HVV.out)
  first | rfl | (go_simp; done) | (go_simp; rfl)
 try simp only [Act.put, sA, sZ, sS]
 refine Pz 4 (some 266) (.pointer (some ⟨w1.heap.size, 1, none⟩)) rfl rfl (by exact StepS.pure (SeqN.pass (by decide)) rfl fun _ => rfl) ?_
 try simp only [Act.put, sA, sZ, sS]
 refine Pz 5 none undef rfl rfl ?ywg222_228 ?rwg222_228
 case ywg222_228 =>
  refine StepS.store [] (by kernel_rfl) (by rfl) (fun L9 m9 w9 hSh hAt hDn hS => ?_)
  obtain rfl : w9 = w2 := SeqN.at_ (m0 := m9) (m1 := m9) [] [] hSh (fun d hd => by cases hd) hDn (by kernel_rfl) hS
  have y1 := HV2.out.cell 1
  have f1 : w9.frozen? ⟨w1.heap.size, 1, none⟩ = false := HV2.out.frozen 1
  refine ⟨w9.setCell ⟨w1.heap.size, 1, none⟩ (.int .u32 v), ?_, SeqN.set_ (m0 := m9) (m1 := m9) [] [] hSh (fun d hd => by cases hd) hDn (by kernel_rfl) (by decide) (by decide) rfl⟩
  clear hS
  go_simp
 try simp only [Act.put]
 refine Ps.done (by kernel_rfl) (fun wg222 hS => ?_) _
 have h9 := SeqN.fin (by rfl) hS
 clear hS
 obtain ⟨w5, rfl⟩ : ∃ x, x = wg222 := ⟨_, rfl⟩
 have hg5 : w2.grownBy w5 (some w1.heap.size) := by rw [h9]; exact only_setCell (World.grownBy.refl _ _) (.inl rfl) _
 have hv5 : Blk w5 w1.heap.size 47 ((⟨z.kind, v, z.seq, z.lim, z.b⟩ : PK).cells Bz kz cz) := by rw [h9]; simpa using HV2.out.set_ 1 (.int .u32 v)
 clear h9
 obtain ⟨p, hp⟩ : ∃ p : PK, p = ⟨z.kind, v, z.seq, z.lim, z.b⟩ := ⟨_, rfl⟩
 rw [← hp] at hv5
 have HV5 := Lib.hid hv5
 have q5 : Below w1.heap.size w1 w5 := bl_gr HQ21.out hg5 (Nat.le_refl _)
 have HP5 := Lib.hid (HP1.out.below q5)
 have hr5 := (Lay.rd_weak (fun _ hb _ => PF.up q5.size hb) (Lay.rd_below HRZ1.out q5))
 have HQ5 := Lib.hid ((bl_ca HQ1.out q5).mono hB)
 have HB5 := Lib.hid (Nat.le_trans HB1.out q5.size)
 have hpb : p.b = z.b := by subst hp; rfl
 have hps : p.ses = v := by subst hp; rfl
 rw [← hpb] at hr5
 have HR5 := Lib.hid hr5
 have HPS := Lib.hid hps
 clear hv5 hg5 q5 hp hpb hps hr5
 have v0 := HV5.out.cell 0
 have v1 := HV5.out.cell 1
 have v2 := HV5.out.cell 2
 have v3 := HV5.out.cell 3
 have v4 := HV5.out.cell 4
 have v5 := HV5.out.cell 5
 have v6 := HV5.out.cell 6
 go_wp2_with fail
 refine (comes_any B0 g w5 s r way put taken A n c A2 n2 c2 A3 n3 c3 (some ad) n4 c4 A5 n5 c5 A6 n6 c6 p Bz kz cz HP5.out HR5.out hzc.1 hzc.2 HSB.out HRB.out HB5.out).mono ?_
 rintro e w6 ⟨rfl, qb, A7, n7, c7, A8, n8, c8, A9, n9, c9, hPM⟩
 have hsn : p.ses ≠ s.ses ∧ p.ses ≠ r.ses := by
  have h1 : sesB s.ses = true := HI.out.sb.ses
  have h2 := HI.out.ss
  have h3 := HI.out.rs
  have h4 := HWZ.out.1
  have h5 := HVV.out
  unfold sesB at h1
  simp only [Bool.and_eq_true, decide_eq_true_eq] at h1
  have h6 : v ≠ s.ses := by
   rw [← h5, h4, ← h2]
   exact next_ses h1.1 h1.2
  rw [HPS.out]
  exact ⟨h6, by rw [h3, ← h2]; exact h6⟩
 rw [acked_other hsn.1, heard_other hsn.2] at hPM
 have HPM := Lib.hid hPM
 have HQB := Lib.hid qb
 clear v0 v1 v2 v3 v4 v5 v6 hPM qb hsn
 go_wp2_with fail
 go_ret
 exact DoesC.mk rfl (HQ5.out.trans HQB.out) HPM.out HI.out HX.out (by omega) (by omega)
end Go.Proofs.Ytojghgbaiiajfaa
/- (*pair).does: nothing comes. Conditions: the pair is sound. -/
namespace Go.Proofs.Ytojghgbaiiajfaa
open Go.RowKit
set_option maxRecDepth 100000 in
set_option maxHeartbeats 16000000 in
theorem does_none5 (B0 g : Nat) (w : World) (σ room : Int) (s : SC) (r : RC) (way : List PK) (put taken : List BC) (A : Option Addr) (n c : Nat) (A2 : Option Addr) (n2 c2 : Nat) (A3 : Option Addr) (n3 c3 : Nat) (A4 : Option Addr) (n4 c4 : Nat) (A5 : Option Addr) (n5 c5 : Nat) (A6 : Option Addr) (n6 c6 : Nat) (kind pick k : Int) (stays : Bool) (row : List VV) (R : Option Addr) (rn rc : Nat)
 (h : PM B0 g w s r way put taken A n c A2 n2 c2 A3 n3 c3 A4 n4 c4 A5 n5 c5 A6 n6 c6) (hi : SInv σ room s r way put taken) (hx : EX s r way) (hrow : LV.rd w (PF w g A4 A5 A6) R rn row) (_hrn : rn ≤ rc ∧ rc ≤ 9223372036854775807) (hB : B0 ≤ w.heap.size) (hn4 : n4 ≤ 1000) (_hn5 : n5 ≤ 1000) (hk : Int.tmod (IntKind.u64.wrap kind) 11 = k) (hk2 : k = 5) (hn0 : n4 = 0) :
 Calls Try.prog 40 #[.pointer (some ⟨g, 0, none⟩), .agg (deedC kind pick stays R rn rc)] w (DoesC B0 g σ room n4 n5 w) := by
 subst hk2
 subst hn0
 have q1 := bl_al (Below.refl w.heap.size w) (.cells (deedC kind pick stays R rn rc) 91)
 have HP1 := Lib.hid (h.below q1)
 have HD1 := Lib.hid (Blk.new w 91 (deedC kind pick stays R rn rc))
 have HROW1 := Lib.hid (Lay.rd_weak (fun _ hb _ => PF.up q1.size hb) (Lay.rd_below hrow q1))
 have HQ1 := Lib.hid q1
 have HKK := Lib.hid hk
 have HI := Lib.hid hi
 have HX := Lib.hid hx
 have HSB := Lib.hid ((sp_iff s).2 hi.sb)
 have HRB := Lib.hid ((rp_iff r).2 hi.rb)
 have hb0 : 0 ≤ s.base := by have := hi.sb.b1; omega
 have hb1 : B0 ≤ w.heap.size + 1 := by omega
 have hsz : (w.alloc (.cells (deedC kind pick stays R rn rc) 91)).heap.size = w.heap.size + 1 := World.size_alloc _ _
 have HB1 := Lib.hid (show B0 ≤ (w.alloc (.cells (deedC kind pick stays R rn rc) 91)).heap.size by rw [hsz]; exact hb1)
 have hcq := h.cq
 have hca := h.ca
 have hcb := h.cb
 have htl : n6 ≤ n5 := by
  have h1 := hi.tn.2
  have h2 := Lay.ownO_len h.pt
  have h3 := Lay.ownO_len h.tk
  omega
 clear q1 h hi hx hrow hk hsz hb1
 go_enter Try.func40, Try.ntmps40
 go_upto_region 1 with fail
 generalize w.alloc (.cells (deedC kind pick stays R rn rc) 91) = w1 at *
 refine wp_region_ps0 .text (S := fun _ _ w' => w' = w1) (by kernel_rfl) ?spswg229 ?ppswg229
 case spswg229 =>
  rfl
 refine Pz 0 (some 23) (.pointer (some ⟨w.heap.size, 0, none⟩)) rfl rfl (by exact StepS.pure nP rfl fun _ => rfl) ?_
 try simp only [Act.put, sA, sZ, sS]
 refine Pz 1 (some 24) (.int .i64 (kind)) rfl rfl ?ywg229_231 ?rwg229_231
 case ywg229_231 =>
  refine StepS.read [] (by kernel_rfl) nP (by rfl) (fun L9 m9 w9 hSh hAt hDn hS => ?_)
  have hT : Below w1.heap.size w1 w9 := by rw [show w9 = w1 from hS]; exact Below.refl _ _
  have x0 : w9.cell? ⟨w.heap.size, 0, none⟩ = some (.int .i64 (kind)) := (HD1.out.ca hT).cell 0
  clear hT hS
  go_simp
  try rfl
 try simp only [Act.put, sA, sZ, sS]
 refine Pz 2 (some 25) (.int .u64 (IntKind.u64.wrap (kind))) rfl rfl (by exact StepS.pure nP rfl fun _ => rfl) ?_
 try simp only [Act.put, sA, sZ, sS]
 refine Pz 3 (some 26) (.int .u64 (5)) rfl rfl ?ywg229_233 ?rwg229_233
 case ywg229_233 =>
  refine StepS.pure nP (by rfl) (fun w9 => ?_)
  refine Eq.trans ?_ (congrArg (fun z => Result.ok (Next.value (Value.int .u64 z)) w9) HKK.out)
  first | rfl | (go_simp; done) | (go_simp; rfl)
 try simp only [Act.put, sA, sZ, sS]
 refine Pz 4 (some 5) (.int .u64 (5)) rfl rfl (by exact StepS.pure nP rfl fun _ => rfl) ?_
 try simp only [Act.put, sA, sZ, sS]
 refine Ps.done (by kernel_rfl) (fun wg229 hS => ?_) _
 obtain rfl : w1 = wg229 := (show wg229 = w1 from hS).symm
 clear hS
 have y13 := HP1.out.blk.cell 13
 go_wp2_with fail
 go_ret
 exact DoesC.mk rfl (HQ1.out.mono hB) HP1.out HI.out HX.out (by omega) (by omega)
set_option maxRecDepth 100000 in
set_option maxHeartbeats 16000000 in
theorem does_none6 (B0 g : Nat) (w : World) (σ room : Int) (s : SC) (r : RC) (way : List PK) (put taken : List BC) (A : Option Addr) (n c : Nat) (A2 : Option Addr) (n2 c2 : Nat) (A3 : Option Addr) (n3 c3 : Nat) (A4 : Option Addr) (n4 c4 : Nat) (A5 : Option Addr) (n5 c5 : Nat) (A6 : Option Addr) (n6 c6 : Nat) (kind pick k : Int) (stays : Bool) (row : List VV) (R : Option Addr) (rn rc : Nat)
 (h : PM B0 g w s r way put taken A n c A2 n2 c2 A3 n3 c3 A4 n4 c4 A5 n5 c5 A6 n6 c6) (hi : SInv σ room s r way put taken) (hx : EX s r way) (hrow : LV.rd w (PF w g A4 A5 A6) R rn row) (_hrn : rn ≤ rc ∧ rc ≤ 9223372036854775807) (hB : B0 ≤ w.heap.size) (hn4 : n4 ≤ 1000) (_hn5 : n5 ≤ 1000) (hk : Int.tmod (IntKind.u64.wrap kind) 11 = k) (hk2 : k = 6) (hn0 : n4 = 0) :
 Calls Try.prog 40 #[.pointer (some ⟨g, 0, none⟩), .agg (deedC kind pick stays R rn rc)] w (DoesC B0 g σ room n4 n5 w) := by
 subst hk2
 subst hn0
 have q1 := bl_al (Below.refl w.heap.size w) (.cells (deedC kind pick stays R rn rc) 91)
 have HP1 := Lib.hid (h.below q1)
 have HD1 := Lib.hid (Blk.new w 91 (deedC kind pick stays R rn rc))
 have HROW1 := Lib.hid (Lay.rd_weak (fun _ hb _ => PF.up q1.size hb) (Lay.rd_below hrow q1))
 have HQ1 := Lib.hid q1
 have HKK := Lib.hid hk
 have HI := Lib.hid hi
 have HX := Lib.hid hx
 have HSB := Lib.hid ((sp_iff s).2 hi.sb)
 have HRB := Lib.hid ((rp_iff r).2 hi.rb)
 have hb0 : 0 ≤ s.base := by have := hi.sb.b1; omega
 have hb1 : B0 ≤ w.heap.size + 1 := by omega
 have hsz : (w.alloc (.cells (deedC kind pick stays R rn rc) 91)).heap.size = w.heap.size + 1 := World.size_alloc _ _
 have HB1 := Lib.hid (show B0 ≤ (w.alloc (.cells (deedC kind pick stays R rn rc) 91)).heap.size by rw [hsz]; exact hb1)
 have hcq := h.cq
 have hca := h.ca
 have hcb := h.cb
 have htl : n6 ≤ n5 := by
  have h1 := hi.tn.2
  have h2 := Lay.ownO_len h.pt
  have h3 := Lay.ownO_len h.tk
  omega
 clear q1 h hi hx hrow hk hsz hb1
 go_enter Try.func40, Try.ntmps40
 go_upto_region 1 with fail
 generalize w.alloc (.cells (deedC kind pick stays R rn rc) 91) = w1 at *
 refine wp_region_ps0 .text (S := fun _ _ w' => w' = w1) (by kernel_rfl) ?spswg235 ?ppswg235
 case spswg235 =>
  rfl
 refine Pz 0 (some 23) (.pointer (some ⟨w.heap.size, 0, none⟩)) rfl rfl (by exact StepS.pure nP rfl fun _ => rfl) ?_
 try simp only [Act.put, sA, sZ, sS]
 refine Pz 1 (some 24) (.int .i64 (kind)) rfl rfl ?ywg235_237 ?rwg235_237
 case ywg235_237 =>
  refine StepS.read [] (by kernel_rfl) nP (by rfl) (fun L9 m9 w9 hSh hAt hDn hS => ?_)
  have hT : Below w1.heap.size w1 w9 := by rw [show w9 = w1 from hS]; exact Below.refl _ _
  have x0 : w9.cell? ⟨w.heap.size, 0, none⟩ = some (.int .i64 (kind)) := (HD1.out.ca hT).cell 0
  clear hT hS
  go_simp
  try rfl
 try simp only [Act.put, sA, sZ, sS]
 refine Pz 2 (some 25) (.int .u64 (IntKind.u64.wrap (kind))) rfl rfl (by exact StepS.pure nP rfl fun _ => rfl) ?_
 try simp only [Act.put, sA, sZ, sS]
 refine Pz 3 (some 26) (.int .u64 (6)) rfl rfl ?ywg235_239 ?rwg235_239
 case ywg235_239 =>
  refine StepS.pure nP (by rfl) (fun w9 => ?_)
  refine Eq.trans ?_ (congrArg (fun z => Result.ok (Next.value (Value.int .u64 z)) w9) HKK.out)
  first | rfl | (go_simp; done) | (go_simp; rfl)
 try simp only [Act.put, sA, sZ, sS]
 refine Pz 4 (some 5) (.int .u64 (6)) rfl rfl (by exact StepS.pure nP rfl fun _ => rfl) ?_
 try simp only [Act.put, sA, sZ, sS]
 refine Ps.done (by kernel_rfl) (fun wg235 hS => ?_) _
 obtain rfl : w1 = wg235 := (show wg235 = w1 from hS).symm
 clear hS
 have y13 := HP1.out.blk.cell 13
 go_wp2_with fail
 go_ret
 exact DoesC.mk rfl (HQ1.out.mono hB) HP1.out HI.out HX.out (by omega) (by omega)
set_option maxRecDepth 100000 in
set_option maxHeartbeats 16000000 in
theorem does_none7 (B0 g : Nat) (w : World) (σ room : Int) (s : SC) (r : RC) (way : List PK) (put taken : List BC) (A : Option Addr) (n c : Nat) (A2 : Option Addr) (n2 c2 : Nat) (A3 : Option Addr) (n3 c3 : Nat) (A4 : Option Addr) (n4 c4 : Nat) (A5 : Option Addr) (n5 c5 : Nat) (A6 : Option Addr) (n6 c6 : Nat) (kind pick k : Int) (stays : Bool) (row : List VV) (R : Option Addr) (rn rc : Nat)
 (h : PM B0 g w s r way put taken A n c A2 n2 c2 A3 n3 c3 A4 n4 c4 A5 n5 c5 A6 n6 c6) (hi : SInv σ room s r way put taken) (hx : EX s r way) (hrow : LV.rd w (PF w g A4 A5 A6) R rn row) (_hrn : rn ≤ rc ∧ rc ≤ 9223372036854775807) (hB : B0 ≤ w.heap.size) (hn4 : n4 ≤ 1000) (_hn5 : n5 ≤ 1000) (hk : Int.tmod (IntKind.u64.wrap kind) 11 = k) (hk2 : k = 7) (hn0 : n4 = 0) :
 Calls Try.prog 40 #[.pointer (some ⟨g, 0, none⟩), .agg (deedC kind pick stays R rn rc)] w (DoesC B0 g σ room n4 n5 w) := by
 subst hk2
 subst hn0
 have q1 := bl_al (Below.refl w.heap.size w) (.cells (deedC kind pick stays R rn rc) 91)
 have HP1 := Lib.hid (h.below q1)
 have HD1 := Lib.hid (Blk.new w 91 (deedC kind pick stays R rn rc))
 have HROW1 := Lib.hid (Lay.rd_weak (fun _ hb _ => PF.up q1.size hb) (Lay.rd_below hrow q1))
 have HQ1 := Lib.hid q1
 have HKK := Lib.hid hk
 have HI := Lib.hid hi
 have HX := Lib.hid hx
 have HSB := Lib.hid ((sp_iff s).2 hi.sb)
 have HRB := Lib.hid ((rp_iff r).2 hi.rb)
 have hb0 : 0 ≤ s.base := by have := hi.sb.b1; omega
 have hb1 : B0 ≤ w.heap.size + 1 := by omega
 have hsz : (w.alloc (.cells (deedC kind pick stays R rn rc) 91)).heap.size = w.heap.size + 1 := World.size_alloc _ _
 have HB1 := Lib.hid (show B0 ≤ (w.alloc (.cells (deedC kind pick stays R rn rc) 91)).heap.size by rw [hsz]; exact hb1)
 have hcq := h.cq
 have hca := h.ca
 have hcb := h.cb
 have htl : n6 ≤ n5 := by
  have h1 := hi.tn.2
  have h2 := Lay.ownO_len h.pt
  have h3 := Lay.ownO_len h.tk
  omega
 clear q1 h hi hx hrow hk hsz hb1
 go_enter Try.func40, Try.ntmps40
 go_upto_region 1 with fail
 generalize w.alloc (.cells (deedC kind pick stays R rn rc) 91) = w1 at *
 refine wp_region_ps0 .text (S := fun _ _ w' => w' = w1) (by kernel_rfl) ?spswg241 ?ppswg241
 case spswg241 =>
  rfl
 refine Pz 0 (some 23) (.pointer (some ⟨w.heap.size, 0, none⟩)) rfl rfl (by exact StepS.pure nP rfl fun _ => rfl) ?_
 try simp only [Act.put, sA, sZ, sS]
 refine Pz 1 (some 24) (.int .i64 (kind)) rfl rfl ?ywg241_243 ?rwg241_243
 case ywg241_243 =>
  refine StepS.read [] (by kernel_rfl) nP (by rfl) (fun L9 m9 w9 hSh hAt hDn hS => ?_)
  have hT : Below w1.heap.size w1 w9 := by rw [show w9 = w1 from hS]; exact Below.refl _ _
  have x0 : w9.cell? ⟨w.heap.size, 0, none⟩ = some (.int .i64 (kind)) := (HD1.out.ca hT).cell 0
  clear hT hS
  go_simp
  try rfl
 try simp only [Act.put, sA, sZ, sS]
 refine Pz 2 (some 25) (.int .u64 (IntKind.u64.wrap (kind))) rfl rfl (by exact StepS.pure nP rfl fun _ => rfl) ?_
 try simp only [Act.put, sA, sZ, sS]
 refine Pz 3 (some 26) (.int .u64 (7)) rfl rfl ?ywg241_245 ?rwg241_245
 case ywg241_245 =>
  refine StepS.pure nP (by rfl) (fun w9 => ?_)
  refine Eq.trans ?_ (congrArg (fun z => Result.ok (Next.value (Value.int .u64 z)) w9) HKK.out)
  first | rfl | (go_simp; done) | (go_simp; rfl)
 try simp only [Act.put, sA, sZ, sS]
 refine Pz 4 (some 5) (.int .u64 (7)) rfl rfl (by exact StepS.pure nP rfl fun _ => rfl) ?_
 try simp only [Act.put, sA, sZ, sS]
 refine Ps.done (by kernel_rfl) (fun wg241 hS => ?_) _
 obtain rfl : w1 = wg241 := (show wg241 = w1 from hS).symm
 clear hS
 have y13 := HP1.out.blk.cell 13
 go_wp2_with fail
 go_ret
 exact DoesC.mk rfl (HQ1.out.mono hB) HP1.out HI.out HX.out (by omega) (by omega)
set_option maxRecDepth 100000 in
set_option maxHeartbeats 16000000 in
theorem does_none10 (B0 g : Nat) (w : World) (σ room : Int) (s : SC) (r : RC) (way : List PK) (put taken : List BC) (A : Option Addr) (n c : Nat) (A2 : Option Addr) (n2 c2 : Nat) (A3 : Option Addr) (n3 c3 : Nat) (A4 : Option Addr) (n4 c4 : Nat) (A5 : Option Addr) (n5 c5 : Nat) (A6 : Option Addr) (n6 c6 : Nat) (kind pick k : Int) (stays : Bool) (row : List VV) (R : Option Addr) (rn rc : Nat)
 (h : PM B0 g w s r way put taken A n c A2 n2 c2 A3 n3 c3 A4 n4 c4 A5 n5 c5 A6 n6 c6) (hi : SInv σ room s r way put taken) (hx : EX s r way) (hrow : LV.rd w (PF w g A4 A5 A6) R rn row) (_hrn : rn ≤ rc ∧ rc ≤ 9223372036854775807) (hB : B0 ≤ w.heap.size) (hn4 : n4 ≤ 1000) (_hn5 : n5 ≤ 1000) (hk : Int.tmod (IntKind.u64.wrap kind) 11 = k) (hk2 : k = 10) (hn0 : n4 = 0) :
 Calls Try.prog 40 #[.pointer (some ⟨g, 0, none⟩), .agg (deedC kind pick stays R rn rc)] w (DoesC B0 g σ room n4 n5 w) := by
 subst hk2
 subst hn0
 have q1 := bl_al (Below.refl w.heap.size w) (.cells (deedC kind pick stays R rn rc) 91)
 have HP1 := Lib.hid (h.below q1)
 have HD1 := Lib.hid (Blk.new w 91 (deedC kind pick stays R rn rc))
 have HROW1 := Lib.hid (Lay.rd_weak (fun _ hb _ => PF.up q1.size hb) (Lay.rd_below hrow q1))
 have HQ1 := Lib.hid q1
 have HKK := Lib.hid hk
 have HI := Lib.hid hi
 have HX := Lib.hid hx
 have HSB := Lib.hid ((sp_iff s).2 hi.sb)
 have HRB := Lib.hid ((rp_iff r).2 hi.rb)
 have hb0 : 0 ≤ s.base := by have := hi.sb.b1; omega
 have hb1 : B0 ≤ w.heap.size + 1 := by omega
 have hsz : (w.alloc (.cells (deedC kind pick stays R rn rc) 91)).heap.size = w.heap.size + 1 := World.size_alloc _ _
 have HB1 := Lib.hid (show B0 ≤ (w.alloc (.cells (deedC kind pick stays R rn rc) 91)).heap.size by rw [hsz]; exact hb1)
 have hcq := h.cq
 have hca := h.ca
 have hcb := h.cb
 have htl : n6 ≤ n5 := by
  have h1 := hi.tn.2
  have h2 := Lay.ownO_len h.pt
  have h3 := Lay.ownO_len h.tk
  omega
 clear q1 h hi hx hrow hk hsz hb1
 go_enter Try.func40, Try.ntmps40
 go_upto_region 1 with fail
 generalize w.alloc (.cells (deedC kind pick stays R rn rc) 91) = w1 at *
 refine wp_region_ps0 .text (S := fun _ _ w' => w' = w1) (by kernel_rfl) ?spswg247 ?ppswg247
 case spswg247 =>
  rfl
 refine Pz 0 (some 23) (.pointer (some ⟨w.heap.size, 0, none⟩)) rfl rfl (by exact StepS.pure nP rfl fun _ => rfl) ?_
 try simp only [Act.put, sA, sZ, sS]
 refine Pz 1 (some 24) (.int .i64 (kind)) rfl rfl ?ywg247_249 ?rwg247_249
 case ywg247_249 =>
  refine StepS.read [] (by kernel_rfl) nP (by rfl) (fun L9 m9 w9 hSh hAt hDn hS => ?_)
  have hT : Below w1.heap.size w1 w9 := by rw [show w9 = w1 from hS]; exact Below.refl _ _
  have x0 : w9.cell? ⟨w.heap.size, 0, none⟩ = some (.int .i64 (kind)) := (HD1.out.ca hT).cell 0
  clear hT hS
  go_simp
  try rfl
 try simp only [Act.put, sA, sZ, sS]
 refine Pz 2 (some 25) (.int .u64 (IntKind.u64.wrap (kind))) rfl rfl (by exact StepS.pure nP rfl fun _ => rfl) ?_
 try simp only [Act.put, sA, sZ, sS]
 refine Pz 3 (some 26) (.int .u64 (10)) rfl rfl ?ywg247_251 ?rwg247_251
 case ywg247_251 =>
  refine StepS.pure nP (by rfl) (fun w9 => ?_)
  refine Eq.trans ?_ (congrArg (fun z => Result.ok (Next.value (Value.int .u64 z)) w9) HKK.out)
  first | rfl | (go_simp; done) | (go_simp; rfl)
 try simp only [Act.put, sA, sZ, sS]
 refine Pz 4 (some 5) (.int .u64 (10)) rfl rfl (by exact StepS.pure nP rfl fun _ => rfl) ?_
 try simp only [Act.put, sA, sZ, sS]
 refine Ps.done (by kernel_rfl) (fun wg247 hS => ?_) _
 obtain rfl : w1 = wg247 := (show wg247 = w1 from hS).symm
 clear hS
 have y13 := HP1.out.blk.cell 13
 go_wp2_with fail
 go_ret
 exact DoesC.mk rfl (HQ1.out.mono hB) HP1.out HI.out HX.out (by omega) (by omega)
end Go.Proofs.Ytojghgbaiiajfaa
/- (*pair).does. Conditions: the pair is sound. -/
namespace Go.Proofs.Ytojghgbaiiajfaa
open Go.RowKit
theorem does_any (B0 g : Nat) (w : World) (σ room : Int) (s : SC) (r : RC) (way : List PK) (put taken : List BC) (A : Option Addr) (n c : Nat) (A2 : Option Addr) (n2 c2 : Nat) (A3 : Option Addr) (n3 c3 : Nat) (A4 : Option Addr) (n4 c4 : Nat) (A5 : Option Addr) (n5 c5 : Nat) (A6 : Option Addr) (n6 c6 : Nat) (kind pick : Int) (stays : Bool) (row : List VV) (R : Option Addr) (rn rc : Nat)
 (h : PM B0 g w s r way put taken A n c A2 n2 c2 A3 n3 c3 A4 n4 c4 A5 n5 c5 A6 n6 c6) (hi : SInv σ room s r way put taken) (hx : EX s r way) (hrow : LV.rd w (PF w g A4 A5 A6) R rn row) (hrn : rn ≤ rc ∧ rc ≤ 9223372036854775807) (hB : B0 ≤ w.heap.size) (hn4 : n4 ≤ 1000) (hn5 : n5 ≤ 1000) :
 Calls Try.prog 40 #[.pointer (some ⟨g, 0, none⟩), .agg (deedC kind pick stays R rn rc)] w (DoesC B0 g σ room n4 n5 w) := by
 obtain ⟨k, hk⟩ : ∃ k, Int.tmod (IntKind.u64.wrap kind) 11 = k := ⟨_, rfl⟩
 have hk1 : 0 ≤ k ∧ k < 11 := by
  have h0 : 0 ≤ IntKind.u64.wrap kind := by simp [IntKind.wrap, IntKind.signed, IntKind.bits]; omega
  have h1 := Int.tmod_nonneg 11 h0
  have h2 := Int.tmod_lt_of_pos (IntKind.u64.wrap kind) (show (0 : Int) < 11 by omega)
  omega
 by_cases h2 : k < 2
 · exact does_put B0 g w σ room s r way put taken A n c A2 n2 c2 A3 n3 c3 A4 n4 c4 A5 n5 c5 A6 n6 c6 kind pick k stays row R rn rc h hi hx hrow hrn hB hn4 hn5 hk h2
 by_cases h3 : k = 2
 · exact does_end B0 g w σ room s r way put taken A n c A2 n2 c2 A3 n3 c3 A4 n4 c4 A5 n5 c5 A6 n6 c6 kind pick k stays row R rn rc h hi hx hrow hrn hB hn4 hn5 hk h2 h3
 by_cases h4 : k < 5
 · exact does_tick B0 g w σ room s r way put taken A n c A2 n2 c2 A3 n3 c3 A4 n4 c4 A5 n5 c5 A6 n6 c6 kind pick k stays row R rn rc h hi hx hrow hrn hB hn4 hn5 hk h2 h3 h4
 by_cases h8 : k = 8
 · exact does_ack B0 g w σ room s r way put taken A n c A2 n2 c2 A3 n3 c3 A4 n4 c4 A5 n5 c5 A6 n6 c6 kind pick k stays row R rn rc h hi hx hrow hrn hB hn4 hn5 hk h8
 by_cases h9 : k = 9
 · exact does_take B0 g w σ room s r way put taken A n c A2 n2 c2 A3 n3 c3 A4 n4 c4 A5 n5 c5 A6 n6 c6 kind pick k stays row R rn rc h hi hx hrow hrn hB hn4 hn5 hk h9
 rcases Nat.eq_zero_or_pos n4 with h0 | h0
 · rcases (show k = 5 ∨ k = 6 ∨ k = 7 ∨ k = 10 by omega) with h5 | h5 | h5 | h5
   · exact does_none5 B0 g w σ room s r way put taken A n c A2 n2 c2 A3 n3 c3 A4 n4 c4 A5 n5 c5 A6 n6 c6 kind pick k stays row R rn rc h hi hx hrow hrn hB hn4 hn5 hk h5 h0
   · exact does_none6 B0 g w σ room s r way put taken A n c A2 n2 c2 A3 n3 c3 A4 n4 c4 A5 n5 c5 A6 n6 c6 kind pick k stays row R rn rc h hi hx hrow hrn hB hn4 hn5 hk h5 h0
   · exact does_none7 B0 g w σ room s r way put taken A n c A2 n2 c2 A3 n3 c3 A4 n4 c4 A5 n5 c5 A6 n6 c6 kind pick k stays row R rn rc h hi hx hrow hrn hB hn4 hn5 hk h5 h0
   · exact does_none10 B0 g w σ room s r way put taken A n c A2 n2 c2 A3 n3 c3 A4 n4 c4 A5 n5 c5 A6 n6 c6 kind pick k stays row R rn rc h hi hx hrow hrn hB hn4 hn5 hk h5 h0
 by_cases h7 : k = 7
 · exact does_lose B0 g w σ room s r way put taken A n c A2 n2 c2 A3 n3 c3 A4 n4 c4 A5 n5 c5 A6 n6 c6 kind pick k stays row R rn rc h hi hx hrow hrn hB hn4 hn5 hk h7 h0
 by_cases h10 : k = 10
 · exact does_oth B0 g w σ room s r way put taken A n c A2 n2 c2 A3 n3 c3 A4 n4 c4 A5 n5 c5 A6 n6 c6 kind pick k stays row R rn rc h hi hx hrow hrn hB hn4 hn5 hk h10 h0
 cases stays
 · exact does_comes B0 g w σ room s r way put taken A n c A2 n2 c2 A3 n3 c3 A4 n4 c4 A5 n5 c5 A6 n6 c6 kind pick k row R rn rc h hi hx hrow hrn hB hn4 hn5 hk h2 h3 h4 (by omega) h0
 · exact does_stays B0 g w σ room s r way put taken A n c A2 n2 c2 A3 n3 c3 A4 n4 c4 A5 n5 c5 A6 n6 c6 kind pick k row R rn rc h hi hx hrow hrn hB hn4 hn5 hk h2 h3 h4 (by omega) h0
end Go.Proofs.Ytojghgbaiiajfaa
/- slices.Grow of batches, out of the kit's contract (laid by hand). Conditions: the contract's own. -/
namespace Go.Proofs.Ytojghgbaiiajfaa
open Go.RowKit Go.Lib
def growRen : Go.Shelf.Ren := ⟨fun | 4 => 112 | n => n, fun | 0 => 0 | 3 => 3 | 4 => 4 | 9 => 9 | 20 => 20 | 22 => 27 | 25 => 45 | n => n, fun | n => n⟩
theorem growLays : Go.Proofs.Lays8.n4 Try.prog growRen := {
 mixed := by kernel_rfl
 f4 := ⟨Try.f112.name, by kernel_rfl, Try.func112.trans (congrArg some (by kernel_rfl))⟩
 t0 := Try.underlying0
 a0 := Try.isAgg0
 z0 := Try.sizeOf0
 v0 := Try.zeroValue0
 t3 := Try.underlying3
 a3 := Try.isAgg3
 z3 := Try.sizeOf3
 v3 := Try.zeroValue3
 t4 := Try.underlying4
 a4 := Try.isAgg4
 z4 := Try.sizeOf4
 v4 := Try.zeroValue4
 t9 := Try.underlying9
 a9 := Try.isAgg9
 z9 := Try.sizeOf9
 v9 := Try.zeroValue9
 t20 := Try.underlying20
 a20 := Try.isAgg20
 z20 := Try.sizeOf20
 v20 := Try.zeroValue20
 t22 := Try.underlying27
 a22 := Try.isAgg27
 z22 := Try.sizeOf27
 v22 := Try.zeroValue27 }
theorem batInfo : (Try.prog.info? 45).map (fun i => (i.zero, i.size, i.bytes)) = some (some (.agg #[.slice none 0 0, .bool false, .int .u64 0]), 3, 40) := by kernel_rfl
theorem zero_cells (k : Nat) : (Builtin.zeroCells (Value.agg #[.slice none 0 0, .bool false, .int .u64 0]).cells k).size = k * 3 := by
 rw [size_zeroCells]; rfl
/-- slices.Grow of nil: a row of its own -/
theorem grow_any (n : Nat) (w : World) (hn : n ≤ 1000000) :
 Calls Try.prog 112 #[.slice none 0 0, .int .i64 n] w fun e w' => ∃ A c, e = .returned (.slice A 0 c) ∧ LB3.own 45 w' w.heap.size (fun _ => False) A 0 c [] ∧ Below w.heap.size w w' := by
 by_cases h0 : n = 0
 · subst h0
   refine (Any8.slices_Grow_room growLays none 0 0 0 w (by omega) (by omega) (by omega) (by omega)).mono ?_
   rintro e w' ⟨rfl, rfl⟩
   exact ⟨none, 0, rfl, Lay.own_nil _ _, Below.refl _ _⟩
 · obtain ⟨i0, hi, hz0, hz1, hz2⟩ := info_parts batInfo
   have hg := Any8.slices_Grow_grow growLays i0 _ hi hz0 (by rw [hz1]; decide) none 0 0 n [] w (by omega) (by omega) (by rw [hz2]; omega) (by omega) (by simp) (fun _ => rfl) (fun a h => by cases h)
   refine hg.mono ?_
   rintro e w' ⟨rfl, rfl⟩
   have hge := grownCap_ge w (0 + n) 0 (growRen.t 25)
   have hle := grownCap_le_maxLen w (0 + n) 0 (growRen.t 25) (by unfold maxLen; omega)
   refine ⟨_, _, rfl, ⟨rfl, [], rfl, by simp, .inr ⟨w.heap.size, _, _, rfl, Nat.le_refl _, heap_alloc_new w.drew _, Nat.zero_le _, hle, ?_, by simp⟩⟩, ?_⟩
   · simp only [Array.size_append, List.size_toArray, List.length_nil, zero_cells, Nat.zero_add]
     rw [Nat.zero_add] at hge
     show (n - 0) * 3 + (grownCap w n 0 (growRen.t 25) - n) * 3 = grownCap w n 0 (growRen.t 25) * 3
     omega
   · exact bl_al (Below.refl w.heap.size w).drew _
end Go.Proofs.Ytojghgbaiiajfaa
/- slices.Concat of two rows of batches. Conditions: the rows read so, apart from what is new. -/
namespace Go.Proofs.Ytojghgbaiiajfaa
open Go.RowKit Go.Lib
def concN (n m : Nat) : Nat → Nat
 | 0 => 0
 | 1 => n
 | _ => n + m
def concL (xs ys : List BC) : Nat → List BC
 | 0 => []
 | 1 => xs
 | _ => xs ++ ys
set_option maxRecDepth 100000 in
set_option maxHeartbeats 8000000 in
theorem concat_any (F : Nat → Prop) (xs ys : List BC) (A : Option Addr) (n c : Nat) (B : Option Addr) (m d : Nat) (gb : Nat) (w : World) (hb : Blk w gb 27 #[.slice A n c, .slice B m d]) (hx : LB3.rd w F A n xs) (hy : LB3.rd w F B m ys) (hn : n ≤ 100000) (hm : m ≤ 100000) (hF : ∀ b, F b → b < w.heap.size) :
 Calls Try.prog 90 #[.slice (some ⟨gb, 0, none⟩) 2 2] w fun e w' => ∃ A' c', e = .returned (.slice A' (n + m) c') ∧ LB3.own 45 w' w.heap.size F A' (n + m) c' (xs ++ ys) ∧ Below w.heap.size w w' := by
 have HB := Lib.hid hb
 have HX := Lib.hid hx
 have HY := Lib.hid hy
 have HF := Lib.hid hF
 have y0 : w.cell? ⟨gb, 0, none⟩ = some (.slice A n c) := hb.cell 0
 have y1 : w.cell? ⟨gb, 1, none⟩ = some (.slice B m d) := hb.cell 1
 clear hb hx hy hF
 go_enter Try.func90, Try.ntmps90
 go_wp2_with fail
 go_loopg [3, 11] 2 (fun g v u wr => ∃ i : Nat, i + g = 2 ∧ v = .int .i64 (concN n m i : Nat) ∧ u = .int .i64 (i : Nat) ∧ w = wr)
 case atStart => exact ⟨0, by omega, rfl, rfl, rfl⟩
 case round =>
  obtain ⟨i, hig, rfl, rfl, rfl⟩ := hrel
  rcases (show i = 0 ∨ i = 1 ∨ i = 2 by omega) with rfl | rfl | rfl
  · have h1 : ¬ ((n : Nat) : Int) < 0 := by omega
    have e1 : ((concN n m 0 : Nat) : Int) = 0 := rfl
    rw [e1]
    go_wp2
    go_roundg (gk - 1)
    · exact ⟨1, by omega, by show Value.int .i64 _ = .int .i64 ((n : Nat) : Int); go_num, by go_num, rfl⟩
    · omega
  · have h1 : ¬ ((n : Nat) : Int) + ((m : Nat) : Int) < 0 := by omega
    have e1 : ((concN n m 1 : Nat) : Int) = (n : Int) := rfl
    rw [e1]
    go_wp2
    go_roundg (gk - 1)
    · exact ⟨2, by omega, by show Value.int .i64 _ = .int .i64 (((n + m) : Nat) : Int); go_num, by go_num, rfl⟩
    · omega
  · have e1 : ((concN n m 2 : Nat) : Int) = ((n + m : Nat) : Int) := rfl
    rw [e1]
    go_wp2_with fail
    refine (grow_any (n + m) w (by omega)).mono ?_
    rintro e w1 ⟨A1, c1, rfl, ho, q1⟩
    have HO := Lib.hid (Lay.own_weak (G' := F) (fun b h _ => h.elim) ho)
    have HQ := Lib.hid q1
    have HB1 := Lib.hid (HB.out.ca q1)
    clear ho q1 y0 y1
    have y0 : w1.cell? ⟨gb, 0, none⟩ = some (.slice A n c) := HB1.out.cell 0
    go_wp2_with fail
    clear y0
    go_loopg [6, 27] 2 (fun g v u wr => ∃ (i : Nat) (A' : Option Addr) (c' : Nat), i + g = 2 ∧ v = .slice A' (concN n m i) c' ∧ u = .int .i64 (i : Nat) ∧ Hid (LB3.own 45 wr w.heap.size F A' (concN n m i) c' (concL xs ys i)) ∧ Hid (Below w.heap.size w wr))
    case atStart => exact ⟨0, A1, c1, by omega, rfl, rfl, HO, HQ⟩
    case round =>
     clear HO
     obtain ⟨i, A', c', hig, rfl, rfl, HO, HBL⟩ := hrel
     have hszr := HBL.out.size
     have HBX := Lib.hid (HB.out.ca HBL.out)
     rcases (show i = 0 ∨ i = 1 ∨ i = 2 by omega) with rfl | rfl | rfl
     · have y0 : wr.cell? ⟨gb, 0, none⟩ = some (.slice A n c) := HBX.out.cell 0
       have hc1 : concN n m 0 = 0 := rfl
       have hc2 : concL xs ys 0 = [] := rfl
       rw [hc1, hc2] at HO
       rw [hc1]
       clear hc1 hc2
       go_wp2_with (at_builtin; refine wpList_appLs (L := LB3) rfl (.tmp 31) (.tmp 32) 27 rfl _ 3 40 Try.underlying27 batInfo rfl rfl (by omega) w.heap.size F F A' 0 c' [] A n c xs n (Nat.zero_add n).symm rfl rfl HO.out (Lay.rd_below HX.out HBL.out) (fun b hb _ => ⟨hb, fun e => by have h9 := Lay.own_base HO.out b e; have h8 := HF.out b hb; omega⟩) (fun b hb => by have h8 := HF.out b hb; omega) (by omega) (by unfold maxLen; omega) hszr ?_; intro A9 c9 w9 ho9 hg9 _; have HB9 := Lib.hid (HBL.out.grown hg9 hszr (fun k e => by have h9 := Lay.own_base HO.out k e; omega)); have HO9 := Lib.hid ho9; clear ho9 hg9)
       go_roundg (gk - 1)
       · exact ⟨1, A9, c9, by omega, rfl, by go_num, HO9, HB9⟩
       · omega
     · have y1 : wr.cell? ⟨gb, 1, none⟩ = some (.slice B m d) := HBX.out.cell 1
       have hc1 : concN n m 1 = n := rfl
       have hc2 : concL xs ys 1 = xs := rfl
       rw [hc1, hc2] at HO
       rw [hc1]
       clear hc1 hc2
       go_wp2_with (at_builtin; refine wpList_appLs (L := LB3) rfl (.tmp 31) (.tmp 32) 27 rfl _ 3 40 Try.underlying27 batInfo rfl rfl (by omega) w.heap.size F F A' n c' xs B m d ys (n + m) rfl rfl rfl HO.out (Lay.rd_below HY.out HBL.out) (fun b hb _ => ⟨hb, fun e => by have h9 := Lay.own_base HO.out b e; have h8 := HF.out b hb; omega⟩) (fun b hb => by have h8 := HF.out b hb; omega) (by omega) (by unfold maxLen; omega) hszr ?_; intro A9 c9 w9 ho9 hg9 _; have HB9 := Lib.hid (HBL.out.grown hg9 hszr (fun k e => by have h9 := Lay.own_base HO.out k e; omega)); have HO9 := Lib.hid ho9; clear ho9 hg9)
       go_roundg (gk - 1)
       · exact ⟨2, A9, c9, by omega, rfl, by go_num, HO9, HB9⟩
       · omega
     · go_wp2
       go_ret
       exact ⟨A', c', rfl, HO.out, HBL.out⟩
end Go.Proofs.Ytojghgbaiiajfaa
/- bowspritlaw22.same, and EqualFunc by it. Conditions: the slices read so. -/
namespace Go.Proofs.Ytojghgbaiiajfaa
open Go.RowKit
set_option maxRecDepth 100000 in
set_option maxHeartbeats 4000000 in
theorem wsame_any (F G : Nat → Prop) (a b : BC) (A B : Option Addr) (m c n d : Nat) (w : World) (hx : LR.rd w F A m a.rows) (hy : LR.rd w G B n b.rows) (hm : m ≤ 9223372036854775807) :
 Calls Try.prog 46 #[.agg (a.cells A m c), .agg (b.cells B n d)] w fun e w' => e = .returned (.bool (eqBC a b)) ∧ Below w.heap.size w w' := by
 have b1 := bl_al (bl_al (Below.refl w.heap.size w) (.cells (a.cells A m c) 45)) (.cells (b.cells B n d) 45)
 have HE := Lib.hid (rowSame_any F G A B m c n d a.rows b.rows _ (Lay.rd_below hx b1) (Lay.rd_below hy b1) hm)
 have HB := Lib.hid b1
 have HR := Lib.hid (show eqBC a b = (a.fin == b.fin && (a.cnt == b.cnt && decide (a.rows = b.rows))) from rfl)
 generalize eqBC a b = r at *
 clear hx hy b1
 obtain ⟨ra, fa, na⟩ := a
 obtain ⟨rb, fb, nb⟩ := b
 dsimp only at *
 generalize decide (ra = rb) = z at *
 by_cases hf : fa = fb
 · subst hf
   by_cases hn : na = nb
   · subst hn
     go_enter Try.func46, Try.ntmps46
     go_wp2_with fail
     refine HE.out.mono ?_
     rintro e w2 ⟨rfl, q2⟩
     have HQ := Lib.hid (bl_ca HB.out q2)
     clear q2
     go_wp2
     go_ret
     exact ⟨ret_bool (by rw [HR.out]; simp), HQ.out⟩
   · have d1 : (na == nb) = false := by simpa using hn
     clear hn
     go_enter Try.func46, Try.ntmps46
     go_wp2
     go_ret
     exact ⟨ret_bool (by rw [HR.out, d1]; simp), HB.out⟩
 · have d1 : (fa == fb) = false := by simpa using hf
   clear hf
   go_enter Try.func46, Try.ntmps46
   go_wp2
   go_ret
   exact ⟨ret_bool (by rw [HR.out, d1]; simp), HB.out⟩
set_option maxRecDepth 100000 in
set_option maxHeartbeats 8000000 in
theorem eqfW (F G : Nat → Prop) (A B : Option Addr) (m c n d : Nat) (xs ys : List BC) (w : World) (hx : LB3.rd w F A m xs) (hy : LB3.rd w G B n ys) (hm : m ≤ 9223372036854775807) :
 Calls Try.prog 45 #[.slice A m c, .slice B n d, .func (.func 46) #[] #[]] w fun e w' => e = .returned (.bool (decide (xs = ys))) ∧ Below w.heap.size w w' := by
 have hxl := Lay.rd_len hx
 have hyl := Lay.rd_len hy
 by_cases hmn : m = n
 · subst hmn
   obtain ⟨r, hr⟩ : ∃ r, r = decide (xs = ys) := ⟨_, rfl⟩
   rw [← hr]
   have HR := Lib.hid hr
   have HXL := Lib.hid hxl
   have HYL := Lib.hid hyl
   have HEN : ∀ (args : Array Value) (w : World), (callFunc 46 args).run Try.prog w = .ok (.enter 46 args) w := Go.Proofs.enters_of Try.func46 (by kernel_rfl) rfl
   clear hr hxl hyl
   go_enter Try.func45, Try.ntmps45
   go_wp2_with fail
   go_loopg [17] m (fun g s wr => ∃ i : Nat, i + g ≤ m ∧ m ≤ i + g ∧ s = .int .i64 i ∧ xs.take i = ys.take i ∧ Below w.heap.size w wr)
   case atStart => exact ⟨0, by omega, by omega, rfl, rfl, Below.refl _ _⟩
   case round =>
    obtain ⟨i, hi1, hi2, rfl, hp, bb⟩ := hrel
    have HBB := Lib.hid bb
    have HP := Lib.hid hp
    clear hp
    by_cases hi : i < m
    · have hil : (i : Int) < (m : Int) := by omega
      obtain ⟨p1, v, B1, k1, c1, rfl, hv, s1⟩ := LB3_at (Lay.rd_below hx bb) hi
      have q1 := bl_al (Below.refl wr.heap.size wr) (.cells (v.cells B1 k1 c1) 45)
      obtain ⟨p2, u, B2, k2, c2, rfl, hu, s2⟩ := LB3_at (Lay.rd_below hy (bl_ca bb q1)) hi
      have e0 := s1.c0
      have e1 := s1.c1
      have e2 := s1.c2
      have f0 := s2.c0
      have f1 := s2.c1
      have f2 := s2.c2
      have q2 := bl_al (Below.refl (wr.alloc (.cells (v.cells B1 k1 c1) 45)).heap.size (wr.alloc (.cells (v.cells B1 k1 c1) 45))) (.cells (u.cells B2 k2 c2) 45)
      have HC := Lib.hid (wsame_any F G v u B1 B2 k1 c1 k2 c2 _ (Lay.rd_below (Lay.rd_below s1.rd q1) q2) (Lay.rd_below s2.rd q2) (Nat.le_trans s1.nc s1.cm))
      have HB2 := Lib.hid (bl_ca (bl_ca bb q1) q2)
      clear s1 s2 q1 q2
      have HVI := Lib.hid hv
      have HUI := Lib.hid hu
      clear hv hu hx hy bb
      by_cases hvu : v = u
      · have HP2 := Lib.hid (show xs.take (i + 1) = ys.take (i + 1) from by rw [List.take_add_one, List.take_add_one, HP.out, HVI.out, HUI.out, hvu])
        have HVU := Lib.hid hvu
        clear hvu
        rw [show eqBC v u = true from (eqBC_iff v u).2 HVU.out] at HC
        clear HVU
        obtain ⟨rv, fv, nv⟩ := v
        obtain ⟨ru, fu, nu⟩ := u
        dsimp only at e0 e1 e2 f0 f1 f2 HC HB2
        go_wp2_with fail
        refine HC.out.mono ?_
        rintro e w2 ⟨rfl, q2⟩
        have HBN := Lib.hid (bl_ca HB2.out q2)
        clear q2 e0 e1 e2 f0 f1 f2
        go_wp2
        go_roundg (gk - 1)
        · exact ⟨i + 1, by omega, by omega, by go_num, HP2.out, HBN.out⟩
        · omega
      · have HF := Lib.hid (show r = false from by
         rw [HR.out]
         refine decide_eq_false fun e => hvu ?_
         have h1 := HVI.out
         rw [e, HUI.out] at h1
         injection h1 with h1
         exact h1.symm)
        have HVU := Lib.hid hvu
        clear hvu
        rw [show eqBC v u = false from by cases he : eqBC v u; rfl; exact absurd ((eqBC_iff v u).1 he) HVU.out] at HC
        clear HVU
        obtain ⟨rv, fv, nv⟩ := v
        obtain ⟨ru, fu, nu⟩ := u
        dsimp only at e0 e1 e2 f0 f1 f2 HC HB2
        go_wp2_with fail
        refine HC.out.mono ?_
        rintro e w2 ⟨rfl, q2⟩
        have HBN := Lib.hid (bl_ca HB2.out q2)
        clear q2 e0 e1 e2 f0 f1 f2
        go_wp2
        go_ret
        exact ⟨ret_bool (by rw [HF.out]), HBN.out⟩
    · obtain rfl : i = m := by omega
      have hil : (i : Int) ≤ (i : Int) := by omega
      have HT := Lib.hid (show r = true from by
       have hp := HP.out
       rw [List.take_of_length_le (by rw [HXL.out]; omega), List.take_of_length_le (by rw [HYL.out]; omega)] at hp
       rw [HR.out]
       exact decide_eq_true hp)
      clear hx hy bb
      go_wp2
      go_ret
      exact ⟨ret_bool (by rw [HT.out]), HBB.out⟩
 · have e : decide (xs = ys) = false := decide_eq_false fun e => hmn (by rw [← hxl, ← hyl, e])
   rw [e]
   clear e hx hy hxl hyl
   go_enter Try.func45, Try.ntmps45
   go_wp2
   go_ret
   exact ⟨rfl, Below.refl _ _⟩
end Go.Proofs.Ytojghgbaiiajfaa
