/- (*pair).does: nothing comes. Conditions: the pair is sound. -/
import Derived.Test.YtojghgbaiiajfaaPkS23
import Derived.Shelf.Spec.SlicesGrow
namespace Go.Proofs.Ytojghgbaiiajfaa
open Go.RowKit
set_option maxRecDepth 100000 in
set_option maxHeartbeats 16000000 in
theorem does_none5 (B0 g : Nat) (w : World) (σ room : Int) (s : SC) (r : RC) (way : List PK) (put taken : List BC) (A : Option Addr) (n c : Nat) (A2 : Option Addr) (n2 c2 : Nat) (A3 : Option Addr) (n3 c3 : Nat) (A4 : Option Addr) (n4 c4 : Nat) (A5 : Option Addr) (n5 c5 : Nat) (A6 : Option Addr) (n6 c6 : Nat) (kind pick k : Int) (stays : Bool) (row : List VV) (R : Option Addr) (rn rc : Nat)
 (h : PM B0 g w s r way put taken A n c A2 n2 c2 A3 n3 c3 A4 n4 c4 A5 n5 c5 A6 n6 c6) (hi : SInv σ room s r way put taken) (hx : EX s r way) (hrow : LV.rd w (PF w g A4 A5 A6) R rn row) (_hrn : rn ≤ rc ∧ rc ≤ 9223372036854775807) (hB : B0 ≤ w.heap.size) (hn4 : n4 ≤ 1000) (_hn5 : n5 ≤ 1000) (hk : Int.tmod (IntKind.u64.wrap kind) 11 = k) (hk2 : k = 5) (hn0 : n4 = 0) :
 Calls Try.prog 40 #[.pointer (some ⟨g, 0, none⟩), .agg (deedC kind pick stays R rn rc)] w (DoesC B0 g σ room n4 n5 w) := by
 subst hk2
 subst hn0
 have q1 := bl_al (Below.refl w.heap.size w) (.cells (deedC kind pick stays R rn rc) 91)
 have HP1 := Lib.hid (h.below q1)
 have HD1 := Lib.hid (Blk.new w 91 (deedC kind pick stays R rn rc))
 have HROW1 := Lib.hid (Lay.rd_weak (fun _ hb _ => PF.up q1.size hb) (Lay.rd_below hrow q1))
 have HQ1 := Lib.hid q1
 have HKK := Lib.hid hk
 have HI := Lib.hid hi
 have HX := Lib.hid hx
 have HSB := Lib.hid ((sp_iff s).2 hi.sb)
 have HRB := Lib.hid ((rp_iff r).2 hi.rb)
 have hb0 : 0 ≤ s.base := by have := hi.sb.b1; omega
 have hb1 : B0 ≤ w.heap.size + 1 := by omega
 have hsz : (w.alloc (.cells (deedC kind pick stays R rn rc) 91)).heap.size = w.heap.size + 1 := World.size_alloc _ _
 have HB1 := Lib.hid (show B0 ≤ (w.alloc (.cells (deedC kind pick stays R rn rc) 91)).heap.size by rw [hsz]; exact hb1)
 have hcq := h.cq
 have hca := h.ca
 have hcb := h.cb
 have htl : n6 ≤ n5 := by
  have h1 := hi.tn.2
  have h2 := Lay.ownO_len h.pt
  have h3 := Lay.ownO_len h.tk
  omega
 clear q1 h hi hx hrow hk hsz hb1
 go_enter Try.func40, Try.ntmps40
 go_upto_region 1 with fail
 generalize w.alloc (.cells (deedC kind pick stays R rn rc) 91) = w1 at *
 refine wp_region_ps0 .text (S := fun _ _ w' => w' = w1) (by kernel_rfl) ?spswg229 ?ppswg229
 case spswg229 =>
  rfl
 refine Pz 0 (some 23) (.pointer (some ⟨w.heap.size, 0, none⟩)) rfl rfl (by exact StepS.pure nP rfl fun _ => rfl) ?_
 try simp only [Act.put, sA, sZ, sS]
 refine Pz 1 (some 24) (.int .i64 (kind)) rfl rfl ?ywg229_231 ?rwg229_231
 case ywg229_231 =>
  refine StepS.read [] (by kernel_rfl) nP (by rfl) (fun L9 m9 w9 hSh hAt hDn hS => ?_)
  have hT : Below w1.heap.size w1 w9 := by rw [show w9 = w1 from hS]; exact Below.refl _ _
  have x0 : w9.cell? ⟨w.heap.size, 0, none⟩ = some (.int .i64 (kind)) := (HD1.out.ca hT).cell 0
  clear hT hS
  go_simp
  try rfl
 try simp only [Act.put, sA, sZ, sS]
 refine Pz 2 (some 25) (.int .u64 (IntKind.u64.wrap (kind))) rfl rfl (by exact StepS.pure nP rfl fun _ => rfl) ?_
 try simp only [Act.put, sA, sZ, sS]
 refine Pz 3 (some 26) (.int .u64 (5)) rfl rfl ?ywg229_233 ?rwg229_233
 case ywg229_233 =>
  refine StepS.pure nP (by rfl) (fun w9 => ?_)
  refine Eq.trans ?_ (congrArg (fun z => Result.ok (Next.value (Value.int .u64 z)) w9) HKK.out)
  first | rfl | (go_simp; done) | (go_simp; rfl)
 try simp only [Act.put, sA, sZ, sS]
 refine Pz 4 (some 5) (.int .u64 (5)) rfl rfl (by exact StepS.pure nP rfl fun _ => rfl) ?_
 try simp only [Act.put, sA, sZ, sS]
 refine Ps.done (by kernel_rfl) (fun wg229 hS => ?_) _
 obtain rfl : w1 = wg229 := (show wg229 = w1 from hS).symm
 clear hS
 have y13 := HP1.out.blk.cell 13
 go_wp2_with fail
 go_ret
 exact DoesC.mk rfl (HQ1.out.mono hB) HP1.out HI.out HX.out (by omega) (by omega)
set_option maxRecDepth 100000 in
set_option maxHeartbeats 16000000 in
theorem does_none6 (B0 g : Nat) (w : World) (σ room : Int) (s : SC) (r : RC) (way : List PK) (put taken : List BC) (A : Option Addr) (n c : Nat) (A2 : Option Addr) (n2 c2 : Nat) (A3 : Option Addr) (n3 c3 : Nat) (A4 : Option Addr) (n4 c4 : Nat) (A5 : Option Addr) (n5 c5 : Nat) (A6 : Option Addr) (n6 c6 : Nat) (kind pick k : Int) (stays : Bool) (row : List VV) (R : Option Addr) (rn rc : Nat)
 (h : PM B0 g w s r way put taken A n c A2 n2 c2 A3 n3 c3 A4 n4 c4 A5 n5 c5 A6 n6 c6) (hi : SInv σ room s r way put taken) (hx : EX s r way) (hrow : LV.rd w (PF w g A4 A5 A6) R rn row) (_hrn : rn ≤ rc ∧ rc ≤ 9223372036854775807) (hB : B0 ≤ w.heap.size) (hn4 : n4 ≤ 1000) (_hn5 : n5 ≤ 1000) (hk : Int.tmod (IntKind.u64.wrap kind) 11 = k) (hk2 : k = 6) (hn0 : n4 = 0) :
 Calls Try.prog 40 #[.pointer (some ⟨g, 0, none⟩), .agg (deedC kind pick stays R rn rc)] w (DoesC B0 g σ room n4 n5 w) := by
 subst hk2
 subst hn0
 have q1 := bl_al (Below.refl w.heap.size w) (.cells (deedC kind pick stays R rn rc) 91)
 have HP1 := Lib.hid (h.below q1)
 have HD1 := Lib.hid (Blk.new w 91 (deedC kind pick stays R rn rc))
 have HROW1 := Lib.hid (Lay.rd_weak (fun _ hb _ => PF.up q1.size hb) (Lay.rd_below hrow q1))
 have HQ1 := Lib.hid q1
 have HKK := Lib.hid hk
 have HI := Lib.hid hi
 have HX := Lib.hid hx
 have HSB := Lib.hid ((sp_iff s).2 hi.sb)
 have HRB := Lib.hid ((rp_iff r).2 hi.rb)
 have hb0 : 0 ≤ s.base := by have := hi.sb.b1; omega
 have hb1 : B0 ≤ w.heap.size + 1 := by omega
 have hsz : (w.alloc (.cells (deedC kind pick stays R rn rc) 91)).heap.size = w.heap.size + 1 := World.size_alloc _ _
 have HB1 := Lib.hid (show B0 ≤ (w.alloc (.cells (deedC kind pick stays R rn rc) 91)).heap.size by rw [hsz]; exact hb1)
 have hcq := h.cq
 have hca := h.ca
 have hcb := h.cb
 have htl : n6 ≤ n5 := by
  have h1 := hi.tn.2
  have h2 := Lay.ownO_len h.pt
  have h3 := Lay.ownO_len h.tk
  omega
 clear q1 h hi hx hrow hk hsz hb1
 go_enter Try.func40, Try.ntmps40
 go_upto_region 1 with fail
 generalize w.alloc (.cells (deedC kind pick stays R rn rc) 91) = w1 at *
 refine wp_region_ps0 .text (S := fun _ _ w' => w' = w1) (by kernel_rfl) ?spswg235 ?ppswg235
 case spswg235 =>
  rfl
 refine Pz 0 (some 23) (.pointer (some ⟨w.heap.size, 0, none⟩)) rfl rfl (by exact StepS.pure nP rfl fun _ => rfl) ?_
 try simp only [Act.put, sA, sZ, sS]
 refine Pz 1 (some 24) (.int .i64 (kind)) rfl rfl ?ywg235_237 ?rwg235_237
 case ywg235_237 =>
  refine StepS.read [] (by kernel_rfl) nP (by rfl) (fun L9 m9 w9 hSh hAt hDn hS => ?_)
  have hT : Below w1.heap.size w1 w9 := by rw [show w9 = w1 from hS]; exact Below.refl _ _
  have x0 : w9.cell? ⟨w.heap.size, 0, none⟩ = some (.int .i64 (kind)) := (HD1.out.ca hT).cell 0
  clear hT hS
  go_simp
  try rfl
 try simp only [Act.put, sA, sZ, sS]
 refine Pz 2 (some 25) (.int .u64 (IntKind.u64.wrap (kind))) rfl rfl (by exact StepS.pure nP rfl fun _ => rfl) ?_
 try simp only [Act.put, sA, sZ, sS]
 refine Pz 3 (some 26) (.int .u64 (6)) rfl rfl ?ywg235_239 ?rwg235_239
 case ywg235_239 =>
  refine StepS.pure nP (by rfl) (fun w9 => ?_)
  refine Eq.trans ?_ (congrArg (fun z => Result.ok (Next.value (Value.int .u64 z)) w9) HKK.out)
  first | rfl | (go_simp; done) | (go_simp; rfl)
 try simp only [Act.put, sA, sZ, sS]
 refine Pz 4 (some 5) (.int .u64 (6)) rfl rfl (by exact StepS.pure nP rfl fun _ => rfl) ?_
 try simp only [Act.put, sA, sZ, sS]
 refine Ps.done (by kernel_rfl) (fun wg235 hS => ?_) _
 obtain rfl : w1 = wg235 := (show wg235 = w1 from hS).symm
 clear hS
 have y13 := HP1.out.blk.cell 13
 go_wp2_with fail
 go_ret
 exact DoesC.mk rfl (HQ1.out.mono hB) HP1.out HI.out HX.out (by omega) (by omega)
set_option maxRecDepth 100000 in
set_option maxHeartbeats 16000000 in
theorem does_none7 (B0 g : Nat) (w : World) (σ room : Int) (s : SC) (r : RC) (way : List PK) (put taken : List BC) (A : Option Addr) (n c : Nat) (A2 : Option Addr) (n2 c2 : Nat) (A3 : Option Addr) (n3 c3 : Nat) (A4 : Option Addr) (n4 c4 : Nat) (A5 : Option Addr) (n5 c5 : Nat) (A6 : Option Addr) (n6 c6 : Nat) (kind pick k : Int) (stays : Bool) (row : List VV) (R : Option Addr) (rn rc : Nat)
 (h : PM B0 g w s r way put taken A n c A2 n2 c2 A3 n3 c3 A4 n4 c4 A5 n5 c5 A6 n6 c6) (hi : SInv σ room s r way put taken) (hx : EX s r way) (hrow : LV.rd w (PF w g A4 A5 A6) R rn row) (_hrn : rn ≤ rc ∧ rc ≤ 9223372036854775807) (hB : B0 ≤ w.heap.size) (hn4 : n4 ≤ 1000) (_hn5 : n5 ≤ 1000) (hk : Int.tmod (IntKind.u64.wrap kind) 11 = k) (hk2 : k = 7) (hn0 : n4 = 0) :
 Calls Try.prog 40 #[.pointer (some ⟨g, 0, none⟩), .agg (deedC kind pick stays R rn rc)] w (DoesC B0 g σ room n4 n5 w) := by
 subst hk2
 subst hn0
 have q1 := bl_al (Below.refl w.heap.size w) (.cells (deedC kind pick stays R rn rc) 91)
 have HP1 := Lib.hid (h.below q1)
 have HD1 := Lib.hid (Blk.new w 91 (deedC kind pick stays R rn rc))
 have HROW1 := Lib.hid (Lay.rd_weak (fun _ hb _ => PF.up q1.size hb) (Lay.rd_below hrow q1))
 have HQ1 := Lib.hid q1
 have HKK := Lib.hid hk
 have HI := Lib.hid hi
 have HX := Lib.hid hx
 have HSB := Lib.hid ((sp_iff s).2 hi.sb)
 have HRB := Lib.hid ((rp_iff r).2 hi.rb)
 have hb0 : 0 ≤ s.base := by have := hi.sb.b1; omega
 have hb1 : B0 ≤ w.heap.size + 1 := by omega
 have hsz : (w.alloc (.cells (deedC kind pick stays R rn rc) 91)).heap.size = w.heap.size + 1 := World.size_alloc _ _
 have HB1 := Lib.hid (show B0 ≤ (w.alloc (.cells (deedC kind pick stays R rn rc) 91)).heap.size by rw [hsz]; exact hb1)
 have hcq := h.cq
 have hca := h.ca
 have hcb := h.cb
 have htl : n6 ≤ n5 := by
  have h1 := hi.tn.2
  have h2 := Lay.ownO_len h.pt
  have h3 := Lay.ownO_len h.tk
  omega
 clear q1 h hi hx hrow hk hsz hb1
 go_enter Try.func40, Try.ntmps40
 go_upto_region 1 with fail
 generalize w.alloc (.cells (deedC kind pick stays R rn rc) 91) = w1 at *
 refine wp_region_ps0 .text (S := fun _ _ w' => w' = w1) (by kernel_rfl) ?spswg241 ?ppswg241
 case spswg241 =>
  rfl
 refine Pz 0 (some 23) (.pointer (some ⟨w.heap.size, 0, none⟩)) rfl rfl (by exact StepS.pure nP rfl fun _ => rfl) ?_
 try simp only [Act.put, sA, sZ, sS]
 refine Pz 1 (some 24) (.int .i64 (kind)) rfl rfl ?ywg241_243 ?rwg241_243
 case ywg241_243 =>
  refine StepS.read [] (by kernel_rfl) nP (by rfl) (fun L9 m9 w9 hSh hAt hDn hS => ?_)
  have hT : Below w1.heap.size w1 w9 := by rw [show w9 = w1 from hS]; exact Below.refl _ _
  have x0 : w9.cell? ⟨w.heap.size, 0, none⟩ = some (.int .i64 (kind)) := (HD1.out.ca hT).cell 0
  clear hT hS
  go_simp
  try rfl
 try simp only [Act.put, sA, sZ, sS]
 refine Pz 2 (some 25) (.int .u64 (IntKind.u64.wrap (kind))) rfl rfl (by exact StepS.pure nP rfl fun _ => rfl) ?_
 try simp only [Act.put, sA, sZ, sS]
 refine Pz 3 (some 26) (.int .u64 (7)) rfl rfl ?ywg241_245 ?rwg241_245
 case ywg241_245 =>
  refine StepS.pure nP (by rfl) (fun w9 => ?_)
  refine Eq.trans ?_ (congrArg (fun z => Result.ok (Next.value (Value.int .u64 z)) w9) HKK.out)
  first | rfl | (go_simp; done) | (go_simp; rfl)
 try simp only [Act.put, sA, sZ, sS]
 refine Pz 4 (some 5) (.int .u64 (7)) rfl rfl (by exact StepS.pure nP rfl fun _ => rfl) ?_
 try simp only [Act.put, sA, sZ, sS]
 refine Ps.done (by kernel_rfl) (fun wg241 hS => ?_) _
 obtain rfl : w1 = wg241 := (show wg241 = w1 from hS).symm
 clear hS
 have y13 := HP1.out.blk.cell 13
 go_wp2_with fail
 go_ret
 exact DoesC.mk rfl (HQ1.out.mono hB) HP1.out HI.out HX.out (by omega) (by omega)
set_option maxRecDepth 100000 in
set_option maxHeartbeats 16000000 in
theorem does_none10 (B0 g : Nat) (w : World) (σ room : Int) (s : SC) (r : RC) (way : List PK) (put taken : List BC) (A : Option Addr) (n c : Nat) (A2 : Option Addr) (n2 c2 : Nat) (A3 : Option Addr) (n3 c3 : Nat) (A4 : Option Addr) (n4 c4 : Nat) (A5 : Option Addr) (n5 c5 : Nat) (A6 : Option Addr) (n6 c6 : Nat) (kind pick k : Int) (stays : Bool) (row : List VV) (R : Option Addr) (rn rc : Nat)
 (h : PM B0 g w s r way put taken A n c A2 n2 c2 A3 n3 c3 A4 n4 c4 A5 n5 c5 A6 n6 c6) (hi : SInv σ room s r way put taken) (hx : EX s r way) (hrow : LV.rd w (PF w g A4 A5 A6) R rn row) (_hrn : rn ≤ rc ∧ rc ≤ 9223372036854775807) (hB : B0 ≤ w.heap.size) (hn4 : n4 ≤ 1000) (_hn5 : n5 ≤ 1000) (hk : Int.tmod (IntKind.u64.wrap kind) 11 = k) (hk2 : k = 10) (hn0 : n4 = 0) :
 Calls Try.prog 40 #[.pointer (some ⟨g, 0, none⟩), .agg (deedC kind pick stays R rn rc)] w (DoesC B0 g σ room n4 n5 w) := by
 subst hk2
 subst hn0
 have q1 := bl_al (Below.refl w.heap.size w) (.cells (deedC kind pick stays R rn rc) 91)
 have HP1 := Lib.hid (h.below q1)
 have HD1 := Lib.hid (Blk.new w 91 (deedC kind pick stays R rn rc))
 have HROW1 := Lib.hid (Lay.rd_weak (fun _ hb _ => PF.up q1.size hb) (Lay.rd_below hrow q1))
 have HQ1 := Lib.hid q1
 have HKK := Lib.hid hk
 have HI := Lib.hid hi
 have HX := Lib.hid hx
 have HSB := Lib.hid ((sp_iff s).2 hi.sb)
 have HRB := Lib.hid ((rp_iff r).2 hi.rb)
 have hb0 : 0 ≤ s.base := by have := hi.sb.b1; omega
 have hb1 : B0 ≤ w.heap.size + 1 := by omega
 have hsz : (w.alloc (.cells (deedC kind pick stays R rn rc) 91)).heap.size = w.heap.size + 1 := World.size_alloc _ _
 have HB1 := Lib.hid (show B0 ≤ (w.alloc (.cells (deedC kind pick stays R rn rc) 91)).heap.size by rw [hsz]; exact hb1)
 have hcq := h.cq
 have hca := h.ca
 have hcb := h.cb
 have htl : n6 ≤ n5 := by
  have h1 := hi.tn.2
  have h2 := Lay.ownO_len h.pt
  have h3 := Lay.ownO_len h.tk
  omega
 clear q1 h hi hx hrow hk hsz hb1
 go_enter Try.func40, Try.ntmps40
 go_upto_region 1 with fail
 generalize w.alloc (.cells (deedC kind pick stays R rn rc) 91) = w1 at *
 refine wp_region_ps0 .text (S := fun _ _ w' => w' = w1) (by kernel_rfl) ?spswg247 ?ppswg247
 case spswg247 =>
  rfl
 refine Pz 0 (some 23) (.pointer (some ⟨w.heap.size, 0, none⟩)) rfl rfl (by exact StepS.pure nP rfl fun _ => rfl) ?_
 try simp only [Act.put, sA, sZ, sS]
 refine Pz 1 (some 24) (.int .i64 (kind)) rfl rfl ?ywg247_249 ?rwg247_249
 case ywg247_249 =>
  refine StepS.read [] (by kernel_rfl) nP (by rfl) (fun L9 m9 w9 hSh hAt hDn hS => ?_)
  have hT : Below w1.heap.size w1 w9 := by rw [show w9 = w1 from hS]; exact Below.refl _ _
  have x0 : w9.cell? ⟨w.heap.size, 0, none⟩ = some (.int .i64 (kind)) := (HD1.out.ca hT).cell 0
  clear hT hS
  go_simp
  try rfl
 try simp only [Act.put, sA, sZ, sS]
 refine Pz 2 (some 25) (.int .u64 (IntKind.u64.wrap (kind))) rfl rfl (by exact StepS.pure nP rfl fun _ => rfl) ?_
 try simp only [Act.put, sA, sZ, sS]
 refine Pz 3 (some 26) (.int .u64 (10)) rfl rfl ?ywg247_251 ?rwg247_251
 case ywg247_251 =>
  refine StepS.pure nP (by rfl) (fun w9 => ?_)
  refine Eq.trans ?_ (congrArg (fun z => Result.ok (Next.value (Value.int .u64 z)) w9) HKK.out)
  first | rfl | (go_simp; done) | (go_simp; rfl)
 try simp only [Act.put, sA, sZ, sS]
 refine Pz 4 (some 5) (.int .u64 (10)) rfl rfl (by exact StepS.pure nP rfl fun _ => rfl) ?_
 try simp only [Act.put, sA, sZ, sS]
 refine Ps.done (by kernel_rfl) (fun wg247 hS => ?_) _
 obtain rfl : w1 = wg247 := (show wg247 = w1 from hS).symm
 clear hS
 have y13 := HP1.out.blk.cell 13
 go_wp2_with fail
 go_ret
 exact DoesC.mk rfl (HQ1.out.mono hB) HP1.out HI.out HX.out (by omega) (by omega)
end Go.Proofs.Ytojghgbaiiajfaa
/- (*pair).does. Conditions: the pair is sound. -/
namespace Go.Proofs.Ytojghgbaiiajfaa
open Go.RowKit
theorem does_any (B0 g : Nat) (w : World) (σ room : Int) (s : SC) (r : RC) (way : List PK) (put taken : List BC) (A : Option Addr) (n c : Nat) (A2 : Option Addr) (n2 c2 : Nat) (A3 : Option Addr) (n3 c3 : Nat) (A4 : Option Addr) (n4 c4 : Nat) (A5 : Option Addr) (n5 c5 : Nat) (A6 : Option Addr) (n6 c6 : Nat) (kind pick : Int) (stays : Bool) (row : List VV) (R : Option Addr) (rn rc : Nat)
 (h : PM B0 g w s r way put taken A n c A2 n2 c2 A3 n3 c3 A4 n4 c4 A5 n5 c5 A6 n6 c6) (hi : SInv σ room s r way put taken) (hx : EX s r way) (hrow : LV.rd w (PF w g A4 A5 A6) R rn row) (hrn : rn ≤ rc ∧ rc ≤ 9223372036854775807) (hB : B0 ≤ w.heap.size) (hn4 : n4 ≤ 1000) (hn5 : n5 ≤ 1000) :
 Calls Try.prog 40 #[.pointer (some ⟨g, 0, none⟩), .agg (deedC kind pick stays R rn rc)] w (DoesC B0 g σ room n4 n5 w) := by
 obtain ⟨k, hk⟩ : ∃ k, Int.tmod (IntKind.u64.wrap kind) 11 = k := ⟨_, rfl⟩
 have hk1 : 0 ≤ k ∧ k < 11 := by
  have h0 : 0 ≤ IntKind.u64.wrap kind := by simp [IntKind.wrap, IntKind.signed, IntKind.bits]; omega
  have h1 := Int.tmod_nonneg 11 h0
  have h2 := Int.tmod_lt_of_pos (IntKind.u64.wrap kind) (show (0 : Int) < 11 by omega)
  omega
 by_cases h2 : k < 2
 · exact does_put B0 g w σ room s r way put taken A n c A2 n2 c2 A3 n3 c3 A4 n4 c4 A5 n5 c5 A6 n6 c6 kind pick k stays row R rn rc h hi hx hrow hrn hB hn4 hn5 hk h2
 by_cases h3 : k = 2
 · exact does_end B0 g w σ room s r way put taken A n c A2 n2 c2 A3 n3 c3 A4 n4 c4 A5 n5 c5 A6 n6 c6 kind pick k stays row R rn rc h hi hx hrow hrn hB hn4 hn5 hk h2 h3
 by_cases h4 : k < 5
 · exact does_tick B0 g w σ room s r way put taken A n c A2 n2 c2 A3 n3 c3 A4 n4 c4 A5 n5 c5 A6 n6 c6 kind pick k stays row R rn rc h hi hx hrow hrn hB hn4 hn5 hk h2 h3 h4
 by_cases h8 : k = 8
 · exact does_ack B0 g w σ room s r way put taken A n c A2 n2 c2 A3 n3 c3 A4 n4 c4 A5 n5 c5 A6 n6 c6 kind pick k stays row R rn rc h hi hx hrow hrn hB hn4 hn5 hk h8
 by_cases h9 : k = 9
 · exact does_take B0 g w σ room s r way put taken A n c A2 n2 c2 A3 n3 c3 A4 n4 c4 A5 n5 c5 A6 n6 c6 kind pick k stays row R rn rc h hi hx hrow hrn hB hn4 hn5 hk h9
 rcases Nat.eq_zero_or_pos n4 with h0 | h0
 · rcases (show k = 5 ∨ k = 6 ∨ k = 7 ∨ k = 10 by omega) with h5 | h5 | h5 | h5
   · exact does_none5 B0 g w σ room s r way put taken A n c A2 n2 c2 A3 n3 c3 A4 n4 c4 A5 n5 c5 A6 n6 c6 kind pick k stays row R rn rc h hi hx hrow hrn hB hn4 hn5 hk h5 h0
   · exact does_none6 B0 g w σ room s r way put taken A n c A2 n2 c2 A3 n3 c3 A4 n4 c4 A5 n5 c5 A6 n6 c6 kind pick k stays row R rn rc h hi hx hrow hrn hB hn4 hn5 hk h5 h0
   · exact does_none7 B0 g w σ room s r way put taken A n c A2 n2 c2 A3 n3 c3 A4 n4 c4 A5 n5 c5 A6 n6 c6 kind pick k stays row R rn rc h hi hx hrow hrn hB hn4 hn5 hk h5 h0
   · exact does_none10 B0 g w σ room s r way put taken A n c A2 n2 c2 A3 n3 c3 A4 n4 c4 A5 n5 c5 A6 n6 c6 kind pick k stays row R rn rc h hi hx hrow hrn hB hn4 hn5 hk h5 h0
 by_cases h7 : k = 7
 · exact does_lose B0 g w σ room s r way put taken A n c A2 n2 c2 A3 n3 c3 A4 n4 c4 A5 n5 c5 A6 n6 c6 kind pick k stays row R rn rc h hi hx hrow hrn hB hn4 hn5 hk h7 h0
 by_cases h10 : k = 10
 · exact does_oth B0 g w σ room s r way put taken A n c A2 n2 c2 A3 n3 c3 A4 n4 c4 A5 n5 c5 A6 n6 c6 kind pick k stays row R rn rc h hi hx hrow hrn hB hn4 hn5 hk h10 h0
 cases stays
 · exact does_comes B0 g w σ room s r way put taken A n c A2 n2 c2 A3 n3 c3 A4 n4 c4 A5 n5 c5 A6 n6 c6 kind pick k row R rn rc h hi hx hrow hrn hB hn4 hn5 hk h2 h3 h4 (by omega) h0
 · exact does_stays B0 g w σ room s r way put taken A n c A2 n2 c2 A3 n3 c3 A4 n4 c4 A5 n5 c5 A6 n6 c6 kind pick k row R rn rc h hi hx hrow hrn hB hn4 hn5 hk h2 h3 h4 (by omega) h0
end Go.Proofs.Ytojghgbaiiajfaa
/- slices.Grow of batches, out of the kit's contract (laid by hand). Conditions: the contract's own. -/
namespace Go.Proofs.Ytojghgbaiiajfaa
open Go.RowKit Go.Lib
def growRen : Go.Shelf.Ren := ⟨fun | 4 => 112 | n => n, fun | 0 => 0 | 3 => 3 | 4 => 4 | 9 => 9 | 20 => 20 | 22 => 27 | 25 => 45 | n => n, fun | n => n⟩
theorem growLays : Go.Proofs.Lays8.n4 Try.prog growRen := {
 mixed := by kernel_rfl
 f4 := ⟨Try.f112.name, by kernel_rfl, Try.func112.trans (congrArg some (by kernel_rfl))⟩
 t0 := Try.underlying0
 a0 := Try.isAgg0
 z0 := Try.sizeOf0
 v0 := Try.zeroValue0
 t3 := Try.underlying3
 a3 := Try.isAgg3
 z3 := Try.sizeOf3
 v3 := Try.zeroValue3
 t4 := Try.underlying4
 a4 := Try.isAgg4
 z4 := Try.sizeOf4
 v4 := Try.zeroValue4
 t9 := Try.underlying9
 a9 := Try.isAgg9
 z9 := Try.sizeOf9
 v9 := Try.zeroValue9
 t20 := Try.underlying20
 a20 := Try.isAgg20
 z20 := Try.sizeOf20
 v20 := Try.zeroValue20
 t22 := Try.underlying27
 a22 := Try.isAgg27
 z22 := Try.sizeOf27
 v22 := Try.zeroValue27 }
theorem batInfo : (Try.prog.info? 45).map (fun i => (i.zero, i.size, i.bytes)) = some (some (.agg #[.slice none 0 0, .bool false, .int .u64 0]), 3, 40) := by kernel_rfl
theorem zero_cells (k : Nat) : (Builtin.zeroCells (Value.agg #[.slice none 0 0, .bool false, .int .u64 0]).cells k).size = k * 3 := by
 rw [size_zeroCells]; rfl
/-- slices.Grow of nil: a row of its own -/
theorem grow_any (n : Nat) (w : World) (hn : n ≤ 1000000) :
 Calls Try.prog 112 #[.slice none 0 0, .int .i64 n] w fun e w' => ∃ A c, e = .returned (.slice A 0 c) ∧ LB3.own 45 w' w.heap.size (fun _ => False) A 0 c [] ∧ Below w.heap.size w w' := by
 by_cases h0 : n = 0
 · subst h0
   refine (Any8.slices_Grow_room growLays none 0 0 0 w (by omega) (by omega) (by omega) (by omega)).mono ?_
   rintro e w' ⟨rfl, rfl⟩
   exact ⟨none, 0, rfl, Lay.own_nil _ _, Below.refl _ _⟩
 · obtain ⟨i0, hi, hz0, hz1, hz2⟩ := info_parts batInfo
   have hg := Any8.slices_Grow_grow growLays i0 _ hi hz0 (by rw [hz1]; decide) none 0 0 n [] w (by omega) (by omega) (by rw [hz2]; omega) (by omega) (by simp) (fun _ => rfl) (fun a h => by cases h)
   refine hg.mono ?_
   rintro e w' ⟨rfl, rfl⟩
   have hge := grownCap_ge w (0 + n) 0 (growRen.t 25)
   have hle := grownCap_le_maxLen w (0 + n) 0 (growRen.t 25) (by unfold maxLen; omega)
   refine ⟨_, _, rfl, ⟨rfl, [], rfl, by simp, .inr ⟨w.heap.size, _, _, rfl, Nat.le_refl _, heap_alloc_new w.drew _, Nat.zero_le _, hle, ?_, by simp⟩⟩, ?_⟩
   · simp only [Array.size_append, List.size_toArray, List.length_nil, zero_cells, Nat.zero_add]
     rw [Nat.zero_add] at hge
     show (n - 0) * 3 + (grownCap w n 0 (growRen.t 25) - n) * 3 = grownCap w n 0 (growRen.t 25) * 3
     omega
   · exact bl_al (Below.refl w.heap.size w).drew _
end Go.Proofs.Ytojghgbaiiajfaa
/- slices.Concat of two rows of batches. Conditions: the rows read so, apart from what is new. -/
namespace Go.Proofs.Ytojghgbaiiajfaa
open Go.RowKit Go.Lib
def concN (n m : Nat) : Nat → Nat
 | 0 => 0
 | 1 => n
 | _ => n + m
def concL (xs ys : List BC) : Nat → List BC
 | 0 => []
 | 1 => xs
 | _ => xs ++ ys
set_option maxRecDepth 100000 in
set_option maxHeartbeats 8000000 in
theorem concat_any (F : Nat → Prop) (xs ys : List BC) (A : Option Addr) (n c : Nat) (B : Option Addr) (m d : Nat) (gb : Nat) (w : World) (hb : Blk w gb 27 #[.slice A n c, .slice B m d]) (hx : LB3.rd w F A n xs) (hy : LB3.rd w F B m ys) (hn : n ≤ 100000) (hm : m ≤ 100000) (hF : ∀ b, F b → b < w.heap.size) :
 Calls Try.prog 90 #[.slice (some ⟨gb, 0, none⟩) 2 2] w fun e w' => ∃ A' c', e = .returned (.slice A' (n + m) c') ∧ LB3.own 45 w' w.heap.size F A' (n + m) c' (xs ++ ys) ∧ Below w.heap.size w w' := by
 have HB := Lib.hid hb
 have HX := Lib.hid hx
 have HY := Lib.hid hy
 have HF := Lib.hid hF
 have y0 : w.cell? ⟨gb, 0, none⟩ = some (.slice A n c) := hb.cell 0
 have y1 : w.cell? ⟨gb, 1, none⟩ = some (.slice B m d) := hb.cell 1
 clear hb hx hy hF
 go_enter Try.func90, Try.ntmps90
 go_wp2_with fail
 go_loopg [3, 11] 2 (fun g v u wr => ∃ i : Nat, i + g = 2 ∧ v = .int .i64 (concN n m i : Nat) ∧ u = .int .i64 (i : Nat) ∧ w = wr)
 case atStart => exact ⟨0, by omega, rfl, rfl, rfl⟩
 case round =>
  obtain ⟨i, hig, rfl, rfl, rfl⟩ := hrel
  rcases (show i = 0 ∨ i = 1 ∨ i = 2 by omega) with rfl | rfl | rfl
  · have h1 : ¬ ((n : Nat) : Int) < 0 := by omega
    have e1 : ((concN n m 0 : Nat) : Int) = 0 := rfl
    rw [e1]
    go_wp2
    go_roundg (gk - 1)
    · exact ⟨1, by omega, by show Value.int .i64 _ = .int .i64 ((n : Nat) : Int); go_num, by go_num, rfl⟩
    · omega
  · have h1 : ¬ ((n : Nat) : Int) + ((m : Nat) : Int) < 0 := by omega
    have e1 : ((concN n m 1 : Nat) : Int) = (n : Int) := rfl
    rw [e1]
    go_wp2
    go_roundg (gk - 1)
    · exact ⟨2, by omega, by show Value.int .i64 _ = .int .i64 (((n + m) : Nat) : Int); go_num, by go_num, rfl⟩
    · omega
  · have e1 : ((concN n m 2 : Nat) : Int) = ((n + m : Nat) : Int) := rfl
    rw [e1]
    go_wp2_with fail
    refine (grow_any (n + m) w (by omega)).mono ?_
    rintro e w1 ⟨A1, c1, rfl, ho, q1⟩
    have HO := Lib.hid (Lay.own_weak (G' := F) (fun b h _ => h.elim) ho)
    have HQ := Lib.hid q1
    have HB1 := Lib.hid (HB.out.ca q1)
    clear ho q1 y0 y1
    have y0 : w1.cell? ⟨gb, 0, none⟩ = some (.slice A n c) := HB1.out.cell 0
    go_wp2_with fail
    clear y0
    go_loopg [6, 27] 2 (fun g v u wr => ∃ (i : Nat) (A' : Option Addr) (c' : Nat), i + g = 2 ∧ v = .slice A' (concN n m i) c' ∧ u = .int .i64 (i : Nat) ∧ Hid (LB3.own 45 wr w.heap.size F A' (concN n m i) c' (concL xs ys i)) ∧ Hid (Below w.heap.size w wr))
    case atStart => exact ⟨0, A1, c1, by omega, rfl, rfl, HO, HQ⟩
    case round =>
     clear HO
     obtain ⟨i, A', c', hig, rfl, rfl, HO, HBL⟩ := hrel
     have hszr := HBL.out.size
     have HBX := Lib.hid (HB.out.ca HBL.out)
     rcases (show i = 0 ∨ i = 1 ∨ i = 2 by omega) with rfl | rfl | rfl
     · have y0 : wr.cell? ⟨gb, 0, none⟩ = some (.slice A n c) := HBX.out.cell 0
       have hc1 : concN n m 0 = 0 := rfl
       have hc2 : concL xs ys 0 = [] := rfl
       rw [hc1, hc2] at HO
       rw [hc1]
       clear hc1 hc2
       go_wp2_with (at_builtin; refine wpList_appLs (L := LB3) rfl (.tmp 31) (.tmp 32) 27 rfl _ 3 40 Try.underlying27 batInfo rfl rfl (by omega) w.heap.size F F A' 0 c' [] A n c xs n (Nat.zero_add n).symm rfl rfl HO.out (Lay.rd_below HX.out HBL.out) (fun b hb _ => ⟨hb, fun e => by have h9 := Lay.own_base HO.out b e; have h8 := HF.out b hb; omega⟩) (fun b hb => by have h8 := HF.out b hb; omega) (by omega) (by unfold maxLen; omega) hszr ?_; intro A9 c9 w9 ho9 hg9 _; have HB9 := Lib.hid (HBL.out.grown hg9 hszr (fun k e => by have h9 := Lay.own_base HO.out k e; omega)); have HO9 := Lib.hid ho9; clear ho9 hg9)
       go_roundg (gk - 1)
       · exact ⟨1, A9, c9, by omega, rfl, by go_num, HO9, HB9⟩
       · omega
     · have y1 : wr.cell? ⟨gb, 1, none⟩ = some (.slice B m d) := HBX.out.cell 1
       have hc1 : concN n m 1 = n := rfl
       have hc2 : concL xs ys 1 = xs := rfl
       rw [hc1, hc2] at HO
       rw [hc1]
       clear hc1 hc2
       go_wp2_with (at_builtin; refine wpList_appLs (L := LB3) rfl (.tmp 31) (.tmp 32) 27 rfl _ 3 40 Try.underlying27 batInfo rfl rfl (by omega) w.heap.size F F A' n c' xs B m d ys (n + m) rfl rfl rfl HO.out (Lay.rd_below HY.out HBL.out) (fun b hb _ => ⟨hb, fun e => by have h9 := Lay.own_base HO.out b e; have h8 := HF.out b hb; omega⟩) (fun b hb => by have h8 := HF.out b hb; omega) (by omega) (by unfold maxLen; omega) hszr ?_; intro A9 c9 w9 ho9 hg9 _; have HB9 := Lib.hid (HBL.out.grown hg9 hszr (fun k e => by have h9 := Lay.own_base HO.out k e; omega)); have HO9 := Lib.hid ho9; clear ho9 hg9)
       go_roundg (gk - 1)
       · exact ⟨2, A9, c9, by omega, rfl, by go_num, HO9, HB9⟩
       · omega
     · go_wp2
       go_ret
       exact ⟨A', c', rfl, HO.out, HBL.out⟩
end Go.Proofs.Ytojghgbaiiajfaa
/- bowspritlaw22.same, and EqualFunc by it. Conditions: the slices read so. -/
namespace Go.Proofs.Ytojghgbaiiajfaa
open Go.RowKit
set_option maxRecDepth 100000 in
set_option maxHeartbeats 4000000 in
theorem wsame_any (F G : Nat → Prop) (a b : BC) (A B : Option Addr) (m c n d : Nat) (w : World) (hx : LR.rd w F A m a.rows) (hy : LR.rd w G B n b.rows) (hm : m ≤ 9223372036854775807) :
 Calls Try.prog 46 #[.agg (a.cells A m c), .agg (b.cells B n d)] w fun e w' => e = .returned (.bool (eqBC a b)) ∧ Below w.heap.size w w' := by
 have b1 := bl_al (bl_al (Below.refl w.heap.size w) (.cells (a.cells A m c) 45)) (.cells (b.cells B n d) 45)
 have HE := Lib.hid (rowSame_any F G A B m c n d a.rows b.rows _ (Lay.rd_below hx b1) (Lay.rd_below hy b1) hm)
 have HB := Lib.hid b1
 have HR := Lib.hid (show eqBC a b = (a.fin == b.fin && (a.cnt == b.cnt && decide (a.rows = b.rows))) from rfl)
 generalize eqBC a b = r at *
 clear hx hy b1
 obtain ⟨ra, fa, na⟩ := a
 obtain ⟨rb, fb, nb⟩ := b
 dsimp only at *
 generalize decide (ra = rb) = z at *
 by_cases hf : fa = fb
 · subst hf
   by_cases hn : na = nb
   · subst hn
     go_enter Try.func46, Try.ntmps46
     go_wp2_with fail
     refine HE.out.mono ?_
     rintro e w2 ⟨rfl, q2⟩
     have HQ := Lib.hid (bl_ca HB.out q2)
     clear q2
     go_wp2
     go_ret
     exact ⟨ret_bool (by rw [HR.out]; simp), HQ.out⟩
   · have d1 : (na == nb) = false := by simpa using hn
     clear hn
     go_enter Try.func46, Try.ntmps46
     go_wp2
     go_ret
     exact ⟨ret_bool (by rw [HR.out, d1]; simp), HB.out⟩
 · have d1 : (fa == fb) = false := by simpa using hf
   clear hf
   go_enter Try.func46, Try.ntmps46
   go_wp2
   go_ret
   exact ⟨ret_bool (by rw [HR.out, d1]; simp), HB.out⟩
set_option maxRecDepth 100000 in
set_option maxHeartbeats 8000000 in
theorem eqfW (F G : Nat → Prop) (A B : Option Addr) (m c n d : Nat) (xs ys : List BC) (w : World) (hx : LB3.rd w F A m xs) (hy : LB3.rd w G B n ys) (hm : m ≤ 9223372036854775807) :
 Calls Try.prog 45 #[.slice A m c, .slice B n d, .func (.func 46) #[] #[]] w fun e w' => e = .returned (.bool (decide (xs = ys))) ∧ Below w.heap.size w w' := by
 have hxl := Lay.rd_len hx
 have hyl := Lay.rd_len hy
 by_cases hmn : m = n
 · subst hmn
   obtain ⟨r, hr⟩ : ∃ r, r = decide (xs = ys) := ⟨_, rfl⟩
   rw [← hr]
   have HR := Lib.hid hr
   have HXL := Lib.hid hxl
   have HYL := Lib.hid hyl
   have HEN : ∀ (args : Array Value) (w : World), (callFunc 46 args).run Try.prog w = .ok (.enter 46 args) w := Go.Proofs.enters_of Try.func46 (by kernel_rfl) rfl
   clear hr hxl hyl
   go_enter Try.func45, Try.ntmps45
   go_wp2_with fail
   go_loopg [17] m (fun g s wr => ∃ i : Nat, i + g ≤ m ∧ m ≤ i + g ∧ s = .int .i64 i ∧ xs.take i = ys.take i ∧ Below w.heap.size w wr)
   case atStart => exact ⟨0, by omega, by omega, rfl, rfl, Below.refl _ _⟩
   case round =>
    obtain ⟨i, hi1, hi2, rfl, hp, bb⟩ := hrel
    have HBB := Lib.hid bb
    have HP := Lib.hid hp
    clear hp
    by_cases hi : i < m
    · have hil : (i : Int) < (m : Int) := by omega
      obtain ⟨p1, v, B1, k1, c1, rfl, hv, s1⟩ := LB3_at (Lay.rd_below hx bb) hi
      have q1 := bl_al (Below.refl wr.heap.size wr) (.cells (v.cells B1 k1 c1) 45)
      obtain ⟨p2, u, B2, k2, c2, rfl, hu, s2⟩ := LB3_at (Lay.rd_below hy (bl_ca bb q1)) hi
      have e0 := s1.c0
      have e1 := s1.c1
      have e2 := s1.c2
      have f0 := s2.c0
      have f1 := s2.c1
      have f2 := s2.c2
      have q2 := bl_al (Below.refl (wr.alloc (.cells (v.cells B1 k1 c1) 45)).heap.size (wr.alloc (.cells (v.cells B1 k1 c1) 45))) (.cells (u.cells B2 k2 c2) 45)
      have HC := Lib.hid (wsame_any F G v u B1 B2 k1 c1 k2 c2 _ (Lay.rd_below (Lay.rd_below s1.rd q1) q2) (Lay.rd_below s2.rd q2) (Nat.le_trans s1.nc s1.cm))
      have HB2 := Lib.hid (bl_ca (bl_ca bb q1) q2)
      clear s1 s2 q1 q2
      have HVI := Lib.hid hv
      have HUI := Lib.hid hu
      clear hv hu hx hy bb
      by_cases hvu : v = u
      · have HP2 := Lib.hid (show xs.take (i + 1) = ys.take (i + 1) from by rw [List.take_add_one, List.take_add_one, HP.out, HVI.out, HUI.out, hvu])
        have HVU := Lib.hid hvu
        clear hvu
        rw [show eqBC v u = true from (eqBC_iff v u).2 HVU.out] at HC
        clear HVU
        obtain ⟨rv, fv, nv⟩ := v
        obtain ⟨ru, fu, nu⟩ := u
        dsimp only at e0 e1 e2 f0 f1 f2 HC HB2
        go_wp2_with fail
        refine HC.out.mono ?_
        rintro e w2 ⟨rfl, q2⟩
        have HBN := Lib.hid (bl_ca HB2.out q2)
        clear q2 e0 e1 e2 f0 f1 f2
        go_wp2
        go_roundg (gk - 1)
        · exact ⟨i + 1, by omega, by omega, by go_num, HP2.out, HBN.out⟩
        · omega
      · have HF := Lib.hid (show r = false from by
         rw [HR.out]
         refine decide_eq_false fun e => hvu ?_
         have h1 := HVI.out
         rw [e, HUI.out] at h1
         injection h1 with h1
         exact h1.symm)
        have HVU := Lib.hid hvu
        clear hvu
        rw [show eqBC v u = false from by cases he : eqBC v u; rfl; exact absurd ((eqBC_iff v u).1 he) HVU.out] at HC
        clear HVU
        obtain ⟨rv, fv, nv⟩ := v
        obtain ⟨ru, fu, nu⟩ := u
        dsimp only at e0 e1 e2 f0 f1 f2 HC HB2
        go_wp2_with fail
        refine HC.out.mono ?_
        rintro e w2 ⟨rfl, q2⟩
        have HBN := Lib.hid (bl_ca HB2.out q2)
        clear q2 e0 e1 e2 f0 f1 f2
        go_wp2
        go_ret
        exact ⟨ret_bool (by rw [HF.out]), HBN.out⟩
    · obtain rfl : i = m := by omega
      have hil : (i : Int) ≤ (i : Int) := by omega
      have HT := Lib.hid (show r = true from by
       have hp := HP.out
       rw [List.take_of_length_le (by rw [HXL.out]; omega), List.take_of_length_le (by rw [HYL.out]; omega)] at hp
       rw [HR.out]
       exact decide_eq_true hp)
      clear hx hy bb
      go_wp2
      go_ret
      exact ⟨ret_bool (by rw [HT.out]), HBB.out⟩
 · have e : decide (xs = ys) = false := decide_eq_false fun e => hmn (by rw [← hxl, ← hyl, e])
   rw [e]
   clear e hx hy hxl hyl
   go_enter Try.func45, Try.ntmps45
   go_wp2
   go_ret
   exact ⟨rfl, Below.refl _ _⟩
end Go.Proofs.Ytojghgbaiiajfaa
/- (*pair).sound. Conditions: the pair is as the law asks. -/
namespace Go.Proofs.Ytojghgbaiiajfaa
open Go.RowKit
theorem i64_in {x : Int} (h0 : 0 ≤ x) (h1 : x ≤ 9223372036854775807) : IntKind.i64.wrap x = x := by simp [IntKind.wrap, IntKind.signed, IntKind.bits]; omega
set_option maxRecDepth 100000 in
set_option maxHeartbeats 16000000 in
theorem sound_any (B0 g : Nat) (w : World) (s : SC) (r : RC) (way : List PK) (put taken : List BC) (A : Option Addr) (n c : Nat) (A2 : Option Addr) (n2 c2 : Nat) (A3 : Option Addr) (n3 c3 : Nat) (A4 : Option Addr) (n4 c4 : Nat) (A5 : Option Addr) (n5 c5 : Nat) (A6 : Option Addr) (n6 c6 : Nat)
 (h : PM B0 g w s r way put taken A n c A2 n2 c2 A3 n3 c3 A4 n4 c4 A5 n5 c5 A6 n6 c6) (h1 : n6 + n3 ≤ n5) (h2 : taken ++ r.buf = put.take (n6 + n3)) (h3 : sendB s = true) (h4 : recB r = true) (h5 : s.base ≤ r.next) (h6 : s.sent ≤ (n6 : Int) + r.room) (h7 : r.next - 1 = ((n6 + n3 : Nat) : Int)) (h8 : n5 ≤ 100000) :
 Calls Try.prog 41 #[.pointer (some ⟨g, 0, none⟩)] w fun e w' => e = .returned (.bool true) ∧ Below w.heap.size w w' := by
 have HP := Lib.hid h
 have H2 := Lib.hid h2
 have HSR := Lib.hid (And.intro h3 h4)
 have HSP := Lib.hid (And.intro ((sp_iff s).1 h3) ((rp_iff r).1 h4))
 have HNX := Lib.hid (And.intro h5 (And.intro h6 h7))
 clear h h2 h3 h4 h5 h6 h7
 go_enter Try.func41, Try.ntmps41
 go_upto_region 1 with fail
 refine wp_region_ps (S := SeqN [9, 10] (fun z mm w' => match z with | 0 => Below w.heap.size w w' | 1 => Below w.heap.size w w' ∧ ∃ gb, mm 9 = .slice (some ⟨gb, 0, none⟩) 2 2 ∧ Blk w' gb 27 #[.slice A6 n6 c6, .slice A3 n3 c3] | _ => Below w.heap.size w w' ∧ ∃ E f, mm 10 = .slice E (n6 + n3) f ∧ LB3.rd w' (fun _ => True) E (n6 + n3) (taken ++ r.buf))) (by kernel_rfl) ?spswg1 ?ppswg1
 case spswg1 =>
  exact SeqN.start (by decide) (Below.refl _ _).drew
 refine Pz 0 (some 4) (.pointer (some ⟨g, 0, none⟩)) rfl rfl (by exact StepS.pure (SeqN.pass (by decide)) rfl fun _ => rfl) ?_
 try simp only [Act.put, sA, sZ, sS]
 refine Pz 1 (some 5) (.pointer (some ⟨g, 0, none⟩)) rfl rfl (by exact StepS.pure (SeqN.pass (by decide)) rfl fun _ => by first | rfl | (go_simp; done) | (go_simp; rfl)) ?_
 try simp only [Act.put, sA, sZ, sS]
 refine Pz 2 (some 6) (.pointer (some ⟨g, 15, none⟩)) rfl rfl (by exact StepS.pure (SeqN.pass (by decide)) rfl fun _ => rfl) ?_
 try simp only [Act.put, sA, sZ, sS]
 refine Pz 3 (some 7) (.slice A6 n6 c6) rfl rfl ?ywg1_5 ?rwg1_5
 case ywg1_5 =>
  refine StepS.read [] (by kernel_rfl) (SeqN.pass (by decide)) (by rfl) (fun L9 m9 w9 hSh hAt hDn hS => ?_)
  have hT : Below w.heap.size w w9 := SeqN.lt (ks := [9, 10]) (k := 9) (by simp) (reach_no hSh (f := 12) (j := 9) (by kernel_rfl) hDn) (fun z _ _ hz h => by match z, hz, h with | 0, _, h => exact h | 1, _, h => exact h.1 | _ + 2, hz, _ => exact absurd hz (by simp)) hS
  have x0 : w9.cell? ⟨g, 15, none⟩ = some (.slice A6 n6 c6) := (HP.out.blk.ca hT).cell 15
  clear hT hS
  go_simp
  try rfl
 try simp only [Act.put, sA, sZ, sS]
 refine Pz 4 (some 8) (.pointer (some ⟨g, 0, none⟩)) rfl rfl (by exact StepS.pure (SeqN.pass (by decide)) rfl fun _ => rfl) ?_
 try simp only [Act.put, sA, sZ, sS]
 refine Pz 5 (some 9) (.pointer (some ⟨g, 0, none⟩)) rfl rfl (by exact StepS.pure (SeqN.pass (by decide)) rfl fun _ => by first | rfl | (go_simp; done) | (go_simp; rfl)) ?_
 try simp only [Act.put, sA, sZ, sS]
 refine Pz 6 (some 10) (.pointer (some ⟨g, 7, none⟩)) rfl rfl (by exact StepS.pure (SeqN.pass (by decide)) rfl fun _ => rfl) ?_
 try simp only [Act.put, sA, sZ, sS]
 refine Pz 7 (some 11) (.pointer (some ⟨g, 10, none⟩)) rfl rfl (by exact StepS.pure (SeqN.pass (by decide)) rfl fun _ => rfl) ?_
 try simp only [Act.put, sA, sZ, sS]
 refine Pz 8 (some 12) (.slice A3 n3 c3) rfl rfl ?ywg1_10 ?rwg1_10
 case ywg1_10 =>
  refine StepS.read [] (by kernel_rfl) (SeqN.pass (by decide)) (by rfl) (fun L9 m9 w9 hSh hAt hDn hS => ?_)
  have hT : Below w.heap.size w w9 := SeqN.lt (ks := [9, 10]) (k := 9) (by simp) (reach_no hSh (f := 12) (j := 9) (by kernel_rfl) hDn) (fun z _ _ hz h => by match z, hz, h with | 0, _, h => exact h | 1, _, h => exact h.1 | _ + 2, hz, _ => exact absurd hz (by simp)) hS
  have x0 : w9.cell? ⟨g, 10, none⟩ = some (.slice A3 n3 c3) := (HP.out.blk.ca hT).cell 10
  clear hT hS
  go_simp
  try rfl
 try simp only [Act.put, sA, sZ, sS]
 refine Ps.one (k := 9) (d := some 13) rfl rfl (by kernel_rfl) (TurnS.value (V := fun v => ∃ gb, v = .slice (some ⟨gb, 0, none⟩) 2 2) [] (by kernel_rfl) (by rfl) (fun L9 m9 w9 hSh hAt hDn hS => ?cwg1_11)) (fun v9 hVv9 => ?rwg1_11)
 case cwg1_11 =>
  have hT := SeqN.at_ (m0 := m9) (m1 := m9) [] [10] hSh (fun d hd => by cases hd) hDn (by kernel_rfl) hS
  refine ⟨.slice (some ⟨w9.heap.size, 0, none⟩) 2 2, w9.alloc (.cells #[.slice A6 n6 c6, .slice A3 n3 c3] 27), ?_, ⟨_, rfl⟩, SeqN.set_ (m0 := m9) (m1 := m9) [] [10] hSh (fun d hd => by cases hd) hDn (by kernel_rfl) (by decide) (by decide) ⟨bl_al hT _, _, upd_same _ _ _, Blk.new _ _ _⟩⟩
  clear hT hS
  go_simp
 try simp only [Act.put, sA, sZ, sS]
 obtain ⟨gb, rfl⟩ := hVv9
 refine Ps.one (k := 10) (d := some 14) rfl rfl (by kernel_rfl) (TurnS.call (V := fun v => ∃ E f, v = .slice E (n6 + n3) f) ?fwg1_12 ?awg1_12 [9] (by kernel_rfl) (by rfl) (fun w9 => ?hwg1_12) (fun L9 m9 w9 hSh hAt hDn hS => ?cwg1_12)) (fun v10 hVv10 => ?rwg1_12)
 case hwg1_12 => go_simp; refine ⟨?_, ?_⟩ <;> rfl
 case cwg1_12 =>
  obtain ⟨hT, gb2, hv, hbk⟩ := SeqN.at_ [9] [] hSh hAt hDn (by kernel_rfl) hS
  obtain rfl : gb = gb2 := by have h9 : Value.slice (some ⟨gb, 0, none⟩) 2 2 = .slice (some ⟨gb2, 0, none⟩) 2 2 := (hAt 9 (by simp)).2.symm.trans hv; simpa using h9
  have htk : LB3.rd w9 (fun b => b < w9.heap.size) A6 n6 taken := Lay.rd_weak (fun b _ hl => hl) (Lay.ownO_rd (F := fun _ => True) (HP.out.below hT).tk (fun _ _ => trivial) (fun _ _ _ => trivial))
  have hbf : LB3.rd w9 (fun b => b < w9.heap.size) A3 n3 r.buf := Lay.rd_weak (fun b _ hl => hl) (HP.out.below hT).bf
  refine (concat_any (fun b => b < w9.heap.size) taken r.buf A6 n6 c6 A3 n3 c3 gb w9 hbk htk hbf (by omega) (by omega) (fun b hb => hb)).mono ?_
  rintro e w8 ⟨E, f, rfl, ho, q8⟩
  exact ⟨_, rfl, ⟨E, f, rfl⟩, SeqN.set_ [9] [] hSh hAt hDn (by kernel_rfl) (by decide) (by decide) ⟨bl_ca hT q8, E, f, upd_same _ _ _, Lay.own_rd ho (fun _ _ _ => trivial) (fun _ _ _ => trivial)⟩⟩
 try simp only [Act.put, sA, sZ, sS]
 obtain ⟨E, f, rfl⟩ := hVv10
 refine Pz 11 (some 3) (.slice E (n6 + n3) f) rfl rfl (by exact StepS.pure (SeqN.pass (by decide)) rfl fun _ => rfl) ?_
 try simp only [Act.put, sA, sZ, sS]
 refine Ps.done (by kernel_rfl) (fun wg1 hS => ?_) _
 obtain ⟨hT, E2, f2, hv, hr⟩ := SeqN.fin (by rfl) hS
 clear hS
 obtain ⟨rfl, rfl⟩ : E = E2 ∧ f = f2 := by have h9 : Value.slice E (n6 + n3) f = .slice E2 (n6 + n3) f2 := hv; simpa using h9
 clear hv
 obtain ⟨w1, rfl⟩ : ∃ x, x = wg1 := ⟨_, rfl⟩
 have HQ1 := Lib.hid hT
 have HG1 := Lib.hid hr
 have HP1 := Lib.hid (HP.out.below hT)
 clear hT hr
 have hlt9 : ¬ ((n5 : Nat) : Int) < ((n6 + n3 : Nat) : Int) := by omega
 have hcap := Lay.ownO_caps HP1.out.pt
 have hcap2 : ((n6 + n3 : Nat) : Int) ≤ ((c5 : Nat) : Int) := by omega
 have y14 := HP1.out.blk.cell 14
 clear hcap
 go_wp2_with fail
 have hpt : LB3.rd w1 (fun _ => True) A5 (n6 + n3) (put.take (n6 + n3)) := Lay.rd_take (Lay.ownO_rd (F := fun _ => True) HP1.out.pt (fun _ _ => trivial) (fun _ _ _ => trivial)) (by omega)
 refine (eqfW _ _ E A5 (n6 + n3) f (n6 + n3) c5 _ _ w1 HG1.out hpt (by omega)).mono ?_
 rintro e w2 ⟨rfl, q2⟩
 rw [decide_eq_true H2.out]
 have HP2 := Lib.hid (HP1.out.below q2)
 have HQ2 := Lib.hid (bl_ca HQ1.out q2)
 clear q2 hpt y14
 have y0 := HP2.out.blk.cell 0
 have y1 := HP2.out.blk.cell 1
 have y2 := HP2.out.blk.cell 2
 have y3 := HP2.out.blk.cell 3
 have y4 := HP2.out.blk.cell 4
 have y5 := HP2.out.blk.cell 5
 have y6 := HP2.out.blk.cell 6
 go_wp2_with fail
 have hb0 : 0 ≤ s.base := by have := HSP.out.1.b1; omega
 have hcq := HP2.out.cq
 have hca := HP2.out.ca
 have hcb := HP2.out.cb
 refine (csend_any _ s A n c w2 HP2.out.q (by omega) hb0).mono ?_
 rintro e w3 ⟨rfl, q3⟩
 rw [if_pos HSR.out.1]
 have HP3 := Lib.hid (HP2.out.below q3)
 have HQ3 := Lib.hid (bl_ca HQ2.out q3)
 clear q3 y0 y1 y2 y3 y4 y5 y6
 have y7 := HP3.out.blk.cell 7
 have y8 := HP3.out.blk.cell 8
 have y9 := HP3.out.blk.cell 9
 have y10 := HP3.out.blk.cell 10
 have y11 := HP3.out.blk.cell 11
 have y12 := HP3.out.blk.cell 12
 go_wp2_with fail
 refine (crecv_any _ _ r A2 n2 c2 A3 n3 c3 w3 HP3.out.ah HP3.out.bf (by omega) (by omega)).mono ?_
 rintro e w4 ⟨rfl, q4⟩
 rw [if_pos HSR.out.2]
 have HP4 := Lib.hid (HP3.out.below q4)
 have HQ4 := Lib.hid (bl_ca HQ3.out q4)
 clear q4 y7 y8 y9 y10 y11 y12
 go_upto_region 4 with fail
 have hm1 := HSP.out.2.m1
 have hm2 := HSP.out.2.m2
 have HW1 := Lib.hid (show IntKind.i64.wrap ((n6 : Int) + r.room) = (n6 : Int) + r.room from i64_in (by omega) (by omega))
 have HW2 := Lib.hid (show IntKind.u64.wrap ((n6 : Int) + r.room) = (n6 : Int) + r.room from u64_in (by omega) (by omega))
 have HW3 := Lib.hid (show IntKind.u64.wrap (r.next - 1) = ((n6 + n3 : Nat) : Int) from by rw [HNX.out.2.2]; exact u64_in (by omega) (by omega))
 have HW4 := Lib.hid (show IntKind.u64.wrap ((n6 + n3 : Nat) : Int) = ((n6 + n3 : Nat) : Int) from u64_in (by omega) (by omega))
 refine wp_region_ps (S := fun _ _ w' => Below w4.heap.size w4 w') (by kernel_rfl) ?spswg14 ?ppswg14
 case spswg14 =>
  exact (Below.refl w4.heap.size w4).drew
 refine Pz 0 (some 51) (.pointer (some ⟨g, 0, none⟩)) rfl rfl (by exact StepS.pure nP rfl fun _ => rfl) ?_
 try simp only [Act.put, sA, sZ, sS]
 refine Pz 1 (some 52) (.pointer (some ⟨g, 0, none⟩)) rfl rfl (by exact StepS.pure nP rfl fun _ => by first | rfl | (go_simp; done) | (go_simp; rfl)) ?_
 try simp only [Act.put, sA, sZ, sS]
 refine Pz 2 (some 53) (.pointer (some ⟨g, 0, none⟩)) rfl rfl (by exact StepS.pure nP rfl fun _ => rfl) ?_
 try simp only [Act.put, sA, sZ, sS]
 refine Pz 3 (some 54) (.pointer (some ⟨g, 1, none⟩)) rfl rfl (by exact StepS.pure nP rfl fun _ => rfl) ?_
 try simp only [Act.put, sA, sZ, sS]
 refine Pz 4 (some 55) (.int .u64 (s.base)) rfl rfl ?ywg14_19 ?rwg14_19
 case ywg14_19 =>
  refine StepS.read [] (by kernel_rfl) nP (by rfl) (fun L9 m9 w9 hSh hAt hDn hS => ?_)
  have hT : Below _ _ w9 := hS
  have x0 : w9.cell? ⟨g, 1, none⟩ = some (.int .u64 (s.base)) := (HP4.out.blk.ca hT).cell 1
  clear hT hS
  go_simp
  try rfl
 try simp only [Act.put, sA, sZ, sS]
 refine Pz 5 (some 56) (.pointer (some ⟨g, 0, none⟩)) rfl rfl (by exact StepS.pure nP rfl fun _ => rfl) ?_
 try simp only [Act.put, sA, sZ, sS]
 refine Pz 6 (some 57) (.pointer (some ⟨g, 0, none⟩)) rfl rfl (by exact StepS.pure nP rfl fun _ => by first | rfl | (go_simp; done) | (go_simp; rfl)) ?_
 try simp only [Act.put, sA, sZ, sS]
 refine Pz 7 (some 58) (.pointer (some ⟨g, 7, none⟩)) rfl rfl (by exact StepS.pure nP rfl fun _ => rfl) ?_
 try simp only [Act.put, sA, sZ, sS]
 refine Pz 8 (some 59) (.pointer (some ⟨g, 8, none⟩)) rfl rfl (by exact StepS.pure nP rfl fun _ => rfl) ?_
 try simp only [Act.put, sA, sZ, sS]
 refine Pz 9 (some 60) (.int .u64 (r.next)) rfl rfl ?ywg14_24 ?rwg14_24
 case ywg14_24 =>
  refine StepS.read [] (by kernel_rfl) nP (by rfl) (fun L9 m9 w9 hSh hAt hDn hS => ?_)
  have hT : Below _ _ w9 := hS
  have x0 : w9.cell? ⟨g, 8, none⟩ = some (.int .u64 (r.next)) := (HP4.out.blk.ca hT).cell 8
  clear hT hS
  go_simp
  try rfl
 try simp only [Act.put, sA, sZ, sS]
 refine Pz 10 (some 61) (.bool (true)) rfl rfl ?ywg14_25 ?rwg14_25
 case ywg14_25 =>
  refine StepS.pure nP (by rfl) (fun w9 => ?_)
  have e9 : decide (s.base ≤ r.next) = true := decide_eq_true HNX.out.1
  refine Eq.trans ?_ (congrArg (fun b => Result.ok (Next.value (Value.bool b)) w9) e9)
  first | rfl | (go_simp; done) | (go_simp; rfl)
 try simp only [Act.put, sA, sZ, sS]
 refine Pz 11 (some 62) (.bool (true)) rfl rfl (by exact StepS.pure nP rfl fun _ => rfl) ?_
 try simp only [Act.put, sA, sZ, sS]
 refine Pz 12 (some 63) (.pointer (some ⟨g, 0, none⟩)) rfl rfl (by exact StepS.pure nP rfl fun _ => rfl) ?_
 try simp only [Act.put, sA, sZ, sS]
 refine Pz 13 (some 64) (.pointer (some ⟨g, 0, none⟩)) rfl rfl (by exact StepS.pure nP rfl fun _ => by first | rfl | (go_simp; done) | (go_simp; rfl)) ?_
 try simp only [Act.put, sA, sZ, sS]
 refine Pz 14 (some 65) (.pointer (some ⟨g, 0, none⟩)) rfl rfl (by exact StepS.pure nP rfl fun _ => rfl) ?_
 try simp only [Act.put, sA, sZ, sS]
 refine Pz 15 (some 66) (.pointer (some ⟨g, 3, none⟩)) rfl rfl (by exact StepS.pure nP rfl fun _ => rfl) ?_
 try simp only [Act.put, sA, sZ, sS]
 refine Pz 16 (some 67) (.int .u64 (s.sent)) rfl rfl ?ywg14_31 ?rwg14_31
 case ywg14_31 =>
  refine StepS.read [] (by kernel_rfl) nP (by rfl) (fun L9 m9 w9 hSh hAt hDn hS => ?_)
  have hT : Below _ _ w9 := hS
  have x0 : w9.cell? ⟨g, 3, none⟩ = some (.int .u64 (s.sent)) := (HP4.out.blk.ca hT).cell 3
  clear hT hS
  go_simp
  try rfl
 try simp only [Act.put, sA, sZ, sS]
 refine Pz 17 (some 68) (.pointer (some ⟨g, 0, none⟩)) rfl rfl (by exact StepS.pure nP rfl fun _ => rfl) ?_
 try simp only [Act.put, sA, sZ, sS]
 refine Pz 18 (some 69) (.pointer (some ⟨g, 0, none⟩)) rfl rfl (by exact StepS.pure nP rfl fun _ => by first | rfl | (go_simp; done) | (go_simp; rfl)) ?_
 try simp only [Act.put, sA, sZ, sS]
 refine Pz 19 (some 70) (.pointer (some ⟨g, 15, none⟩)) rfl rfl (by exact StepS.pure nP rfl fun _ => rfl) ?_
 try simp only [Act.put, sA, sZ, sS]
 refine Pz 20 (some 71) (.slice A6 n6 c6) rfl rfl ?ywg14_35 ?rwg14_35
 case ywg14_35 =>
  refine StepS.read [] (by kernel_rfl) nP (by rfl) (fun L9 m9 w9 hSh hAt hDn hS => ?_)
  have hT : Below _ _ w9 := hS
  have x0 : w9.cell? ⟨g, 15, none⟩ = some (.slice A6 n6 c6) := (HP4.out.blk.ca hT).cell 15
  clear hT hS
  go_simp
  try rfl
 try simp only [Act.put, sA, sZ, sS]
 refine Pz 21 (some 72) (.int .i64 ((n6 : Int))) rfl rfl (by exact StepS.pure nP rfl fun _ => by first | rfl | (go_simp; done) | (go_simp; rfl)) ?_
 try simp only [Act.put, sA, sZ, sS]
 refine Pz 22 (some 73) (.pointer (some ⟨g, 0, none⟩)) rfl rfl (by exact StepS.pure nP rfl fun _ => rfl) ?_
 try simp only [Act.put, sA, sZ, sS]
 refine Pz 23 (some 74) (.pointer (some ⟨g, 0, none⟩)) rfl rfl (by exact StepS.pure nP rfl fun _ => by first | rfl | (go_simp; done) | (go_simp; rfl)) ?_
 try simp only [Act.put, sA, sZ, sS]
 refine Pz 24 (some 75) (.pointer (some ⟨g, 7, none⟩)) rfl rfl (by exact StepS.pure nP rfl fun _ => rfl) ?_
 try simp only [Act.put, sA, sZ, sS]
 refine Pz 25 (some 76) (.pointer (some ⟨g, 11, none⟩)) rfl rfl (by exact StepS.pure nP rfl fun _ => rfl) ?_
 try simp only [Act.put, sA, sZ, sS]
 refine Pz 26 (some 77) (.int .i64 (r.room)) rfl rfl ?ywg14_41 ?rwg14_41
 case ywg14_41 =>
  refine StepS.read [] (by kernel_rfl) nP (by rfl) (fun L9 m9 w9 hSh hAt hDn hS => ?_)
  have hT : Below _ _ w9 := hS
  have x0 : w9.cell? ⟨g, 11, none⟩ = some (.int .i64 (r.room)) := (HP4.out.blk.ca hT).cell 11
  clear hT hS
  go_simp
  try rfl
 try simp only [Act.put, sA, sZ, sS]
 refine Pz 27 (some 78) (.int .i64 ((n6 : Int) + r.room)) rfl rfl ?ywg14_42 ?rwg14_42
 case ywg14_42 =>
  refine StepS.pure nP (by rfl) (fun w9 => ?_)
  refine Eq.trans ?_ (congrArg (fun z => Result.ok (Next.value (Value.int .i64 z)) w9) HW1.out)
  first | rfl | (go_simp; done) | (go_simp; rfl)
 try simp only [Act.put, sA, sZ, sS]
 refine Pz 28 (some 79) (.int .u64 ((n6 : Int) + r.room)) rfl rfl ?ywg14_43 ?rwg14_43
 case ywg14_43 =>
  refine StepS.pure nP (by rfl) (fun w9 => ?_)
  refine Eq.trans ?_ (congrArg (fun z => Result.ok (Next.value (Value.int .u64 z)) w9) HW2.out)
  first | rfl | (go_simp; done) | (go_simp; rfl)
 try simp only [Act.put, sA, sZ, sS]
 refine Pz 29 (some 80) (.bool (true)) rfl rfl ?ywg14_44 ?rwg14_44
 case ywg14_44 =>
  refine StepS.pure nP (by rfl) (fun w9 => ?_)
  have e9 : decide (s.sent ≤ (n6 : Int) + r.room) = true := decide_eq_true HNX.out.2.1
  refine Eq.trans ?_ (congrArg (fun b => Result.ok (Next.value (Value.bool b)) w9) e9)
  first | rfl | (go_simp; done) | (go_simp; rfl)
 try simp only [Act.put, sA, sZ, sS]
 refine Pz 30 (some 81) (.bool (true)) rfl rfl (by exact StepS.pure nP rfl fun _ => rfl) ?_
 try simp only [Act.put, sA, sZ, sS]
 refine Pz 31 (some 82) (.bool (true)) rfl rfl (by exact StepS.pure nP rfl fun _ => rfl) ?_
 try simp only [Act.put, sA, sZ, sS]
 refine Pz 32 (some 83) (.pointer (some ⟨g, 0, none⟩)) rfl rfl (by exact StepS.pure nP rfl fun _ => rfl) ?_
 try simp only [Act.put, sA, sZ, sS]
 refine Pz 33 (some 84) (.pointer (some ⟨g, 0, none⟩)) rfl rfl (by exact StepS.pure nP rfl fun _ => by first | rfl | (go_simp; done) | (go_simp; rfl)) ?_
 try simp only [Act.put, sA, sZ, sS]
 refine Pz 34 (some 85) (.pointer (some ⟨g, 7, none⟩)) rfl rfl (by exact StepS.pure nP rfl fun _ => rfl) ?_
 try simp only [Act.put, sA, sZ, sS]
 refine Pz 35 (some 86) (.pointer (some ⟨g, 8, none⟩)) rfl rfl (by exact StepS.pure nP rfl fun _ => rfl) ?_
 try simp only [Act.put, sA, sZ, sS]
 refine Pz 36 (some 87) (.int .u64 (r.next)) rfl rfl ?ywg14_51 ?rwg14_51
 case ywg14_51 =>
  refine StepS.read [] (by kernel_rfl) nP (by rfl) (fun L9 m9 w9 hSh hAt hDn hS => ?_)
  have hT : Below _ _ w9 := hS
  have x0 : w9.cell? ⟨g, 8, none⟩ = some (.int .u64 (r.next)) := (HP4.out.blk.ca hT).cell 8
  clear hT hS
  go_simp
  try rfl
 try simp only [Act.put, sA, sZ, sS]
 refine Pz 37 (some 88) (.int .u64 (((n6 + n3 : Nat) : Int))) rfl rfl ?ywg14_52 ?rwg14_52
 case ywg14_52 =>
  refine StepS.pure nP (by rfl) (fun w9 => ?_)
  refine Eq.trans ?_ (congrArg (fun z => Result.ok (Next.value (Value.int .u64 z)) w9) HW3.out)
  first | rfl | (go_simp; done) | (go_simp; rfl)
 try simp only [Act.put, sA, sZ, sS]
 refine Pz 38 (some 89) (.slice E (n6 + n3) f) rfl rfl (by exact StepS.pure nP rfl fun _ => rfl) ?_
 try simp only [Act.put, sA, sZ, sS]
 refine Pz 39 (some 90) (.int .i64 (((n6 + n3 : Nat) : Int))) rfl rfl ?ywg14_54 ?rwg14_54
 case ywg14_54 =>
  refine StepS.pure nP (by rfl) (fun w9 => ?_)
  first | rfl | (go_simp; done) | (go_simp; rfl)
 try simp only [Act.put, sA, sZ, sS]
 refine Pz 40 (some 91) (.int .u64 (((n6 + n3 : Nat) : Int))) rfl rfl ?ywg14_55 ?rwg14_55
 case ywg14_55 =>
  refine StepS.pure nP (by rfl) (fun w9 => ?_)
  refine Eq.trans ?_ (congrArg (fun z => Result.ok (Next.value (Value.int .u64 z)) w9) HW4.out)
  first | rfl | (go_simp; done) | (go_simp; rfl)
 try simp only [Act.put, sA, sZ, sS]
 refine Pz 41 (some 92) (.bool (true)) rfl rfl ?ywg14_56 ?rwg14_56
 case ywg14_56 =>
  refine StepS.pure nP (by rfl) (fun w9 => ?_)
  have e9 : decide (((n6 + n3 : Nat) : Int) = ((n6 + n3 : Nat) : Int)) = true := decide_eq_true rfl
  refine Eq.trans ?_ (congrArg (fun b => Result.ok (Next.value (Value.bool b)) w9) e9)
  first | rfl | (go_simp; done) | (go_simp; rfl)
 try simp only [Act.put, sA, sZ, sS]
 refine Pz 42 (some 93) (.bool (true)) rfl rfl (by exact StepS.pure nP rfl fun _ => rfl) ?_
 try simp only [Act.put, sA, sZ, sS]
 refine Pz 43 (some 2) (.bool (true)) rfl rfl (by exact StepS.pure nP rfl fun _ => rfl) ?_
 try simp only [Act.put, sA, sZ, sS]
 refine Ps.done (by kernel_rfl) (fun wg14 hS => ?_) _
 have HQ5 := Lib.hid (show Below w4.heap.size w4 wg14 from hS)
 clear hS
 obtain ⟨w5, rfl⟩ : ∃ x, x = wg14 := ⟨_, rfl⟩
 go_wp2
 go_ret
 exact ⟨rfl, bl_ca HQ4.out HQ5.out⟩
end Go.Proofs.Ytojghgbaiiajfaa
/- A pair begins: begin. Conditions: the session and the room may be. -/
namespace Go.Proofs.Ytojghgbaiiajfaa
open Go.RowKit
set_option maxRecDepth 100000 in
set_option maxHeartbeats 16000000 in
theorem begin_any (n room : Int) (w : World) (hr : roomB n room = true) :
 Calls Try.prog 39 #[.int .u32 n, .int .i64 room] w fun e w' => ∃ g, e = .returned (.tuple #[.pointer (some ⟨g, 0, none⟩), .bool true]) ∧ Below w.heap.size w w' ∧ PM w.heap.size g w' (openS n) (listenR n room) [] [] [] none 0 0 none 0 0 none 0 0 none 0 0 none 0 0 none 0 0 := by
 have hs : sesB n = true := by unfold roomB at hr; simp only [Bool.and_eq_true] at hr; exact hr.1
 have hE1 : openE n = 0 := by unfold openE; rw [if_pos hs]
 have hE2 : listenE n room = 0 := by unfold listenE; rw [if_pos hr]
 have hS : (openS n).q = [] := by unfold openS; rw [if_pos hs]
 have hL : (listenR n room).ahead = [] ∧ (listenR n room).buf = [] := by unfold listenR; rw [if_pos hr]; exact ⟨rfl, rfl⟩
 have HS := Lib.hid hS
 have HL := Lib.hid hL
 have HO := Lib.hid (fun W => open_any n W)
 have HI := Lib.hid (fun W => listen_any n room W)
 rw [hE1] at HO
 rw [hE2] at HI
 clear hs hE1 hE2 hS hL hr
 generalize openS n = S at *
 generalize listenR n room = T at *
 go_enter Try.func39, Try.ntmps39
 go_wp2_with fail
 refine (HO.out w).mono ?_
 rintro e w1 ⟨rfl, q1⟩
 have q2 := bl_al q1 (.cells (S.cells none 0 0) 29)
 have HB2 := Lib.hid (Blk.new w1 29 (S.cells none 0 0))
 have HQ2 := Lib.hid q2
 clear q1 q2
 go_wp2_with fail
 generalize w1.alloc (.cells (S.cells none 0 0) 29) = w2 at *
 refine (HI.out w2).mono ?_
 rintro e w3 ⟨rfl, q3⟩
 have q4 := bl_al q3 (.cells (T.cells none 0 0 none 0 0) 36)
 have HB4 := Lib.hid (HB2.out.ca q4)
 have HT4 := Lib.hid (Blk.new w3 36 (T.cells none 0 0 none 0 0))
 have HQ4 := Lib.hid (bl_ca HQ2.out q4)
 have x0 := HB4.out.cell 0
 have x1 := HB4.out.cell 1
 have x2 := HB4.out.cell 2
 have x3 := HB4.out.cell 3
 have x4 := HB4.out.cell 4
 have x5 := HB4.out.cell 5
 have x6 := HB4.out.cell 6
 have y0 := HT4.out.cell 0
 have y1 := HT4.out.cell 1
 have y2 := HT4.out.cell 2
 have y3 := HT4.out.cell 3
 have y4 := HT4.out.cell 4
 have y5 := HT4.out.cell 5
 have hq3 := q3.size
 clear q3 q4
 go_wp2_with fail
 clear x0 x1 x2 x3 x4 x5 x6 y0 y1 y2 y3 y4 y5
 have q5 := bl_al (Below.refl (w3.alloc (.cells (T.cells none 0 0 none 0 0) 36)).heap.size (w3.alloc (.cells (T.cells none 0 0 none 0 0) 36))) (.cells (pairC S T none 0 0 none 0 0 none 0 0 (.slice none 0 0) (.slice none 0 0) (.slice none 0 0)) 93)
 have hb := Blk.new (w3.alloc (.cells (T.cells none 0 0 none 0 0) 36)) 93 (pairC S T none 0 0 none 0 0 none 0 0 (.slice none 0 0) (.slice none 0 0) (.slice none 0 0))
 have hsz : (w3.alloc (.cells (T.cells none 0 0 none 0 0) 36)).heap.size = w3.heap.size + 1 := World.size_alloc _ _
 rw [hsz] at hb
 have hle := HQ4.out.size
 rw [hsz] at hle
 have hge : w.heap.size ≤ w3.heap.size := Nat.le_trans HQ2.out.size hq3
 refine bodyPost_ret (results_tmp2 Try.results39 _ _ _) rfl ⟨w3.heap.size + 1, rfl, bl_ca HQ4.out q5, ?_⟩
 exact { blk := hb, g0 := by omega, q := by rw [HS.out]; exact Lay.rd_nil _, cq := by omega, ah := by rw [HL.out.1]; exact Lay.rd_nil _, ca := by omega, bf := by rw [HL.out.2]; exact Lay.rd_nil _, cb := by omega, wy := Lay.ownO_nil, pt := Lay.ownO_nil, tk := Lay.ownO_nil, d45 := fun k h => (by cases h), d46 := fun k h => (by cases h), d56 := fun k h => (by cases h), dg := ⟨by simp [ob], by simp [ob], by simp [ob]⟩ }
end Go.Proofs.Ytojghgbaiiajfaa
