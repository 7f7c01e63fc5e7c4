/- value.True. Conditions: none. -/
import Derived.Test.YtabbiepafibmmaaDoorV3
import Derived.Test.YtabbiepafibmmaaDoorAre
import Derived.Test.YtabbiepafibmmaaDoorLin
namespace Go.Proofs.YtabbiepafibmmaaDoor
open Go.RowKit
def trueB (v : VV) : Bool := decide (v.k = 1 ∧ v.n = 1 ∧ v.u = 0 ∧ v.s.toList = [])
set_option maxHeartbeats 2000000 in
theorem true_any (v : VV) (w : World) : Calls Tryd.prog 20 #[.agg #[.int .i64 v.k, .int .i64 v.n, .int .u64 v.u, .string v.s]] w fun e w' => e = .returned (.bool (trueB v)) ∧ Below w.heap.size w w' := by
  have hV := (Blk.new w 28 #[.int .i64 v.k, .int .i64 v.n, .int .u64 v.u, .string v.s])
  have bb := (bl_al (Below.refl w.heap.size w) (.cells #[.int .i64 v.k, .int .i64 v.n, .int .u64 v.u, .string v.s] 28))
  obtain ⟨t, ht⟩ : ∃ t, t = trueB v := ⟨_, rfl⟩
  have HT := Lib.hid ht
  rw [← ht]
  clear ht
  go_enter Tryd.func20, Tryd.ntmps20
  go_wp2_with fail
  generalize (w.alloc (.cells #[.int .i64 v.k, .int .i64 v.n, .int .u64 v.u, .string v.s] 28)) = w1 at *
  refine wp_region_lin (S := Grew w1) (by kernel_rfl) (Grew.start _) ?_
  refine Good.val (i := 0) (d := some 3) (v := ?v0) rfl rfl (by kernel_rfl) (by kernel_rfl) (by kernel_rfl) (by rfl) (fun w9 hS => ?h0) ?r0
  case h0 =>
    have hb9 := hV.below hS hV.lt
    have b9_0 : w9.cell? ⟨w.heap.size, 0, none⟩ = some (.int .i64 v.k) := hb9.cell 0
    have b9_1 : w9.cell? ⟨w.heap.size, 1, none⟩ = some (.int .i64 v.n) := hb9.cell 1
    have b9_2 : w9.cell? ⟨w.heap.size, 2, none⟩ = some (.int .u64 v.u) := hb9.cell 2
    have b9_3 : w9.cell? ⟨w.heap.size, 3, none⟩ = some (.string v.s) := hb9.cell 3
    go_simp
    try rfl
  try simp only [Act.put, List.setIfInBounds_toArray, List.set_cons_zero, List.set_cons_succ]
  refine Good.call (i := 1) (d := some 4) (fn := ?f1) (args := ?a1) (v := ?v1) rfl rfl (by kernel_rfl) (by kernel_rfl) (by kernel_rfl) (by rfl) (fun w9 hS => ?h1) (Grew.call fun w9 qS => ?c1) ?r1
  case h1 => go_simp; refine ⟨?_, ?_⟩ <;> rfl
  case c1 => exact vbool_true _
  try simp only [Act.put, List.setIfInBounds_toArray, List.set_cons_zero, List.set_cons_succ]
  refine Good.val (i := 2) (d := some 5) (v := .bool t) rfl rfl (by kernel_rfl) (by kernel_rfl) (by kernel_rfl) (by rfl) (fun w9 hS => ?h2) ?r2
  case h2 =>
    rw [HT.out]
    clear HT
    unfold trueB
    go_simp
    by_cases h1 : v.k = 1 <;> by_cases h2 : v.n = 1 <;> by_cases h3 : v.u = 0 <;> by_cases h4 : v.s.toList = [] <;> simp [h1, h2, h3, h4]
  try simp only [Act.put, List.setIfInBounds_toArray, List.set_cons_zero, List.set_cons_succ]
  refine Good.val (i := 3) (d := some 2) (v := ?v3) rfl rfl (by kernel_rfl) (by kernel_rfl) (by kernel_rfl) (by rfl) (fun w9 hS => ?h3) ?r3
  case h3 => go_simp; try rfl
  try simp only [Act.put, List.setIfInBounds_toArray, List.set_cons_zero, List.set_cons_succ]
  refine Good.done (by kernel_rfl) (fun w2 q2 => ?_) _
  go_wp2
  go_ret
  exact ⟨rfl, bl_ca bb q2⟩
end Go.Proofs.YtabbiepafibmmaaDoor
