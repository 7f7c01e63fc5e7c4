/- value.Compare. Conditions: none. -/
import Derived.Test.YtabbiepafibmmaaDoorCmp
import Derived.Test.YtabbiepafibmmaaDoorAre
import Derived.Deep.RegionHeld3
namespace Go.Proofs.YtabbiepafibmmaaDoor
open Go.RowKit
def VV.plain (v : VV) : Bool := plainB v.k v.n v.u v.s
def cmp3 (a b : VV) : Int := orI (Lib.compareInt a.k b.k) (Lib.compareInt a.n b.n) (Lib.compareBytes a.s.data.toList b.s.data.toList)
def cmpV (a b : VV) : Int := if a.plain && b.plain then cmp3 a b else 0
theorem plain_y (a : VV) (h : a.plain = true) (w : World) : Calls Tryd.prog 18 #[.agg #[.int .i64 a.k, .int .i64 a.n, .int .u64 a.u, .string a.s]] w fun e w' => e = .returned (.bool true) ∧ Below w.heap.size w w' := by
  have := plain_any a.k a.n a.u a.s w
  rw [show plainB a.k a.n a.u a.s = true from h] at this
  exact this
theorem plain_n (a : VV) (h : a.plain = false) (w : World) : Calls Tryd.prog 18 #[.agg #[.int .i64 a.k, .int .i64 a.n, .int .u64 a.u, .string a.s]] w fun e w' => e = .returned (.bool false) ∧ Below w.heap.size w w' := by
  have := plain_any a.k a.n a.u a.s w
  rw [show plainB a.k a.n a.u a.s = false from h] at this
  exact this
set_option maxRecDepth 100000 in
set_option maxHeartbeats 8000000 in
theorem compare_any (a b : VV) (w : World) : Calls Tryd.prog 34 #[.agg #[.int .i64 a.k, .int .i64 a.n, .int .u64 a.u, .string a.s], .agg #[.int .i64 b.k, .int .i64 b.n, .int .u64 b.u, .string b.s]] w fun e w' => e = .returned (.int .i64 (cmpV a b)) ∧ Below w.heap.size w w' := by
  cases hpa : a.plain
  · rw [show cmpV a b = 0 from by unfold cmpV; rw [hpa]; rfl]
    have hA := ((Blk.new w 28 #[.int .i64 a.k, .int .i64 a.n, .int .u64 a.u, .string a.s]).alloc (.cells #[.int .i64 b.k, .int .i64 b.n, .int .u64 b.u, .string b.s] 28))
    have hB := (Blk.new (w.alloc (.cells #[.int .i64 a.k, .int .i64 a.n, .int .u64 a.u, .string a.s] 28)) 28 #[.int .i64 b.k, .int .i64 b.n, .int .u64 b.u, .string b.s])
    have bb := (bl_al (bl_al (Below.refl w.heap.size w) (.cells #[.int .i64 a.k, .int .i64 a.n, .int .u64 a.u, .string a.s] 28)) (.cells #[.int .i64 b.k, .int .i64 b.n, .int .u64 b.u, .string b.s] 28))
    simp only [World.size_alloc] at hB
    go_enter Tryd.func34, Tryd.ntmps34
    go_wp2_with fail
    generalize ((w.alloc (.cells #[.int .i64 a.k, .int .i64 a.n, .int .u64 a.u, .string a.s] 28)).alloc (.cells #[.int .i64 b.k, .int .i64 b.n, .int .u64 b.u, .string b.s] 28)) = w1 at *
    have hA_0 : w1.cell? ⟨w.heap.size, 0, none⟩ = some (.int .i64 a.k) := hA.cell 0
    have hA_1 : w1.cell? ⟨w.heap.size, 1, none⟩ = some (.int .i64 a.n) := hA.cell 1
    have hA_2 : w1.cell? ⟨w.heap.size, 2, none⟩ = some (.int .u64 a.u) := hA.cell 2
    have hA_3 : w1.cell? ⟨w.heap.size, 3, none⟩ = some (.string a.s) := hA.cell 3
    go_wp2_with fail
    refine (plain_n a hpa _).mono ?_
    rintro e w2 ⟨rfl, q2⟩
    clear hA_0 hA_1 hA_2 hA_3
    replace hA := hA.ca q2
    replace hB := hB.ca q2
    replace bb := bl_ca bb q2
    clear q2
    go_wp2
    go_ret
    exact ⟨rfl, bb⟩
  · cases hpb : b.plain
    · rw [show cmpV a b = 0 from by unfold cmpV; rw [hpa, hpb]; rfl]
      have hA := ((Blk.new w 28 #[.int .i64 a.k, .int .i64 a.n, .int .u64 a.u, .string a.s]).alloc (.cells #[.int .i64 b.k, .int .i64 b.n, .int .u64 b.u, .string b.s] 28))
      have hB := (Blk.new (w.alloc (.cells #[.int .i64 a.k, .int .i64 a.n, .int .u64 a.u, .string a.s] 28)) 28 #[.int .i64 b.k, .int .i64 b.n, .int .u64 b.u, .string b.s])
      have bb := (bl_al (bl_al (Below.refl w.heap.size w) (.cells #[.int .i64 a.k, .int .i64 a.n, .int .u64 a.u, .string a.s] 28)) (.cells #[.int .i64 b.k, .int .i64 b.n, .int .u64 b.u, .string b.s] 28))
      simp only [World.size_alloc] at hB
      go_enter Tryd.func34, Tryd.ntmps34
      go_wp2_with fail
      generalize ((w.alloc (.cells #[.int .i64 a.k, .int .i64 a.n, .int .u64 a.u, .string a.s] 28)).alloc (.cells #[.int .i64 b.k, .int .i64 b.n, .int .u64 b.u, .string b.s] 28)) = w1 at *
      have hA_0 : w1.cell? ⟨w.heap.size, 0, none⟩ = some (.int .i64 a.k) := hA.cell 0
      have hA_1 : w1.cell? ⟨w.heap.size, 1, none⟩ = some (.int .i64 a.n) := hA.cell 1
      have hA_2 : w1.cell? ⟨w.heap.size, 2, none⟩ = some (.int .u64 a.u) := hA.cell 2
      have hA_3 : w1.cell? ⟨w.heap.size, 3, none⟩ = some (.string a.s) := hA.cell 3
      go_wp2_with fail
      refine (plain_y a hpa _).mono ?_
      rintro e w2 ⟨rfl, q2⟩
      clear hA_0 hA_1 hA_2 hA_3
      replace hA := hA.ca q2
      replace hB := hB.ca q2
      replace bb := bl_ca bb q2
      clear q2
      have hB_0 : w2.cell? ⟨w.heap.size + 1, 0, none⟩ = some (.int .i64 b.k) := hB.cell 0
      have hB_1 : w2.cell? ⟨w.heap.size + 1, 1, none⟩ = some (.int .i64 b.n) := hB.cell 1
      have hB_2 : w2.cell? ⟨w.heap.size + 1, 2, none⟩ = some (.int .u64 b.u) := hB.cell 2
      have hB_3 : w2.cell? ⟨w.heap.size + 1, 3, none⟩ = some (.string b.s) := hB.cell 3
      go_wp2_with fail
      refine (plain_n b hpb _).mono ?_
      rintro e w3 ⟨rfl, q3⟩
      clear hB_0 hB_1 hB_2 hB_3
      replace hA := hA.ca q3
      replace hB := hB.ca q3
      replace bb := bl_ca bb q3
      clear q3
      go_wp2
      go_ret
      exact ⟨rfl, bb⟩
    · rw [show cmpV a b = cmp3 a b from by unfold cmpV; rw [hpa, hpb]; rfl]
      have hA := ((Blk.new w 28 #[.int .i64 a.k, .int .i64 a.n, .int .u64 a.u, .string a.s]).alloc (.cells #[.int .i64 b.k, .int .i64 b.n, .int .u64 b.u, .string b.s] 28))
      have hB := (Blk.new (w.alloc (.cells #[.int .i64 a.k, .int .i64 a.n, .int .u64 a.u, .string a.s] 28)) 28 #[.int .i64 b.k, .int .i64 b.n, .int .u64 b.u, .string b.s])
      have bb := (bl_al (bl_al (Below.refl w.heap.size w) (.cells #[.int .i64 a.k, .int .i64 a.n, .int .u64 a.u, .string a.s] 28)) (.cells #[.int .i64 b.k, .int .i64 b.n, .int .u64 b.u, .string b.s] 28))
      simp only [World.size_alloc] at hB
      go_enter Tryd.func34, Tryd.ntmps34
      go_wp2_with fail
      generalize ((w.alloc (.cells #[.int .i64 a.k, .int .i64 a.n, .int .u64 a.u, .string a.s] 28)).alloc (.cells #[.int .i64 b.k, .int .i64 b.n, .int .u64 b.u, .string b.s] 28)) = w1 at *
      have hA_0 : w1.cell? ⟨w.heap.size, 0, none⟩ = some (.int .i64 a.k) := hA.cell 0
      have hA_1 : w1.cell? ⟨w.heap.size, 1, none⟩ = some (.int .i64 a.n) := hA.cell 1
      have hA_2 : w1.cell? ⟨w.heap.size, 2, none⟩ = some (.int .u64 a.u) := hA.cell 2
      have hA_3 : w1.cell? ⟨w.heap.size, 3, none⟩ = some (.string a.s) := hA.cell 3
      go_wp2_with fail
      refine (plain_y a hpa _).mono ?_
      rintro e w2 ⟨rfl, q2⟩
      clear hA_0 hA_1 hA_2 hA_3
      replace hA := hA.ca q2
      replace hB := hB.ca q2
      replace bb := bl_ca bb q2
      clear q2
      have hB_0 : w2.cell? ⟨w.heap.size + 1, 0, none⟩ = some (.int .i64 b.k) := hB.cell 0
      have hB_1 : w2.cell? ⟨w.heap.size + 1, 1, none⟩ = some (.int .i64 b.n) := hB.cell 1
      have hB_2 : w2.cell? ⟨w.heap.size + 1, 2, none⟩ = some (.int .u64 b.u) := hB.cell 2
      have hB_3 : w2.cell? ⟨w.heap.size + 1, 3, none⟩ = some (.string b.s) := hB.cell 3
      go_wp2_with fail
      refine (plain_y b hpb _).mono ?_
      rintro e w3 ⟨rfl, q3⟩
      clear hB_0 hB_1 hB_2 hB_3
      replace hA := hA.ca q3
      replace hB := hB.ca q3
      replace bb := bl_ca bb q3
      clear q3
      have HC := Lib.hid (show cmp3 a b = orI (Lib.compareInt a.k b.k) (Lib.compareInt a.n b.n) (Lib.compareBytes a.s.data.toList b.s.data.toList) from rfl)
      obtain ⟨x, hx⟩ : ∃ x, x = Lib.compareInt a.k b.k := ⟨_, rfl⟩
      obtain ⟨y, hy⟩ : ∃ y, y = Lib.compareInt a.n b.n := ⟨_, rfl⟩
      obtain ⟨z, hz⟩ : ∃ z, z = Lib.compareBytes a.s.data.toList b.s.data.toList := ⟨_, rfl⟩
      have H1 := Lib.hid (fun w => Tryd.cmp_Compare_int a.k b.k w)
      have H2 := Lib.hid (fun w => cmp64_any a.n b.n w)
      have H3 := Lib.hid (fun w => Tryd.strings_Compare a.s b.s w)
      rw [← hx, ← hy, ← hz] at HC
      rw [← hx] at H1
      rw [← hy] at H2
      rw [← hz] at H3
      clear hx hy hz
      go_wp2_with fail
      go_region_held3 (fun w' => (w'.cell? ⟨w.heap.size, 0, none⟩ = some (.int .i64 a.k) ∧ w'.cell? ⟨w.heap.size, 1, none⟩ = some (.int .i64 a.n) ∧ w'.cell? ⟨w.heap.size, 2, none⟩ = some (.int .u64 a.u) ∧ w'.cell? ⟨w.heap.size, 3, none⟩ = some (.string a.s)) ∧ (w'.cell? ⟨w.heap.size + 1, 0, none⟩ = some (.int .i64 b.k) ∧ w'.cell? ⟨w.heap.size + 1, 1, none⟩ = some (.int .i64 b.n) ∧ w'.cell? ⟨w.heap.size + 1, 2, none⟩ = some (.int .u64 b.u) ∧ w'.cell? ⟨w.heap.size + 1, 3, none⟩ = some (.string b.s))) (first | with_reducible exact ⟨vS (hA), vS (hB)⟩ | with_reducible exact ⟨vS (hA.drew), vS (hB.drew)⟩ | with_reducible exact ⟨vS ((hA.alloc _).drew), vS ((hB.alloc _).drew)⟩ | with_reducible exact ⟨vS (((hA.alloc _).alloc _).drew), vS (((hB.alloc _).alloc _).drew)⟩ | with_reducible exact ⟨vS ((hA.alloc _)), vS ((hB.alloc _))⟩)
        (first
          | (go_at_call 55; (with_reducible refine (H1.out _).mono ?_); rintro e wa ⟨rfl, rfl⟩)
          | (go_at_call 56; (with_reducible refine (H2.out _).mono ?_); rintro e wa ⟨rfl, rfl⟩)
          | (go_at_call 57; (with_reducible refine (H3.out _).mono ?_); rintro e wa ⟨rfl, rfl⟩)
          | (go_at_call 54; (first | refine (cmpor_any _ _ x y z _ (Blk.new _ _ _).drew).mono ?_ | refine (cmpor_any _ _ x y z _ (Blk.new _ _ _)).mono ?_); rintro e wb ⟨rfl, rfl⟩))
      all_goals
        go_wp2
        go_ret
        exact ⟨by show _ = Ending.returned (.int .i64 (cmp3 a b)); rw [HC.out]; rfl, by first | exact bl_d1 (bl_al bb _) | exact bl_al bb _ | exact bl_al (bl_d1 bb) _⟩
end Go.Proofs.YtabbiepafibmmaaDoor
