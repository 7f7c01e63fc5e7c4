/- bowspritref02.both, Compare, Equal, Less. Conditions: none. -/
import Derived.Test.YtabbiepafibmmaaDoorHeld
import Derived.Test.YtabbiepafibmmaaDoorRtr
import Derived.Test.YtabbiepafibmmaaDoorOrdMath
namespace Go.Proofs.YtabbiepafibmmaaDoor
open Go.RowKit
theorem rp_y (v : VV) (h : v.plain = true) (w : World) : Calls Tryd.prog 14 #[.agg #[.int .i64 v.k, .int .i64 v.n, .int .u64 v.u, .string v.s]] w fun e w' => e = .returned (.bool true) ∧ Below w.heap.size w w' := by
  have := rplain_any v.k v.n v.u v.s w
  rw [show plainB v.k v.n v.u v.s = true from h] at this
  exact this
theorem rp_n (v : VV) (h : v.plain = false) (w : World) : Calls Tryd.prog 14 #[.agg #[.int .i64 v.k, .int .i64 v.n, .int .u64 v.u, .string v.s]] w fun e w' => e = .returned (.bool false) ∧ Below w.heap.size w w' := by
  have := rplain_any v.k v.n v.u v.s w
  rw [show plainB v.k v.n v.u v.s = false from h] at this
  exact this
theorem plain_size {v : VV} (h : v.plain = true) : v.s.size ≤ 40 := by
  unfold VV.plain plainB rightB at h
  simp only [Bool.and_eq_true] at h
  obtain ⟨h1, h2⟩ := h
  rcases v with ⟨k, n, u, s⟩
  simp only at *
  have es : s.toList = [] → s.size = 0 := fun e => by rw [ByteArray.toList_eq] at e; simpa using congrArg List.length e
  split at h1
  · simp at h1; have := es h1.2.2; omega
  · split at h1
    · simp at h1; have := es h1.2.2; omega
    · split at h1
      · simp at h1; have := es h1.2; omega
      · split at h1
        · simp at h1; omega
        · simp at h1 h2; omega
theorem plain_ok (v : VV) : v.plain = (v.ok && v.k != 4) := rfl
set_option maxRecDepth 100000 in
set_option maxHeartbeats 4000000 in
theorem both_1 (a b : VV) (okA : (a.ok) = false)  (w : World) : Calls Tryd.prog 60 #[.agg #[.int .i64 a.k, .int .i64 a.n, .int .u64 a.u, .string a.s], .agg #[.int .i64 b.k, .int .i64 b.n, .int .u64 b.u, .string b.s]] w fun e w' => e = .returned (.int .i64 120) ∧ Below w.heap.size w w' := by
  have hA := ((Blk.new w 28 #[.int .i64 a.k, .int .i64 a.n, .int .u64 a.u, .string a.s]).alloc (.cells #[.int .i64 b.k, .int .i64 b.n, .int .u64 b.u, .string b.s] 28))
  have hB := (Blk.new (w.alloc (.cells #[.int .i64 a.k, .int .i64 a.n, .int .u64 a.u, .string a.s] 28)) 28 #[.int .i64 b.k, .int .i64 b.n, .int .u64 b.u, .string b.s])
  have bb := (bl_al (bl_al (Below.refl w.heap.size w) (.cells #[.int .i64 a.k, .int .i64 a.n, .int .u64 a.u, .string a.s] 28)) (.cells #[.int .i64 b.k, .int .i64 b.n, .int .u64 b.u, .string b.s] 28))
  simp only [World.size_alloc] at hB
  go_enter Tryd.func60, Tryd.ntmps60
  go_wp2_with fail
  generalize ((w.alloc (.cells #[.int .i64 a.k, .int .i64 a.n, .int .u64 a.u, .string a.s] 28)).alloc (.cells #[.int .i64 b.k, .int .i64 b.n, .int .u64 b.u, .string b.s] 28)) = w1 at *
  refine (r_n a okA _).mono ?_
  rintro e w2 ⟨rfl, qw2⟩
  replace hA := hA.ca qw2
  replace hB := hB.ca qw2
  replace bb := bl_ca bb qw2
  clear qw2
  go_wp2
  go_ret
  exact ⟨rfl, bb⟩
set_option maxRecDepth 100000 in
set_option maxHeartbeats 4000000 in
theorem both_2 (a b : VV) (okA : (a.ok) = true) (okB : (b.ok) = false)  (w : World) : Calls Tryd.prog 60 #[.agg #[.int .i64 a.k, .int .i64 a.n, .int .u64 a.u, .string a.s], .agg #[.int .i64 b.k, .int .i64 b.n, .int .u64 b.u, .string b.s]] w fun e w' => e = .returned (.int .i64 120) ∧ Below w.heap.size w w' := by
  have hA := ((Blk.new w 28 #[.int .i64 a.k, .int .i64 a.n, .int .u64 a.u, .string a.s]).alloc (.cells #[.int .i64 b.k, .int .i64 b.n, .int .u64 b.u, .string b.s] 28))
  have hB := (Blk.new (w.alloc (.cells #[.int .i64 a.k, .int .i64 a.n, .int .u64 a.u, .string a.s] 28)) 28 #[.int .i64 b.k, .int .i64 b.n, .int .u64 b.u, .string b.s])
  have bb := (bl_al (bl_al (Below.refl w.heap.size w) (.cells #[.int .i64 a.k, .int .i64 a.n, .int .u64 a.u, .string a.s] 28)) (.cells #[.int .i64 b.k, .int .i64 b.n, .int .u64 b.u, .string b.s] 28))
  simp only [World.size_alloc] at hB
  go_enter Tryd.func60, Tryd.ntmps60
  go_wp2_with fail
  generalize ((w.alloc (.cells #[.int .i64 a.k, .int .i64 a.n, .int .u64 a.u, .string a.s] 28)).alloc (.cells #[.int .i64 b.k, .int .i64 b.n, .int .u64 b.u, .string b.s] 28)) = w1 at *
  refine (r_y a okA _).mono ?_
  rintro e w2 ⟨rfl, qw2⟩
  replace hA := hA.ca qw2
  replace hB := hB.ca qw2
  replace bb := bl_ca bb qw2
  clear qw2
  have hB_0 : w2.cell? ⟨w.heap.size + 1, 0, none⟩ = some (.int .i64 b.k) := hB.cell 0
  have hB_1 : w2.cell? ⟨w.heap.size + 1, 1, none⟩ = some (.int .i64 b.n) := hB.cell 1
  have hB_2 : w2.cell? ⟨w.heap.size + 1, 2, none⟩ = some (.int .u64 b.u) := hB.cell 2
  have hB_3 : w2.cell? ⟨w.heap.size + 1, 3, none⟩ = some (.string b.s) := hB.cell 3
  go_wp2_with fail
  clear hB_0 hB_1 hB_2 hB_3
  refine (r_n b okB _).mono ?_
  rintro e w3 ⟨rfl, qw3⟩
  replace hA := hA.ca qw3
  replace hB := hB.ca qw3
  replace bb := bl_ca bb qw3
  clear qw3
  go_wp2
  go_ret
  exact ⟨rfl, bb⟩
set_option maxRecDepth 100000 in
set_option maxHeartbeats 4000000 in
theorem both_3 (a b : VV) (okA : (a.ok) = true) (okB : (b.ok) = true) (plA : (a.plain) = false)  (w : World) : Calls Tryd.prog 60 #[.agg #[.int .i64 a.k, .int .i64 a.n, .int .u64 a.u, .string a.s], .agg #[.int .i64 b.k, .int .i64 b.n, .int .u64 b.u, .string b.s]] w fun e w' => e = .returned (.int .i64 2) ∧ Below w.heap.size w w' := by
  have hA := ((Blk.new w 28 #[.int .i64 a.k, .int .i64 a.n, .int .u64 a.u, .string a.s]).alloc (.cells #[.int .i64 b.k, .int .i64 b.n, .int .u64 b.u, .string b.s] 28))
  have hB := (Blk.new (w.alloc (.cells #[.int .i64 a.k, .int .i64 a.n, .int .u64 a.u, .string a.s] 28)) 28 #[.int .i64 b.k, .int .i64 b.n, .int .u64 b.u, .string b.s])
  have bb := (bl_al (bl_al (Below.refl w.heap.size w) (.cells #[.int .i64 a.k, .int .i64 a.n, .int .u64 a.u, .string a.s] 28)) (.cells #[.int .i64 b.k, .int .i64 b.n, .int .u64 b.u, .string b.s] 28))
  simp only [World.size_alloc] at hB
  go_enter Tryd.func60, Tryd.ntmps60
  go_wp2_with fail
  generalize ((w.alloc (.cells #[.int .i64 a.k, .int .i64 a.n, .int .u64 a.u, .string a.s] 28)).alloc (.cells #[.int .i64 b.k, .int .i64 b.n, .int .u64 b.u, .string b.s] 28)) = w1 at *
  refine (r_y a okA _).mono ?_
  rintro e w2 ⟨rfl, qw2⟩
  replace hA := hA.ca qw2
  replace hB := hB.ca qw2
  replace bb := bl_ca bb qw2
  clear qw2
  have hB_0 : w2.cell? ⟨w.heap.size + 1, 0, none⟩ = some (.int .i64 b.k) := hB.cell 0
  have hB_1 : w2.cell? ⟨w.heap.size + 1, 1, none⟩ = some (.int .i64 b.n) := hB.cell 1
  have hB_2 : w2.cell? ⟨w.heap.size + 1, 2, none⟩ = some (.int .u64 b.u) := hB.cell 2
  have hB_3 : w2.cell? ⟨w.heap.size + 1, 3, none⟩ = some (.string b.s) := hB.cell 3
  go_wp2_with fail
  clear hB_0 hB_1 hB_2 hB_3
  refine (r_y b okB _).mono ?_
  rintro e w3 ⟨rfl, qw3⟩
  replace hA := hA.ca qw3
  replace hB := hB.ca qw3
  replace bb := bl_ca bb qw3
  clear qw3
  have hA_0 : w3.cell? ⟨w.heap.size, 0, none⟩ = some (.int .i64 a.k) := hA.cell 0
  have hA_1 : w3.cell? ⟨w.heap.size, 1, none⟩ = some (.int .i64 a.n) := hA.cell 1
  have hA_2 : w3.cell? ⟨w.heap.size, 2, none⟩ = some (.int .u64 a.u) := hA.cell 2
  have hA_3 : w3.cell? ⟨w.heap.size, 3, none⟩ = some (.string a.s) := hA.cell 3
  go_wp2_with fail
  clear hA_0 hA_1 hA_2 hA_3
  refine (rp_n a plA _).mono ?_
  rintro e w4 ⟨rfl, qw4⟩
  replace hA := hA.ca qw4
  replace hB := hB.ca qw4
  replace bb := bl_ca bb qw4
  clear qw4
  go_wp2
  go_ret
  exact ⟨rfl, bb⟩
set_option maxRecDepth 100000 in
set_option maxHeartbeats 4000000 in
theorem both_4 (a b : VV) (okA : (a.ok) = true) (okB : (b.ok) = true) (plA : (a.plain) = true) (plB : (b.plain) = false)  (w : World) : Calls Tryd.prog 60 #[.agg #[.int .i64 a.k, .int .i64 a.n, .int .u64 a.u, .string a.s], .agg #[.int .i64 b.k, .int .i64 b.n, .int .u64 b.u, .string b.s]] w fun e w' => e = .returned (.int .i64 2) ∧ Below w.heap.size w w' := by
  have hA := ((Blk.new w 28 #[.int .i64 a.k, .int .i64 a.n, .int .u64 a.u, .string a.s]).alloc (.cells #[.int .i64 b.k, .int .i64 b.n, .int .u64 b.u, .string b.s] 28))
  have hB := (Blk.new (w.alloc (.cells #[.int .i64 a.k, .int .i64 a.n, .int .u64 a.u, .string a.s] 28)) 28 #[.int .i64 b.k, .int .i64 b.n, .int .u64 b.u, .string b.s])
  have bb := (bl_al (bl_al (Below.refl w.heap.size w) (.cells #[.int .i64 a.k, .int .i64 a.n, .int .u64 a.u, .string a.s] 28)) (.cells #[.int .i64 b.k, .int .i64 b.n, .int .u64 b.u, .string b.s] 28))
  simp only [World.size_alloc] at hB
  go_enter Tryd.func60, Tryd.ntmps60
  go_wp2_with fail
  generalize ((w.alloc (.cells #[.int .i64 a.k, .int .i64 a.n, .int .u64 a.u, .string a.s] 28)).alloc (.cells #[.int .i64 b.k, .int .i64 b.n, .int .u64 b.u, .string b.s] 28)) = w1 at *
  refine (r_y a okA _).mono ?_
  rintro e w2 ⟨rfl, qw2⟩
  replace hA := hA.ca qw2
  replace hB := hB.ca qw2
  replace bb := bl_ca bb qw2
  clear qw2
  have hB_0 : w2.cell? ⟨w.heap.size + 1, 0, none⟩ = some (.int .i64 b.k) := hB.cell 0
  have hB_1 : w2.cell? ⟨w.heap.size + 1, 1, none⟩ = some (.int .i64 b.n) := hB.cell 1
  have hB_2 : w2.cell? ⟨w.heap.size + 1, 2, none⟩ = some (.int .u64 b.u) := hB.cell 2
  have hB_3 : w2.cell? ⟨w.heap.size + 1, 3, none⟩ = some (.string b.s) := hB.cell 3
  go_wp2_with fail
  clear hB_0 hB_1 hB_2 hB_3
  refine (r_y b okB _).mono ?_
  rintro e w3 ⟨rfl, qw3⟩
  replace hA := hA.ca qw3
  replace hB := hB.ca qw3
  replace bb := bl_ca bb qw3
  clear qw3
  have hA_0 : w3.cell? ⟨w.heap.size, 0, none⟩ = some (.int .i64 a.k) := hA.cell 0
  have hA_1 : w3.cell? ⟨w.heap.size, 1, none⟩ = some (.int .i64 a.n) := hA.cell 1
  have hA_2 : w3.cell? ⟨w.heap.size, 2, none⟩ = some (.int .u64 a.u) := hA.cell 2
  have hA_3 : w3.cell? ⟨w.heap.size, 3, none⟩ = some (.string a.s) := hA.cell 3
  go_wp2_with fail
  clear hA_0 hA_1 hA_2 hA_3
  refine (rp_y a plA _).mono ?_
  rintro e w4 ⟨rfl, qw4⟩
  replace hA := hA.ca qw4
  replace hB := hB.ca qw4
  replace bb := bl_ca bb qw4
  clear qw4
  have hB_0 : w4.cell? ⟨w.heap.size + 1, 0, none⟩ = some (.int .i64 b.k) := hB.cell 0
  have hB_1 : w4.cell? ⟨w.heap.size + 1, 1, none⟩ = some (.int .i64 b.n) := hB.cell 1
  have hB_2 : w4.cell? ⟨w.heap.size + 1, 2, none⟩ = some (.int .u64 b.u) := hB.cell 2
  have hB_3 : w4.cell? ⟨w.heap.size + 1, 3, none⟩ = some (.string b.s) := hB.cell 3
  go_wp2_with fail
  clear hB_0 hB_1 hB_2 hB_3
  refine (rp_n b plB _).mono ?_
  rintro e w5 ⟨rfl, qw5⟩
  replace hA := hA.ca qw5
  replace hB := hB.ca qw5
  replace bb := bl_ca bb qw5
  clear qw5
  go_wp2
  go_ret
  exact ⟨rfl, bb⟩
set_option maxRecDepth 100000 in
set_option maxHeartbeats 4000000 in
theorem both_5 (a b : VV) (okA : (a.ok) = true) (okB : (b.ok) = true) (plA : (a.plain) = true) (plB : (b.plain) = true) (na0 : (a.k != 0) = false)  (w : World) : Calls Tryd.prog 60 #[.agg #[.int .i64 a.k, .int .i64 a.n, .int .u64 a.u, .string a.s], .agg #[.int .i64 b.k, .int .i64 b.n, .int .u64 b.u, .string b.s]] w fun e w' => e = .returned (.int .i64 0) ∧ Below w.heap.size w w' := by
  have hA := ((Blk.new w 28 #[.int .i64 a.k, .int .i64 a.n, .int .u64 a.u, .string a.s]).alloc (.cells #[.int .i64 b.k, .int .i64 b.n, .int .u64 b.u, .string b.s] 28))
  have hB := (Blk.new (w.alloc (.cells #[.int .i64 a.k, .int .i64 a.n, .int .u64 a.u, .string a.s] 28)) 28 #[.int .i64 b.k, .int .i64 b.n, .int .u64 b.u, .string b.s])
  have bb := (bl_al (bl_al (Below.refl w.heap.size w) (.cells #[.int .i64 a.k, .int .i64 a.n, .int .u64 a.u, .string a.s] 28)) (.cells #[.int .i64 b.k, .int .i64 b.n, .int .u64 b.u, .string b.s] 28))
  simp only [World.size_alloc] at hB
  go_enter Tryd.func60, Tryd.ntmps60
  go_wp2_with fail
  generalize ((w.alloc (.cells #[.int .i64 a.k, .int .i64 a.n, .int .u64 a.u, .string a.s] 28)).alloc (.cells #[.int .i64 b.k, .int .i64 b.n, .int .u64 b.u, .string b.s] 28)) = w1 at *
  refine (r_y a okA _).mono ?_
  rintro e w2 ⟨rfl, qw2⟩
  replace hA := hA.ca qw2
  replace hB := hB.ca qw2
  replace bb := bl_ca bb qw2
  clear qw2
  have hB_0 : w2.cell? ⟨w.heap.size + 1, 0, none⟩ = some (.int .i64 b.k) := hB.cell 0
  have hB_1 : w2.cell? ⟨w.heap.size + 1, 1, none⟩ = some (.int .i64 b.n) := hB.cell 1
  have hB_2 : w2.cell? ⟨w.heap.size + 1, 2, none⟩ = some (.int .u64 b.u) := hB.cell 2
  have hB_3 : w2.cell? ⟨w.heap.size + 1, 3, none⟩ = some (.string b.s) := hB.cell 3
  go_wp2_with fail
  clear hB_0 hB_1 hB_2 hB_3
  refine (r_y b okB _).mono ?_
  rintro e w3 ⟨rfl, qw3⟩
  replace hA := hA.ca qw3
  replace hB := hB.ca qw3
  replace bb := bl_ca bb qw3
  clear qw3
  have hA_0 : w3.cell? ⟨w.heap.size, 0, none⟩ = some (.int .i64 a.k) := hA.cell 0
  have hA_1 : w3.cell? ⟨w.heap.size, 1, none⟩ = some (.int .i64 a.n) := hA.cell 1
  have hA_2 : w3.cell? ⟨w.heap.size, 2, none⟩ = some (.int .u64 a.u) := hA.cell 2
  have hA_3 : w3.cell? ⟨w.heap.size, 3, none⟩ = some (.string a.s) := hA.cell 3
  go_wp2_with fail
  clear hA_0 hA_1 hA_2 hA_3
  refine (rp_y a plA _).mono ?_
  rintro e w4 ⟨rfl, qw4⟩
  replace hA := hA.ca qw4
  replace hB := hB.ca qw4
  replace bb := bl_ca bb qw4
  clear qw4
  have hB_0 : w4.cell? ⟨w.heap.size + 1, 0, none⟩ = some (.int .i64 b.k) := hB.cell 0
  have hB_1 : w4.cell? ⟨w.heap.size + 1, 1, none⟩ = some (.int .i64 b.n) := hB.cell 1
  have hB_2 : w4.cell? ⟨w.heap.size + 1, 2, none⟩ = some (.int .u64 b.u) := hB.cell 2
  have hB_3 : w4.cell? ⟨w.heap.size + 1, 3, none⟩ = some (.string b.s) := hB.cell 3
  go_wp2_with fail
  clear hB_0 hB_1 hB_2 hB_3
  refine (rp_y b plB _).mono ?_
  rintro e w5 ⟨rfl, qw5⟩
  replace hA := hA.ca qw5
  replace hB := hB.ca qw5
  replace bb := bl_ca bb qw5
  clear qw5
  have hA_0 : w5.cell? ⟨w.heap.size, 0, none⟩ = some (.int .i64 a.k) := hA.cell 0
  have hA_1 : w5.cell? ⟨w.heap.size, 1, none⟩ = some (.int .i64 a.n) := hA.cell 1
  have hA_2 : w5.cell? ⟨w.heap.size, 2, none⟩ = some (.int .u64 a.u) := hA.cell 2
  have hA_3 : w5.cell? ⟨w.heap.size, 3, none⟩ = some (.string a.s) := hA.cell 3
  have hB_0 : w5.cell? ⟨w.heap.size + 1, 0, none⟩ = some (.int .i64 b.k) := hB.cell 0
  have hB_1 : w5.cell? ⟨w.heap.size + 1, 1, none⟩ = some (.int .i64 b.n) := hB.cell 1
  have hB_2 : w5.cell? ⟨w.heap.size + 1, 2, none⟩ = some (.int .u64 b.u) := hB.cell 2
  have hB_3 : w5.cell? ⟨w.heap.size + 1, 3, none⟩ = some (.string b.s) := hB.cell 3
  go_wp2
  clear hA_0 hA_1 hA_2 hA_3 hB_0 hB_1 hB_2 hB_3
  go_ret
  exact ⟨rfl, bb⟩
set_option maxRecDepth 100000 in
set_option maxHeartbeats 4000000 in
theorem both_6 (a b : VV) (okA : (a.ok) = true) (okB : (b.ok) = true) (plA : (a.plain) = true) (plB : (b.plain) = true) (na0 : (a.k != 0) = true) (nb0 : (b.k != 0) = false)  (w : World) : Calls Tryd.prog 60 #[.agg #[.int .i64 a.k, .int .i64 a.n, .int .u64 a.u, .string a.s], .agg #[.int .i64 b.k, .int .i64 b.n, .int .u64 b.u, .string b.s]] w fun e w' => e = .returned (.int .i64 0) ∧ Below w.heap.size w w' := by
  have hA := ((Blk.new w 28 #[.int .i64 a.k, .int .i64 a.n, .int .u64 a.u, .string a.s]).alloc (.cells #[.int .i64 b.k, .int .i64 b.n, .int .u64 b.u, .string b.s] 28))
  have hB := (Blk.new (w.alloc (.cells #[.int .i64 a.k, .int .i64 a.n, .int .u64 a.u, .string a.s] 28)) 28 #[.int .i64 b.k, .int .i64 b.n, .int .u64 b.u, .string b.s])
  have bb := (bl_al (bl_al (Below.refl w.heap.size w) (.cells #[.int .i64 a.k, .int .i64 a.n, .int .u64 a.u, .string a.s] 28)) (.cells #[.int .i64 b.k, .int .i64 b.n, .int .u64 b.u, .string b.s] 28))
  simp only [World.size_alloc] at hB
  go_enter Tryd.func60, Tryd.ntmps60
  go_wp2_with fail
  generalize ((w.alloc (.cells #[.int .i64 a.k, .int .i64 a.n, .int .u64 a.u, .string a.s] 28)).alloc (.cells #[.int .i64 b.k, .int .i64 b.n, .int .u64 b.u, .string b.s] 28)) = w1 at *
  refine (r_y a okA _).mono ?_
  rintro e w2 ⟨rfl, qw2⟩
  replace hA := hA.ca qw2
  replace hB := hB.ca qw2
  replace bb := bl_ca bb qw2
  clear qw2
  have hB_0 : w2.cell? ⟨w.heap.size + 1, 0, none⟩ = some (.int .i64 b.k) := hB.cell 0
  have hB_1 : w2.cell? ⟨w.heap.size + 1, 1, none⟩ = some (.int .i64 b.n) := hB.cell 1
  have hB_2 : w2.cell? ⟨w.heap.size + 1, 2, none⟩ = some (.int .u64 b.u) := hB.cell 2
  have hB_3 : w2.cell? ⟨w.heap.size + 1, 3, none⟩ = some (.string b.s) := hB.cell 3
  go_wp2_with fail
  clear hB_0 hB_1 hB_2 hB_3
  refine (r_y b okB _).mono ?_
  rintro e w3 ⟨rfl, qw3⟩
  replace hA := hA.ca qw3
  replace hB := hB.ca qw3
  replace bb := bl_ca bb qw3
  clear qw3
  have hA_0 : w3.cell? ⟨w.heap.size, 0, none⟩ = some (.int .i64 a.k) := hA.cell 0
  have hA_1 : w3.cell? ⟨w.heap.size, 1, none⟩ = some (.int .i64 a.n) := hA.cell 1
  have hA_2 : w3.cell? ⟨w.heap.size, 2, none⟩ = some (.int .u64 a.u) := hA.cell 2
  have hA_3 : w3.cell? ⟨w.heap.size, 3, none⟩ = some (.string a.s) := hA.cell 3
  go_wp2_with fail
  clear hA_0 hA_1 hA_2 hA_3
  refine (rp_y a plA _).mono ?_
  rintro e w4 ⟨rfl, qw4⟩
  replace hA := hA.ca qw4
  replace hB := hB.ca qw4
  replace bb := bl_ca bb qw4
  clear qw4
  have hB_0 : w4.cell? ⟨w.heap.size + 1, 0, none⟩ = some (.int .i64 b.k) := hB.cell 0
  have hB_1 : w4.cell? ⟨w.heap.size + 1, 1, none⟩ = some (.int .i64 b.n) := hB.cell 1
  have hB_2 : w4.cell? ⟨w.heap.size + 1, 2, none⟩ = some (.int .u64 b.u) := hB.cell 2
  have hB_3 : w4.cell? ⟨w.heap.size + 1, 3, none⟩ = some (.string b.s) := hB.cell 3
  go_wp2_with fail
  clear hB_0 hB_1 hB_2 hB_3
  refine (rp_y b plB _).mono ?_
  rintro e w5 ⟨rfl, qw5⟩
  replace hA := hA.ca qw5
  replace hB := hB.ca qw5
  replace bb := bl_ca bb qw5
  clear qw5
  have hA_0 : w5.cell? ⟨w.heap.size, 0, none⟩ = some (.int .i64 a.k) := hA.cell 0
  have hA_1 : w5.cell? ⟨w.heap.size, 1, none⟩ = some (.int .i64 a.n) := hA.cell 1
  have hA_2 : w5.cell? ⟨w.heap.size, 2, none⟩ = some (.int .u64 a.u) := hA.cell 2
  have hA_3 : w5.cell? ⟨w.heap.size, 3, none⟩ = some (.string a.s) := hA.cell 3
  have hB_0 : w5.cell? ⟨w.heap.size + 1, 0, none⟩ = some (.int .i64 b.k) := hB.cell 0
  have hB_1 : w5.cell? ⟨w.heap.size + 1, 1, none⟩ = some (.int .i64 b.n) := hB.cell 1
  have hB_2 : w5.cell? ⟨w.heap.size + 1, 2, none⟩ = some (.int .u64 b.u) := hB.cell 2
  have hB_3 : w5.cell? ⟨w.heap.size + 1, 3, none⟩ = some (.string b.s) := hB.cell 3
  go_wp2
  clear hA_0 hA_1 hA_2 hA_3 hB_0 hB_1 hB_2 hB_3
  go_ret
  exact ⟨rfl, bb⟩
set_option maxRecDepth 100000 in
set_option maxHeartbeats 4000000 in
theorem both_7 (a b : VV) (okA : (a.ok) = true) (okB : (b.ok) = true) (plA : (a.plain) = true) (plB : (b.plain) = true) (na0 : (a.k != 0) = true) (nb0 : (b.k != 0) = true) (nab : (a.k != b.k) = true)  (w : World) : Calls Tryd.prog 60 #[.agg #[.int .i64 a.k, .int .i64 a.n, .int .u64 a.u, .string a.s], .agg #[.int .i64 b.k, .int .i64 b.n, .int .u64 b.u, .string b.s]] w fun e w' => e = .returned (.int .i64 2) ∧ Below w.heap.size w w' := by
  have hA := ((Blk.new w 28 #[.int .i64 a.k, .int .i64 a.n, .int .u64 a.u, .string a.s]).alloc (.cells #[.int .i64 b.k, .int .i64 b.n, .int .u64 b.u, .string b.s] 28))
  have hB := (Blk.new (w.alloc (.cells #[.int .i64 a.k, .int .i64 a.n, .int .u64 a.u, .string a.s] 28)) 28 #[.int .i64 b.k, .int .i64 b.n, .int .u64 b.u, .string b.s])
  have bb := (bl_al (bl_al (Below.refl w.heap.size w) (.cells #[.int .i64 a.k, .int .i64 a.n, .int .u64 a.u, .string a.s] 28)) (.cells #[.int .i64 b.k, .int .i64 b.n, .int .u64 b.u, .string b.s] 28))
  simp only [World.size_alloc] at hB
  go_enter Tryd.func60, Tryd.ntmps60
  go_wp2_with fail
  generalize ((w.alloc (.cells #[.int .i64 a.k, .int .i64 a.n, .int .u64 a.u, .string a.s] 28)).alloc (.cells #[.int .i64 b.k, .int .i64 b.n, .int .u64 b.u, .string b.s] 28)) = w1 at *
  refine (r_y a okA _).mono ?_
  rintro e w2 ⟨rfl, qw2⟩
  replace hA := hA.ca qw2
  replace hB := hB.ca qw2
  replace bb := bl_ca bb qw2
  clear qw2
  have hB_0 : w2.cell? ⟨w.heap.size + 1, 0, none⟩ = some (.int .i64 b.k) := hB.cell 0
  have hB_1 : w2.cell? ⟨w.heap.size + 1, 1, none⟩ = some (.int .i64 b.n) := hB.cell 1
  have hB_2 : w2.cell? ⟨w.heap.size + 1, 2, none⟩ = some (.int .u64 b.u) := hB.cell 2
  have hB_3 : w2.cell? ⟨w.heap.size + 1, 3, none⟩ = some (.string b.s) := hB.cell 3
  go_wp2_with fail
  clear hB_0 hB_1 hB_2 hB_3
  refine (r_y b okB _).mono ?_
  rintro e w3 ⟨rfl, qw3⟩
  replace hA := hA.ca qw3
  replace hB := hB.ca qw3
  replace bb := bl_ca bb qw3
  clear qw3
  have hA_0 : w3.cell? ⟨w.heap.size, 0, none⟩ = some (.int .i64 a.k) := hA.cell 0
  have hA_1 : w3.cell? ⟨w.heap.size, 1, none⟩ = some (.int .i64 a.n) := hA.cell 1
  have hA_2 : w3.cell? ⟨w.heap.size, 2, none⟩ = some (.int .u64 a.u) := hA.cell 2
  have hA_3 : w3.cell? ⟨w.heap.size, 3, none⟩ = some (.string a.s) := hA.cell 3
  go_wp2_with fail
  clear hA_0 hA_1 hA_2 hA_3
  refine (rp_y a plA _).mono ?_
  rintro e w4 ⟨rfl, qw4⟩
  replace hA := hA.ca qw4
  replace hB := hB.ca qw4
  replace bb := bl_ca bb qw4
  clear qw4
  have hB_0 : w4.cell? ⟨w.heap.size + 1, 0, none⟩ = some (.int .i64 b.k) := hB.cell 0
  have hB_1 : w4.cell? ⟨w.heap.size + 1, 1, none⟩ = some (.int .i64 b.n) := hB.cell 1
  have hB_2 : w4.cell? ⟨w.heap.size + 1, 2, none⟩ = some (.int .u64 b.u) := hB.cell 2
  have hB_3 : w4.cell? ⟨w.heap.size + 1, 3, none⟩ = some (.string b.s) := hB.cell 3
  go_wp2_with fail
  clear hB_0 hB_1 hB_2 hB_3
  refine (rp_y b plB _).mono ?_
  rintro e w5 ⟨rfl, qw5⟩
  replace hA := hA.ca qw5
  replace hB := hB.ca qw5
  replace bb := bl_ca bb qw5
  clear qw5
  have hA_0 : w5.cell? ⟨w.heap.size, 0, none⟩ = some (.int .i64 a.k) := hA.cell 0
  have hA_1 : w5.cell? ⟨w.heap.size, 1, none⟩ = some (.int .i64 a.n) := hA.cell 1
  have hA_2 : w5.cell? ⟨w.heap.size, 2, none⟩ = some (.int .u64 a.u) := hA.cell 2
  have hA_3 : w5.cell? ⟨w.heap.size, 3, none⟩ = some (.string a.s) := hA.cell 3
  have hB_0 : w5.cell? ⟨w.heap.size + 1, 0, none⟩ = some (.int .i64 b.k) := hB.cell 0
  have hB_1 : w5.cell? ⟨w.heap.size + 1, 1, none⟩ = some (.int .i64 b.n) := hB.cell 1
  have hB_2 : w5.cell? ⟨w.heap.size + 1, 2, none⟩ = some (.int .u64 b.u) := hB.cell 2
  have hB_3 : w5.cell? ⟨w.heap.size + 1, 3, none⟩ = some (.string b.s) := hB.cell 3
  go_wp2
  clear hA_0 hA_1 hA_2 hA_3 hB_0 hB_1 hB_2 hB_3
  go_ret
  exact ⟨rfl, bb⟩
set_option maxRecDepth 100000 in
set_option maxHeartbeats 4000000 in
theorem both_8 (a b : VV) (okA : (a.ok) = true) (okB : (b.ok) = true) (plA : (a.plain) = true) (plB : (b.plain) = true) (na0 : (a.k != 0) = true) (nb0 : (b.k != 0) = true) (nab : (a.k != b.k) = false)  (w : World) : Calls Tryd.prog 60 #[.agg #[.int .i64 a.k, .int .i64 a.n, .int .u64 a.u, .string a.s], .agg #[.int .i64 b.k, .int .i64 b.n, .int .u64 b.u, .string b.s]] w fun e w' => e = .returned (.int .i64 0) ∧ Below w.heap.size w w' := by
  have hA := ((Blk.new w 28 #[.int .i64 a.k, .int .i64 a.n, .int .u64 a.u, .string a.s]).alloc (.cells #[.int .i64 b.k, .int .i64 b.n, .int .u64 b.u, .string b.s] 28))
  have hB := (Blk.new (w.alloc (.cells #[.int .i64 a.k, .int .i64 a.n, .int .u64 a.u, .string a.s] 28)) 28 #[.int .i64 b.k, .int .i64 b.n, .int .u64 b.u, .string b.s])
  have bb := (bl_al (bl_al (Below.refl w.heap.size w) (.cells #[.int .i64 a.k, .int .i64 a.n, .int .u64 a.u, .string a.s] 28)) (.cells #[.int .i64 b.k, .int .i64 b.n, .int .u64 b.u, .string b.s] 28))
  simp only [World.size_alloc] at hB
  go_enter Tryd.func60, Tryd.ntmps60
  go_wp2_with fail
  generalize ((w.alloc (.cells #[.int .i64 a.k, .int .i64 a.n, .int .u64 a.u, .string a.s] 28)).alloc (.cells #[.int .i64 b.k, .int .i64 b.n, .int .u64 b.u, .string b.s] 28)) = w1 at *
  refine (r_y a okA _).mono ?_
  rintro e w2 ⟨rfl, qw2⟩
  replace hA := hA.ca qw2
  replace hB := hB.ca qw2
  replace bb := bl_ca bb qw2
  clear qw2
  have hB_0 : w2.cell? ⟨w.heap.size + 1, 0, none⟩ = some (.int .i64 b.k) := hB.cell 0
  have hB_1 : w2.cell? ⟨w.heap.size + 1, 1, none⟩ = some (.int .i64 b.n) := hB.cell 1
  have hB_2 : w2.cell? ⟨w.heap.size + 1, 2, none⟩ = some (.int .u64 b.u) := hB.cell 2
  have hB_3 : w2.cell? ⟨w.heap.size + 1, 3, none⟩ = some (.string b.s) := hB.cell 3
  go_wp2_with fail
  clear hB_0 hB_1 hB_2 hB_3
  refine (r_y b okB _).mono ?_
  rintro e w3 ⟨rfl, qw3⟩
  replace hA := hA.ca qw3
  replace hB := hB.ca qw3
  replace bb := bl_ca bb qw3
  clear qw3
  have hA_0 : w3.cell? ⟨w.heap.size, 0, none⟩ = some (.int .i64 a.k) := hA.cell 0
  have hA_1 : w3.cell? ⟨w.heap.size, 1, none⟩ = some (.int .i64 a.n) := hA.cell 1
  have hA_2 : w3.cell? ⟨w.heap.size, 2, none⟩ = some (.int .u64 a.u) := hA.cell 2
  have hA_3 : w3.cell? ⟨w.heap.size, 3, none⟩ = some (.string a.s) := hA.cell 3
  go_wp2_with fail
  clear hA_0 hA_1 hA_2 hA_3
  refine (rp_y a plA _).mono ?_
  rintro e w4 ⟨rfl, qw4⟩
  replace hA := hA.ca qw4
  replace hB := hB.ca qw4
  replace bb := bl_ca bb qw4
  clear qw4
  have hB_0 : w4.cell? ⟨w.heap.size + 1, 0, none⟩ = some (.int .i64 b.k) := hB.cell 0
  have hB_1 : w4.cell? ⟨w.heap.size + 1, 1, none⟩ = some (.int .i64 b.n) := hB.cell 1
  have hB_2 : w4.cell? ⟨w.heap.size + 1, 2, none⟩ = some (.int .u64 b.u) := hB.cell 2
  have hB_3 : w4.cell? ⟨w.heap.size + 1, 3, none⟩ = some (.string b.s) := hB.cell 3
  go_wp2_with fail
  clear hB_0 hB_1 hB_2 hB_3
  refine (rp_y b plB _).mono ?_
  rintro e w5 ⟨rfl, qw5⟩
  replace hA := hA.ca qw5
  replace hB := hB.ca qw5
  replace bb := bl_ca bb qw5
  clear qw5
  have hA_0 : w5.cell? ⟨w.heap.size, 0, none⟩ = some (.int .i64 a.k) := hA.cell 0
  have hA_1 : w5.cell? ⟨w.heap.size, 1, none⟩ = some (.int .i64 a.n) := hA.cell 1
  have hA_2 : w5.cell? ⟨w.heap.size, 2, none⟩ = some (.int .u64 a.u) := hA.cell 2
  have hA_3 : w5.cell? ⟨w.heap.size, 3, none⟩ = some (.string a.s) := hA.cell 3
  have hB_0 : w5.cell? ⟨w.heap.size + 1, 0, none⟩ = some (.int .i64 b.k) := hB.cell 0
  have hB_1 : w5.cell? ⟨w.heap.size + 1, 1, none⟩ = some (.int .i64 b.n) := hB.cell 1
  have hB_2 : w5.cell? ⟨w.heap.size + 1, 2, none⟩ = some (.int .u64 b.u) := hB.cell 2
  have hB_3 : w5.cell? ⟨w.heap.size + 1, 3, none⟩ = some (.string b.s) := hB.cell 3
  go_wp2
  clear hA_0 hA_1 hA_2 hA_3 hB_0 hB_1 hB_2 hB_3
  go_ret
  exact ⟨rfl, bb⟩
theorem both_any (a b : VV) (w : World) : Calls Tryd.prog 60 #[.agg #[.int .i64 a.k, .int .i64 a.n, .int .u64 a.u, .string a.s], .agg #[.int .i64 b.k, .int .i64 b.n, .int .u64 b.u, .string b.s]] w fun e w' => e = .returned (.int .i64 (bothE a b)) ∧ Below w.heap.size w w' := by
  have g : ∀ r : Int, bothE a b = r → (Calls Tryd.prog 60 #[.agg #[.int .i64 a.k, .int .i64 a.n, .int .u64 a.u, .string a.s], .agg #[.int .i64 b.k, .int .i64 b.n, .int .u64 b.u, .string b.s]] w fun e w' => e = .returned (.int .i64 r) ∧ Below w.heap.size w w') → Calls Tryd.prog 60 #[.agg #[.int .i64 a.k, .int .i64 a.n, .int .u64 a.u, .string a.s], .agg #[.int .i64 b.k, .int .i64 b.n, .int .u64 b.u, .string b.s]] w fun e w' => e = .returned (.int .i64 (bothE a b)) ∧ Below w.heap.size w w' := fun r e h => by rw [e]; exact h
  have pa := plain_ok a
  have pb := plain_ok b
  cases okA : a.ok
  · exact g 120 (by simp [bothE, okA]) (both_1 a b okA w)
  · cases okB : b.ok
    · exact g 120 (by simp [bothE, okA, okB]) (both_2 a b okA okB w)
    · rw [okA, Bool.true_and] at pa
      rw [okB, Bool.true_and] at pb
      cases plA : a.plain
      · have : (a.k == 4) = true := by rw [plA] at pa; simpa using pa.symm
        exact g 2 (by simp only [bothE, okA, okB, this]; rfl) (both_3 a b okA okB plA w)
      · have ka : (a.k == 4) = false := by rw [plA] at pa; simpa using pa.symm
        cases plB : b.plain
        · have : (b.k == 4) = true := by rw [plB] at pb; simpa using pb.symm
          exact g 2 (by simp only [bothE, okA, okB, ka, this]; rfl) (both_4 a b okA okB plA plB w)
        · have kb : (b.k == 4) = false := by rw [plB] at pb; simpa using pb.symm
          cases na0 : a.k != 0
          · have : (a.k == 0) = true := by simpa using na0
            exact g 0 (by simp only [bothE, okA, okB, ka, kb, this]; rfl) (both_5 a b okA okB plA plB na0 w)
          · have h0 : (a.k == 0) = false := by simpa using na0
            cases nb0 : b.k != 0
            · have : (b.k == 0) = true := by simpa using nb0
              exact g 0 (by simp only [bothE, okA, okB, ka, kb, h0, this]; rfl) (both_6 a b okA okB plA plB na0 nb0 w)
            · have h1 : (b.k == 0) = false := by simpa using nb0
              cases nab : a.k != b.k
              · exact g 0 (by simp only [bothE, okA, okB, ka, kb, h0, h1, nab]; rfl) (both_8 a b okA okB plA plB na0 nb0 nab w)
              · exact g 2 (by simp only [bothE, okA, okB, ka, kb, h0, h1, nab]; rfl) (both_7 a b okA okB plA plB na0 nb0 nab w)
set_option maxRecDepth 100000 in
set_option maxHeartbeats 4000000 in
theorem rcmp_1 (a b : VV) (plA : (a.plain) = false)  (w : World) : Calls Tryd.prog 35 #[.agg #[.int .i64 a.k, .int .i64 a.n, .int .u64 a.u, .string a.s], .agg #[.int .i64 b.k, .int .i64 b.n, .int .u64 b.u, .string b.s]] w fun e w' => e = .returned (.int .i64 0) ∧ Below w.heap.size w w' := by
  have hA := ((Blk.new w 28 #[.int .i64 a.k, .int .i64 a.n, .int .u64 a.u, .string a.s]).alloc (.cells #[.int .i64 b.k, .int .i64 b.n, .int .u64 b.u, .string b.s] 28))
  have hB := (Blk.new (w.alloc (.cells #[.int .i64 a.k, .int .i64 a.n, .int .u64 a.u, .string a.s] 28)) 28 #[.int .i64 b.k, .int .i64 b.n, .int .u64 b.u, .string b.s])
  have bb := (bl_al (bl_al (Below.refl w.heap.size w) (.cells #[.int .i64 a.k, .int .i64 a.n, .int .u64 a.u, .string a.s] 28)) (.cells #[.int .i64 b.k, .int .i64 b.n, .int .u64 b.u, .string b.s] 28))
  simp only [World.size_alloc] at hB
  go_enter Tryd.func35, Tryd.ntmps35
  go_wp2_with fail
  generalize ((w.alloc (.cells #[.int .i64 a.k, .int .i64 a.n, .int .u64 a.u, .string a.s] 28)).alloc (.cells #[.int .i64 b.k, .int .i64 b.n, .int .u64 b.u, .string b.s] 28)) = w1 at *
  refine (rp_n a plA _).mono ?_
  rintro e w2 ⟨rfl, qw2⟩
  replace hA := hA.ca qw2
  replace hB := hB.ca qw2
  replace bb := bl_ca bb qw2
  clear qw2
  go_wp2
  go_ret
  exact ⟨rfl, bb⟩
set_option maxRecDepth 100000 in
set_option maxHeartbeats 4000000 in
theorem rcmp_2 (a b : VV) (plA : (a.plain) = true) (plB : (b.plain) = false)  (w : World) : Calls Tryd.prog 35 #[.agg #[.int .i64 a.k, .int .i64 a.n, .int .u64 a.u, .string a.s], .agg #[.int .i64 b.k, .int .i64 b.n, .int .u64 b.u, .string b.s]] w fun e w' => e = .returned (.int .i64 0) ∧ Below w.heap.size w w' := by
  have hA := ((Blk.new w 28 #[.int .i64 a.k, .int .i64 a.n, .int .u64 a.u, .string a.s]).alloc (.cells #[.int .i64 b.k, .int .i64 b.n, .int .u64 b.u, .string b.s] 28))
  have hB := (Blk.new (w.alloc (.cells #[.int .i64 a.k, .int .i64 a.n, .int .u64 a.u, .string a.s] 28)) 28 #[.int .i64 b.k, .int .i64 b.n, .int .u64 b.u, .string b.s])
  have bb := (bl_al (bl_al (Below.refl w.heap.size w) (.cells #[.int .i64 a.k, .int .i64 a.n, .int .u64 a.u, .string a.s] 28)) (.cells #[.int .i64 b.k, .int .i64 b.n, .int .u64 b.u, .string b.s] 28))
  simp only [World.size_alloc] at hB
  go_enter Tryd.func35, Tryd.ntmps35
  go_wp2_with fail
  generalize ((w.alloc (.cells #[.int .i64 a.k, .int .i64 a.n, .int .u64 a.u, .string a.s] 28)).alloc (.cells #[.int .i64 b.k, .int .i64 b.n, .int .u64 b.u, .string b.s] 28)) = w1 at *
  refine (rp_y a plA _).mono ?_
  rintro e w2 ⟨rfl, qw2⟩
  replace hA := hA.ca qw2
  replace hB := hB.ca qw2
  replace bb := bl_ca bb qw2
  clear qw2
  have hB_0 : w2.cell? ⟨w.heap.size + 1, 0, none⟩ = some (.int .i64 b.k) := hB.cell 0
  have hB_1 : w2.cell? ⟨w.heap.size + 1, 1, none⟩ = some (.int .i64 b.n) := hB.cell 1
  have hB_2 : w2.cell? ⟨w.heap.size + 1, 2, none⟩ = some (.int .u64 b.u) := hB.cell 2
  have hB_3 : w2.cell? ⟨w.heap.size + 1, 3, none⟩ = some (.string b.s) := hB.cell 3
  go_wp2_with fail
  clear hB_0 hB_1 hB_2 hB_3
  refine (rp_n b plB _).mono ?_
  rintro e w3 ⟨rfl, qw3⟩
  replace hA := hA.ca qw3
  replace hB := hB.ca qw3
  replace bb := bl_ca bb qw3
  clear qw3
  go_wp2
  go_ret
  exact ⟨rfl, bb⟩
set_option maxRecDepth 100000 in
set_option maxHeartbeats 4000000 in
theorem rcmp_3 (a b : VV) (plA : (a.plain) = true) (plB : (b.plain) = true) (nab : (a.k != b.k) = true) (lk : (decide (a.k < b.k)) = true)  (w : World) : Calls Tryd.prog 35 #[.agg #[.int .i64 a.k, .int .i64 a.n, .int .u64 a.u, .string a.s], .agg #[.int .i64 b.k, .int .i64 b.n, .int .u64 b.u, .string b.s]] w fun e w' => e = .returned (.int .i64 (-1)) ∧ Below w.heap.size w w' := by
  have hA := ((Blk.new w 28 #[.int .i64 a.k, .int .i64 a.n, .int .u64 a.u, .string a.s]).alloc (.cells #[.int .i64 b.k, .int .i64 b.n, .int .u64 b.u, .string b.s] 28))
  have hB := (Blk.new (w.alloc (.cells #[.int .i64 a.k, .int .i64 a.n, .int .u64 a.u, .string a.s] 28)) 28 #[.int .i64 b.k, .int .i64 b.n, .int .u64 b.u, .string b.s])
  have bb := (bl_al (bl_al (Below.refl w.heap.size w) (.cells #[.int .i64 a.k, .int .i64 a.n, .int .u64 a.u, .string a.s] 28)) (.cells #[.int .i64 b.k, .int .i64 b.n, .int .u64 b.u, .string b.s] 28))
  simp only [World.size_alloc] at hB
  go_enter Tryd.func35, Tryd.ntmps35
  go_wp2_with fail
  generalize ((w.alloc (.cells #[.int .i64 a.k, .int .i64 a.n, .int .u64 a.u, .string a.s] 28)).alloc (.cells #[.int .i64 b.k, .int .i64 b.n, .int .u64 b.u, .string b.s] 28)) = w1 at *
  refine (rp_y a plA _).mono ?_
  rintro e w2 ⟨rfl, qw2⟩
  replace hA := hA.ca qw2
  replace hB := hB.ca qw2
  replace bb := bl_ca bb qw2
  clear qw2
  have hB_0 : w2.cell? ⟨w.heap.size + 1, 0, none⟩ = some (.int .i64 b.k) := hB.cell 0
  have hB_1 : w2.cell? ⟨w.heap.size + 1, 1, none⟩ = some (.int .i64 b.n) := hB.cell 1
  have hB_2 : w2.cell? ⟨w.heap.size + 1, 2, none⟩ = some (.int .u64 b.u) := hB.cell 2
  have hB_3 : w2.cell? ⟨w.heap.size + 1, 3, none⟩ = some (.string b.s) := hB.cell 3
  go_wp2_with fail
  clear hB_0 hB_1 hB_2 hB_3
  refine (rp_y b plB _).mono ?_
  rintro e w3 ⟨rfl, qw3⟩
  replace hA := hA.ca qw3
  replace hB := hB.ca qw3
  replace bb := bl_ca bb qw3
  clear qw3
  have hA_0 : w3.cell? ⟨w.heap.size, 0, none⟩ = some (.int .i64 a.k) := hA.cell 0
  have hA_1 : w3.cell? ⟨w.heap.size, 1, none⟩ = some (.int .i64 a.n) := hA.cell 1
  have hA_2 : w3.cell? ⟨w.heap.size, 2, none⟩ = some (.int .u64 a.u) := hA.cell 2
  have hA_3 : w3.cell? ⟨w.heap.size, 3, none⟩ = some (.string a.s) := hA.cell 3
  have hB_0 : w3.cell? ⟨w.heap.size + 1, 0, none⟩ = some (.int .i64 b.k) := hB.cell 0
  have hB_1 : w3.cell? ⟨w.heap.size + 1, 1, none⟩ = some (.int .i64 b.n) := hB.cell 1
  have hB_2 : w3.cell? ⟨w.heap.size + 1, 2, none⟩ = some (.int .u64 b.u) := hB.cell 2
  have hB_3 : w3.cell? ⟨w.heap.size + 1, 3, none⟩ = some (.string b.s) := hB.cell 3
  go_wp2
  clear hA_0 hA_1 hA_2 hA_3 hB_0 hB_1 hB_2 hB_3
  go_ret
  exact ⟨rfl, bb⟩
set_option maxRecDepth 100000 in
set_option maxHeartbeats 4000000 in
theorem rcmp_4 (a b : VV) (plA : (a.plain) = true) (plB : (b.plain) = true) (nab : (a.k != b.k) = true) (lk : (decide (a.k < b.k)) = false)  (w : World) : Calls Tryd.prog 35 #[.agg #[.int .i64 a.k, .int .i64 a.n, .int .u64 a.u, .string a.s], .agg #[.int .i64 b.k, .int .i64 b.n, .int .u64 b.u, .string b.s]] w fun e w' => e = .returned (.int .i64 1) ∧ Below w.heap.size w w' := by
  have hA := ((Blk.new w 28 #[.int .i64 a.k, .int .i64 a.n, .int .u64 a.u, .string a.s]).alloc (.cells #[.int .i64 b.k, .int .i64 b.n, .int .u64 b.u, .string b.s] 28))
  have hB := (Blk.new (w.alloc (.cells #[.int .i64 a.k, .int .i64 a.n, .int .u64 a.u, .string a.s] 28)) 28 #[.int .i64 b.k, .int .i64 b.n, .int .u64 b.u, .string b.s])
  have bb := (bl_al (bl_al (Below.refl w.heap.size w) (.cells #[.int .i64 a.k, .int .i64 a.n, .int .u64 a.u, .string a.s] 28)) (.cells #[.int .i64 b.k, .int .i64 b.n, .int .u64 b.u, .string b.s] 28))
  simp only [World.size_alloc] at hB
  go_enter Tryd.func35, Tryd.ntmps35
  go_wp2_with fail
  generalize ((w.alloc (.cells #[.int .i64 a.k, .int .i64 a.n, .int .u64 a.u, .string a.s] 28)).alloc (.cells #[.int .i64 b.k, .int .i64 b.n, .int .u64 b.u, .string b.s] 28)) = w1 at *
  refine (rp_y a plA _).mono ?_
  rintro e w2 ⟨rfl, qw2⟩
  replace hA := hA.ca qw2
  replace hB := hB.ca qw2
  replace bb := bl_ca bb qw2
  clear qw2
  have hB_0 : w2.cell? ⟨w.heap.size + 1, 0, none⟩ = some (.int .i64 b.k) := hB.cell 0
  have hB_1 : w2.cell? ⟨w.heap.size + 1, 1, none⟩ = some (.int .i64 b.n) := hB.cell 1
  have hB_2 : w2.cell? ⟨w.heap.size + 1, 2, none⟩ = some (.int .u64 b.u) := hB.cell 2
  have hB_3 : w2.cell? ⟨w.heap.size + 1, 3, none⟩ = some (.string b.s) := hB.cell 3
  go_wp2_with fail
  clear hB_0 hB_1 hB_2 hB_3
  refine (rp_y b plB _).mono ?_
  rintro e w3 ⟨rfl, qw3⟩
  replace hA := hA.ca qw3
  replace hB := hB.ca qw3
  replace bb := bl_ca bb qw3
  clear qw3
  have hA_0 : w3.cell? ⟨w.heap.size, 0, none⟩ = some (.int .i64 a.k) := hA.cell 0
  have hA_1 : w3.cell? ⟨w.heap.size, 1, none⟩ = some (.int .i64 a.n) := hA.cell 1
  have hA_2 : w3.cell? ⟨w.heap.size, 2, none⟩ = some (.int .u64 a.u) := hA.cell 2
  have hA_3 : w3.cell? ⟨w.heap.size, 3, none⟩ = some (.string a.s) := hA.cell 3
  have hB_0 : w3.cell? ⟨w.heap.size + 1, 0, none⟩ = some (.int .i64 b.k) := hB.cell 0
  have hB_1 : w3.cell? ⟨w.heap.size + 1, 1, none⟩ = some (.int .i64 b.n) := hB.cell 1
  have hB_2 : w3.cell? ⟨w.heap.size + 1, 2, none⟩ = some (.int .u64 b.u) := hB.cell 2
  have hB_3 : w3.cell? ⟨w.heap.size + 1, 3, none⟩ = some (.string b.s) := hB.cell 3
  go_wp2
  clear hA_0 hA_1 hA_2 hA_3 hB_0 hB_1 hB_2 hB_3
  go_ret
  exact ⟨rfl, bb⟩
set_option maxRecDepth 100000 in
set_option maxHeartbeats 4000000 in
theorem rcmp_5 (a b : VV) (plA : (a.plain) = true) (plB : (b.plain) = true) (nab : (a.k != b.k) = false) (nn : (a.n != b.n) = true) (ln : (decide (a.n < b.n)) = true)  (w : World) : Calls Tryd.prog 35 #[.agg #[.int .i64 a.k, .int .i64 a.n, .int .u64 a.u, .string a.s], .agg #[.int .i64 b.k, .int .i64 b.n, .int .u64 b.u, .string b.s]] w fun e w' => e = .returned (.int .i64 (-1)) ∧ Below w.heap.size w w' := by
  have hA := ((Blk.new w 28 #[.int .i64 a.k, .int .i64 a.n, .int .u64 a.u, .string a.s]).alloc (.cells #[.int .i64 b.k, .int .i64 b.n, .int .u64 b.u, .string b.s] 28))
  have hB := (Blk.new (w.alloc (.cells #[.int .i64 a.k, .int .i64 a.n, .int .u64 a.u, .string a.s] 28)) 28 #[.int .i64 b.k, .int .i64 b.n, .int .u64 b.u, .string b.s])
  have bb := (bl_al (bl_al (Below.refl w.heap.size w) (.cells #[.int .i64 a.k, .int .i64 a.n, .int .u64 a.u, .string a.s] 28)) (.cells #[.int .i64 b.k, .int .i64 b.n, .int .u64 b.u, .string b.s] 28))
  simp only [World.size_alloc] at hB
  go_enter Tryd.func35, Tryd.ntmps35
  go_wp2_with fail
  generalize ((w.alloc (.cells #[.int .i64 a.k, .int .i64 a.n, .int .u64 a.u, .string a.s] 28)).alloc (.cells #[.int .i64 b.k, .int .i64 b.n, .int .u64 b.u, .string b.s] 28)) = w1 at *
  refine (rp_y a plA _).mono ?_
  rintro e w2 ⟨rfl, qw2⟩
  replace hA := hA.ca qw2
  replace hB := hB.ca qw2
  replace bb := bl_ca bb qw2
  clear qw2
  have hB_0 : w2.cell? ⟨w.heap.size + 1, 0, none⟩ = some (.int .i64 b.k) := hB.cell 0
  have hB_1 : w2.cell? ⟨w.heap.size + 1, 1, none⟩ = some (.int .i64 b.n) := hB.cell 1
  have hB_2 : w2.cell? ⟨w.heap.size + 1, 2, none⟩ = some (.int .u64 b.u) := hB.cell 2
  have hB_3 : w2.cell? ⟨w.heap.size + 1, 3, none⟩ = some (.string b.s) := hB.cell 3
  go_wp2_with fail
  clear hB_0 hB_1 hB_2 hB_3
  refine (rp_y b plB _).mono ?_
  rintro e w3 ⟨rfl, qw3⟩
  replace hA := hA.ca qw3
  replace hB := hB.ca qw3
  replace bb := bl_ca bb qw3
  clear qw3
  have hA_0 : w3.cell? ⟨w.heap.size, 0, none⟩ = some (.int .i64 a.k) := hA.cell 0
  have hA_1 : w3.cell? ⟨w.heap.size, 1, none⟩ = some (.int .i64 a.n) := hA.cell 1
  have hA_2 : w3.cell? ⟨w.heap.size, 2, none⟩ = some (.int .u64 a.u) := hA.cell 2
  have hA_3 : w3.cell? ⟨w.heap.size, 3, none⟩ = some (.string a.s) := hA.cell 3
  have hB_0 : w3.cell? ⟨w.heap.size + 1, 0, none⟩ = some (.int .i64 b.k) := hB.cell 0
  have hB_1 : w3.cell? ⟨w.heap.size + 1, 1, none⟩ = some (.int .i64 b.n) := hB.cell 1
  have hB_2 : w3.cell? ⟨w.heap.size + 1, 2, none⟩ = some (.int .u64 b.u) := hB.cell 2
  have hB_3 : w3.cell? ⟨w.heap.size + 1, 3, none⟩ = some (.string b.s) := hB.cell 3
  go_wp2
  clear hA_0 hA_1 hA_2 hA_3 hB_0 hB_1 hB_2 hB_3
  go_ret
  exact ⟨rfl, bb⟩
set_option maxRecDepth 100000 in
set_option maxHeartbeats 4000000 in
theorem rcmp_6 (a b : VV) (plA : (a.plain) = true) (plB : (b.plain) = true) (nab : (a.k != b.k) = false) (nn : (a.n != b.n) = true) (ln : (decide (a.n < b.n)) = false)  (w : World) : Calls Tryd.prog 35 #[.agg #[.int .i64 a.k, .int .i64 a.n, .int .u64 a.u, .string a.s], .agg #[.int .i64 b.k, .int .i64 b.n, .int .u64 b.u, .string b.s]] w fun e w' => e = .returned (.int .i64 1) ∧ Below w.heap.size w w' := by
  have hA := ((Blk.new w 28 #[.int .i64 a.k, .int .i64 a.n, .int .u64 a.u, .string a.s]).alloc (.cells #[.int .i64 b.k, .int .i64 b.n, .int .u64 b.u, .string b.s] 28))
  have hB := (Blk.new (w.alloc (.cells #[.int .i64 a.k, .int .i64 a.n, .int .u64 a.u, .string a.s] 28)) 28 #[.int .i64 b.k, .int .i64 b.n, .int .u64 b.u, .string b.s])
  have bb := (bl_al (bl_al (Below.refl w.heap.size w) (.cells #[.int .i64 a.k, .int .i64 a.n, .int .u64 a.u, .string a.s] 28)) (.cells #[.int .i64 b.k, .int .i64 b.n, .int .u64 b.u, .string b.s] 28))
  simp only [World.size_alloc] at hB
  go_enter Tryd.func35, Tryd.ntmps35
  go_wp2_with fail
  generalize ((w.alloc (.cells #[.int .i64 a.k, .int .i64 a.n, .int .u64 a.u, .string a.s] 28)).alloc (.cells #[.int .i64 b.k, .int .i64 b.n, .int .u64 b.u, .string b.s] 28)) = w1 at *
  refine (rp_y a plA _).mono ?_
  rintro e w2 ⟨rfl, qw2⟩
  replace hA := hA.ca qw2
  replace hB := hB.ca qw2
  replace bb := bl_ca bb qw2
  clear qw2
  have hB_0 : w2.cell? ⟨w.heap.size + 1, 0, none⟩ = some (.int .i64 b.k) := hB.cell 0
  have hB_1 : w2.cell? ⟨w.heap.size + 1, 1, none⟩ = some (.int .i64 b.n) := hB.cell 1
  have hB_2 : w2.cell? ⟨w.heap.size + 1, 2, none⟩ = some (.int .u64 b.u) := hB.cell 2
  have hB_3 : w2.cell? ⟨w.heap.size + 1, 3, none⟩ = some (.string b.s) := hB.cell 3
  go_wp2_with fail
  clear hB_0 hB_1 hB_2 hB_3
  refine (rp_y b plB _).mono ?_
  rintro e w3 ⟨rfl, qw3⟩
  replace hA := hA.ca qw3
  replace hB := hB.ca qw3
  replace bb := bl_ca bb qw3
  clear qw3
  have hA_0 : w3.cell? ⟨w.heap.size, 0, none⟩ = some (.int .i64 a.k) := hA.cell 0
  have hA_1 : w3.cell? ⟨w.heap.size, 1, none⟩ = some (.int .i64 a.n) := hA.cell 1
  have hA_2 : w3.cell? ⟨w.heap.size, 2, none⟩ = some (.int .u64 a.u) := hA.cell 2
  have hA_3 : w3.cell? ⟨w.heap.size, 3, none⟩ = some (.string a.s) := hA.cell 3
  have hB_0 : w3.cell? ⟨w.heap.size + 1, 0, none⟩ = some (.int .i64 b.k) := hB.cell 0
  have hB_1 : w3.cell? ⟨w.heap.size + 1, 1, none⟩ = some (.int .i64 b.n) := hB.cell 1
  have hB_2 : w3.cell? ⟨w.heap.size + 1, 2, none⟩ = some (.int .u64 b.u) := hB.cell 2
  have hB_3 : w3.cell? ⟨w.heap.size + 1, 3, none⟩ = some (.string b.s) := hB.cell 3
  go_wp2
  clear hA_0 hA_1 hA_2 hA_3 hB_0 hB_1 hB_2 hB_3
  go_ret
  exact ⟨rfl, bb⟩
def AtC (a b : List UInt8) (i : Nat) (r : Int) : Prop := r = cb (a.drop i) (b.drop i)
section
variable {a b : List UInt8} {i : Nat} {r : Int}
theorem AtC.two (h : AtC a b i r) (ha : i < a.length) (hb : i < b.length) : r = if a[i] < b[i] then -1 else if b[i] < a[i] then 1 else cb (a.drop (i + 1)) (b.drop (i + 1)) := by
  unfold AtC at h
  rw [List.drop_eq_getElem_cons ha, List.drop_eq_getElem_cons hb] at h
  exact h
theorem AtC.eq (h : AtC a b i r) (ha : i < a.length) (hb : i < b.length) (he : (a[i].toNat : Int) = b[i].toNat) : AtC a b (i + 1) r := by
  have := h.two ha hb
  rw [if_neg (by rw [UInt8.lt_iff_toNat_lt]; omega), if_neg (by rw [UInt8.lt_iff_toNat_lt]; omega)] at this
  exact this
theorem AtC.lt (h : AtC a b i r) (ha : i < a.length) (hb : i < b.length) (he : (a[i].toNat : Int) < b[i].toNat) : r = -1 := by
  have := h.two ha hb
  rwa [if_pos (by rw [UInt8.lt_iff_toNat_lt]; omega)] at this
theorem AtC.gt (h : AtC a b i r) (ha : i < a.length) (hb : i < b.length) (he : (b[i].toNat : Int) < a[i].toNat) : r = 1 := by
  have := h.two ha hb
  rwa [if_neg (by rw [UInt8.lt_iff_toNat_lt]; omega), if_pos (by rw [UInt8.lt_iff_toNat_lt]; omega)] at this
theorem AtC.long (h : AtC a b i r) (ha : i < a.length) (hb : b.length ≤ i) : r = 1 := by
  unfold AtC at h
  rw [List.drop_eq_getElem_cons ha, List.drop_of_length_le hb] at h
  exact h
theorem AtC.shortr (h : AtC a b i r) (ha : a.length ≤ i) (hb : i < b.length) : r = -1 := by
  unfold AtC at h
  rw [List.drop_eq_getElem_cons hb, List.drop_of_length_le ha] at h
  exact h
theorem AtC.both (h : AtC a b i r) (ha : a.length ≤ i) (hb : b.length ≤ i) : r = 0 := by
  unfold AtC at h
  rw [List.drop_of_length_le hb, List.drop_of_length_le ha] at h
  exact h
end
set_option maxRecDepth 100000 in
set_option maxHeartbeats 4000000 in
theorem rcmp_7 (a b : VV) (plA : (a.plain) = true) (plB : (b.plain) = true) (nab : (a.k != b.k) = false) (nn : (a.n != b.n) = false)  (w : World) : Calls Tryd.prog 35 #[.agg #[.int .i64 a.k, .int .i64 a.n, .int .u64 a.u, .string a.s], .agg #[.int .i64 b.k, .int .i64 b.n, .int .u64 b.u, .string b.s]] w fun e w' => e = .returned (.int .i64 (cb a.s.data.toList b.s.data.toList)) ∧ Below w.heap.size w w' := by
  have hsz := plain_size plA
  obtain ⟨r, hr⟩ : ∃ r, r = cb a.s.data.toList b.s.data.toList := ⟨_, rfl⟩
  rw [← hr]
  have HC : AtC a.s.data.toList b.s.data.toList 0 r := hr
  clear hr
  have hA := ((Blk.new w 28 #[.int .i64 a.k, .int .i64 a.n, .int .u64 a.u, .string a.s]).alloc (.cells #[.int .i64 b.k, .int .i64 b.n, .int .u64 b.u, .string b.s] 28))
  have hB := (Blk.new (w.alloc (.cells #[.int .i64 a.k, .int .i64 a.n, .int .u64 a.u, .string a.s] 28)) 28 #[.int .i64 b.k, .int .i64 b.n, .int .u64 b.u, .string b.s])
  have bb := (bl_al (bl_al (Below.refl w.heap.size w) (.cells #[.int .i64 a.k, .int .i64 a.n, .int .u64 a.u, .string a.s] 28)) (.cells #[.int .i64 b.k, .int .i64 b.n, .int .u64 b.u, .string b.s] 28))
  simp only [World.size_alloc] at hB
  go_enter Tryd.func35, Tryd.ntmps35
  go_wp2_with fail
  generalize ((w.alloc (.cells #[.int .i64 a.k, .int .i64 a.n, .int .u64 a.u, .string a.s] 28)).alloc (.cells #[.int .i64 b.k, .int .i64 b.n, .int .u64 b.u, .string b.s] 28)) = w1 at *
  refine (rp_y a plA _).mono ?_
  rintro e w2 ⟨rfl, qw2⟩
  replace hA := hA.ca qw2
  replace hB := hB.ca qw2
  replace bb := bl_ca bb qw2
  clear qw2
  have hB_0 : w2.cell? ⟨w.heap.size + 1, 0, none⟩ = some (.int .i64 b.k) := hB.cell 0
  have hB_1 : w2.cell? ⟨w.heap.size + 1, 1, none⟩ = some (.int .i64 b.n) := hB.cell 1
  have hB_2 : w2.cell? ⟨w.heap.size + 1, 2, none⟩ = some (.int .u64 b.u) := hB.cell 2
  have hB_3 : w2.cell? ⟨w.heap.size + 1, 3, none⟩ = some (.string b.s) := hB.cell 3
  go_wp2_with fail
  clear hB_0 hB_1 hB_2 hB_3
  refine (rp_y b plB _).mono ?_
  rintro e w3 ⟨rfl, qw3⟩
  replace hA := hA.ca qw3
  replace hB := hB.ca qw3
  replace bb := bl_ca bb qw3
  clear qw3
  have hA_0 : w3.cell? ⟨w.heap.size, 0, none⟩ = some (.int .i64 a.k) := hA.cell 0
  have hA_1 : w3.cell? ⟨w.heap.size, 1, none⟩ = some (.int .i64 a.n) := hA.cell 1
  have hA_2 : w3.cell? ⟨w.heap.size, 2, none⟩ = some (.int .u64 a.u) := hA.cell 2
  have hA_3 : w3.cell? ⟨w.heap.size, 3, none⟩ = some (.string a.s) := hA.cell 3
  have hB_0 : w3.cell? ⟨w.heap.size + 1, 0, none⟩ = some (.int .i64 b.k) := hB.cell 0
  have hB_1 : w3.cell? ⟨w.heap.size + 1, 1, none⟩ = some (.int .i64 b.n) := hB.cell 1
  have hB_2 : w3.cell? ⟨w.heap.size + 1, 2, none⟩ = some (.int .u64 b.u) := hB.cell 2
  have hB_3 : w3.cell? ⟨w.heap.size + 1, 3, none⟩ = some (.string b.s) := hB.cell 3
  go_wp2
  clear hA_0 hA_1 hA_2 hA_3 hB_0 hB_1 hB_2 hB_3
  clear plA plB nab nn
  go_loopg [5] a.s.size (fun g s wr => ∃ i : Nat, i + g ≤ a.s.size ∧ a.s.size ≤ i + g ∧ i ≤ b.s.size ∧ s = .int .i64 i ∧ AtC a.s.data.toList b.s.data.toList i r ∧ Blk wr (w.heap.size) 28 #[.int .i64 a.k, .int .i64 a.n, .int .u64 a.u, .string a.s] ∧ Blk wr (w.heap.size + 1) 28 #[.int .i64 b.k, .int .i64 b.n, .int .u64 b.u, .string b.s] ∧ Below w.heap.size w wr)
  case atStart => exact ⟨0, by omega, by omega, by omega, rfl, HC, hA, hB, bb⟩
  case round =>
    clear hA hB bb HC
    obtain ⟨i, hi1, hi2, hi3, rfl, HC, hA, hB, bb⟩ := hrel
    have hA_0 : wr.cell? ⟨w.heap.size, 0, none⟩ = some (.int .i64 a.k) := hA.cell 0
    have hA_1 : wr.cell? ⟨w.heap.size, 1, none⟩ = some (.int .i64 a.n) := hA.cell 1
    have hA_2 : wr.cell? ⟨w.heap.size, 2, none⟩ = some (.int .u64 a.u) := hA.cell 2
    have hA_3 : wr.cell? ⟨w.heap.size, 3, none⟩ = some (.string a.s) := hA.cell 3
    have hB_0 : wr.cell? ⟨w.heap.size + 1, 0, none⟩ = some (.int .i64 b.k) := hB.cell 0
    have hB_1 : wr.cell? ⟨w.heap.size + 1, 1, none⟩ = some (.int .i64 b.n) := hB.cell 1
    have hB_2 : wr.cell? ⟨w.heap.size + 1, 2, none⟩ = some (.int .u64 b.u) := hB.cell 2
    have hB_3 : wr.cell? ⟨w.heap.size + 1, 3, none⟩ = some (.string b.s) := hB.cell 3
    by_cases ha : i < a.s.size
    · by_cases hb : i < b.s.size
      · have hx : a.s[i] = a.s.data.toList[i]'(by simpa using ha) := rfl
        have hy : b.s[i] = b.s.data.toList[i]'(by simpa using hb) := rfl
        have HX := Lib.hid hx
        have HY := Lib.hid hy
        clear hx hy
        cases t : ((a.s[i].toNat : Int) != (b.s[i].toNat : Int))
        · have HN := Lib.hid (HC.eq (by simpa using ha) (by simpa using hb) (by rw [← HX.out, ← HY.out]; simpa using t))
          clear HX HY HC
          go_wp2_with fail
          go_quiet (fail)
          go_wp2
          go_roundg (gk - 1)
          · exact ⟨i + 1, by omega, by omega, by omega, by go_num, HN.out, hA.drewN _, hB.drewN _, bl_dr bb _⟩
          · omega
        · cases t2 : decide (a.s[i].toNat < b.s[i].toNat)
          · have HN := Lib.hid (HC.gt (by simpa using ha) (by simpa using hb) (by rw [← HX.out, ← HY.out]; simp at t t2; omega))
            clear HX HY HC
            go_wp2_with fail
            go_quiet (fail)
            go_wp2_with fail
            go_quiet (fail)
            go_wp2
            go_ret
            exact ⟨by rw [HN.out]; rfl, bl_dr (bl_dr bb _) _⟩
          · have HN := Lib.hid (HC.lt (by simpa using ha) (by simpa using hb) (by rw [← HX.out, ← HY.out]; simp at t2; omega))
            clear HX HY HC
            go_wp2_with fail
            go_quiet (fail)
            go_wp2_with fail
            go_quiet (fail)
            go_wp2
            go_ret
            exact ⟨by rw [HN.out]; rfl, bl_dr (bl_dr bb _) _⟩
      · have e : i = b.s.size := by omega
        have hd : decide (i < b.s.size) = false := decide_eq_false hb
        have t1 : ((a.s.size : Int) != (b.s.size : Int)) = true := ibne_t (by omega)
        have t2 : decide (a.s.size < b.s.size) = false := decide_eq_false (by omega)
        have HN := Lib.hid (HC.long (by simpa using ha) (by simp; omega))
        clear HC e hi1 hi2 hi3
        go_wp2
        go_ret
        exact ⟨by rw [HN.out]; rfl, bb⟩
    · have e : i = a.s.size := by omega
      by_cases hb : i < b.s.size
      · have t1 : ((a.s.size : Int) != (b.s.size : Int)) = true := ibne_t (by omega)
        have t2 : decide (a.s.size < b.s.size) = true := decide_eq_true (by omega)
        have HN := Lib.hid (HC.shortr (by simp; omega) (by simpa using hb))
        have hd : decide (i < a.s.size) = false := decide_eq_false ha
        clear HC e hi1 hi2 hi3
        go_wp2
        go_ret
        exact ⟨by rw [HN.out]; rfl, bb⟩
      · have t1 : ((a.s.size : Int) != (b.s.size : Int)) = false := ibne_f (by omega)
        have HN := Lib.hid (HC.both (by simp; omega) (by simp; omega))
        have hd : decide (i < a.s.size) = false := decide_eq_false ha
        clear HC e hi1 hi2 hi3
        go_wp2
        go_ret
        exact ⟨by rw [HN.out]; rfl, bb⟩
theorem rcompare_any (a b : VV) (w : World) : Calls Tryd.prog 35 #[.agg #[.int .i64 a.k, .int .i64 a.n, .int .u64 a.u, .string a.s], .agg #[.int .i64 b.k, .int .i64 b.n, .int .u64 b.u, .string b.s]] w fun e w' => e = .returned (.int .i64 (cmpV a b)) ∧ Below w.heap.size w w' := by
  have g : ∀ r : Int, cmpV a b = r → (Calls Tryd.prog 35 #[.agg #[.int .i64 a.k, .int .i64 a.n, .int .u64 a.u, .string a.s], .agg #[.int .i64 b.k, .int .i64 b.n, .int .u64 b.u, .string b.s]] w fun e w' => e = .returned (.int .i64 r) ∧ Below w.heap.size w w') → Calls Tryd.prog 35 #[.agg #[.int .i64 a.k, .int .i64 a.n, .int .u64 a.u, .string a.s], .agg #[.int .i64 b.k, .int .i64 b.n, .int .u64 b.u, .string b.s]] w fun e w' => e = .returned (.int .i64 (cmpV a b)) ∧ Below w.heap.size w w' := fun r e h => by rw [e]; exact h
  cases plA : a.plain
  · exact g 0 (by simp [cmpV, plA]) (rcmp_1 a b plA w)
  · cases plB : b.plain
    · exact g 0 (by simp [cmpV, plB]) (rcmp_2 a b plA plB w)
    · have e : cmpV a b = cmp3 a b := by simp [cmpV, plA, plB]
      unfold cmp3 orI at e
      rcases ci_cases a.k b.k with ⟨h, e1⟩ | ⟨h, e1⟩ | ⟨h, e1⟩
      · exact g (-1) (by rw [e, e1]; rfl) (rcmp_3 a b plA plB (ibne_t (by omega)) (decide_eq_true h) w)
      · exact g 1 (by rw [e, e1]; rfl) (rcmp_4 a b plA plB (ibne_t (by omega)) (decide_eq_false (by omega)) w)
      · rcases ci_cases a.n b.n with ⟨h', e2⟩ | ⟨h', e2⟩ | ⟨h', e2⟩
        · exact g (-1) (by rw [e, e1, e2]; rfl) (rcmp_5 a b plA plB (ibne_f h) (ibne_t (by omega)) (decide_eq_true h') w)
        · exact g 1 (by rw [e, e1, e2]; rfl) (rcmp_6 a b plA plB (ibne_f h) (ibne_t (by omega)) (decide_eq_false (by omega)) w)
        · exact g _ (by rw [e, e1, e2]; rfl) (rcmp_7 a b plA plB (ibne_f h) (ibne_f h') w)
set_option maxRecDepth 100000 in
set_option maxHeartbeats 4000000 in
theorem requal_1 (a b : VV) (e : (bothE a b != 0) = true)  (w : World) : Calls Tryd.prog 37 #[.agg #[.int .i64 a.k, .int .i64 a.n, .int .u64 a.u, .string a.s], .agg #[.int .i64 b.k, .int .i64 b.n, .int .u64 b.u, .string b.s]] w fun e w' => e = .returned (resT (V0, bothE a b)) ∧ Below w.heap.size w w' := by
  have HB := Lib.hid (fun w => both_any a b w)
  generalize bothE a b = r at *
  have hA := (((Blk.new w 28 #[.int .i64 a.k, .int .i64 a.n, .int .u64 a.u, .string a.s]).alloc (.cells #[.int .i64 b.k, .int .i64 b.n, .int .u64 b.u, .string b.s] 28)).alloc (.cells #[.int .i64 0, .int .i64 0, .int .u64 0, .string ⟨#[]⟩] 28))
  have hB := ((Blk.new (w.alloc (.cells #[.int .i64 a.k, .int .i64 a.n, .int .u64 a.u, .string a.s] 28)) 28 #[.int .i64 b.k, .int .i64 b.n, .int .u64 b.u, .string b.s]).alloc (.cells #[.int .i64 0, .int .i64 0, .int .u64 0, .string ⟨#[]⟩] 28))
  have hR := (Blk.new ((w.alloc (.cells #[.int .i64 a.k, .int .i64 a.n, .int .u64 a.u, .string a.s] 28)).alloc (.cells #[.int .i64 b.k, .int .i64 b.n, .int .u64 b.u, .string b.s] 28)) 28 #[.int .i64 0, .int .i64 0, .int .u64 0, .string ⟨#[]⟩])
  have bb := (bl_al (bl_al (bl_al (Below.refl w.heap.size w) (.cells #[.int .i64 a.k, .int .i64 a.n, .int .u64 a.u, .string a.s] 28)) (.cells #[.int .i64 b.k, .int .i64 b.n, .int .u64 b.u, .string b.s] 28)) (.cells #[.int .i64 0, .int .i64 0, .int .u64 0, .string ⟨#[]⟩] 28))
  simp only [World.size_alloc] at hB hR
  go_enter Tryd.func37, Tryd.ntmps37
  go_wp2_with fail
  generalize (((w.alloc (.cells #[.int .i64 a.k, .int .i64 a.n, .int .u64 a.u, .string a.s] 28)).alloc (.cells #[.int .i64 b.k, .int .i64 b.n, .int .u64 b.u, .string b.s] 28)).alloc (.cells #[.int .i64 0, .int .i64 0, .int .u64 0, .string ⟨#[]⟩] 28)) = w1 at *
  refine (HB.out _).mono ?_
  rintro e w2 ⟨rfl, qw2⟩
  replace hA := hA.ca qw2
  replace hB := hB.ca qw2
  replace hR := hR.ca qw2
  replace bb := bl_ca bb qw2
  clear qw2
  have KR := Lib.hid hR
  clear hR
  go_wp2_with (refine wpList_store_blk rfl 28 (.tmp 4) (.tmp 22) rfl (w.heap.size + 1 + 1) 28 _ _ rfl rfl KR.out rfl valI (one4 _ _ _ _) ?_; intro wz hZ gz)
  exact bodyPost_ret (res2 Tryd.results37 rfl rfl hZ Tryd.underlying28 rfl valI) rfl ⟨rfl, bl_gr bb gz (by omega)⟩
set_option maxRecDepth 100000 in
set_option maxHeartbeats 4000000 in
theorem requal_2 (a b : VV) (e : bothE a b = 0) (h : (a.k == 0) = true)  (w : World) : Calls Tryd.prog 37 #[.agg #[.int .i64 a.k, .int .i64 a.n, .int .u64 a.u, .string a.s], .agg #[.int .i64 b.k, .int .i64 b.n, .int .u64 b.u, .string b.s]] w fun e w' => e = .returned (resT (V0, 0)) ∧ Below w.heap.size w w' := by
  have HB := Lib.hid (fun w => (e ▸ both_any a b w : Calls Tryd.prog 60 #[.agg #[.int .i64 a.k, .int .i64 a.n, .int .u64 a.u, .string a.s], .agg #[.int .i64 b.k, .int .i64 b.n, .int .u64 b.u, .string b.s]] w fun e w' => e = .returned (.int .i64 0) ∧ Below w.heap.size w w'))
  clear e
  have hA := (((Blk.new w 28 #[.int .i64 a.k, .int .i64 a.n, .int .u64 a.u, .string a.s]).alloc (.cells #[.int .i64 b.k, .int .i64 b.n, .int .u64 b.u, .string b.s] 28)).alloc (.cells #[.int .i64 0, .int .i64 0, .int .u64 0, .string ⟨#[]⟩] 28))
  have hB := ((Blk.new (w.alloc (.cells #[.int .i64 a.k, .int .i64 a.n, .int .u64 a.u, .string a.s] 28)) 28 #[.int .i64 b.k, .int .i64 b.n, .int .u64 b.u, .string b.s]).alloc (.cells #[.int .i64 0, .int .i64 0, .int .u64 0, .string ⟨#[]⟩] 28))
  have hR := (Blk.new ((w.alloc (.cells #[.int .i64 a.k, .int .i64 a.n, .int .u64 a.u, .string a.s] 28)).alloc (.cells #[.int .i64 b.k, .int .i64 b.n, .int .u64 b.u, .string b.s] 28)) 28 #[.int .i64 0, .int .i64 0, .int .u64 0, .string ⟨#[]⟩])
  have bb := (bl_al (bl_al (bl_al (Below.refl w.heap.size w) (.cells #[.int .i64 a.k, .int .i64 a.n, .int .u64 a.u, .string a.s] 28)) (.cells #[.int .i64 b.k, .int .i64 b.n, .int .u64 b.u, .string b.s] 28)) (.cells #[.int .i64 0, .int .i64 0, .int .u64 0, .string ⟨#[]⟩] 28))
  simp only [World.size_alloc] at hB hR
  go_enter Tryd.func37, Tryd.ntmps37
  go_wp2_with fail
  generalize (((w.alloc (.cells #[.int .i64 a.k, .int .i64 a.n, .int .u64 a.u, .string a.s] 28)).alloc (.cells #[.int .i64 b.k, .int .i64 b.n, .int .u64 b.u, .string b.s] 28)).alloc (.cells #[.int .i64 0, .int .i64 0, .int .u64 0, .string ⟨#[]⟩] 28)) = w1 at *
  refine (HB.out _).mono ?_
  rintro e w2 ⟨rfl, qw2⟩
  replace hA := hA.ca qw2
  replace hB := hB.ca qw2
  replace hR := hR.ca qw2
  replace bb := bl_ca bb qw2
  clear qw2
  have hA_0 : w2.cell? ⟨w.heap.size, 0, none⟩ = some (.int .i64 a.k) := hA.cell 0
  have hA_1 : w2.cell? ⟨w.heap.size, 1, none⟩ = some (.int .i64 a.n) := hA.cell 1
  have hA_2 : w2.cell? ⟨w.heap.size, 2, none⟩ = some (.int .u64 a.u) := hA.cell 2
  have hA_3 : w2.cell? ⟨w.heap.size, 3, none⟩ = some (.string a.s) := hA.cell 3
  have KR := Lib.hid hR
  clear hR
  go_wp2_with (refine wpList_store_blk rfl 28 (.tmp 4) (.tmp 22) rfl (w.heap.size + 1 + 1) 28 _ _ rfl rfl KR.out rfl valI (one4 _ _ _ _) ?_; intro wz hZ gz)
  exact bodyPost_ret (res2 Tryd.results37 rfl rfl hZ Tryd.underlying28 rfl valI) rfl ⟨rfl, bl_gr bb gz (by omega)⟩
set_option maxRecDepth 100000 in
set_option maxHeartbeats 4000000 in
theorem requal_3 (a b : VV) (e : bothE a b = 0) (h : (a.k == 0) = false) (h2 : (b.k == 0) = true)  (w : World) : Calls Tryd.prog 37 #[.agg #[.int .i64 a.k, .int .i64 a.n, .int .u64 a.u, .string a.s], .agg #[.int .i64 b.k, .int .i64 b.n, .int .u64 b.u, .string b.s]] w fun e w' => e = .returned (resT (V0, 0)) ∧ Below w.heap.size w w' := by
  have HB := Lib.hid (fun w => (e ▸ both_any a b w : Calls Tryd.prog 60 #[.agg #[.int .i64 a.k, .int .i64 a.n, .int .u64 a.u, .string a.s], .agg #[.int .i64 b.k, .int .i64 b.n, .int .u64 b.u, .string b.s]] w fun e w' => e = .returned (.int .i64 0) ∧ Below w.heap.size w w'))
  clear e
  have hA := (((Blk.new w 28 #[.int .i64 a.k, .int .i64 a.n, .int .u64 a.u, .string a.s]).alloc (.cells #[.int .i64 b.k, .int .i64 b.n, .int .u64 b.u, .string b.s] 28)).alloc (.cells #[.int .i64 0, .int .i64 0, .int .u64 0, .string ⟨#[]⟩] 28))
  have hB := ((Blk.new (w.alloc (.cells #[.int .i64 a.k, .int .i64 a.n, .int .u64 a.u, .string a.s] 28)) 28 #[.int .i64 b.k, .int .i64 b.n, .int .u64 b.u, .string b.s]).alloc (.cells #[.int .i64 0, .int .i64 0, .int .u64 0, .string ⟨#[]⟩] 28))
  have hR := (Blk.new ((w.alloc (.cells #[.int .i64 a.k, .int .i64 a.n, .int .u64 a.u, .string a.s] 28)).alloc (.cells #[.int .i64 b.k, .int .i64 b.n, .int .u64 b.u, .string b.s] 28)) 28 #[.int .i64 0, .int .i64 0, .int .u64 0, .string ⟨#[]⟩])
  have bb := (bl_al (bl_al (bl_al (Below.refl w.heap.size w) (.cells #[.int .i64 a.k, .int .i64 a.n, .int .u64 a.u, .string a.s] 28)) (.cells #[.int .i64 b.k, .int .i64 b.n, .int .u64 b.u, .string b.s] 28)) (.cells #[.int .i64 0, .int .i64 0, .int .u64 0, .string ⟨#[]⟩] 28))
  simp only [World.size_alloc] at hB hR
  go_enter Tryd.func37, Tryd.ntmps37
  go_wp2_with fail
  generalize (((w.alloc (.cells #[.int .i64 a.k, .int .i64 a.n, .int .u64 a.u, .string a.s] 28)).alloc (.cells #[.int .i64 b.k, .int .i64 b.n, .int .u64 b.u, .string b.s] 28)).alloc (.cells #[.int .i64 0, .int .i64 0, .int .u64 0, .string ⟨#[]⟩] 28)) = w1 at *
  refine (HB.out _).mono ?_
  rintro e w2 ⟨rfl, qw2⟩
  replace hA := hA.ca qw2
  replace hB := hB.ca qw2
  replace hR := hR.ca qw2
  replace bb := bl_ca bb qw2
  clear qw2
  have hA_0 : w2.cell? ⟨w.heap.size, 0, none⟩ = some (.int .i64 a.k) := hA.cell 0
  have hA_1 : w2.cell? ⟨w.heap.size, 1, none⟩ = some (.int .i64 a.n) := hA.cell 1
  have hA_2 : w2.cell? ⟨w.heap.size, 2, none⟩ = some (.int .u64 a.u) := hA.cell 2
  have hA_3 : w2.cell? ⟨w.heap.size, 3, none⟩ = some (.string a.s) := hA.cell 3
  have hB_0 : w2.cell? ⟨w.heap.size + 1, 0, none⟩ = some (.int .i64 b.k) := hB.cell 0
  have hB_1 : w2.cell? ⟨w.heap.size + 1, 1, none⟩ = some (.int .i64 b.n) := hB.cell 1
  have hB_2 : w2.cell? ⟨w.heap.size + 1, 2, none⟩ = some (.int .u64 b.u) := hB.cell 2
  have hB_3 : w2.cell? ⟨w.heap.size + 1, 3, none⟩ = some (.string b.s) := hB.cell 3
  have KR := Lib.hid hR
  clear hR
  go_wp2_with (refine wpList_store_blk rfl 28 (.tmp 4) (.tmp 22) rfl (w.heap.size + 1 + 1) 28 _ _ rfl rfl KR.out rfl valI (one4 _ _ _ _) ?_; intro wz hZ gz)
  exact bodyPost_ret (res2 Tryd.results37 rfl rfl hZ Tryd.underlying28 rfl valI) rfl ⟨rfl, bl_gr bb gz (by omega)⟩
set_option maxRecDepth 100000 in
set_option maxHeartbeats 4000000 in
theorem requal_4t (a b : VV) (e : bothE a b = 0) (h : (a.k == 0) = false) (h2 : (b.k == 0) = false) (hc : (cmpV a b == 0) = true)  (w : World) : Calls Tryd.prog 37 #[.agg #[.int .i64 a.k, .int .i64 a.n, .int .u64 a.u, .string a.s], .agg #[.int .i64 b.k, .int .i64 b.n, .int .u64 b.u, .string b.s]] w fun e w' => e = .returned (resT (VB1, 0)) ∧ Below w.heap.size w w' := by
  have HB := Lib.hid (fun w => (e ▸ both_any a b w : Calls Tryd.prog 60 #[.agg #[.int .i64 a.k, .int .i64 a.n, .int .u64 a.u, .string a.s], .agg #[.int .i64 b.k, .int .i64 b.n, .int .u64 b.u, .string b.s]] w fun e w' => e = .returned (.int .i64 0) ∧ Below w.heap.size w w'))
  clear e
  have HD := Lib.hid (fun w => rcompare_any a b w)
  generalize cmpV a b = c at *
  have hA := (((Blk.new w 28 #[.int .i64 a.k, .int .i64 a.n, .int .u64 a.u, .string a.s]).alloc (.cells #[.int .i64 b.k, .int .i64 b.n, .int .u64 b.u, .string b.s] 28)).alloc (.cells #[.int .i64 0, .int .i64 0, .int .u64 0, .string ⟨#[]⟩] 28))
  have hB := ((Blk.new (w.alloc (.cells #[.int .i64 a.k, .int .i64 a.n, .int .u64 a.u, .string a.s] 28)) 28 #[.int .i64 b.k, .int .i64 b.n, .int .u64 b.u, .string b.s]).alloc (.cells #[.int .i64 0, .int .i64 0, .int .u64 0, .string ⟨#[]⟩] 28))
  have hR := (Blk.new ((w.alloc (.cells #[.int .i64 a.k, .int .i64 a.n, .int .u64 a.u, .string a.s] 28)).alloc (.cells #[.int .i64 b.k, .int .i64 b.n, .int .u64 b.u, .string b.s] 28)) 28 #[.int .i64 0, .int .i64 0, .int .u64 0, .string ⟨#[]⟩])
  have bb := (bl_al (bl_al (bl_al (Below.refl w.heap.size w) (.cells #[.int .i64 a.k, .int .i64 a.n, .int .u64 a.u, .string a.s] 28)) (.cells #[.int .i64 b.k, .int .i64 b.n, .int .u64 b.u, .string b.s] 28)) (.cells #[.int .i64 0, .int .i64 0, .int .u64 0, .string ⟨#[]⟩] 28))
  simp only [World.size_alloc] at hB hR
  go_enter Tryd.func37, Tryd.ntmps37
  go_wp2_with fail
  generalize (((w.alloc (.cells #[.int .i64 a.k, .int .i64 a.n, .int .u64 a.u, .string a.s] 28)).alloc (.cells #[.int .i64 b.k, .int .i64 b.n, .int .u64 b.u, .string b.s] 28)).alloc (.cells #[.int .i64 0, .int .i64 0, .int .u64 0, .string ⟨#[]⟩] 28)) = w1 at *
  refine (HB.out _).mono ?_
  rintro e w2 ⟨rfl, qw2⟩
  replace hA := hA.ca qw2
  replace hB := hB.ca qw2
  replace hR := hR.ca qw2
  replace bb := bl_ca bb qw2
  clear qw2
  have hA_0 : w2.cell? ⟨w.heap.size, 0, none⟩ = some (.int .i64 a.k) := hA.cell 0
  have hA_1 : w2.cell? ⟨w.heap.size, 1, none⟩ = some (.int .i64 a.n) := hA.cell 1
  have hA_2 : w2.cell? ⟨w.heap.size, 2, none⟩ = some (.int .u64 a.u) := hA.cell 2
  have hA_3 : w2.cell? ⟨w.heap.size, 3, none⟩ = some (.string a.s) := hA.cell 3
  have hB_0 : w2.cell? ⟨w.heap.size + 1, 0, none⟩ = some (.int .i64 b.k) := hB.cell 0
  have hB_1 : w2.cell? ⟨w.heap.size + 1, 1, none⟩ = some (.int .i64 b.n) := hB.cell 1
  have hB_2 : w2.cell? ⟨w.heap.size + 1, 2, none⟩ = some (.int .u64 b.u) := hB.cell 2
  have hB_3 : w2.cell? ⟨w.heap.size + 1, 3, none⟩ = some (.string b.s) := hB.cell 3
  go_wp2_with fail
  clear hA_0 hA_1 hA_2 hA_3 hB_0 hB_1 hB_2 hB_3
  refine (HD.out _).mono ?_
  rintro e w3 ⟨rfl, qw3⟩
  replace hA := hA.ca qw3
  replace hB := hB.ca qw3
  replace hR := hR.ca qw3
  replace bb := bl_ca bb qw3
  clear qw3
  go_wp2_with fail
  refine (rbool_true _).mono ?_
  rintro e w4 ⟨rfl, qw4⟩
  replace hA := hA.ca qw4
  replace hB := hB.ca qw4
  replace hR := hR.ca qw4
  replace bb := bl_ca bb qw4
  clear qw4
  have KR := Lib.hid hR
  clear hR
  go_wp2_with (refine wpList_store_blk rfl 28 (.tmp 4) (.tmp 28) rfl (w.heap.size + 1 + 1) 28 _ _ rfl rfl KR.out rfl valI (one4 _ _ _ _) ?_; intro wz hZ gz)
  exact bodyPost_ret (res2 Tryd.results37 rfl rfl hZ Tryd.underlying28 rfl valI) rfl ⟨rfl, bl_gr bb gz (by omega)⟩
set_option maxRecDepth 100000 in
set_option maxHeartbeats 4000000 in
theorem requal_4f (a b : VV) (e : bothE a b = 0) (h : (a.k == 0) = false) (h2 : (b.k == 0) = false) (hc : (cmpV a b == 0) = false)  (w : World) : Calls Tryd.prog 37 #[.agg #[.int .i64 a.k, .int .i64 a.n, .int .u64 a.u, .string a.s], .agg #[.int .i64 b.k, .int .i64 b.n, .int .u64 b.u, .string b.s]] w fun e w' => e = .returned (resT (VB0, 0)) ∧ Below w.heap.size w w' := by
  have HB := Lib.hid (fun w => (e ▸ both_any a b w : Calls Tryd.prog 60 #[.agg #[.int .i64 a.k, .int .i64 a.n, .int .u64 a.u, .string a.s], .agg #[.int .i64 b.k, .int .i64 b.n, .int .u64 b.u, .string b.s]] w fun e w' => e = .returned (.int .i64 0) ∧ Below w.heap.size w w'))
  clear e
  have HD := Lib.hid (fun w => rcompare_any a b w)
  generalize cmpV a b = c at *
  have hA := (((Blk.new w 28 #[.int .i64 a.k, .int .i64 a.n, .int .u64 a.u, .string a.s]).alloc (.cells #[.int .i64 b.k, .int .i64 b.n, .int .u64 b.u, .string b.s] 28)).alloc (.cells #[.int .i64 0, .int .i64 0, .int .u64 0, .string ⟨#[]⟩] 28))
  have hB := ((Blk.new (w.alloc (.cells #[.int .i64 a.k, .int .i64 a.n, .int .u64 a.u, .string a.s] 28)) 28 #[.int .i64 b.k, .int .i64 b.n, .int .u64 b.u, .string b.s]).alloc (.cells #[.int .i64 0, .int .i64 0, .int .u64 0, .string ⟨#[]⟩] 28))
  have hR := (Blk.new ((w.alloc (.cells #[.int .i64 a.k, .int .i64 a.n, .int .u64 a.u, .string a.s] 28)).alloc (.cells #[.int .i64 b.k, .int .i64 b.n, .int .u64 b.u, .string b.s] 28)) 28 #[.int .i64 0, .int .i64 0, .int .u64 0, .string ⟨#[]⟩])
  have bb := (bl_al (bl_al (bl_al (Below.refl w.heap.size w) (.cells #[.int .i64 a.k, .int .i64 a.n, .int .u64 a.u, .string a.s] 28)) (.cells #[.int .i64 b.k, .int .i64 b.n, .int .u64 b.u, .string b.s] 28)) (.cells #[.int .i64 0, .int .i64 0, .int .u64 0, .string ⟨#[]⟩] 28))
  simp only [World.size_alloc] at hB hR
  go_enter Tryd.func37, Tryd.ntmps37
  go_wp2_with fail
  generalize (((w.alloc (.cells #[.int .i64 a.k, .int .i64 a.n, .int .u64 a.u, .string a.s] 28)).alloc (.cells #[.int .i64 b.k, .int .i64 b.n, .int .u64 b.u, .string b.s] 28)).alloc (.cells #[.int .i64 0, .int .i64 0, .int .u64 0, .string ⟨#[]⟩] 28)) = w1 at *
  refine (HB.out _).mono ?_
  rintro e w2 ⟨rfl, qw2⟩
  replace hA := hA.ca qw2
  replace hB := hB.ca qw2
  replace hR := hR.ca qw2
  replace bb := bl_ca bb qw2
  clear qw2
  have hA_0 : w2.cell? ⟨w.heap.size, 0, none⟩ = some (.int .i64 a.k) := hA.cell 0
  have hA_1 : w2.cell? ⟨w.heap.size, 1, none⟩ = some (.int .i64 a.n) := hA.cell 1
  have hA_2 : w2.cell? ⟨w.heap.size, 2, none⟩ = some (.int .u64 a.u) := hA.cell 2
  have hA_3 : w2.cell? ⟨w.heap.size, 3, none⟩ = some (.string a.s) := hA.cell 3
  have hB_0 : w2.cell? ⟨w.heap.size + 1, 0, none⟩ = some (.int .i64 b.k) := hB.cell 0
  have hB_1 : w2.cell? ⟨w.heap.size + 1, 1, none⟩ = some (.int .i64 b.n) := hB.cell 1
  have hB_2 : w2.cell? ⟨w.heap.size + 1, 2, none⟩ = some (.int .u64 b.u) := hB.cell 2
  have hB_3 : w2.cell? ⟨w.heap.size + 1, 3, none⟩ = some (.string b.s) := hB.cell 3
  go_wp2_with fail
  clear hA_0 hA_1 hA_2 hA_3 hB_0 hB_1 hB_2 hB_3
  refine (HD.out _).mono ?_
  rintro e w3 ⟨rfl, qw3⟩
  replace hA := hA.ca qw3
  replace hB := hB.ca qw3
  replace hR := hR.ca qw3
  replace bb := bl_ca bb qw3
  clear qw3
  go_wp2_with fail
  refine (rbool_false _).mono ?_
  rintro e w4 ⟨rfl, qw4⟩
  replace hA := hA.ca qw4
  replace hB := hB.ca qw4
  replace hR := hR.ca qw4
  replace bb := bl_ca bb qw4
  clear qw4
  have KR := Lib.hid hR
  clear hR
  go_wp2_with (refine wpList_store_blk rfl 28 (.tmp 4) (.tmp 28) rfl (w.heap.size + 1 + 1) 28 _ _ rfl rfl KR.out rfl valI (one4 _ _ _ _) ?_; intro wz hZ gz)
  exact bodyPost_ret (res2 Tryd.results37 rfl rfl hZ Tryd.underlying28 rfl valI) rfl ⟨rfl, bl_gr bb gz (by omega)⟩
theorem requal_any (a b : VV) (w : World) : Calls Tryd.prog 37 #[.agg #[.int .i64 a.k, .int .i64 a.n, .int .u64 a.u, .string a.s], .agg #[.int .i64 b.k, .int .i64 b.n, .int .u64 b.u, .string b.s]] w fun e w' => e = .returned (resT (equalV a b)) ∧ Below w.heap.size w w' := by
  have g : ∀ r, equalV a b = r → (Calls Tryd.prog 37 #[.agg #[.int .i64 a.k, .int .i64 a.n, .int .u64 a.u, .string a.s], .agg #[.int .i64 b.k, .int .i64 b.n, .int .u64 b.u, .string b.s]] w fun e w' => e = .returned (resT r) ∧ Below w.heap.size w w') → Calls Tryd.prog 37 #[.agg #[.int .i64 a.k, .int .i64 a.n, .int .u64 a.u, .string a.s], .agg #[.int .i64 b.k, .int .i64 b.n, .int .u64 b.u, .string b.s]] w fun e w' => e = .returned (resT (equalV a b)) ∧ Below w.heap.size w w' := fun r e h => by rw [e]; exact h
  have u : equalV a b = if bothE a b != 0 then (V0, bothE a b) else if a.k == 0 || b.k == 0 then (V0, 0) else (boolV (decide (cmpV a b = 0)), 0) := rfl
  cases e : bothE a b != 0
  · have e' : bothE a b = 0 := by simpa using e
    cases h : a.k == 0
    · cases h2 : b.k == 0
      · cases hc : (cmpV a b == 0)
        · exact g _ (by rw [u, e, h, h2, show decide (cmpV a b = 0) = false from by simpa using hc]; rfl) (requal_4f a b e' h h2 hc w)
        · exact g _ (by rw [u, e, h, h2, show decide (cmpV a b = 0) = true from by simpa using hc]; rfl) (requal_4t a b e' h h2 hc w)
      · exact g _ (by rw [u, e, h, h2]; rfl) (requal_3 a b e' h h2 w)
    · exact g _ (by rw [u, e, h]; rfl) (requal_2 a b e' h w)
  · exact g _ (by rw [u, e]; rfl) (requal_1 a b e w)
set_option maxRecDepth 100000 in
set_option maxHeartbeats 4000000 in
theorem rless_1 (a b : VV) (e : (bothE a b != 0) = true)  (w : World) : Calls Tryd.prog 39 #[.agg #[.int .i64 a.k, .int .i64 a.n, .int .u64 a.u, .string a.s], .agg #[.int .i64 b.k, .int .i64 b.n, .int .u64 b.u, .string b.s]] w fun e w' => e = .returned (resT (V0, bothE a b)) ∧ Below w.heap.size w w' := by
  have HB := Lib.hid (fun w => both_any a b w)
  generalize bothE a b = r at *
  have hA := (((Blk.new w 28 #[.int .i64 a.k, .int .i64 a.n, .int .u64 a.u, .string a.s]).alloc (.cells #[.int .i64 b.k, .int .i64 b.n, .int .u64 b.u, .string b.s] 28)).alloc (.cells #[.int .i64 0, .int .i64 0, .int .u64 0, .string ⟨#[]⟩] 28))
  have hB := ((Blk.new (w.alloc (.cells #[.int .i64 a.k, .int .i64 a.n, .int .u64 a.u, .string a.s] 28)) 28 #[.int .i64 b.k, .int .i64 b.n, .int .u64 b.u, .string b.s]).alloc (.cells #[.int .i64 0, .int .i64 0, .int .u64 0, .string ⟨#[]⟩] 28))
  have hR := (Blk.new ((w.alloc (.cells #[.int .i64 a.k, .int .i64 a.n, .int .u64 a.u, .string a.s] 28)).alloc (.cells #[.int .i64 b.k, .int .i64 b.n, .int .u64 b.u, .string b.s] 28)) 28 #[.int .i64 0, .int .i64 0, .int .u64 0, .string ⟨#[]⟩])
  have bb := (bl_al (bl_al (bl_al (Below.refl w.heap.size w) (.cells #[.int .i64 a.k, .int .i64 a.n, .int .u64 a.u, .string a.s] 28)) (.cells #[.int .i64 b.k, .int .i64 b.n, .int .u64 b.u, .string b.s] 28)) (.cells #[.int .i64 0, .int .i64 0, .int .u64 0, .string ⟨#[]⟩] 28))
  simp only [World.size_alloc] at hB hR
  go_enter Tryd.func39, Tryd.ntmps39
  go_wp2_with fail
  generalize (((w.alloc (.cells #[.int .i64 a.k, .int .i64 a.n, .int .u64 a.u, .string a.s] 28)).alloc (.cells #[.int .i64 b.k, .int .i64 b.n, .int .u64 b.u, .string b.s] 28)).alloc (.cells #[.int .i64 0, .int .i64 0, .int .u64 0, .string ⟨#[]⟩] 28)) = w1 at *
  refine (HB.out _).mono ?_
  rintro e w2 ⟨rfl, qw2⟩
  replace hA := hA.ca qw2
  replace hB := hB.ca qw2
  replace hR := hR.ca qw2
  replace bb := bl_ca bb qw2
  clear qw2
  have KR := Lib.hid hR
  clear hR
  go_wp2_with (refine wpList_store_blk rfl 28 (.tmp 4) (.tmp 22) rfl (w.heap.size + 1 + 1) 28 _ _ rfl rfl KR.out rfl valI (one4 _ _ _ _) ?_; intro wz hZ gz)
  exact bodyPost_ret (res2 Tryd.results39 rfl rfl hZ Tryd.underlying28 rfl valI) rfl ⟨rfl, bl_gr bb gz (by omega)⟩
set_option maxRecDepth 100000 in
set_option maxHeartbeats 4000000 in
theorem rless_2 (a b : VV) (e : bothE a b = 0) (h : (a.k == 0) = true)  (w : World) : Calls Tryd.prog 39 #[.agg #[.int .i64 a.k, .int .i64 a.n, .int .u64 a.u, .string a.s], .agg #[.int .i64 b.k, .int .i64 b.n, .int .u64 b.u, .string b.s]] w fun e w' => e = .returned (resT (V0, 0)) ∧ Below w.heap.size w w' := by
  have HB := Lib.hid (fun w => (e ▸ both_any a b w : Calls Tryd.prog 60 #[.agg #[.int .i64 a.k, .int .i64 a.n, .int .u64 a.u, .string a.s], .agg #[.int .i64 b.k, .int .i64 b.n, .int .u64 b.u, .string b.s]] w fun e w' => e = .returned (.int .i64 0) ∧ Below w.heap.size w w'))
  clear e
  have hA := (((Blk.new w 28 #[.int .i64 a.k, .int .i64 a.n, .int .u64 a.u, .string a.s]).alloc (.cells #[.int .i64 b.k, .int .i64 b.n, .int .u64 b.u, .string b.s] 28)).alloc (.cells #[.int .i64 0, .int .i64 0, .int .u64 0, .string ⟨#[]⟩] 28))
  have hB := ((Blk.new (w.alloc (.cells #[.int .i64 a.k, .int .i64 a.n, .int .u64 a.u, .string a.s] 28)) 28 #[.int .i64 b.k, .int .i64 b.n, .int .u64 b.u, .string b.s]).alloc (.cells #[.int .i64 0, .int .i64 0, .int .u64 0, .string ⟨#[]⟩] 28))
  have hR := (Blk.new ((w.alloc (.cells #[.int .i64 a.k, .int .i64 a.n, .int .u64 a.u, .string a.s] 28)).alloc (.cells #[.int .i64 b.k, .int .i64 b.n, .int .u64 b.u, .string b.s] 28)) 28 #[.int .i64 0, .int .i64 0, .int .u64 0, .string ⟨#[]⟩])
  have bb := (bl_al (bl_al (bl_al (Below.refl w.heap.size w) (.cells #[.int .i64 a.k, .int .i64 a.n, .int .u64 a.u, .string a.s] 28)) (.cells #[.int .i64 b.k, .int .i64 b.n, .int .u64 b.u, .string b.s] 28)) (.cells #[.int .i64 0, .int .i64 0, .int .u64 0, .string ⟨#[]⟩] 28))
  simp only [World.size_alloc] at hB hR
  go_enter Tryd.func39, Tryd.ntmps39
  go_wp2_with fail
  generalize (((w.alloc (.cells #[.int .i64 a.k, .int .i64 a.n, .int .u64 a.u, .string a.s] 28)).alloc (.cells #[.int .i64 b.k, .int .i64 b.n, .int .u64 b.u, .string b.s] 28)).alloc (.cells #[.int .i64 0, .int .i64 0, .int .u64 0, .string ⟨#[]⟩] 28)) = w1 at *
  refine (HB.out _).mono ?_
  rintro e w2 ⟨rfl, qw2⟩
  replace hA := hA.ca qw2
  replace hB := hB.ca qw2
  replace hR := hR.ca qw2
  replace bb := bl_ca bb qw2
  clear qw2
  have hA_0 : w2.cell? ⟨w.heap.size, 0, none⟩ = some (.int .i64 a.k) := hA.cell 0
  have hA_1 : w2.cell? ⟨w.heap.size, 1, none⟩ = some (.int .i64 a.n) := hA.cell 1
  have hA_2 : w2.cell? ⟨w.heap.size, 2, none⟩ = some (.int .u64 a.u) := hA.cell 2
  have hA_3 : w2.cell? ⟨w.heap.size, 3, none⟩ = some (.string a.s) := hA.cell 3
  have KR := Lib.hid hR
  clear hR
  go_wp2_with (refine wpList_store_blk rfl 28 (.tmp 4) (.tmp 22) rfl (w.heap.size + 1 + 1) 28 _ _ rfl rfl KR.out rfl valI (one4 _ _ _ _) ?_; intro wz hZ gz)
  exact bodyPost_ret (res2 Tryd.results39 rfl rfl hZ Tryd.underlying28 rfl valI) rfl ⟨rfl, bl_gr bb gz (by omega)⟩
set_option maxRecDepth 100000 in
set_option maxHeartbeats 4000000 in
theorem rless_3 (a b : VV) (e : bothE a b = 0) (h : (a.k == 0) = false) (h2 : (b.k == 0) = true)  (w : World) : Calls Tryd.prog 39 #[.agg #[.int .i64 a.k, .int .i64 a.n, .int .u64 a.u, .string a.s], .agg #[.int .i64 b.k, .int .i64 b.n, .int .u64 b.u, .string b.s]] w fun e w' => e = .returned (resT (V0, 0)) ∧ Below w.heap.size w w' := by
  have HB := Lib.hid (fun w => (e ▸ both_any a b w : Calls Tryd.prog 60 #[.agg #[.int .i64 a.k, .int .i64 a.n, .int .u64 a.u, .string a.s], .agg #[.int .i64 b.k, .int .i64 b.n, .int .u64 b.u, .string b.s]] w fun e w' => e = .returned (.int .i64 0) ∧ Below w.heap.size w w'))
  clear e
  have hA := (((Blk.new w 28 #[.int .i64 a.k, .int .i64 a.n, .int .u64 a.u, .string a.s]).alloc (.cells #[.int .i64 b.k, .int .i64 b.n, .int .u64 b.u, .string b.s] 28)).alloc (.cells #[.int .i64 0, .int .i64 0, .int .u64 0, .string ⟨#[]⟩] 28))
  have hB := ((Blk.new (w.alloc (.cells #[.int .i64 a.k, .int .i64 a.n, .int .u64 a.u, .string a.s] 28)) 28 #[.int .i64 b.k, .int .i64 b.n, .int .u64 b.u, .string b.s]).alloc (.cells #[.int .i64 0, .int .i64 0, .int .u64 0, .string ⟨#[]⟩] 28))
  have hR := (Blk.new ((w.alloc (.cells #[.int .i64 a.k, .int .i64 a.n, .int .u64 a.u, .string a.s] 28)).alloc (.cells #[.int .i64 b.k, .int .i64 b.n, .int .u64 b.u, .string b.s] 28)) 28 #[.int .i64 0, .int .i64 0, .int .u64 0, .string ⟨#[]⟩])
  have bb := (bl_al (bl_al (bl_al (Below.refl w.heap.size w) (.cells #[.int .i64 a.k, .int .i64 a.n, .int .u64 a.u, .string a.s] 28)) (.cells #[.int .i64 b.k, .int .i64 b.n, .int .u64 b.u, .string b.s] 28)) (.cells #[.int .i64 0, .int .i64 0, .int .u64 0, .string ⟨#[]⟩] 28))
  simp only [World.size_alloc] at hB hR
  go_enter Tryd.func39, Tryd.ntmps39
  go_wp2_with fail
  generalize (((w.alloc (.cells #[.int .i64 a.k, .int .i64 a.n, .int .u64 a.u, .string a.s] 28)).alloc (.cells #[.int .i64 b.k, .int .i64 b.n, .int .u64 b.u, .string b.s] 28)).alloc (.cells #[.int .i64 0, .int .i64 0, .int .u64 0, .string ⟨#[]⟩] 28)) = w1 at *
  refine (HB.out _).mono ?_
  rintro e w2 ⟨rfl, qw2⟩
  replace hA := hA.ca qw2
  replace hB := hB.ca qw2
  replace hR := hR.ca qw2
  replace bb := bl_ca bb qw2
  clear qw2
  have hA_0 : w2.cell? ⟨w.heap.size, 0, none⟩ = some (.int .i64 a.k) := hA.cell 0
  have hA_1 : w2.cell? ⟨w.heap.size, 1, none⟩ = some (.int .i64 a.n) := hA.cell 1
  have hA_2 : w2.cell? ⟨w.heap.size, 2, none⟩ = some (.int .u64 a.u) := hA.cell 2
  have hA_3 : w2.cell? ⟨w.heap.size, 3, none⟩ = some (.string a.s) := hA.cell 3
  have hB_0 : w2.cell? ⟨w.heap.size + 1, 0, none⟩ = some (.int .i64 b.k) := hB.cell 0
  have hB_1 : w2.cell? ⟨w.heap.size + 1, 1, none⟩ = some (.int .i64 b.n) := hB.cell 1
  have hB_2 : w2.cell? ⟨w.heap.size + 1, 2, none⟩ = some (.int .u64 b.u) := hB.cell 2
  have hB_3 : w2.cell? ⟨w.heap.size + 1, 3, none⟩ = some (.string b.s) := hB.cell 3
  have KR := Lib.hid hR
  clear hR
  go_wp2_with (refine wpList_store_blk rfl 28 (.tmp 4) (.tmp 22) rfl (w.heap.size + 1 + 1) 28 _ _ rfl rfl KR.out rfl valI (one4 _ _ _ _) ?_; intro wz hZ gz)
  exact bodyPost_ret (res2 Tryd.results39 rfl rfl hZ Tryd.underlying28 rfl valI) rfl ⟨rfl, bl_gr bb gz (by omega)⟩
set_option maxRecDepth 100000 in
set_option maxHeartbeats 4000000 in
theorem rless_4t (a b : VV) (e : bothE a b = 0) (h : (a.k == 0) = false) (h2 : (b.k == 0) = false) (hc : decide (cmpV a b < 0) = true)  (w : World) : Calls Tryd.prog 39 #[.agg #[.int .i64 a.k, .int .i64 a.n, .int .u64 a.u, .string a.s], .agg #[.int .i64 b.k, .int .i64 b.n, .int .u64 b.u, .string b.s]] w fun e w' => e = .returned (resT (VB1, 0)) ∧ Below w.heap.size w w' := by
  have HB := Lib.hid (fun w => (e ▸ both_any a b w : Calls Tryd.prog 60 #[.agg #[.int .i64 a.k, .int .i64 a.n, .int .u64 a.u, .string a.s], .agg #[.int .i64 b.k, .int .i64 b.n, .int .u64 b.u, .string b.s]] w fun e w' => e = .returned (.int .i64 0) ∧ Below w.heap.size w w'))
  clear e
  have HD := Lib.hid (fun w => rcompare_any a b w)
  generalize cmpV a b = c at *
  have hA := (((Blk.new w 28 #[.int .i64 a.k, .int .i64 a.n, .int .u64 a.u, .string a.s]).alloc (.cells #[.int .i64 b.k, .int .i64 b.n, .int .u64 b.u, .string b.s] 28)).alloc (.cells #[.int .i64 0, .int .i64 0, .int .u64 0, .string ⟨#[]⟩] 28))
  have hB := ((Blk.new (w.alloc (.cells #[.int .i64 a.k, .int .i64 a.n, .int .u64 a.u, .string a.s] 28)) 28 #[.int .i64 b.k, .int .i64 b.n, .int .u64 b.u, .string b.s]).alloc (.cells #[.int .i64 0, .int .i64 0, .int .u64 0, .string ⟨#[]⟩] 28))
  have hR := (Blk.new ((w.alloc (.cells #[.int .i64 a.k, .int .i64 a.n, .int .u64 a.u, .string a.s] 28)).alloc (.cells #[.int .i64 b.k, .int .i64 b.n, .int .u64 b.u, .string b.s] 28)) 28 #[.int .i64 0, .int .i64 0, .int .u64 0, .string ⟨#[]⟩])
  have bb := (bl_al (bl_al (bl_al (Below.refl w.heap.size w) (.cells #[.int .i64 a.k, .int .i64 a.n, .int .u64 a.u, .string a.s] 28)) (.cells #[.int .i64 b.k, .int .i64 b.n, .int .u64 b.u, .string b.s] 28)) (.cells #[.int .i64 0, .int .i64 0, .int .u64 0, .string ⟨#[]⟩] 28))
  simp only [World.size_alloc] at hB hR
  go_enter Tryd.func39, Tryd.ntmps39
  go_wp2_with fail
  generalize (((w.alloc (.cells #[.int .i64 a.k, .int .i64 a.n, .int .u64 a.u, .string a.s] 28)).alloc (.cells #[.int .i64 b.k, .int .i64 b.n, .int .u64 b.u, .string b.s] 28)).alloc (.cells #[.int .i64 0, .int .i64 0, .int .u64 0, .string ⟨#[]⟩] 28)) = w1 at *
  refine (HB.out _).mono ?_
  rintro e w2 ⟨rfl, qw2⟩
  replace hA := hA.ca qw2
  replace hB := hB.ca qw2
  replace hR := hR.ca qw2
  replace bb := bl_ca bb qw2
  clear qw2
  have hA_0 : w2.cell? ⟨w.heap.size, 0, none⟩ = some (.int .i64 a.k) := hA.cell 0
  have hA_1 : w2.cell? ⟨w.heap.size, 1, none⟩ = some (.int .i64 a.n) := hA.cell 1
  have hA_2 : w2.cell? ⟨w.heap.size, 2, none⟩ = some (.int .u64 a.u) := hA.cell 2
  have hA_3 : w2.cell? ⟨w.heap.size, 3, none⟩ = some (.string a.s) := hA.cell 3
  have hB_0 : w2.cell? ⟨w.heap.size + 1, 0, none⟩ = some (.int .i64 b.k) := hB.cell 0
  have hB_1 : w2.cell? ⟨w.heap.size + 1, 1, none⟩ = some (.int .i64 b.n) := hB.cell 1
  have hB_2 : w2.cell? ⟨w.heap.size + 1, 2, none⟩ = some (.int .u64 b.u) := hB.cell 2
  have hB_3 : w2.cell? ⟨w.heap.size + 1, 3, none⟩ = some (.string b.s) := hB.cell 3
  go_wp2_with fail
  clear hA_0 hA_1 hA_2 hA_3 hB_0 hB_1 hB_2 hB_3
  refine (HD.out _).mono ?_
  rintro e w3 ⟨rfl, qw3⟩
  replace hA := hA.ca qw3
  replace hB := hB.ca qw3
  replace hR := hR.ca qw3
  replace bb := bl_ca bb qw3
  clear qw3
  go_wp2_with fail
  refine (rbool_true _).mono ?_
  rintro e w4 ⟨rfl, qw4⟩
  replace hA := hA.ca qw4
  replace hB := hB.ca qw4
  replace hR := hR.ca qw4
  replace bb := bl_ca bb qw4
  clear qw4
  have KR := Lib.hid hR
  clear hR
  go_wp2_with (refine wpList_store_blk rfl 28 (.tmp 4) (.tmp 28) rfl (w.heap.size + 1 + 1) 28 _ _ rfl rfl KR.out rfl valI (one4 _ _ _ _) ?_; intro wz hZ gz)
  exact bodyPost_ret (res2 Tryd.results39 rfl rfl hZ Tryd.underlying28 rfl valI) rfl ⟨rfl, bl_gr bb gz (by omega)⟩
set_option maxRecDepth 100000 in
set_option maxHeartbeats 4000000 in
theorem rless_4f (a b : VV) (e : bothE a b = 0) (h : (a.k == 0) = false) (h2 : (b.k == 0) = false) (hc : decide (cmpV a b < 0) = false)  (w : World) : Calls Tryd.prog 39 #[.agg #[.int .i64 a.k, .int .i64 a.n, .int .u64 a.u, .string a.s], .agg #[.int .i64 b.k, .int .i64 b.n, .int .u64 b.u, .string b.s]] w fun e w' => e = .returned (resT (VB0, 0)) ∧ Below w.heap.size w w' := by
  have HB := Lib.hid (fun w => (e ▸ both_any a b w : Calls Tryd.prog 60 #[.agg #[.int .i64 a.k, .int .i64 a.n, .int .u64 a.u, .string a.s], .agg #[.int .i64 b.k, .int .i64 b.n, .int .u64 b.u, .string b.s]] w fun e w' => e = .returned (.int .i64 0) ∧ Below w.heap.size w w'))
  clear e
  have HD := Lib.hid (fun w => rcompare_any a b w)
  generalize cmpV a b = c at *
  have hA := (((Blk.new w 28 #[.int .i64 a.k, .int .i64 a.n, .int .u64 a.u, .string a.s]).alloc (.cells #[.int .i64 b.k, .int .i64 b.n, .int .u64 b.u, .string b.s] 28)).alloc (.cells #[.int .i64 0, .int .i64 0, .int .u64 0, .string ⟨#[]⟩] 28))
  have hB := ((Blk.new (w.alloc (.cells #[.int .i64 a.k, .int .i64 a.n, .int .u64 a.u, .string a.s] 28)) 28 #[.int .i64 b.k, .int .i64 b.n, .int .u64 b.u, .string b.s]).alloc (.cells #[.int .i64 0, .int .i64 0, .int .u64 0, .string ⟨#[]⟩] 28))
  have hR := (Blk.new ((w.alloc (.cells #[.int .i64 a.k, .int .i64 a.n, .int .u64 a.u, .string a.s] 28)).alloc (.cells #[.int .i64 b.k, .int .i64 b.n, .int .u64 b.u, .string b.s] 28)) 28 #[.int .i64 0, .int .i64 0, .int .u64 0, .string ⟨#[]⟩])
  have bb := (bl_al (bl_al (bl_al (Below.refl w.heap.size w) (.cells #[.int .i64 a.k, .int .i64 a.n, .int .u64 a.u, .string a.s] 28)) (.cells #[.int .i64 b.k, .int .i64 b.n, .int .u64 b.u, .string b.s] 28)) (.cells #[.int .i64 0, .int .i64 0, .int .u64 0, .string ⟨#[]⟩] 28))
  simp only [World.size_alloc] at hB hR
  go_enter Tryd.func39, Tryd.ntmps39
  go_wp2_with fail
  generalize (((w.alloc (.cells #[.int .i64 a.k, .int .i64 a.n, .int .u64 a.u, .string a.s] 28)).alloc (.cells #[.int .i64 b.k, .int .i64 b.n, .int .u64 b.u, .string b.s] 28)).alloc (.cells #[.int .i64 0, .int .i64 0, .int .u64 0, .string ⟨#[]⟩] 28)) = w1 at *
  refine (HB.out _).mono ?_
  rintro e w2 ⟨rfl, qw2⟩
  replace hA := hA.ca qw2
  replace hB := hB.ca qw2
  replace hR := hR.ca qw2
  replace bb := bl_ca bb qw2
  clear qw2
  have hA_0 : w2.cell? ⟨w.heap.size, 0, none⟩ = some (.int .i64 a.k) := hA.cell 0
  have hA_1 : w2.cell? ⟨w.heap.size, 1, none⟩ = some (.int .i64 a.n) := hA.cell 1
  have hA_2 : w2.cell? ⟨w.heap.size, 2, none⟩ = some (.int .u64 a.u) := hA.cell 2
  have hA_3 : w2.cell? ⟨w.heap.size, 3, none⟩ = some (.string a.s) := hA.cell 3
  have hB_0 : w2.cell? ⟨w.heap.size + 1, 0, none⟩ = some (.int .i64 b.k) := hB.cell 0
  have hB_1 : w2.cell? ⟨w.heap.size + 1, 1, none⟩ = some (.int .i64 b.n) := hB.cell 1
  have hB_2 : w2.cell? ⟨w.heap.size + 1, 2, none⟩ = some (.int .u64 b.u) := hB.cell 2
  have hB_3 : w2.cell? ⟨w.heap.size + 1, 3, none⟩ = some (.string b.s) := hB.cell 3
  go_wp2_with fail
  clear hA_0 hA_1 hA_2 hA_3 hB_0 hB_1 hB_2 hB_3
  refine (HD.out _).mono ?_
  rintro e w3 ⟨rfl, qw3⟩
  replace hA := hA.ca qw3
  replace hB := hB.ca qw3
  replace hR := hR.ca qw3
  replace bb := bl_ca bb qw3
  clear qw3
  go_wp2_with fail
  refine (rbool_false _).mono ?_
  rintro e w4 ⟨rfl, qw4⟩
  replace hA := hA.ca qw4
  replace hB := hB.ca qw4
  replace hR := hR.ca qw4
  replace bb := bl_ca bb qw4
  clear qw4
  have KR := Lib.hid hR
  clear hR
  go_wp2_with (refine wpList_store_blk rfl 28 (.tmp 4) (.tmp 28) rfl (w.heap.size + 1 + 1) 28 _ _ rfl rfl KR.out rfl valI (one4 _ _ _ _) ?_; intro wz hZ gz)
  exact bodyPost_ret (res2 Tryd.results39 rfl rfl hZ Tryd.underlying28 rfl valI) rfl ⟨rfl, bl_gr bb gz (by omega)⟩
theorem rless_any (a b : VV) (w : World) : Calls Tryd.prog 39 #[.agg #[.int .i64 a.k, .int .i64 a.n, .int .u64 a.u, .string a.s], .agg #[.int .i64 b.k, .int .i64 b.n, .int .u64 b.u, .string b.s]] w fun e w' => e = .returned (resT (lessV a b)) ∧ Below w.heap.size w w' := by
  have g : ∀ r, lessV a b = r → (Calls Tryd.prog 39 #[.agg #[.int .i64 a.k, .int .i64 a.n, .int .u64 a.u, .string a.s], .agg #[.int .i64 b.k, .int .i64 b.n, .int .u64 b.u, .string b.s]] w fun e w' => e = .returned (resT r) ∧ Below w.heap.size w w') → Calls Tryd.prog 39 #[.agg #[.int .i64 a.k, .int .i64 a.n, .int .u64 a.u, .string a.s], .agg #[.int .i64 b.k, .int .i64 b.n, .int .u64 b.u, .string b.s]] w fun e w' => e = .returned (resT (lessV a b)) ∧ Below w.heap.size w w' := fun r e h => by rw [e]; exact h
  have u : lessV a b = if bothE a b != 0 then (V0, bothE a b) else if a.k == 0 || b.k == 0 then (V0, 0) else (boolV (decide (cmpV a b < 0)), 0) := rfl
  cases e : bothE a b != 0
  · have e' : bothE a b = 0 := by simpa using e
    cases h : a.k == 0
    · cases h2 : b.k == 0
      · cases hc : (decide (cmpV a b < 0))
        · exact g _ (by rw [u, e, h, h2, show decide (cmpV a b < 0) = false from by simpa using hc]; rfl) (rless_4f a b e' h h2 hc w)
        · exact g _ (by rw [u, e, h, h2, show decide (cmpV a b < 0) = true from by simpa using hc]; rfl) (rless_4t a b e' h h2 hc w)
      · exact g _ (by rw [u, e, h, h2]; rfl) (rless_3 a b e' h h2 w)
    · exact g _ (by rw [u, e, h]; rfl) (rless_2 a b e' h w)
  · exact g _ (by rw [u, e]; rfl) (rless_1 a b e w)
end Go.Proofs.YtabbiepafibmmaaDoor
