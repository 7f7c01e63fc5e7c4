/- bowspritref02.truths. Conditions: none. -/
import Derived.Test.YtabbiepafibmmaaDoorFew
namespace Go.Proofs.YtabbiepafibmmaaDoor
open Go.RowKit
theorem r_y (v : VV) (h : v.ok = true) (w : World) : Calls Tryd.prog 13 #[.agg #[.int .i64 v.k, .int .i64 v.n, .int .u64 v.u, .string v.s]] w fun e w' => e = .returned (.bool true) ∧ Below w.heap.size w w' := by
  have := right_any v.k v.n v.u v.s w
  rw [show rightB v.k v.n v.u v.s = true from h] at this
  exact this
theorem r_n (v : VV) (h : v.ok = false) (w : World) : Calls Tryd.prog 13 #[.agg #[.int .i64 v.k, .int .i64 v.n, .int .u64 v.u, .string v.s]] w fun e w' => e = .returned (.bool false) ∧ Below w.heap.size w w' := by
  have := right_any v.k v.n v.u v.s w
  rw [show rightB v.k v.n v.u v.s = false from h] at this
  exact this
theorem kind2 (a b : VV) : kindE [a, b] = if a.ok && b.ok then (if decide (1 < a.k) || decide (1 < b.k) then 2 else 0) else 120 := by simp [kindE]
set_option maxRecDepth 100000 in
set_option maxHeartbeats 4000000 in
theorem rtruths_any (a b : VV) (w : World) : Calls Tryd.prog 51 #[.agg #[.int .i64 a.k, .int .i64 a.n, .int .u64 a.u, .string a.s], .agg #[.int .i64 b.k, .int .i64 b.n, .int .u64 b.u, .string b.s]] w fun e w' => e = .returned (.int .i64 (kindE [a, b])) ∧ Below w.heap.size w w' := by
  obtain ⟨r, hr⟩ : ∃ r, r = kindE [a, b] := ⟨_, rfl⟩
  have HR := Lib.hid (hr.trans (kind2 a b))
  rw [← hr]
  clear hr
  cases hca : a.ok
  · have hrv : r = 120 := by rw [HR.out, hca]; rfl
    clear HR
    have hA := ((Blk.new w 28 #[.int .i64 a.k, .int .i64 a.n, .int .u64 a.u, .string a.s]).alloc (.cells #[.int .i64 b.k, .int .i64 b.n, .int .u64 b.u, .string b.s] 28))
    have hB := (Blk.new (w.alloc (.cells #[.int .i64 a.k, .int .i64 a.n, .int .u64 a.u, .string a.s] 28)) 28 #[.int .i64 b.k, .int .i64 b.n, .int .u64 b.u, .string b.s])
    have bb := (bl_al (bl_al (Below.refl w.heap.size w) (.cells #[.int .i64 a.k, .int .i64 a.n, .int .u64 a.u, .string a.s] 28)) (.cells #[.int .i64 b.k, .int .i64 b.n, .int .u64 b.u, .string b.s] 28))
    simp only [World.size_alloc] at hB
    go_enter Tryd.func51, Tryd.ntmps51
    go_wp2_with fail
    generalize ((w.alloc (.cells #[.int .i64 a.k, .int .i64 a.n, .int .u64 a.u, .string a.s] 28)).alloc (.cells #[.int .i64 b.k, .int .i64 b.n, .int .u64 b.u, .string b.s] 28)) = w1 at *
    have hA_0 : w1.cell? ⟨w.heap.size, 0, none⟩ = some (.int .i64 a.k) := hA.cell 0
    have hA_1 : w1.cell? ⟨w.heap.size, 1, none⟩ = some (.int .i64 a.n) := hA.cell 1
    have hA_2 : w1.cell? ⟨w.heap.size, 2, none⟩ = some (.int .u64 a.u) := hA.cell 2
    have hA_3 : w1.cell? ⟨w.heap.size, 3, none⟩ = some (.string a.s) := hA.cell 3
    go_wp2_with fail
    refine (r_n a hca _).mono ?_
    rintro e w2 ⟨rfl, q2⟩
    clear hA_0 hA_1 hA_2 hA_3
    replace hA := hA.ca q2
    replace hB := hB.ca q2
    replace bb := bl_ca bb q2
    clear q2
    go_wp2
    go_ret
    exact ⟨by rw [hrv]; rfl, bb⟩
  · cases hcb : b.ok
    · have hrv : r = 120 := by rw [HR.out, hca, hcb]; rfl
      clear HR
      have hA := ((Blk.new w 28 #[.int .i64 a.k, .int .i64 a.n, .int .u64 a.u, .string a.s]).alloc (.cells #[.int .i64 b.k, .int .i64 b.n, .int .u64 b.u, .string b.s] 28))
      have hB := (Blk.new (w.alloc (.cells #[.int .i64 a.k, .int .i64 a.n, .int .u64 a.u, .string a.s] 28)) 28 #[.int .i64 b.k, .int .i64 b.n, .int .u64 b.u, .string b.s])
      have bb := (bl_al (bl_al (Below.refl w.heap.size w) (.cells #[.int .i64 a.k, .int .i64 a.n, .int .u64 a.u, .string a.s] 28)) (.cells #[.int .i64 b.k, .int .i64 b.n, .int .u64 b.u, .string b.s] 28))
      simp only [World.size_alloc] at hB
      go_enter Tryd.func51, Tryd.ntmps51
      go_wp2_with fail
      generalize ((w.alloc (.cells #[.int .i64 a.k, .int .i64 a.n, .int .u64 a.u, .string a.s] 28)).alloc (.cells #[.int .i64 b.k, .int .i64 b.n, .int .u64 b.u, .string b.s] 28)) = w1 at *
      have hA_0 : w1.cell? ⟨w.heap.size, 0, none⟩ = some (.int .i64 a.k) := hA.cell 0
      have hA_1 : w1.cell? ⟨w.heap.size, 1, none⟩ = some (.int .i64 a.n) := hA.cell 1
      have hA_2 : w1.cell? ⟨w.heap.size, 2, none⟩ = some (.int .u64 a.u) := hA.cell 2
      have hA_3 : w1.cell? ⟨w.heap.size, 3, none⟩ = some (.string a.s) := hA.cell 3
      go_wp2_with fail
      refine (r_y a hca _).mono ?_
      rintro e w2 ⟨rfl, q2⟩
      clear hA_0 hA_1 hA_2 hA_3
      replace hA := hA.ca q2
      replace hB := hB.ca q2
      replace bb := bl_ca bb q2
      clear q2
      have hB_0 : w2.cell? ⟨w.heap.size + 1, 0, none⟩ = some (.int .i64 b.k) := hB.cell 0
      have hB_1 : w2.cell? ⟨w.heap.size + 1, 1, none⟩ = some (.int .i64 b.n) := hB.cell 1
      have hB_2 : w2.cell? ⟨w.heap.size + 1, 2, none⟩ = some (.int .u64 b.u) := hB.cell 2
      have hB_3 : w2.cell? ⟨w.heap.size + 1, 3, none⟩ = some (.string b.s) := hB.cell 3
      go_wp2_with fail
      refine (r_n b hcb _).mono ?_
      rintro e w3 ⟨rfl, q3⟩
      clear hB_0 hB_1 hB_2 hB_3
      replace hA := hA.ca q3
      replace hB := hB.ca q3
      replace bb := bl_ca bb q3
      clear q3
      go_wp2
      go_ret
      exact ⟨by rw [hrv]; rfl, bb⟩
    · cases hka : decide (1 < a.k)
      · cases hkb : decide (1 < b.k)
        · have hrv : r = 0 := by rw [HR.out, hca, hcb, hka, hkb]; rfl
          clear HR
          have hA := ((Blk.new w 28 #[.int .i64 a.k, .int .i64 a.n, .int .u64 a.u, .string a.s]).alloc (.cells #[.int .i64 b.k, .int .i64 b.n, .int .u64 b.u, .string b.s] 28))
          have hB := (Blk.new (w.alloc (.cells #[.int .i64 a.k, .int .i64 a.n, .int .u64 a.u, .string a.s] 28)) 28 #[.int .i64 b.k, .int .i64 b.n, .int .u64 b.u, .string b.s])
          have bb := (bl_al (bl_al (Below.refl w.heap.size w) (.cells #[.int .i64 a.k, .int .i64 a.n, .int .u64 a.u, .string a.s] 28)) (.cells #[.int .i64 b.k, .int .i64 b.n, .int .u64 b.u, .string b.s] 28))
          simp only [World.size_alloc] at hB
          go_enter Tryd.func51, Tryd.ntmps51
          go_wp2_with fail
          generalize ((w.alloc (.cells #[.int .i64 a.k, .int .i64 a.n, .int .u64 a.u, .string a.s] 28)).alloc (.cells #[.int .i64 b.k, .int .i64 b.n, .int .u64 b.u, .string b.s] 28)) = w1 at *
          have hA_0 : w1.cell? ⟨w.heap.size, 0, none⟩ = some (.int .i64 a.k) := hA.cell 0
          have hA_1 : w1.cell? ⟨w.heap.size, 1, none⟩ = some (.int .i64 a.n) := hA.cell 1
          have hA_2 : w1.cell? ⟨w.heap.size, 2, none⟩ = some (.int .u64 a.u) := hA.cell 2
          have hA_3 : w1.cell? ⟨w.heap.size, 3, none⟩ = some (.string a.s) := hA.cell 3
          go_wp2_with fail
          refine (r_y a hca _).mono ?_
          rintro e w2 ⟨rfl, q2⟩
          clear hA_0 hA_1 hA_2 hA_3
          replace hA := hA.ca q2
          replace hB := hB.ca q2
          replace bb := bl_ca bb q2
          clear q2
          have hB_0 : w2.cell? ⟨w.heap.size + 1, 0, none⟩ = some (.int .i64 b.k) := hB.cell 0
          have hB_1 : w2.cell? ⟨w.heap.size + 1, 1, none⟩ = some (.int .i64 b.n) := hB.cell 1
          have hB_2 : w2.cell? ⟨w.heap.size + 1, 2, none⟩ = some (.int .u64 b.u) := hB.cell 2
          have hB_3 : w2.cell? ⟨w.heap.size + 1, 3, none⟩ = some (.string b.s) := hB.cell 3
          go_wp2_with fail
          refine (r_y b hcb _).mono ?_
          rintro e w3 ⟨rfl, q3⟩
          clear hB_0 hB_1 hB_2 hB_3
          replace hA := hA.ca q3
          replace hB := hB.ca q3
          replace bb := bl_ca bb q3
          clear q3
          have hA_0 : w3.cell? ⟨w.heap.size, 0, none⟩ = some (.int .i64 a.k) := hA.cell 0
          have hB_0 : w3.cell? ⟨w.heap.size + 1, 0, none⟩ = some (.int .i64 b.k) := hB.cell 0
          go_wp2
          go_ret
          exact ⟨by rw [hrv]; rfl, bb⟩
        · have hrv : r = 2 := by rw [HR.out, hca, hcb, hka, hkb]; rfl
          clear HR
          have hA := ((Blk.new w 28 #[.int .i64 a.k, .int .i64 a.n, .int .u64 a.u, .string a.s]).alloc (.cells #[.int .i64 b.k, .int .i64 b.n, .int .u64 b.u, .string b.s] 28))
          have hB := (Blk.new (w.alloc (.cells #[.int .i64 a.k, .int .i64 a.n, .int .u64 a.u, .string a.s] 28)) 28 #[.int .i64 b.k, .int .i64 b.n, .int .u64 b.u, .string b.s])
          have bb := (bl_al (bl_al (Below.refl w.heap.size w) (.cells #[.int .i64 a.k, .int .i64 a.n, .int .u64 a.u, .string a.s] 28)) (.cells #[.int .i64 b.k, .int .i64 b.n, .int .u64 b.u, .string b.s] 28))
          simp only [World.size_alloc] at hB
          go_enter Tryd.func51, Tryd.ntmps51
          go_wp2_with fail
          generalize ((w.alloc (.cells #[.int .i64 a.k, .int .i64 a.n, .int .u64 a.u, .string a.s] 28)).alloc (.cells #[.int .i64 b.k, .int .i64 b.n, .int .u64 b.u, .string b.s] 28)) = w1 at *
          have hA_0 : w1.cell? ⟨w.heap.size, 0, none⟩ = some (.int .i64 a.k) := hA.cell 0
          have hA_1 : w1.cell? ⟨w.heap.size, 1, none⟩ = some (.int .i64 a.n) := hA.cell 1
          have hA_2 : w1.cell? ⟨w.heap.size, 2, none⟩ = some (.int .u64 a.u) := hA.cell 2
          have hA_3 : w1.cell? ⟨w.heap.size, 3, none⟩ = some (.string a.s) := hA.cell 3
          go_wp2_with fail
          refine (r_y a hca _).mono ?_
          rintro e w2 ⟨rfl, q2⟩
          clear hA_0 hA_1 hA_2 hA_3
          replace hA := hA.ca q2
          replace hB := hB.ca q2
          replace bb := bl_ca bb q2
          clear q2
          have hB_0 : w2.cell? ⟨w.heap.size + 1, 0, none⟩ = some (.int .i64 b.k) := hB.cell 0
          have hB_1 : w2.cell? ⟨w.heap.size + 1, 1, none⟩ = some (.int .i64 b.n) := hB.cell 1
          have hB_2 : w2.cell? ⟨w.heap.size + 1, 2, none⟩ = some (.int .u64 b.u) := hB.cell 2
          have hB_3 : w2.cell? ⟨w.heap.size + 1, 3, none⟩ = some (.string b.s) := hB.cell 3
          go_wp2_with fail
          refine (r_y b hcb _).mono ?_
          rintro e w3 ⟨rfl, q3⟩
          clear hB_0 hB_1 hB_2 hB_3
          replace hA := hA.ca q3
          replace hB := hB.ca q3
          replace bb := bl_ca bb q3
          clear q3
          have hA_0 : w3.cell? ⟨w.heap.size, 0, none⟩ = some (.int .i64 a.k) := hA.cell 0
          have hB_0 : w3.cell? ⟨w.heap.size + 1, 0, none⟩ = some (.int .i64 b.k) := hB.cell 0
          go_wp2
          go_ret
          exact ⟨by rw [hrv]; rfl, bb⟩
      · have hrv : r = 2 := by rw [HR.out, hca, hcb, hka]; rfl
        clear HR
        have hA := ((Blk.new w 28 #[.int .i64 a.k, .int .i64 a.n, .int .u64 a.u, .string a.s]).alloc (.cells #[.int .i64 b.k, .int .i64 b.n, .int .u64 b.u, .string b.s] 28))
        have hB := (Blk.new (w.alloc (.cells #[.int .i64 a.k, .int .i64 a.n, .int .u64 a.u, .string a.s] 28)) 28 #[.int .i64 b.k, .int .i64 b.n, .int .u64 b.u, .string b.s])
        have bb := (bl_al (bl_al (Below.refl w.heap.size w) (.cells #[.int .i64 a.k, .int .i64 a.n, .int .u64 a.u, .string a.s] 28)) (.cells #[.int .i64 b.k, .int .i64 b.n, .int .u64 b.u, .string b.s] 28))
        simp only [World.size_alloc] at hB
        go_enter Tryd.func51, Tryd.ntmps51
        go_wp2_with fail
        generalize ((w.alloc (.cells #[.int .i64 a.k, .int .i64 a.n, .int .u64 a.u, .string a.s] 28)).alloc (.cells #[.int .i64 b.k, .int .i64 b.n, .int .u64 b.u, .string b.s] 28)) = w1 at *
        have hA_0 : w1.cell? ⟨w.heap.size, 0, none⟩ = some (.int .i64 a.k) := hA.cell 0
        have hA_1 : w1.cell? ⟨w.heap.size, 1, none⟩ = some (.int .i64 a.n) := hA.cell 1
        have hA_2 : w1.cell? ⟨w.heap.size, 2, none⟩ = some (.int .u64 a.u) := hA.cell 2
        have hA_3 : w1.cell? ⟨w.heap.size, 3, none⟩ = some (.string a.s) := hA.cell 3
        go_wp2_with fail
        refine (r_y a hca _).mono ?_
        rintro e w2 ⟨rfl, q2⟩
        clear hA_0 hA_1 hA_2 hA_3
        replace hA := hA.ca q2
        replace hB := hB.ca q2
        replace bb := bl_ca bb q2
        clear q2
        have hB_0 : w2.cell? ⟨w.heap.size + 1, 0, none⟩ = some (.int .i64 b.k) := hB.cell 0
        have hB_1 : w2.cell? ⟨w.heap.size + 1, 1, none⟩ = some (.int .i64 b.n) := hB.cell 1
        have hB_2 : w2.cell? ⟨w.heap.size + 1, 2, none⟩ = some (.int .u64 b.u) := hB.cell 2
        have hB_3 : w2.cell? ⟨w.heap.size + 1, 3, none⟩ = some (.string b.s) := hB.cell 3
        go_wp2_with fail
        refine (r_y b hcb _).mono ?_
        rintro e w3 ⟨rfl, q3⟩
        clear hB_0 hB_1 hB_2 hB_3
        replace hA := hA.ca q3
        replace hB := hB.ca q3
        replace bb := bl_ca bb q3
        clear q3
        have hA_0 : w3.cell? ⟨w.heap.size, 0, none⟩ = some (.int .i64 a.k) := hA.cell 0
        have hB_0 : w3.cell? ⟨w.heap.size + 1, 0, none⟩ = some (.int .i64 b.k) := hB.cell 0
        go_wp2
        go_ret
        exact ⟨by rw [hrv]; rfl, bb⟩
end Go.Proofs.YtabbiepafibmmaaDoor
