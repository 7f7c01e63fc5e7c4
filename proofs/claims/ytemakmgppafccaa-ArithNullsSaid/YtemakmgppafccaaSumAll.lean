/- Sums under way, joined, and their ends: the program and the reference come to the same. Conditions: fields within their kinds. -/
import Derived.Test.YtemakmgppafccaaRefSumV
namespace Go.Proofs.Ytemakmgppafccaa
open Go.RowKit Go.Proofs.Big
def VV.rng (v : VV) : Prop := I64 v.n ∧ U64 v.u
def sumV (a b : VV) : VV × Int :=
  if (a.ok && b.ok) = false then (V0, 120) else if (misB 4 a || misB 2 b) = true then (V0, 2) else if b.k = 0 then (a, 0) else if a.k = 0 then (VS b.n, 0) else outS (a.z + b.n)
def joinV (a b : VV) : VV × Int :=
  if (a.ok && b.ok) = false then (V0, 120) else if (misB 4 a || misB 4 b) = true then (V0, 2) else if a.k = 0 then (b, 0) else if b.k = 0 then (a, 0) else outS (a.z + b.z)
def endV (a : VV) : VV × Int :=
  if a.ok = false then (V0, 120) else if misB 4 a = true then (V0, 2) else if a.k = 0 then (a, 0) else outR a.z
theorem areE_one (k : Int) (a : VV) : areE k [a] = if a.ok then (if misB k a then 2 else 0) else 120 := by simp [areE]
theorem areE_two (k : Int) (a b : VV) : areE k [a, b] = if a.ok && b.ok then (if misB k a || misB k b then 2 else 0) else 120 := by simp [areE]
theorem VS_z (n : Int) : (VS n).z = n := by unfold VS VV.z; simp only; omega
theorem z_lt (a : VV) (h : a.rng) : a.z.natAbs < 4294967296 ^ 7 := by
  rw [show (4294967296 ^ 7 : Nat) = 26959946667150639794667015087019630673637144422540572481103610249216 from by decide]
  obtain ⟨h1, h2⟩ := h
  unfold I64 at h1
  unfold U64 at h2
  unfold VV.z
  omega
theorem n_lt (n : Int) (h : I64 n) : n.natAbs < 4294967296 ^ 7 := by
  rw [show (4294967296 ^ 7 : Nat) = 26959946667150639794667015087019630673637144422540572481103610249216 from by decide]
  unfold I64 at h
  omega
theorem p78 {x : Nat} (h : x < 4294967296 ^ 7) : x < 4294967296 ^ 8 := Nat.lt_trans h (by decide)
theorem sum2_lt {x y : Int} (hx : x.natAbs < 4294967296 ^ 7) (hy : y.natAbs < 4294967296 ^ 7) : (x + y).natAbs < 4294967296 ^ 8 := by
  rw [show (4294967296 ^ 7 : Nat) = 26959946667150639794667015087019630673637144422540572481103610249216 from by decide] at hx hy
  rw [show (4294967296 ^ 8 : Nat) = 115792089237316195423570985008687907853269984665640564039457584007913129639936 from by decide]
  omega
theorem fit_n (n : Int) (h : I64 n) : fitB n = true := by unfold I64 at h; unfold fitB; simp only [decide_eq_true_eq]; omega
theorem sumP_any (a b : VV) (w : World) (ha : a.rng) (hb : b.rng) : Calls Try.prog 13 #[.agg #[.int .i64 a.k, .int .i64 a.n, .int .u64 a.u, .string a.s], .agg #[.int .i64 b.k, .int .i64 b.n, .int .u64 b.u, .string b.s]] w fun e w' => e = .returned (resT (sumV a b)) ∧ Below w.heap.size w w' := by
  have e1 := areE_one 4 a
  have e2 := areE_one 2 b
  cases oa : a.ok
  · rw [oa] at e1
    rw [show sumV a b = (V0, 120) from by unfold sumV; simp [oa]]
    exact sum_e1 a b 120 _ w e1 rfl rfl
  · rw [oa] at e1
    cases ob : b.ok
    · rw [ob] at e2
      rw [show sumV a b = (V0, 120) from by unfold sumV; simp [ob]]
      cases ma : misB 4 a <;> rw [ma] at e1
      · exact sum_e2 a b 0 120 w e1 e2 rfl rfl
      · exact sum_e2 a b 2 120 w e1 e2 rfl rfl
    · rw [ob] at e2
      cases ma : misB 4 a <;> rw [ma] at e1
      · cases mb : misB 2 b <;> rw [mb] at e2
        · by_cases k1 : b.k = 0
          · rw [show sumV a b = (a, 0) from by unfold sumV; simp [oa, ob, ma, mb, k1]]
            exact sum_n a b 0 0 w e1 e2 rfl rfl rfl rfl (ibeq_t k1)
          · by_cases k2 : a.k = 0
            · rw [show sumV a b = (VS b.n, 0) from by unfold sumV; simp [oa, ob, ma, mb, k1, k2]]
              exact sum_w a b 0 0 w e1 e2 rfl rfl rfl rfl (ibeq_f k1) (ibeq_t k2) hb.1
            · rw [show sumV a b = outS (a.z + b.n) from by unfold sumV; simp [oa, ob, ma, mb, k1, k2]]
              refine sum_p a b 0 0 _ w e1 e2 rfl rfl rfl rfl (ibeq_f k1) (ibeq_f k2) (b.n / 18446744073709551616) (b.n % 18446744073709551616) (fun w => wide_any b.k b.n b.u b.s w hb.1) (fun w => ?_)
              have h1 := hb.1
              unfold I64 at h1
              have := plus_any' a (VS b.n) w ha.1 (show I64 (b.n / 18446744073709551616) by unfold I64; omega) ha.2 (show U64 (b.n % 18446744073709551616) by unfold U64; omega)
              rw [VS_z] at this
              exact this
        · rw [show sumV a b = (V0, 2) from by unfold sumV; simp [oa, ob, ma, mb]]
          exact sum_m2 a b 0 2 w e1 e2 rfl rfl rfl rfl
      · rw [show sumV a b = (V0, 2) from by unfold sumV; simp [oa, ob, ma]]
        cases mb : misB 2 b <;> rw [mb] at e2
        · exact sum_m1 a b 2 0 w e1 e2 rfl rfl rfl
        · exact sum_m1 a b 2 2 w e1 e2 rfl rfl rfl
theorem sumR_any (a b : VV) (w : World) (ha : a.rng) (hb : b.rng) : Calls Try.prog 15 #[.agg #[.int .i64 a.k, .int .i64 a.n, .int .u64 a.u, .string a.s], .agg #[.int .i64 b.k, .int .i64 b.n, .int .u64 b.u, .string b.s]] w fun e w' => e = .returned (resT (sumV a b)) ∧ Below w.heap.size w w' := by
  cases oa : a.ok
  · rw [show sumV a b = (V0, 120) from by unfold sumV; simp [oa]]
    exact rsm_e1 a b w oa
  · cases ob : b.ok
    · rw [show sumV a b = (V0, 120) from by unfold sumV; simp [ob]]
      exact rsm_e2 a b w oa ob
    · cases ma : misB 4 a
      · have ta : (rightB a.k a.n a.u a.s && kindB 4 a.k) = true := by rw [kindB_mis, ma, show rightB a.k a.n a.u a.s = true from oa]; rfl
        cases mb : misB 2 b
        · have tb : (rightB b.k b.n b.u b.s && kindB 2 b.k) = true := by rw [kindB_mis, mb, show rightB b.k b.n b.u b.s = true from ob]; rfl
          by_cases k1 : b.k = 0
          · rw [show sumV a b = (a, 0) from by unfold sumV; simp [oa, ob, ma, mb, k1]]
            exact rsm_n a b w oa ob ta tb (ibeq_t k1)
          · by_cases k2 : a.k = 0
            · rw [show sumV a b = outS b.n from by unfold sumV outS; simp [oa, ob, ma, mb, k1, k2, fit_n b.n hb.1]]
              exact rsm_w a b w oa ob ta tb (ibeq_f k1) (ibeq_t k2) _ _ (fun w => int_any b.n w hb.1.1 hb.1.2) (fun w => rsum_any b.n w (p78 (n_lt _ hb.1)))
            · rw [show sumV a b = outS (a.z + b.n) from by unfold sumV; simp [oa, ob, ma, mb, k1, k2]]
              exact rsm_p a b w oa ob ta tb (ibeq_f k1) (ibeq_f k2) _ _ _ _ (fun w => of_any a.n a.u w ha.1.1 ha.1.2 ha.2.1 ha.2.2) (fun w => int_any b.n w hb.1.1 hb.1.2) (fun w => plus_any a.z b.n w (z_lt a ha) (n_lt _ hb.1)) (fun w => rsum_any _ w (sum2_lt (z_lt a ha) (n_lt _ hb.1)))
        · rw [show sumV a b = (V0, 2) from by unfold sumV; simp [oa, ob, mb]]
          exact rsm_m2 a b w oa ob ta (by rw [kindB_mis, mb]; simp)
      · rw [show sumV a b = (V0, 2) from by unfold sumV; simp [oa, ob, ma]]
        exact rsm_m1 a b w oa ob (by rw [kindB_mis, ma]; simp)
theorem joinP_any (a b : VV) (w : World) (ha : a.rng) (hb : b.rng) : Calls Try.prog 14 #[.agg #[.int .i64 a.k, .int .i64 a.n, .int .u64 a.u, .string a.s], .agg #[.int .i64 b.k, .int .i64 b.n, .int .u64 b.u, .string b.s]] w fun e w' => e = .returned (resT (joinV a b)) ∧ Below w.heap.size w w' := by
  have e1 := areE_two 4 a b
  cases oab : (a.ok && b.ok)
  · rw [oab] at e1
    rw [show joinV a b = (V0, 120) from by unfold joinV; simp [oab]]
    exact join_e a b 120 w e1 rfl
  · rw [oab] at e1
    cases mab : (misB 4 a || misB 4 b)
    · rw [mab] at e1
      by_cases k1 : a.k = 0
      · rw [show joinV a b = (b, 0) from by unfold joinV; simp [oab, mab, k1]]
        exact join_a a b 0 w e1 rfl (ibeq_t k1)
      · by_cases k2 : b.k = 0
        · rw [show joinV a b = (a, 0) from by unfold joinV; simp [oab, mab, k1, k2]]
          exact join_b a b 0 w e1 rfl (ibeq_f k1) (ibeq_t k2)
        · rw [show joinV a b = outS (a.z + b.z) from by unfold joinV; simp [oab, mab, k1, k2]]
          exact join_p a b 0 w e1 rfl (ibeq_f k1) (ibeq_f k2) _ (fun w => plus_any' a b w ha.1 hb.1 ha.2 hb.2)
    · rw [mab] at e1
      rw [show joinV a b = (V0, 2) from by unfold joinV; simp [oab, mab]]
      exact join_e a b 2 w e1 rfl
theorem joinR_any (a b : VV) (w : World) (ha : a.rng) (hb : b.rng) : Calls Try.prog 16 #[.agg #[.int .i64 a.k, .int .i64 a.n, .int .u64 a.u, .string a.s], .agg #[.int .i64 b.k, .int .i64 b.n, .int .u64 b.u, .string b.s]] w fun e w' => e = .returned (resT (joinV a b)) ∧ Below w.heap.size w w' := by
  cases oa : a.ok
  · rw [show joinV a b = (V0, 120) from by unfold joinV; simp [oa]]
    exact rjn_e1 a b w oa
  · cases ob : b.ok
    · rw [show joinV a b = (V0, 120) from by unfold joinV; simp [ob]]
      exact rjn_e2 a b w oa ob
    · cases ma : misB 4 a
      · have ta : (rightB a.k a.n a.u a.s && kindB 4 a.k) = true := by rw [kindB_mis, ma, show rightB a.k a.n a.u a.s = true from oa]; rfl
        cases mb : misB 4 b
        · have tb : (rightB b.k b.n b.u b.s && kindB 4 b.k) = true := by rw [kindB_mis, mb, show rightB b.k b.n b.u b.s = true from ob]; rfl
          by_cases k1 : a.k = 0
          · rw [show joinV a b = (b, 0) from by unfold joinV; simp [oa, ob, ma, mb, k1]]
            exact rjn_n1 a b w oa ob ta tb (ibeq_t k1)
          · by_cases k2 : b.k = 0
            · rw [show joinV a b = (a, 0) from by unfold joinV; simp [oa, ob, ma, mb, k1, k2]]
              exact rjn_n2 a b w oa ob ta tb (ibeq_f k1) (ibeq_t k2)
            · rw [show joinV a b = outS (a.z + b.z) from by unfold joinV; simp [oa, ob, ma, mb, k1, k2]]
              refine rjn_p a b w oa ob ta tb (ibeq_f k1) (ibeq_f k2) _ (fun n u => bigV (n * 18446744073709551616 + u)) _ (fun n u h w => ?_) (fun w => plus_any a.z b.z w (z_lt a ha) (z_lt b hb)) (fun w => rsum_any _ w (sum2_lt (z_lt a ha) (z_lt b hb)))
              rcases h with ⟨rfl, rfl⟩ | ⟨rfl, rfl⟩
              · exact of_any a.n a.u w ha.1.1 ha.1.2 ha.2.1 ha.2.2
              · exact of_any b.n b.u w hb.1.1 hb.1.2 hb.2.1 hb.2.2
        · rw [show joinV a b = (V0, 2) from by unfold joinV; simp [oa, ob, mb]]
          exact rjn_m2 a b w oa ob ta (by rw [kindB_mis, mb]; simp)
      · rw [show joinV a b = (V0, 2) from by unfold joinV; simp [oa, ob, ma]]
        exact rjn_m1 a b w oa ob (by rw [kindB_mis, ma]; simp)
theorem endR_any (a : VV) (w : World) (ha : a.rng) : Calls Try.prog 11 #[.agg #[.int .i64 a.k, .int .i64 a.n, .int .u64 a.u, .string a.s]] w fun e w' => e = .returned (resT (endV a)) ∧ Below w.heap.size w w' := by
  cases oa : a.ok
  · rw [show endV a = (V0, 120) from by unfold endV; simp [oa]]
    exact rend_e1 a w oa
  · cases ma : misB 4 a
    · have ta : (rightB a.k a.n a.u a.s && kindB 4 a.k) = true := by rw [kindB_mis, ma, show rightB a.k a.n a.u a.s = true from oa]; rfl
      by_cases k1 : a.k = 0
      · rw [show endV a = (a, 0) from by unfold endV; simp [oa, ma, k1]]
        exact rend_n a w oa ta (ibeq_t k1)
      · have ho := fun w => of_any a.n a.u w ha.1.1 ha.1.2 ha.2.1 ha.2.2
        have hm := fun w => small_any a.z w (p78 (z_lt a ha))
        cases hs : smallB a.z
        · rw [show endV a = (V0, 140) from by unfold endV outR; simp [oa, ma, k1, hs]]
          exact rend_f a w oa ta (ibeq_f k1) _ _ ho hm hs
        · rw [show endV a = (VI a.z, 0) from by unfold endV outR; simp [oa, ma, k1, hs]]
          exact rend_y a w oa ta (ibeq_f k1) _ _ ho hm hs
    · rw [show endV a = (V0, 2) from by unfold endV; simp [oa, ma]]
      exact rend_m1 a w oa (by rw [kindB_mis, ma]; simp)
theorem endP_any (a : VV) (w : World) (ha : a.rng) : Calls Try.prog 10 #[.agg #[.int .i64 a.k, .int .i64 a.n, .int .u64 a.u, .string a.s]] w fun e w' => e = .returned (resT (endV a)) ∧ Below w.heap.size w w' := by
  have e1 := areE_one 4 a
  cases oa : a.ok
  · rw [oa] at e1
    rw [show endV a = (V0, 120) from by unfold endV; simp [oa]]
    exact end_e a 120 w e1 rfl
  · rw [oa] at e1
    cases ma : misB 4 a
    · rw [ma] at e1
      by_cases k1 : a.k = 0
      · rw [show endV a = (a, 0) from by unfold endV; simp [oa, ma, k1]]
        exact end_n a 0 w e1 rfl (ibeq_t k1)
      · rw [show endV a = outR a.z from by unfold endV; simp [oa, ma, k1]]
        obtain ⟨k, n, u, s⟩ := a
        have hk : k = 4 := by
          simp only [misB, decide_eq_false_iff_not] at ma
          simp only at k1
          omega
        subst hk
        have hs : s = ⟨#[]⟩ := by
          simp only [VV.ok, rightB] at oa
          simp at oa
          exact Go.WideShapes.bytes_inj (by rw [← ByteArray.toList_eq, oa])
        subst hs
        have ha1 := ha.1
        have ha2 := ha.2
        simp only [I64] at ha1
        simp only [U64] at ha2
        have hw2 : IntKind.i64.wrap u = wrap64 u := by rw [wrap_i]; unfold wrap64; rw [Int.bmod_def]; split <;> omega
        have hI := wrap64_I u
        have hI2 := hI
        unfold I64 at hI2
        have hq2 : (wrap64 u % 18446744073709551616 == u) = true := by simp; unfold wrap64; omega
        cases hs : smallB (VV.z ⟨4, n, u, ⟨#[]⟩⟩)
        · rw [show outR (VV.z ⟨4, n, u, ⟨#[]⟩⟩) = (V0, 140) from by unfold outR; simp [hs]]
          refine end_f n u (wrap64 u) _ _ w e1 rfl hw2 ?_ hq2 (fun w => wide_any 2 _ 0 _ w hI)
          refine ibeq_f (fun h => ?_)
          unfold smallB VV.z at hs
          simp only [decide_eq_false_iff_not] at hs
          unfold wrap64 at h
          omega
        · have hz : VV.z ⟨4, n, u, ⟨#[]⟩⟩ = wrap64 u := by
            unfold smallB VV.z at hs
            simp only [decide_eq_true_eq] at hs
            unfold VV.z wrap64
            simp only
            omega
          rw [show outR (VV.z ⟨4, n, u, ⟨#[]⟩⟩) = (VI (wrap64 u), 0) from by unfold outR; rw [hs, hz]; rfl]
          refine end_y n u (wrap64 u) _ _ w e1 rfl hw2 ?_ hq2 (fun w => wide_any 2 _ 0 _ w hI)
          refine ibeq_t ?_
          unfold VV.z at hz
          simp only at hz
          omega
    · rw [ma] at e1
      rw [show endV a = (V0, 2) from by unfold endV; simp [oa, ma]]
      exact end_e a 2 w e1 rfl
end Go.Proofs.Ytemakmgppafccaa
