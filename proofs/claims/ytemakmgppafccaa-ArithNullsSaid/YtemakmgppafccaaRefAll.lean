/- bowspritref04.Do, for the four operators. Conditions: numbers within their kind. -/
import Derived.Test.YtemakmgppafccaaRefOp
namespace Go.Proofs.Ytemakmgppafccaa
open Go.RowKit
theorem ref_add (a b : VV) (w : World) (ia : I64 a.n) (ib : I64 b.n) :
    Calls Try.prog 25 #[.int .u8 43, .agg #[.int .i64 a.k, .int .i64 a.n, .int .u64 a.u, .string a.s], .agg #[.int .i64 b.k, .int .i64 b.n, .int .u64 b.u, .string b.s]] w fun e w' => e = .returned (resT (opV (a.n + b.n) a b)) ∧ Below w.heap.size w w' := by
  by_cases h1 : rightB a.k a.n a.u a.s = true
  · by_cases h2 : rightB b.k b.n b.u b.s = true
    · have hall : [a, b].all VV.ok = true := by simp [VV.ok, h1, h2]
      by_cases m1 : misB 2 a = true
      · have e : opV (a.n + b.n) a b = (V0, 2) := by unfold opV areE; rw [if_pos hall]; simp [m1]
        rw [e]
        exact refdo_m1 _ a b w h1 h2 (by rw [kindB_mis, m1]; simp)
      · have m1' : misB 2 a = false := by simpa using m1
        by_cases m2 : misB 2 b = true
        · have e : opV (a.n + b.n) a b = (V0, 2) := by unfold opV areE; rw [if_pos hall]; simp [m2]
          rw [e]
          exact refdo_m2 _ a b w h1 h2 (by rw [kindB_mis, m1', h1]; rfl) (by rw [kindB_mis, m2]; simp)
        · have m2' : misB 2 b = false := by simpa using m2
          have hE : areE 2 [a, b] = 0 := by unfold areE; rw [if_pos hall]; simp [m1', m2']
          have t1 : (rightB a.k a.n a.u a.s && kindB 2 a.k) = true := by rw [kindB_mis, m1', h1]; rfl
          have t2 : (rightB b.k b.n b.u b.s && kindB 2 b.k) = true := by rw [kindB_mis, m2', h2]; rfl
          by_cases k1 : a.k = 0
          · have e : opV (a.n + b.n) a b = (V0, 0) := by unfold opV; rw [if_neg (by simp [hE]), if_pos (.inl k1)]
            rw [e]
            exact refdo_n1 _ a b w h1 h2 t1 t2 (ibeq_t k1)
          · replace k1 := ibeq_f k1
            by_cases k2 : b.k = 0
            · have e : opV (a.n + b.n) a b = (V0, 0) := by unfold opV; rw [if_neg (by simp [hE]), if_pos (.inr k2)]
              rw [e]
              exact refdo_n2 _ a b w h1 h2 t1 t2 k1 (ibeq_t k2)
            · have e : opV (a.n + b.n) a b = outR (a.n + b.n) := by unfold opV outR; rw [if_neg (by simp [hE]), if_neg (fun h => h.elim (fun h => by rw [h] at k1; cases k1) k2)]
              rw [e]
              replace k2 := ibeq_f k2
              exact refop_add a b w h1 h2 t1 t2 k1 k2 ia ib
    · have h2' : rightB b.k b.n b.u b.s = false := by simpa using h2
      have e : opV (a.n + b.n) a b = (V0, 120) := by unfold opV areE; rw [if_neg (show ¬ [a, b].all VV.ok = true by simp [VV.ok, h2'])]; simp
      rw [e]
      exact refdo_e2 _ a b w h1 h2'
  · have h1' : rightB a.k a.n a.u a.s = false := by simpa using h1
    have e : opV (a.n + b.n) a b = (V0, 120) := by unfold opV areE; rw [if_neg (show ¬ [a, b].all VV.ok = true by simp [VV.ok, h1'])]; simp
    rw [e]
    exact refdo_e1 _ a b w h1'
theorem ref_sub (a b : VV) (w : World) (ia : I64 a.n) (ib : I64 b.n) :
    Calls Try.prog 25 #[.int .u8 45, .agg #[.int .i64 a.k, .int .i64 a.n, .int .u64 a.u, .string a.s], .agg #[.int .i64 b.k, .int .i64 b.n, .int .u64 b.u, .string b.s]] w fun e w' => e = .returned (resT (opV (a.n - b.n) a b)) ∧ Below w.heap.size w w' := by
  by_cases h1 : rightB a.k a.n a.u a.s = true
  · by_cases h2 : rightB b.k b.n b.u b.s = true
    · have hall : [a, b].all VV.ok = true := by simp [VV.ok, h1, h2]
      by_cases m1 : misB 2 a = true
      · have e : opV (a.n - b.n) a b = (V0, 2) := by unfold opV areE; rw [if_pos hall]; simp [m1]
        rw [e]
        exact refdo_m1 _ a b w h1 h2 (by rw [kindB_mis, m1]; simp)
      · have m1' : misB 2 a = false := by simpa using m1
        by_cases m2 : misB 2 b = true
        · have e : opV (a.n - b.n) a b = (V0, 2) := by unfold opV areE; rw [if_pos hall]; simp [m2]
          rw [e]
          exact refdo_m2 _ a b w h1 h2 (by rw [kindB_mis, m1', h1]; rfl) (by rw [kindB_mis, m2]; simp)
        · have m2' : misB 2 b = false := by simpa using m2
          have hE : areE 2 [a, b] = 0 := by unfold areE; rw [if_pos hall]; simp [m1', m2']
          have t1 : (rightB a.k a.n a.u a.s && kindB 2 a.k) = true := by rw [kindB_mis, m1', h1]; rfl
          have t2 : (rightB b.k b.n b.u b.s && kindB 2 b.k) = true := by rw [kindB_mis, m2', h2]; rfl
          by_cases k1 : a.k = 0
          · have e : opV (a.n - b.n) a b = (V0, 0) := by unfold opV; rw [if_neg (by simp [hE]), if_pos (.inl k1)]
            rw [e]
            exact refdo_n1 _ a b w h1 h2 t1 t2 (ibeq_t k1)
          · replace k1 := ibeq_f k1
            by_cases k2 : b.k = 0
            · have e : opV (a.n - b.n) a b = (V0, 0) := by unfold opV; rw [if_neg (by simp [hE]), if_pos (.inr k2)]
              rw [e]
              exact refdo_n2 _ a b w h1 h2 t1 t2 k1 (ibeq_t k2)
            · have e : opV (a.n - b.n) a b = outR (a.n - b.n) := by unfold opV outR; rw [if_neg (by simp [hE]), if_neg (fun h => h.elim (fun h => by rw [h] at k1; cases k1) k2)]
              rw [e]
              replace k2 := ibeq_f k2
              exact by rw [Int.sub_eq_add_neg]; exact refop_sub a b w h1 h2 t1 t2 k1 k2 ia ib
    · have h2' : rightB b.k b.n b.u b.s = false := by simpa using h2
      have e : opV (a.n - b.n) a b = (V0, 120) := by unfold opV areE; rw [if_neg (show ¬ [a, b].all VV.ok = true by simp [VV.ok, h2'])]; simp
      rw [e]
      exact refdo_e2 _ a b w h1 h2'
  · have h1' : rightB a.k a.n a.u a.s = false := by simpa using h1
    have e : opV (a.n - b.n) a b = (V0, 120) := by unfold opV areE; rw [if_neg (show ¬ [a, b].all VV.ok = true by simp [VV.ok, h1'])]; simp
    rw [e]
    exact refdo_e1 _ a b w h1'
theorem ref_mul (a b : VV) (w : World) (ia : I64 a.n) (ib : I64 b.n) :
    Calls Try.prog 25 #[.int .u8 42, .agg #[.int .i64 a.k, .int .i64 a.n, .int .u64 a.u, .string a.s], .agg #[.int .i64 b.k, .int .i64 b.n, .int .u64 b.u, .string b.s]] w fun e w' => e = .returned (resT (opV (a.n * b.n) a b)) ∧ Below w.heap.size w w' := by
  by_cases h1 : rightB a.k a.n a.u a.s = true
  · by_cases h2 : rightB b.k b.n b.u b.s = true
    · have hall : [a, b].all VV.ok = true := by simp [VV.ok, h1, h2]
      by_cases m1 : misB 2 a = true
      · have e : opV (a.n * b.n) a b = (V0, 2) := by unfold opV areE; rw [if_pos hall]; simp [m1]
        rw [e]
        exact refdo_m1 _ a b w h1 h2 (by rw [kindB_mis, m1]; simp)
      · have m1' : misB 2 a = false := by simpa using m1
        by_cases m2 : misB 2 b = true
        · have e : opV (a.n * b.n) a b = (V0, 2) := by unfold opV areE; rw [if_pos hall]; simp [m2]
          rw [e]
          exact refdo_m2 _ a b w h1 h2 (by rw [kindB_mis, m1', h1]; rfl) (by rw [kindB_mis, m2]; simp)
        · have m2' : misB 2 b = false := by simpa using m2
          have hE : areE 2 [a, b] = 0 := by unfold areE; rw [if_pos hall]; simp [m1', m2']
          have t1 : (rightB a.k a.n a.u a.s && kindB 2 a.k) = true := by rw [kindB_mis, m1', h1]; rfl
          have t2 : (rightB b.k b.n b.u b.s && kindB 2 b.k) = true := by rw [kindB_mis, m2', h2]; rfl
          by_cases k1 : a.k = 0
          · have e : opV (a.n * b.n) a b = (V0, 0) := by unfold opV; rw [if_neg (by simp [hE]), if_pos (.inl k1)]
            rw [e]
            exact refdo_n1 _ a b w h1 h2 t1 t2 (ibeq_t k1)
          · replace k1 := ibeq_f k1
            by_cases k2 : b.k = 0
            · have e : opV (a.n * b.n) a b = (V0, 0) := by unfold opV; rw [if_neg (by simp [hE]), if_pos (.inr k2)]
              rw [e]
              exact refdo_n2 _ a b w h1 h2 t1 t2 k1 (ibeq_t k2)
            · have e : opV (a.n * b.n) a b = outR (a.n * b.n) := by unfold opV outR; rw [if_neg (by simp [hE]), if_neg (fun h => h.elim (fun h => by rw [h] at k1; cases k1) k2)]
              rw [e]
              replace k2 := ibeq_f k2
              exact refop_mul a b w h1 h2 t1 t2 k1 k2 ia ib
    · have h2' : rightB b.k b.n b.u b.s = false := by simpa using h2
      have e : opV (a.n * b.n) a b = (V0, 120) := by unfold opV areE; rw [if_neg (show ¬ [a, b].all VV.ok = true by simp [VV.ok, h2'])]; simp
      rw [e]
      exact refdo_e2 _ a b w h1 h2'
  · have h1' : rightB a.k a.n a.u a.s = false := by simpa using h1
    have e : opV (a.n * b.n) a b = (V0, 120) := by unfold opV areE; rw [if_neg (show ¬ [a, b].all VV.ok = true by simp [VV.ok, h1'])]; simp
    rw [e]
    exact refdo_e1 _ a b w h1'
theorem ref_div (r : Int) (a b : VV) (w : World) (ia : I64 a.n) (ib : I64 b.n) (hr : r = if b.n = 0 then 9223372036854775808 else a.n.tdiv b.n) :
    Calls Try.prog 25 #[.int .u8 47, .agg #[.int .i64 a.k, .int .i64 a.n, .int .u64 a.u, .string a.s], .agg #[.int .i64 b.k, .int .i64 b.n, .int .u64 b.u, .string b.s]] w fun e w' => e = .returned (resT (opV r a b)) ∧ Below w.heap.size w w' := by
  by_cases h1 : rightB a.k a.n a.u a.s = true
  · by_cases h2 : rightB b.k b.n b.u b.s = true
    · have hall : [a, b].all VV.ok = true := by simp [VV.ok, h1, h2]
      by_cases m1 : misB 2 a = true
      · have e : opV r a b = (V0, 2) := by unfold opV areE; rw [if_pos hall]; simp [m1]
        rw [e]
        exact refdo_m1 _ a b w h1 h2 (by rw [kindB_mis, m1]; simp)
      · have m1' : misB 2 a = false := by simpa using m1
        by_cases m2 : misB 2 b = true
        · have e : opV r a b = (V0, 2) := by unfold opV areE; rw [if_pos hall]; simp [m2]
          rw [e]
          exact refdo_m2 _ a b w h1 h2 (by rw [kindB_mis, m1', h1]; rfl) (by rw [kindB_mis, m2]; simp)
        · have m2' : misB 2 b = false := by simpa using m2
          have hE : areE 2 [a, b] = 0 := by unfold areE; rw [if_pos hall]; simp [m1', m2']
          have t1 : (rightB a.k a.n a.u a.s && kindB 2 a.k) = true := by rw [kindB_mis, m1', h1]; rfl
          have t2 : (rightB b.k b.n b.u b.s && kindB 2 b.k) = true := by rw [kindB_mis, m2', h2]; rfl
          by_cases k1 : a.k = 0
          · have e : opV r a b = (V0, 0) := by unfold opV; rw [if_neg (by simp [hE]), if_pos (.inl k1)]
            rw [e]
            exact refdo_n1 _ a b w h1 h2 t1 t2 (ibeq_t k1)
          · replace k1 := ibeq_f k1
            by_cases k2 : b.k = 0
            · have e : opV r a b = (V0, 0) := by unfold opV; rw [if_neg (by simp [hE]), if_pos (.inr k2)]
              rw [e]
              exact refdo_n2 _ a b w h1 h2 t1 t2 k1 (ibeq_t k2)
            · have e : opV r a b = outR r := by unfold opV outR; rw [if_neg (by simp [hE]), if_neg (fun h => h.elim (fun h => by rw [h] at k1; cases k1) k2)]
              rw [e]
              replace k2 := ibeq_f k2
              by_cases h0 : b.n = 0
              · rw [if_pos h0] at hr
                subst hr
                exact refop_div0 a b w h1 h2 t1 t2 k1 k2 (ibeq_t h0)
              · rw [if_neg h0] at hr
                subst hr
                exact refop_div a b w h1 h2 t1 t2 k1 k2 ia ib h0
    · have h2' : rightB b.k b.n b.u b.s = false := by simpa using h2
      have e : opV r a b = (V0, 120) := by unfold opV areE; rw [if_neg (show ¬ [a, b].all VV.ok = true by simp [VV.ok, h2'])]; simp
      rw [e]
      exact refdo_e2 _ a b w h1 h2'
  · have h1' : rightB a.k a.n a.u a.s = false := by simpa using h1
    have e : opV r a b = (V0, 120) := by unfold opV areE; rw [if_neg (show ¬ [a, b].all VV.ok = true by simp [VV.ok, h1'])]; simp
    rw [e]
    exact refdo_e1 _ a b w h1'
end Go.Proofs.Ytemakmgppafccaa
