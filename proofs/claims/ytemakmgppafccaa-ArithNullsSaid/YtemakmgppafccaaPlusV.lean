/- arith.wide, arith.plus: sums under way of 128 bits. Conditions: fields within their kinds. -/
import Derived.Test.YtemakmgppafccaaRefAll
import Derived.Laws.Externs
namespace Go.Proofs.Ytemakmgppafccaa
open Go.RowKit
theorem add64 (x y c : Int) (hx : 0 ≤ x) (hy : 0 ≤ y) (hc0 : 0 ≤ c) (hc : c ≤ 1) (w : World) : (callFunc 52 #[.int .u64 x, .int .u64 y, .int .u64 c]).run Try.prog w =
    .ok (.value (.tuple #[.int .u64 ((x + y + c) % 18446744073709551616), .int .u64 ((x + y + c) / 18446744073709551616)])) w := by
  rw [run_callFunc_extern Try.func52 (by kernel_rfl) (by kernel_rfl) (by kernel_rfl) (e := add64Entry) (by kernel_rfl), run_add64 x y c hx hy hc0 hc]
  rfl
/-- a sum under way -/
def VS (z : Int) : VV := ⟨4, z / 18446744073709551616, z % 18446744073709551616, ⟨#[]⟩⟩
def outS (z : Int) : VV × Int := if fitB z then (VS z, 0) else (V0, 140)
def U64 (n : Int) : Prop := 0 ≤ n ∧ n < 18446744073709551616
/-- what a sum under way comes to -/
def VV.z (v : VV) : Int := v.n * 18446744073709551616 + v.u
set_option maxHeartbeats 1000000 in
theorem wide_any (k n u : Int) (s : ByteArray) (w : World) (hn : I64 n) : Calls Try.prog 28 #[.agg #[.int .i64 k, .int .i64 n, .int .u64 u, .string s]] w fun e w' => e = .returned (.agg #[.int .i64 4, .int .i64 (n / 18446744073709551616), .int .u64 (n % 18446744073709551616), .string ⟨#[]⟩]) ∧ Below w.heap.size w w' := by
  have hw := wrap_u n
  have hq : n / 18446744073709551616 = n / 9223372036854775808 := by unfold I64 at hn; omega
  rw [hq]
  clear hq hn
  generalize hm : n % 18446744073709551616 = m at *
  clear hm
  go_enter Try.func28, Try.ntmps28
  go_wp2
  refine bodyPost_ret (v := .agg #[.int .i64 4, .int .i64 (n / 9223372036854775808), .int .u64 m, .string ⟨#[]⟩]) (by simp [results, Try.results28, go_sem]) rfl ⟨rfl, ?_⟩
  exact ((Below.refl _ _).alloc (Nat.le_refl _) _).alloc (by simp) _
set_option maxRecDepth 100000 in
set_option maxHeartbeats 2000000 in
theorem plus_t (a b : VV) (lo ca m m' x y hi d : Int) (w : World)
    (h1 : ∀ w, (callFunc 52 #[.int .u64 a.u, .int .u64 b.u, .int .u64 0]).run Try.prog w = .ok (.value (.tuple #[.int .u64 lo, .int .u64 ca])) w)
    (hm : IntKind.u64.wrap a.n = m) (hm' : IntKind.u64.wrap b.n = m')
    (h2 : ∀ w, (callFunc 52 #[.int .u64 m, .int .u64 m', .int .u64 ca]).run Try.prog w = .ok (.value (.tuple #[.int .u64 x, .int .u64 y])) w)
    (_hw : wrap64 x = hi) (hw2 : IntKind.i64.wrap x = hi) (hd : bits .and .i64 (bits .xor .i64 a.n hi) (bits .xor .i64 b.n hi) = d) (ht : decide (d < 0) = true) :
    Calls Try.prog 34 #[.agg #[.int .i64 a.k, .int .i64 a.n, .int .u64 a.u, .string a.s], .agg #[.int .i64 b.k, .int .i64 b.n, .int .u64 b.u, .string b.s]] w fun e w' => e = .returned (resT (V0, 140)) ∧ Below w.heap.size w w' := by
  have b0 := bl_al (bl_al (bl_al (Below.refl w.heap.size w) (.cells #[.int .i64 a.k, .int .i64 a.n, .int .u64 a.u, .string a.s] 27)) (.cells #[.int .i64 b.k, .int .i64 b.n, .int .u64 b.u, .string b.s] 27))
  go_enter Try.func34, Try.ntmps34
  go_wp2
  exact bodyPost_ret (v := .tuple #[.agg #[.int .i64 0, .int .i64 0, .int .u64 0, .string ⟨#[]⟩], .int .i64 140]) (by simp [results, Try.results34, go_sem]) rfl ⟨rfl, b0 _⟩
set_option maxRecDepth 100000 in
set_option maxHeartbeats 2000000 in
theorem plus_f (a b : VV) (lo ca m m' x y hi d : Int) (w : World)
    (h1 : ∀ w, (callFunc 52 #[.int .u64 a.u, .int .u64 b.u, .int .u64 0]).run Try.prog w = .ok (.value (.tuple #[.int .u64 lo, .int .u64 ca])) w)
    (hm : IntKind.u64.wrap a.n = m) (hm' : IntKind.u64.wrap b.n = m')
    (h2 : ∀ w, (callFunc 52 #[.int .u64 m, .int .u64 m', .int .u64 ca]).run Try.prog w = .ok (.value (.tuple #[.int .u64 x, .int .u64 y])) w)
    (_hw : wrap64 x = hi) (hw2 : IntKind.i64.wrap x = hi) (hd : bits .and .i64 (bits .xor .i64 a.n hi) (bits .xor .i64 b.n hi) = d) (ht : decide (d < 0) = false) :
    Calls Try.prog 34 #[.agg #[.int .i64 a.k, .int .i64 a.n, .int .u64 a.u, .string a.s], .agg #[.int .i64 b.k, .int .i64 b.n, .int .u64 b.u, .string b.s]] w fun e w' => e = .returned (resT (⟨4, hi, lo, ⟨#[]⟩⟩, 0)) ∧ Below w.heap.size w w' := by
  have b0 := bl_al (bl_al (bl_al (Below.refl w.heap.size w) (.cells #[.int .i64 a.k, .int .i64 a.n, .int .u64 a.u, .string a.s] 27)) (.cells #[.int .i64 b.k, .int .i64 b.n, .int .u64 b.u, .string b.s] 27))
  go_enter Try.func34, Try.ntmps34
  go_wp2
  exact bodyPost_ret (v := .tuple #[.agg #[.int .i64 4, .int .i64 hi, .int .u64 lo, .string ⟨#[]⟩], .int .i64 0]) (by simp [results, Try.results34, go_sem]) rfl ⟨rfl, b0 _⟩
theorem plus_any' (a b : VV) (w : World) (ia : I64 a.n) (ib : I64 b.n) (ua : U64 a.u) (ub : U64 b.u) :
    Calls Try.prog 34 #[.agg #[.int .i64 a.k, .int .i64 a.n, .int .u64 a.u, .string a.s], .agg #[.int .i64 b.k, .int .i64 b.n, .int .u64 b.u, .string b.s]] w fun e w' => e = .returned (resT (outS (a.z + b.z))) ∧ Below w.heap.size w w' := by
  have h1 := fun w => add64 a.u b.u 0 ua.1 ub.1 (Int.le_refl 0) (by decide) w
  simp only [Int.add_zero] at h1
  have ua' := ua
  have ub' := ub
  unfold U64 at ua' ub'
  have hc0 : 0 ≤ (a.u + b.u) / 18446744073709551616 := by omega
  have hc1 : (a.u + b.u) / 18446744073709551616 ≤ 1 := by omega
  have h2 := fun w => add64 (a.n % 18446744073709551616) (b.n % 18446744073709551616) ((a.u + b.u) / 18446744073709551616) (by omega) (by omega) hc0 hc1 w
  have hI := wrap64_I ((a.n % 18446744073709551616 + b.n % 18446744073709551616 + (a.u + b.u) / 18446744073709551616) % 18446744073709551616)
  have ho := over_i a.n b.n _ ia ib hI
  have hwe : ∀ n, IntKind.i64.wrap n = wrap64 n := fun n => by rw [wrap_i]; unfold wrap64; rw [Int.bmod_def]; split <;> omega
  unfold I64 at ia ib hI
  generalize hca : (a.u + b.u) / 18446744073709551616 = ca at *
  generalize hlo : (a.u + b.u) % 18446744073709551616 = lo at *
  generalize hx : (a.n % 18446744073709551616 + b.n % 18446744073709551616 + ca) % 18446744073709551616 = x at *
  have hz : a.z + b.z = (a.n + b.n + ca) * 18446744073709551616 + lo := by unfold VV.z; omega
  have hhi : ∃ k, wrap64 x = a.n + b.n + ca + k * 18446744073709551616 := ⟨(wrap64 x - (a.n + b.n + ca)) / 18446744073709551616, by unfold wrap64; omega⟩
  obtain ⟨k, hk⟩ := hhi
  generalize hhx : wrap64 x = hi at *
  generalize hdd : bits .and .i64 (bits .xor .i64 a.n hi) (bits .xor .i64 b.n hi) = d at *
  by_cases hd : d < 0
  · have e : outS (a.z + b.z) = (V0, 140) := by
      unfold outS
      rw [if_neg]
      rw [hz]
      unfold fitB
      simp only [decide_eq_true_eq]
      have := ho.1 hd
      omega
    rw [e]
    exact plus_t a b _ _ _ _ _ _ _ _ w h1 (wrap_u _) (wrap_u _) h2 hhx (by rw [hwe]; exact hhx) hdd (decide_eq_true hd)
  · have hno : ¬ ((a.n < 0 ↔ ¬ hi < 0) ∧ (b.n < 0 ↔ ¬ hi < 0)) := fun h => hd (ho.2 h)
    have hk0 : k = 0 := by omega
    have e : outS (a.z + b.z) = (⟨4, hi, lo, ⟨#[]⟩⟩, 0) := by
      unfold outS
      rw [if_pos]
      · unfold VS
        rw [hz]
        have e1 : ((a.n + b.n + ca) * 18446744073709551616 + lo) / 18446744073709551616 = hi := by omega
        have e2 : ((a.n + b.n + ca) * 18446744073709551616 + lo) % 18446744073709551616 = lo := by omega
        rw [e1, e2]
      · rw [hz]
        unfold fitB
        simp only [decide_eq_true_eq]
        omega
    rw [e]
    exact plus_f a b _ _ _ _ _ _ _ _ w h1 (wrap_u _) (wrap_u _) h2 hhx (by rw [hwe]; exact hhx) hdd (decide_eq_false hd)
end Go.Proofs.Ytemakmgppafccaa
