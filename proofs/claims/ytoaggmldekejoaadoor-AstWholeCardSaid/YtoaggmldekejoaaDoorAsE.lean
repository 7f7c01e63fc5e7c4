/- slices.Equal of nodes; the layer's SameTree and the reference's. Conditions: the slices read so. -/
import Derived.Test.YtoaggmldekejoaaDoorAsW2
import Derived.Test.YtoaggmldekejoaaDoorAsF
namespace Go.Proofs.YtoaggmldekejoaaDoor
open Go.RowKit
def eqND (a b : Nd) : Bool := decide (a.p.tag = b.p.tag) && (decide (a.l = b.l) && (decide (a.r = b.r) && (decide (a.p.k = b.p.k) && (decide (a.p.n = b.p.n) && (decide (a.p.u = b.p.u) && (decide (a.p.s.toList = b.p.s.toList) && (decide (a.p.tb.toList = b.p.tb.toList) && decide (a.p.nm.toList = b.p.nm.toList))))))))
theorem ba_list {s t : ByteArray} : s.toList = t.toList ↔ s = t := by
  rw [toList_data, toList_data]
  constructor
  · intro h; exact (ba_of h).trans rfl
  · intro h; rw [h]
theorem eqND_dec (a b : Nd) : eqND a b = decide (a = b) := by
  obtain ⟨⟨t, k, n, u, s, tb, nm⟩, l, r⟩ := a
  obtain ⟨⟨t', k', n', u', s', tb', nm'⟩, l', r'⟩ := b
  unfold eqND
  rw [Bool.eq_iff_iff]
  simp only [Bool.and_eq_true, decide_eq_true_eq, ba_list, Nd.mk.injEq, Py.mk.injEq]
  constructor
  · rintro ⟨h1, h2, h3, h4, h5, h6, h7, h8, h9⟩; exact ⟨⟨h1, h4, h5, h6, h7, h8, h9⟩, h2, h3⟩
  · rintro ⟨⟨h1, h4, h5, h6, h7, h8, h9⟩, h2, h3⟩; exact ⟨h1, h2, h3, h4, h5, h6, h7, h8, h9⟩
theorem run_eqND (a b : Nd) : ∀ W, (Op.equalIn 10000 27 (.agg #[.int .i64 a.p.tag, .int .i64 a.l, .int .i64 a.r, .int .i64 a.p.k, .int .i64 a.p.n, .int .u64 a.p.u, .string a.p.s, .string a.p.tb, .string a.p.nm]) (.agg #[.int .i64 b.p.tag, .int .i64 b.l, .int .i64 b.r, .int .i64 b.p.k, .int .i64 b.p.n, .int .u64 b.p.u, .string b.p.s, .string b.p.tb, .string b.p.nm])).run Tryd.prog W = .ok (decide (a = b)) W := by
  intro W
  rw [← eqND_dec]
  unfold eqND
  rw [run_equalIn_agg W 9999 _ _ _ (by kernel_rfl) (by kernel_rfl)]
  go_simp
  by_cases h1 : a.p.tag = b.p.tag <;> by_cases h2 : a.l = b.l <;> by_cases h3 : a.r = b.r <;> simp [h1, h2, h3]
  by_cases h4 : a.p.k = b.p.k <;> by_cases h5 : a.p.n = b.p.n <;> by_cases h6 : a.p.u = b.p.u <;> simp [h4, h5, h6]
  by_cases h7 : a.p.s.toList = b.p.s.toList <;> by_cases h8 : a.p.tb.toList = b.p.tb.toList <;> by_cases h9 : a.p.nm.toList = b.p.nm.toList <;> simp [h7, h8, h9]
theorem list_ext_lt {α : Type} {a b : List α} {n : Nat} (ha : a.length = n) (hb : b.length = n) (h : ∀ (k : Nat) (x y : α), k < n → a[k]? = some x → b[k]? = some y → x = y) : a = b := by
  refine List.ext_getElem (by omega) fun k h1 h2 => h k _ _ (by omega) (List.getElem?_eq_getElem h1) (List.getElem?_eq_getElem h2)
theorem at_eq {α : Type} {l : List α} {k : Nat} {x y : α} (h : l[k]? = some x) (h2 : l[k]? = some y) : x = y := by rw [h] at h2; injection h2
set_option maxRecDepth 100000 in
set_option maxHeartbeats 4000000 in
theorem equalN (F G : Nat → Prop) (xs ys : List Nd) (A : Option Addr) (m c : Nat) (B : Option Addr) (n d : Nat) (w : World) (h : LN.rd w F A m xs) (k : LN.rd w G B n ys) (hm : m ≤ 9223372036854775807) :
    Calls Tryd.prog 28 #[.slice A m c, .slice B n d] w fun e w' => e = .returned (.bool (decide (xs = ys))) ∧ Below w.heap.size w w' := by
  have HL := Lib.hid (And.intro (Lay.rd_len h) (Lay.rd_len k))
  have HR := Lib.hid (show decide (xs = ys) = true ↔ xs = ys from decide_eq_true_iff)
  generalize decide (xs = ys) = r at *
  have HNO := Lib.hid (show ¬ xs = ys → r = false from fun h => by cases r; rfl; exact absurd (HR.out.1 rfl) h)
  go_enter Tryd.func28, Tryd.ntmps28
  by_cases c4 : m = n
  case neg =>
    have e2 : ((m : Int) == (n : Int)) = false := by simp; omega
    have e3 : (m == n) = false := by simpa using c4
    have HQ := Lib.hid (HNO.out (fun h => c4 (by rw [← HL.out.1, ← HL.out.2, h])))
    clear c4
    go_wp2
    go_ret
    exact ⟨ret_bool HQ.out.symm, Below.refl _ _⟩
  subst c4
  go_wp2_with fail
  go_loopg [13] m (fun g a wr => ∃ i : Nat, i + g = m ∧ a = .int .i64 i ∧ (∀ (k : Nat) (x y : Nd), k < i → xs[k]? = some x → ys[k]? = some y → x = y) ∧ Below w.heap.size w wr)
  case atStart => exact ⟨0, by omega, rfl, fun k x y hk => by omega, Below.refl _ _⟩
  case round =>
    obtain ⟨i, hig, rfl, heq, b1⟩ := hrel
    have HEQ := Lib.hid heq
    have HB1 := Lib.hid b1
    have h5 := Lay.rd_below h b1
    have h6 := Lay.rd_below k b1
    clear heq b1
    by_cases hlt : i < m
    · have hi1 : (i : Int) < (m : Int) := by omega
      obtain ⟨p, x, hAe, hx, s1⟩ := LN_at h5 hlt
      obtain ⟨p2, y, hAe2, hy, s2⟩ := LN_at h6 hlt
      obtain rfl : A = some p := hAe
      obtain rfl : B = some p2 := hAe2
      have e0 := s1.c0
      have e1 := s1.c1
      have e2 := s1.c2
      have e3 := s1.c3
      have e4 := s1.c4
      have e5 := s1.c5
      have e6 := s1.c6
      have e7 := s1.c7
      have e8 := s1.c8
      have f0 := s2.c0
      have f1 := s2.c1
      have f2 := s2.c2
      have f3 := s2.c3
      have f4 := s2.c4
      have f5 := s2.c5
      have f6 := s2.c6
      have f7 := s2.c7
      have f8 := s2.c8
      have HX := Lib.hid hx
      have HY := Lib.hid hy
      clear hx hy s1 s2
      go_wp2_with fail
      by_cases hq : x = y
      · have HQE : ∀ W, (Op.equalIn 10000 27 (.agg #[.int .i64 x.p.tag, .int .i64 x.l, .int .i64 x.r, .int .i64 x.p.k, .int .i64 x.p.n, .int .u64 x.p.u, .string x.p.s, .string x.p.tb, .string x.p.nm]) (.agg #[.int .i64 y.p.tag, .int .i64 y.l, .int .i64 y.r, .int .i64 y.p.k, .int .i64 y.p.n, .int .u64 y.p.u, .string y.p.s, .string y.p.tb, .string y.p.nm])).run Tryd.prog W = .ok true W := fun W => by rw [run_eqND, decide_eq_true hq]
        have HN := Lib.hid (show ∀ (k : Nat) (x y : Nd), k < i + 1 → xs[k]? = some x → ys[k]? = some y → x = y from fun k x' y' hk h8 h9 => by
          rcases Nat.lt_or_ge k i with h7 | h7
          · exact HEQ.out k x' y' h7 h8 h9
          · obtain rfl : k = i := by omega
            rw [← at_eq HX.out h8, ← at_eq HY.out h9]
            exact hq)
        clear hq
        go_quiet (fail)
        go_wp2
        go_roundg (gk - 1)
        · exact ⟨i + 1, by omega, by go_num, HN.out, bl_dr HB1.out _⟩
        · omega
      · have HQE : ∀ W, (Op.equalIn 10000 27 (.agg #[.int .i64 x.p.tag, .int .i64 x.l, .int .i64 x.r, .int .i64 x.p.k, .int .i64 x.p.n, .int .u64 x.p.u, .string x.p.s, .string x.p.tb, .string x.p.nm]) (.agg #[.int .i64 y.p.tag, .int .i64 y.l, .int .i64 y.r, .int .i64 y.p.k, .int .i64 y.p.n, .int .u64 y.p.u, .string y.p.s, .string y.p.tb, .string y.p.nm])).run Tryd.prog W = .ok false W := fun W => by rw [run_eqND, decide_eq_false hq]
        have HQ := Lib.hid (HNO.out (fun h => hq (by have h8 := HX.out; rw [h] at h8; exact at_eq h8 HY.out)))
        clear hq
        go_quiet (fail)
        go_wp2
        go_ret
        exact ⟨ret_bool HQ.out.symm, bl_dr HB1.out _⟩
    · obtain rfl : i = m := by omega
      have hi1 : (i : Int) ≤ (i : Int) := by omega
      have HQ := Lib.hid (HR.out.2 (list_ext_lt HL.out.1 HL.out.2 HEQ.out))
      go_wp2
      go_ret
      exact ⟨ret_bool HQ.out.symm, HB1.out⟩
set_option maxRecDepth 100000 in
theorem sametree_any (F G : Nat → Prop) (xs ys : List Nd) (A : Option Addr) (m c : Nat) (B : Option Addr) (n d : Nat) (w : World) (h : LN.rd w F A m xs) (k : LN.rd w G B n ys) (hm : m ≤ 9223372036854775807) :
    Calls Tryd.prog 19 #[.agg #[.slice A m c], .agg #[.slice B n d]] w fun e w' => e = .returned (.bool (decide (xs = ys))) ∧ Below w.heap.size w w' := by
  have HC := Lib.hid (fun w' (q : Below w.heap.size w w') => equalN F G xs ys A m c B n d w' (Lay.rd_below h q) (Lay.rd_below k q) hm)
  generalize decide (xs = ys) = r at *
  clear h k
  go_enter Tryd.func19, Tryd.ntmps19
  go_wp2_with fail
  refine (HC.out _ (by first | exact Below.refl _ _ | exact bl_al (bl_al (Below.refl _ _) _) _ | exact bl_al (Below.refl _ _) _)).mono ?_
  rintro e w2 ⟨rfl, q2⟩
  go_wp2
  go_ret
  exact ⟨rfl, by first | exact q2 | exact bl_ca (bl_al (bl_al (Below.refl _ _) _) _) q2⟩
end Go.Proofs.YtoaggmldekejoaaDoor
