/- bowspritref06.SameRow. Conditions: the slices read as these values. -/
import Derived.Test.YtfpodalnnchnoaaCApL
namespace Go.Proofs.Ytfpodalnnchnoaa
open Go.RowKit
instance : DecidableEq VV := fun a b => decidable_of_iff (eqVV a b = true) (eqVV_iff a b)
theorem rdv_at {w : World} {A : Option Addr} {m : Nat} {vs : List VV} (h : RdV w A m vs) {i : Nat} (hi : i < m) : ∃ p v, A = some p ∧ vs[i]? = some v ∧ SV w (p.add (i * 4)) v := by
  obtain ⟨p, v, rfl, hv, hl, c0, c1, c2, c3⟩ := h.2 i hi
  exact ⟨p, v, rfl, hv, by rw [show (p.add (i * 4)).block = p.block from by unfold Addr.add; split <;> rfl]; exact hl, c0, c1, c2, c3⟩
set_option maxRecDepth 100000 in
set_option maxHeartbeats 4000000 in
theorem samerow_any (A B : Option Addr) (m c n d : Nat) (xs ys : List VV) (w : World) (hx : RdV w A m xs) (hy : RdV w B n ys) (hm : m ≤ 9223372036854775807) :
    Calls Try.prog 31 #[.slice A m c, .slice B n d] w fun e w' => e = .returned (.bool (decide (xs = ys))) ∧ Below w.heap.size w w' := by
  have hxl := hx.1
  have hyl := hy.1
  by_cases hmn : m = n
  · subst hmn
    obtain ⟨r, hr⟩ : ∃ r, r = decide (xs = ys) := ⟨_, rfl⟩
    rw [← hr]
    have HR := Lib.hid hr
    have HXL := Lib.hid hxl
    have HYL := Lib.hid hyl
    clear hr hxl hyl
    go_enter Try.func31, Try.ntmps31
    go_wp2
    go_loopg [13] m (fun g s wr => ∃ i : Nat, i + g ≤ m ∧ m ≤ i + g ∧ s = .int .i64 i ∧ xs.take i = ys.take i ∧ Below w.heap.size w wr)
    case atStart => exact ⟨0, by omega, by omega, rfl, rfl, Below.refl _ _⟩
    case round =>
      obtain ⟨i, hi1, hi2, rfl, hp, bb⟩ := hrel
      by_cases hi : i < m
      · obtain ⟨p1, v, rfl, hv, s1⟩ := rdv_at (hx.below bb) hi
        obtain ⟨p2, u, rfl, hu, s2⟩ := rdv_at (hy.below bb) hi
        have HP := Lib.hid hp
        have HVI := Lib.hid hv
        have HUI := Lib.hid hu
        have e0 := s1.c0
        have e1 := s1.c1
        have e2 := s1.c2
        have e3 := s1.c3
        have f0 := s2.c0
        have f1 := s2.c1
        have f2 := s2.c2
        have f3 := s2.c3
        clear hp hv hu s1 s2 hx hy
        by_cases hvu : v = u
        · have HQ : ∀ W, (Op.equalIn 10000 24 (.agg #[.int .i64 v.k, .int .i64 v.n, .int .u64 v.u, .string v.s]) (.agg #[.int .i64 u.k, .int .i64 u.n, .int .u64 u.u, .string u.s])).run Try.prog W = .ok true W := fun W => by rw [run_eqVV]; rw [(eqVV_iff v u).2 hvu]
          have HP2 := Lib.hid (show xs.take (i + 1) = ys.take (i + 1) from by rw [List.take_add_one, List.take_add_one, HP.out, HVI.out, HUI.out, hvu])
          clear hvu
          go_wp2_with fail
          go_quiet (fail)
          go_wp2
          go_roundg (gk - 1)
          · exact ⟨i + 1, by omega, by omega, by go_num, HP2.out, bl_dr bb _⟩
          · omega
        · have HQ : ∀ W, (Op.equalIn 10000 24 (.agg #[.int .i64 v.k, .int .i64 v.n, .int .u64 v.u, .string v.s]) (.agg #[.int .i64 u.k, .int .i64 u.n, .int .u64 u.u, .string u.s])).run Try.prog W = .ok false W := fun W => by rw [run_eqVV, show eqVV v u = false from by cases he : eqVV v u; rfl; exact absurd ((eqVV_iff v u).1 he) hvu]
          have HF := Lib.hid (show r = false from by
            rw [HR.out]
            refine decide_eq_false fun e => hvu ?_
            have h1 := HVI.out
            rw [e, HUI.out] at h1
            injection h1 with h1
            exact h1.symm)
          clear hvu
          go_wp2_with fail
          go_quiet (fail)
          go_wp2
          exact bodyPost_ret (v := .bool false) (by simp [results, Try.results31, go_sem]) rfl ⟨by rw [HF.out], bl_dr bb _⟩
      · obtain rfl : i = m := by omega
        have HT := Lib.hid (show r = true from by
          rw [List.take_of_length_le (by rw [HXL.out]; omega), List.take_of_length_le (by rw [HYL.out]; omega)] at hp
          rw [HR.out]
          exact decide_eq_true hp)
        clear hp hx hy
        go_wp2
        exact bodyPost_ret (v := .bool true) (by simp [results, Try.results31, go_sem]) rfl ⟨by rw [HT.out], bb⟩
  · have e : decide (xs = ys) = false := decide_eq_false fun e => hmn (by rw [← hxl, ← hyl, e])
    rw [e]
    clear e hx hy hxl hyl
    go_enter Try.func31, Try.ntmps31
    go_wp2
    exact bodyPost_ret (v := .bool false) (by simp [results, Try.results31, go_sem]) rfl ⟨rfl, Below.refl _ _⟩
end Go.Proofs.Ytfpodalnnchnoaa
