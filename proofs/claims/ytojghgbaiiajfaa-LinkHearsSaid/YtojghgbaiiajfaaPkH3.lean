/- When rows and batches are one: slices.Equal, row.Same, link.same. Conditions: the slices read so. -/
import Derived.Test.YtojghgbaiiajfaaPkH2
import Derived.BigQuiet
import Derived.Deep.QuietTactic
import Derived.Laws.AppendOwn
namespace Go.Proofs.Ytojghgbaiiajfaa
open Go.RowKit
/-- are two values one? -/
def eqVV (v u : VV) : Bool := v.k == u.k && (v.n == u.n && (v.u == u.u && v.s.toList == u.s.toList))
theorem eqVV_iff (v u : VV) : eqVV v u = true ↔ v = u := by
 rcases v with ⟨k, n, x, ⟨⟨s⟩⟩⟩
 rcases u with ⟨k', n', x', ⟨⟨s'⟩⟩⟩
 simp [eqVV, ByteArray.toList_eq]
theorem run_eqVV (v u : VV) : ∀ W, (Op.equalIn 10000 142 (.agg #[.int .i64 v.k, .int .i64 v.n, .int .u64 v.u, .string v.s]) (.agg #[.int .i64 u.k, .int .i64 u.n, .int .u64 u.u, .string u.s])).run Try.prog W = .ok (eqVV v u) W := by
 intro W
 unfold eqVV
 rw [run_equalIn_agg W 9999 _ _ _ (by kernel_rfl) (by kernel_rfl)]
 go_simp
 by_cases h1 : v.k = u.k <;> by_cases h2 : v.n = u.n <;> by_cases h3 : v.u = u.u <;> by_cases h4 : v.s.toList = u.s.toList <;> simp [h1, h2, h3, h4]
instance : DecidableEq VV := fun a b => decidable_of_iff (eqVV a b = true) (eqVV_iff a b)
set_option maxRecDepth 100000 in
set_option maxHeartbeats 8000000 in
theorem equalV (F G : Nat → Prop) (A B : Option Addr) (m c n d : Nat) (xs ys : List VV) (w : World) (hx : LV.rd w F A m xs) (hy : LV.rd w G B n ys) (hm : m ≤ 9223372036854775807) :
  Calls Try.prog 124 #[.slice A m c, .slice B n d] w fun e w' => e = .returned (.bool (decide (xs = ys))) ∧ Below w.heap.size w w' := by
 have hxl := Lay.rd_len hx
 have hyl := Lay.rd_len hy
 by_cases hmn : m = n
 · subst hmn
  obtain ⟨r, hr⟩ : ∃ r, r = decide (xs = ys) := ⟨_, rfl⟩
  rw [← hr]
  have HR := Lib.hid hr
  have HXL := Lib.hid hxl
  have HYL := Lib.hid hyl
  skip
  clear hr hxl hyl
  go_enter Try.func124, Try.ntmps124
  go_wp2_with fail
  go_loopg [13] m (fun g s wr => ∃ i : Nat, i + g ≤ m ∧ m ≤ i + g ∧ s = .int .i64 i ∧ xs.take i = ys.take i ∧ Below w.heap.size w wr)
  case atStart => exact ⟨0, by omega, by omega, rfl, rfl, Below.refl _ _⟩
  case round =>
   obtain ⟨i, hi1, hi2, rfl, hp, bb⟩ := hrel
   have HBB := Lib.hid bb
   have HP := Lib.hid hp
   clear hp
   by_cases hi : i < m
   · have hil : (i : Int) < (m : Int) := by omega
    obtain ⟨p1, v, rfl, hv, s1⟩ := LV_at (Lay.rd_below hx bb) hi
    obtain ⟨p2, u, rfl, hu, s2⟩ := LV_at (Lay.rd_below hy bb) hi
    have e0 := s1.c0
    have e1 := s1.c1
    have e2 := s1.c2
    have e3 := s1.c3
    have f0 := s2.c0
    have f1 := s2.c1
    have f2 := s2.c2
    have f3 := s2.c3
    clear s1 s2
    have HVI := Lib.hid hv
    have HUI := Lib.hid hu
    clear hv hu hx hy bb
    by_cases hvu : v = u
    · have HP2 := Lib.hid (show xs.take (i + 1) = ys.take (i + 1) from by rw [List.take_add_one, List.take_add_one, HP.out, HVI.out, HUI.out, hvu])
     have HVU := Lib.hid hvu
     clear hvu
     have HQ : ∀ W, (Op.equalIn 10000 142 (.agg #[.int .i64 v.k, .int .i64 v.n, .int .u64 v.u, .string v.s]) (.agg #[.int .i64 u.k, .int .i64 u.n, .int .u64 u.u, .string u.s])).run Try.prog W = .ok true W := fun W => by rw [run_eqVV, show eqVV v u = true from (eqVV_iff v u).2 HVU.out]
     go_wp2_with fail
     go_quiet (fail)
     go_wp2
     go_roundg (gk - 1)
     · exact ⟨i + 1, by omega, by omega, by go_num, HP2.out, bl_dr HBB.out _⟩
     · omega
    · have HF := Lib.hid (show r = false from by
      rw [HR.out]
      refine decide_eq_false fun e => hvu ?_
      have h1 := HVI.out
      rw [e, HUI.out] at h1
      injection h1 with h1
      exact h1.symm)
     have HVU := Lib.hid hvu
     clear hvu
     have HQ : ∀ W, (Op.equalIn 10000 142 (.agg #[.int .i64 v.k, .int .i64 v.n, .int .u64 v.u, .string v.s]) (.agg #[.int .i64 u.k, .int .i64 u.n, .int .u64 u.u, .string u.s])).run Try.prog W = .ok false W := fun W => by rw [run_eqVV, show eqVV v u = false from by cases he : eqVV v u; rfl; exact absurd ((eqVV_iff v u).1 he) HVU.out]
     go_wp2_with fail
     go_quiet (fail)
     go_wp2
     go_ret
     exact ⟨ret_bool (by rw [HF.out]), bl_dr HBB.out _⟩
   · obtain rfl : i = m := by omega
    have hil : (i : Int) ≤ (i : Int) := by omega
    have HT := Lib.hid (show r = true from by
     have hp := HP.out
     rw [List.take_of_length_le (by rw [HXL.out]; omega), List.take_of_length_le (by rw [HYL.out]; omega)] at hp
     rw [HR.out]
     exact decide_eq_true hp)
    clear hx hy bb
    go_wp2
    go_ret
    exact ⟨ret_bool (by rw [HT.out]), HBB.out⟩
 · have e : decide (xs = ys) = false := decide_eq_false fun e => hmn (by rw [← hxl, ← hyl, e])
  rw [e]
  clear e hx hy hxl hyl
  go_enter Try.func124, Try.ntmps124
  go_wp2
  go_ret
  exact ⟨rfl, Below.refl _ _⟩
set_option maxRecDepth 100000 in
theorem rowEq_any (F G : Nat → Prop) (A B : Option Addr) (m c n d : Nat) (xs ys : List VV) (w : World) (hx : LV.rd w F A m xs) (hy : LV.rd w G B n ys) (hm : m ≤ 9223372036854775807) :
  Calls Try.prog 115 #[.slice A m c, .slice B n d] w fun e w' => e = .returned (.bool (decide (xs = ys))) ∧ Below w.heap.size w w' := by
 have HE := Lib.hid (equalV F G A B m c n d xs ys w hx hy hm)
 clear hx hy
 generalize decide (xs = ys) = r at *
 go_enter Try.func115, Try.ntmps115
 go_wp2_with fail
 refine HE.out.mono ?_
 rintro e w2 ⟨rfl, q2⟩
 have HQ := Lib.hid q2
 clear q2
 go_wp2
 go_ret
 exact ⟨rfl, HQ.out⟩
set_option maxRecDepth 100000 in
set_option maxHeartbeats 8000000 in
theorem eqfR (F G : Nat → Prop) (A B : Option Addr) (m c n d : Nat) (xs ys : List (List VV)) (w : World) (hx : LR.rd w F A m xs) (hy : LR.rd w G B n ys) (hm : m ≤ 9223372036854775807) :
  Calls Try.prog 114 #[.slice A m c, .slice B n d, .func (.func 115) #[] #[]] w fun e w' => e = .returned (.bool (decide (xs = ys))) ∧ Below w.heap.size w w' := by
 have hxl := Lay.rd_len hx
 have hyl := Lay.rd_len hy
 by_cases hmn : m = n
 · subst hmn
  obtain ⟨r, hr⟩ : ∃ r, r = decide (xs = ys) := ⟨_, rfl⟩
  rw [← hr]
  have HR := Lib.hid hr
  have HXL := Lib.hid hxl
  have HYL := Lib.hid hyl
  have HEN : ∀ (args : Array Value) (w : World), (callFunc 115 args).run Try.prog w = .ok (.enter 115 args) w := Go.Proofs.enters_of Try.func115 (by kernel_rfl) rfl
  clear hr hxl hyl
  go_enter Try.func114, Try.ntmps114
  go_wp2_with fail
  go_loopg [17] m (fun g s wr => ∃ i : Nat, i + g ≤ m ∧ m ≤ i + g ∧ s = .int .i64 i ∧ xs.take i = ys.take i ∧ Below w.heap.size w wr)
  case atStart => exact ⟨0, by omega, by omega, rfl, rfl, Below.refl _ _⟩
  case round =>
   obtain ⟨i, hi1, hi2, rfl, hp, bb⟩ := hrel
   have HBB := Lib.hid bb
   have HP := Lib.hid hp
   clear hp
   by_cases hi : i < m
   · have hil : (i : Int) < (m : Int) := by omega
    obtain ⟨p1, v, B1, k1, c1, rfl, hv, e0, _, hk1, hr1⟩ := LR_at (Lay.rd_below hx bb) hi
    obtain ⟨p2, u, B2, k2, c2, rfl, hu, f0, _, _, hr2⟩ := LR_at (Lay.rd_below hy bb) hi
    have HC := Lib.hid (rowEq_any F G B1 B2 k1 c1 k2 c2 v u wr hr1 hr2 (by omega))
    clear hr1 hr2
    have HVI := Lib.hid hv
    have HUI := Lib.hid hu
    clear hv hu hx hy bb
    by_cases hvu : v = u
    · have HP2 := Lib.hid (show xs.take (i + 1) = ys.take (i + 1) from by rw [List.take_add_one, List.take_add_one, HP.out, HVI.out, HUI.out, hvu])
     have HVU := Lib.hid hvu
     clear hvu
     rw [show decide (v = u) = true from decide_eq_true HVU.out] at HC
     go_wp2_with fail
     refine HC.out.mono ?_
     rintro e w2 ⟨rfl, q2⟩
     have HBN := Lib.hid (bl_ca HBB.out q2)
     clear q2 e0 f0
     go_wp2
     go_roundg (gk - 1)
     · exact ⟨i + 1, by omega, by omega, by go_num, HP2.out, HBN.out⟩
     · omega
    · have HF := Lib.hid (show r = false from by
      rw [HR.out]
      refine decide_eq_false fun e => hvu ?_
      have h1 := HVI.out
      rw [e, HUI.out] at h1
      injection h1 with h1
      exact h1.symm)
     have HVU := Lib.hid hvu
     clear hvu
     rw [show decide (v = u) = false from decide_eq_false HVU.out] at HC
     go_wp2_with fail
     refine HC.out.mono ?_
     rintro e w2 ⟨rfl, q2⟩
     have HBN := Lib.hid (bl_ca HBB.out q2)
     clear q2 e0 f0
     go_wp2
     go_ret
     exact ⟨ret_bool (by rw [HF.out]), HBN.out⟩
   · obtain rfl : i = m := by omega
    have hil : (i : Int) ≤ (i : Int) := by omega
    have HT := Lib.hid (show r = true from by
     have hp := HP.out
     rw [List.take_of_length_le (by rw [HXL.out]; omega), List.take_of_length_le (by rw [HYL.out]; omega)] at hp
     rw [HR.out]
     exact decide_eq_true hp)
    clear hx hy bb
    go_wp2
    go_ret
    exact ⟨ret_bool (by rw [HT.out]), HBB.out⟩
 · have e : decide (xs = ys) = false := decide_eq_false fun e => hmn (by rw [← hxl, ← hyl, e])
  rw [e]
  clear e hx hy hxl hyl
  go_enter Try.func114, Try.ntmps114
  go_wp2
  go_ret
  exact ⟨rfl, Below.refl _ _⟩
set_option maxRecDepth 100000 in
theorem rowSame_any (F G : Nat → Prop) (A B : Option Addr) (m c n d : Nat) (xs ys : List (List VV)) (w : World) (hx : LR.rd w F A m xs) (hy : LR.rd w G B n ys) (hm : m ≤ 9223372036854775807) :
  Calls Try.prog 96 #[.slice A m c, .slice B n d] w fun e w' => e = .returned (.bool (decide (xs = ys))) ∧ Below w.heap.size w w' := by
 have HE := Lib.hid (eqfR F G A B m c n d xs ys w hx hy hm)
 clear hx hy
 generalize decide (xs = ys) = r at *
 go_enter Try.func96, Try.ntmps96
 go_wp2_with fail
 refine HE.out.mono ?_
 rintro e w2 ⟨rfl, q2⟩
 have HQ := Lib.hid q2
 clear q2
 go_wp2
 go_ret
 exact ⟨rfl, HQ.out⟩
/-- are two batches one? -/
def eqBC (a b : BC) : Bool := a.fin == b.fin && (a.cnt == b.cnt && decide (a.rows = b.rows))
theorem eqBC_iff (a b : BC) : eqBC a b = true ↔ a = b := by
 rcases a with ⟨r, f, n⟩
 rcases b with ⟨r', f', n'⟩
 simp [eqBC]
 exact ⟨fun ⟨x, y, z⟩ => ⟨z, x, y⟩, fun ⟨x, y, z⟩ => ⟨y, z, x⟩⟩
instance : DecidableEq BC := fun a b => decidable_of_iff (eqBC a b = true) (eqBC_iff a b)
set_option maxRecDepth 100000 in
set_option maxHeartbeats 4000000 in
theorem lsame_any (F G : Nat → Prop) (a b : BC) (A B : Option Addr) (m c n d : Nat) (w : World) (hx : LR.rd w F A m a.rows) (hy : LR.rd w G B n b.rows) (hm : m ≤ 9223372036854775807) :
  Calls Try.prog 65 #[.agg (a.cells A m c), .agg (b.cells B n d)] w fun e w' => e = .returned (.bool (eqBC a b)) ∧ Below w.heap.size w w' := by
 have b1 := bl_al (bl_al (Below.refl w.heap.size w) (.cells (a.cells A m c) 45)) (.cells (b.cells B n d) 45)
 have HE := Lib.hid (rowSame_any F G A B m c n d a.rows b.rows _ (Lay.rd_below hx b1) (Lay.rd_below hy b1) hm)
 have HB := Lib.hid b1
 have HR := Lib.hid (show eqBC a b = (a.fin == b.fin && (a.cnt == b.cnt && decide (a.rows = b.rows))) from rfl)
 generalize eqBC a b = r at *
 clear hx hy b1
 obtain ⟨ra, fa, na⟩ := a
 obtain ⟨rb, fb, nb⟩ := b
 dsimp only at *
 generalize decide (ra = rb) = z at *
 by_cases hf : fa = fb
 · subst hf
  by_cases hn : na = nb
  · subst hn
   go_enter Try.func65, Try.ntmps65
   go_wp2_with fail
   refine HE.out.mono ?_
   rintro e w2 ⟨rfl, q2⟩
   have HQ := Lib.hid (bl_ca HB.out q2)
   clear q2
   go_wp2
   go_ret
   exact ⟨ret_bool (by rw [HR.out]; simp), HQ.out⟩
  · have d1 : (na == nb) = false := by simpa using hn
   clear hn
   go_enter Try.func65, Try.ntmps65
   go_wp2
   go_ret
   exact ⟨ret_bool (by rw [HR.out, d1]; simp), HB.out⟩
 · have d1 : (fa == fb) = false := by simpa using hf
  clear hf
  go_enter Try.func65, Try.ntmps65
  go_wp2
  go_ret
  exact ⟨ret_bool (by rw [HR.out, d1]; simp), HB.out⟩
end Go.Proofs.Ytojghgbaiiajfaa
/- EqualFunc of batches; senders that are one. Conditions: the slices read so. -/
namespace Go.Proofs.Ytojghgbaiiajfaa
open Go.RowKit
set_option maxRecDepth 100000 in
set_option maxHeartbeats 8000000 in
theorem eqfB (F G : Nat → Prop) (A B : Option Addr) (m c n d : Nat) (xs ys : List BC) (w : World) (hx : LB3.rd w F A m xs) (hy : LB3.rd w G B n ys) (hm : m ≤ 9223372036854775807) :
  Calls Try.prog 45 #[.slice A m c, .slice B n d, .func (.func 65) #[] #[]] w fun e w' => e = .returned (.bool (decide (xs = ys))) ∧ Below w.heap.size w w' := by
 have hxl := Lay.rd_len hx
 have hyl := Lay.rd_len hy
 by_cases hmn : m = n
 · subst hmn
  obtain ⟨r, hr⟩ : ∃ r, r = decide (xs = ys) := ⟨_, rfl⟩
  rw [← hr]
  have HR := Lib.hid hr
  have HXL := Lib.hid hxl
  have HYL := Lib.hid hyl
  have HEN : ∀ (args : Array Value) (w : World), (callFunc 65 args).run Try.prog w = .ok (.enter 65 args) w := Go.Proofs.enters_of Try.func65 (by kernel_rfl) rfl
  clear hr hxl hyl
  go_enter Try.func45, Try.ntmps45
  go_wp2_with fail
  go_loopg [17] m (fun g s wr => ∃ i : Nat, i + g ≤ m ∧ m ≤ i + g ∧ s = .int .i64 i ∧ xs.take i = ys.take i ∧ Below w.heap.size w wr)
  case atStart => exact ⟨0, by omega, by omega, rfl, rfl, Below.refl _ _⟩
  case round =>
   obtain ⟨i, hi1, hi2, rfl, hp, bb⟩ := hrel
   have HBB := Lib.hid bb
   have HP := Lib.hid hp
   clear hp
   by_cases hi : i < m
   · have hil : (i : Int) < (m : Int) := by omega
    obtain ⟨p1, v, B1, k1, c1, rfl, hv, s1⟩ := LB3_at (Lay.rd_below hx bb) hi
    have q1 := bl_al (Below.refl wr.heap.size wr) (.cells (v.cells B1 k1 c1) 45)
    obtain ⟨p2, u, B2, k2, c2, rfl, hu, s2⟩ := LB3_at (Lay.rd_below hy (bl_ca bb q1)) hi
    have e0 := s1.c0
    have e1 := s1.c1
    have e2 := s1.c2
    have f0 := s2.c0
    have f1 := s2.c1
    have f2 := s2.c2
    have q2 := bl_al (Below.refl (wr.alloc (.cells (v.cells B1 k1 c1) 45)).heap.size (wr.alloc (.cells (v.cells B1 k1 c1) 45))) (.cells (u.cells B2 k2 c2) 45)
    have HC := Lib.hid (lsame_any F G v u B1 B2 k1 c1 k2 c2 _ (Lay.rd_below (Lay.rd_below s1.rd q1) q2) (Lay.rd_below s2.rd q2) (Nat.le_trans s1.nc s1.cm))
    have HB2 := Lib.hid (bl_ca (bl_ca bb q1) q2)
    clear s1 s2 q1 q2
    have HVI := Lib.hid hv
    have HUI := Lib.hid hu
    clear hv hu hx hy bb
    by_cases hvu : v = u
    · have HP2 := Lib.hid (show xs.take (i + 1) = ys.take (i + 1) from by rw [List.take_add_one, List.take_add_one, HP.out, HVI.out, HUI.out, hvu])
     have HVU := Lib.hid hvu
     clear hvu
     rw [show eqBC v u = true from (eqBC_iff v u).2 HVU.out] at HC
     clear HVU
     obtain ⟨rv, fv, nv⟩ := v
     obtain ⟨ru, fu, nu⟩ := u
     dsimp only at e0 e1 e2 f0 f1 f2 HC HB2
     go_wp2_with fail
     refine HC.out.mono ?_
     rintro e w2 ⟨rfl, q2⟩
     have HBN := Lib.hid (bl_ca HB2.out q2)
     clear q2 e0 e1 e2 f0 f1 f2
     go_wp2
     go_roundg (gk - 1)
     · exact ⟨i + 1, by omega, by omega, by go_num, HP2.out, HBN.out⟩
     · omega
    · have HF := Lib.hid (show r = false from by
      rw [HR.out]
      refine decide_eq_false fun e => hvu ?_
      have h1 := HVI.out
      rw [e, HUI.out] at h1
      injection h1 with h1
      exact h1.symm)
     have HVU := Lib.hid hvu
     clear hvu
     rw [show eqBC v u = false from by cases he : eqBC v u; rfl; exact absurd ((eqBC_iff v u).1 he) HVU.out] at HC
     clear HVU
     obtain ⟨rv, fv, nv⟩ := v
     obtain ⟨ru, fu, nu⟩ := u
     dsimp only at e0 e1 e2 f0 f1 f2 HC HB2
     go_wp2_with fail
     refine HC.out.mono ?_
     rintro e w2 ⟨rfl, q2⟩
     have HBN := Lib.hid (bl_ca HB2.out q2)
     clear q2 e0 e1 e2 f0 f1 f2
     go_wp2
     go_ret
     exact ⟨ret_bool (by rw [HF.out]), HBN.out⟩
   · obtain rfl : i = m := by omega
    have hil : (i : Int) ≤ (i : Int) := by omega
    have HT := Lib.hid (show r = true from by
     have hp := HP.out
     rw [List.take_of_length_le (by rw [HXL.out]; omega), List.take_of_length_le (by rw [HYL.out]; omega)] at hp
     rw [HR.out]
     exact decide_eq_true hp)
    clear hx hy bb
    go_wp2
    go_ret
    exact ⟨ret_bool (by rw [HT.out]), HBB.out⟩
 · have e : decide (xs = ys) = false := decide_eq_false fun e => hmn (by rw [← hxl, ← hyl, e])
  rw [e]
  clear e hx hy hxl hyl
  go_enter Try.func45, Try.ntmps45
  go_wp2
  go_ret
  exact ⟨rfl, Below.refl _ _⟩
def flatSC (a b : SC) : Bool := a.ses == b.ses && (a.base == b.base && (a.sent == b.sent && (a.lim == b.lim && (a.timer == b.timer && a.ended == b.ended))))
def eqSC (a b : SC) : Bool := flatSC a b && decide (a.q = b.q)
theorem eqSC_iff (a b : SC) : eqSC a b = true ↔ a = b := by
 rcases a with ⟨a0, a1, a2, a3, a4, a5, a6⟩
 rcases b with ⟨b0, b1, b2, b3, b4, b5, b6⟩
 simp [eqSC, flatSC]
 exact ⟨fun ⟨⟨x0, x1, x3, x4, x5, x6⟩, x2⟩ => ⟨x0, x1, x2, x3, x4, x5, x6⟩, fun ⟨x0, x1, x2, x3, x4, x5, x6⟩ => ⟨⟨x0, x1, x3, x4, x5, x6⟩, x2⟩⟩
set_option maxRecDepth 100000 in
set_option maxHeartbeats 8000000 in
theorem sameS_any (F G : Nat → Prop) (a b : SC) (A B : Option Addr) (m c n d : Nat) (w : World) (hx : LB3.rd w F A m a.q) (hy : LB3.rd w G B n b.q) (hm : m ≤ 9223372036854775807) :
  Calls Try.prog 21 #[.agg (a.cells A m c), .agg (b.cells B n d)] w fun e w' => e = .returned (.bool (eqSC a b)) ∧ Below w.heap.size w w' := by
 have b1 := bl_al (bl_al (Below.refl w.heap.size w) (.cells (a.cells A m c) 29)) (.cells (b.cells B n d) 29)
 have HE := Lib.hid (eqfB F G A B m c n d a.q b.q _ (Lay.rd_below hx b1) (Lay.rd_below hy b1) hm)
 have HB := Lib.hid b1
 have HR := Lib.hid (show eqSC a b = (flatSC a b && decide (a.q = b.q)) from rfl)
 generalize eqSC a b = r at *
 clear hx hy b1
 obtain ⟨a0, a1, qa, a3, a4, a5, a6⟩ := a
 obtain ⟨b0, b1, qb, b3, b4, b5, b6⟩ := b
 unfold flatSC at HR
 dsimp only at *
 generalize decide (qa = qb) = z at *
 by_cases h0 : a0 = b0
 · subst h0
  by_cases h1 : a1 = b1
  · subst h1
   by_cases h2 : a3 = b3
   · subst h2
    by_cases h3 : a4 = b4
    · subst h3
     by_cases h4 : a5 = b5
     · subst h4
      by_cases h5 : a6 = b6
      · subst h5
       go_enter Try.func21, Try.ntmps21
       go_wp2_with fail
       refine HE.out.mono ?_
       rintro e w2 ⟨rfl, q2⟩
       have HQ := Lib.hid (bl_ca HB.out q2)
       clear q2
       go_wp2
       go_ret
       exact ⟨ret_bool (by rw [HR.out]; simp), HQ.out⟩
      · have d1 : (a6 == b6) = false := by simpa using h5
       clear h5
       go_enter Try.func21, Try.ntmps21
       go_wp2
       go_ret
       exact ⟨ret_bool (by rw [HR.out, d1]; simp), HB.out⟩
     · have d1 : (a5 == b5) = false := by simpa using h4
      clear h4
      go_enter Try.func21, Try.ntmps21
      go_wp2
      go_ret
      exact ⟨ret_bool (by rw [HR.out, d1]; simp), HB.out⟩
    · have d1 : (a4 == b4) = false := by simpa using h3
     clear h3
     go_enter Try.func21, Try.ntmps21
     go_wp2
     go_ret
     exact ⟨ret_bool (by rw [HR.out, d1]; simp), HB.out⟩
   · have d1 : (a3 == b3) = false := by simpa using h2
    clear h2
    go_enter Try.func21, Try.ntmps21
    go_wp2
    go_ret
    exact ⟨ret_bool (by rw [HR.out, d1]; simp), HB.out⟩
  · have d1 : (a1 == b1) = false := by simpa using h1
   clear h1
   go_enter Try.func21, Try.ntmps21
   go_wp2
   go_ret
   exact ⟨ret_bool (by rw [HR.out, d1]; simp), HB.out⟩
 · have d1 : (a0 == b0) = false := by simpa using h0
  clear h0
  go_enter Try.func21, Try.ntmps21
  go_wp2
  go_ret
  exact ⟨ret_bool (by rw [HR.out, d1]; simp), HB.out⟩
end Go.Proofs.Ytojghgbaiiajfaa
/- link.Open, link.Listen. Conditions: none. -/
namespace Go.Proofs.Ytojghgbaiiajfaa
open Go.RowKit
theorem senderI : (Try.prog.info? 29).map (·.size) = some 7 := by kernel_rfl
theorem receiverI : (Try.prog.info? 36).map (·.size) = some 6 := by kernel_rfl
def zeroS : SC := ⟨0, 0, [], 0, 0, 0, false⟩
def zeroR : RC := ⟨0, 0, [], [], 0, false⟩
def openS (n : Int) : SC := if sesB n then ⟨n, 1, [], 0, 0, 0, false⟩ else zeroS
def openE (n : Int) : Int := if sesB n then 0 else 2
set_option maxRecDepth 100000 in
theorem open_any (n : Int) (w : World) : Calls Try.prog 11 #[.int .u32 n] w fun e w' => e = .returned (.tuple #[.agg ((openS n).cells none 0 0), .int .i64 (openE n)]) ∧ Below w.heap.size w w' := by
 have HS := Lib.hid (fun W => session_any n W)
 obtain ⟨s, hs⟩ : ∃ s, s = openS n := ⟨_, rfl⟩
 obtain ⟨E, hE⟩ : ∃ E, E = openE n := ⟨_, rfl⟩
 rw [← hs, ← hE]
 unfold openS at hs
 unfold openE at hE
 have b1 := bl_al (Below.refl w.heap.size w) (.cells (zeroS.cells none 0 0) 29)
 generalize sesB n = b at *
 cases b
 · obtain rfl : s = zeroS := hs
  obtain rfl : E = 2 := hE
  go_enter Try.func11, Try.ntmps11
  go_wp2_with fail
  refine (HS.out _).mono ?_
  rintro e w2 ⟨rfl, rfl⟩
  go_wp2_with (refine wpList_store_blk rfl 29 (.tmp 2) (.tmp 7) rfl w.heap.size 29 _ (zeroS.cells none 0 0) rfl rfl (Blk.new _ _ _) rfl senderI (by simp [Value.oneCell']) ?_; intro wz hZ gz)
  exact bodyPost_ret (res2 Try.results11 rfl rfl hZ Try.underlying29 rfl senderI) rfl ⟨rfl, bl_gr b1 gz (Nat.le_refl _)⟩
 · obtain rfl : s = ⟨n, 1, [], 0, 0, 0, false⟩ := hs
  obtain rfl : E = 0 := hE
  go_enter Try.func11, Try.ntmps11
  go_wp2_with fail
  refine (HS.out _).mono ?_
  rintro e w2 ⟨rfl, rfl⟩
  go_wp2_with (refine wpList_store_blk rfl 29 (.tmp 2) (.tmp 9) rfl w.heap.size 29 _ (SC.cells ⟨n, 1, [], 0, 0, 0, false⟩ none 0 0) rfl rfl (Blk.new _ _ _) rfl senderI (by simp [Value.oneCell']) ?_; intro wz hZ gz)
  exact bodyPost_ret (res2 Try.results11 rfl rfl hZ Try.underlying29 rfl senderI) rfl ⟨rfl, bl_gr b1 gz (Nat.le_refl _)⟩
def roomB (n room : Int) : Bool := sesB n && (decide (1 ≤ room) && decide (room ≤ 8))
def listenR (n room : Int) : RC := if roomB n room then ⟨n, 1, [], [], room, false⟩ else zeroR
def listenE (n room : Int) : Int := if roomB n room then 0 else 2
set_option maxRecDepth 100000 in
set_option maxHeartbeats 4000000 in
theorem listen_any (n room : Int) (w : World) : Calls Try.prog 13 #[.int .u32 n, .int .i64 room] w fun e w' => e = .returned (.tuple #[.agg ((listenR n room).cells none 0 0 none 0 0), .int .i64 (listenE n room)]) ∧ Below w.heap.size w w' := by
 have HS := Lib.hid (fun W => session_any n W)
 have b1 := bl_al (Below.refl w.heap.size w) (.cells (zeroR.cells none 0 0 none 0 0) 36)
 have HX := Lib.hid (show roomB n room = (sesB n && (decide (1 ≤ room) && decide (room ≤ 8))) from rfl)
 by_cases hr : roomB n room = true
 · have hr2 := hr
  rw [HX.out] at hr2
  simp only [Bool.and_eq_true, decide_eq_true_eq] at hr2
  obtain ⟨h0, h1, h2⟩ := hr2
  rw [show listenR n room = ⟨n, 1, [], [], room, false⟩ from by unfold listenR; rw [hr]; rfl, show listenE n room = 0 from by unfold listenE; rw [hr]; rfl]
  rw [h0] at HS
  clear h0 hr HX
  go_enter Try.func13, Try.ntmps13
  go_wp2_with fail
  refine (HS.out _).mono ?_
  rintro e w2 ⟨rfl, rfl⟩
  go_wp2_with (refine wpList_store_blk rfl 36 (.tmp 4) (.tmp 20) rfl w.heap.size 36 _ (RC.cells ⟨n, 1, [], [], room, false⟩ none 0 0 none 0 0) rfl rfl (Blk.new _ _ _) rfl receiverI (by simp [Value.oneCell']) ?_; intro wz hZ gz)
  exact bodyPost_ret (res2 Try.results13 rfl rfl hZ Try.underlying36 rfl receiverI) rfl ⟨rfl, bl_gr b1 gz (Nat.le_refl _)⟩
 · have hf : roomB n room = false := by simpa using hr
  rw [show listenR n room = zeroR from by unfold listenR; rw [hf]; rfl, show listenE n room = 2 from by unfold listenE; rw [hf]; rfl]
  rw [hf] at HX
  clear hr hf
  generalize sesB n = b at *
  cases b
  · go_enter Try.func13, Try.ntmps13
   go_wp2_with fail
   refine (HS.out _).mono ?_
   rintro e w2 ⟨rfl, rfl⟩
   go_wp2_with (refine wpList_store_blk rfl 36 (.tmp 4) (.tmp 17) rfl w.heap.size 36 _ (zeroR.cells none 0 0 none 0 0) rfl rfl (Blk.new _ _ _) rfl receiverI (by simp [Value.oneCell']) ?_; intro wz hZ gz)
   exact bodyPost_ret (res2 Try.results13 rfl rfl hZ Try.underlying36 rfl receiverI) rfl ⟨rfl, bl_gr b1 gz (Nat.le_refl _)⟩
  · have hx := HX.out
   have h3 : room < 1 ∨ (1 ≤ room ∧ 8 < room) := by
    simp at hx
    by_cases h1 : 1 ≤ room
    · exact .inr ⟨h1, hx h1⟩
    · exact .inl (by omega)
   clear hx HX
   rcases h3 with h3 | ⟨h3, h4⟩
   all_goals
    go_enter Try.func13, Try.ntmps13
    go_wp2_with fail
    refine (HS.out _).mono ?_
    rintro e w2 ⟨rfl, rfl⟩
    go_wp2_with (refine wpList_store_blk rfl 36 (.tmp 4) (.tmp 17) rfl w.heap.size 36 _ (zeroR.cells none 0 0 none 0 0) rfl rfl (Blk.new _ _ _) rfl receiverI (by simp [Value.oneCell']) ?_; intro wz hZ gz)
    exact bodyPost_ret (res2 Try.results13 rfl rfl hZ Try.underlying36 rfl receiverI) rfl ⟨rfl, bl_gr b1 gz (Nat.le_refl _)⟩
end Go.Proofs.Ytojghgbaiiajfaa
/- append(out, src...) of whatever data; slices.Clone of rows, batches, held batches, packets. Conditions: the slice reads so. -/
namespace Go.Proofs.Ytojghgbaiiajfaa
open Go.RowKit
theorem Lay.reads {α : Type} {L : Lay α} {w : World} {F : Nat → Prop} {A : Option Addr} {m : Nat} {ys : List α} (h : L.rd w F A m ys) : ∃ cs, L.reps w F ys cs ∧ Reads w w.heap.size L.size A m cs := by
 obtain ⟨hl, cs, hr, hc⟩ := h
 refine ⟨cs, hr, by rw [Lay.reps_len hr, hl], fun hn => ?_⟩
 obtain ⟨ad, e, hb, _, hh⟩ := hc hn
 exact ⟨ad, e, hb, hh⟩
/-- append(out, src...): out the call's own, src whatever can be read -/
theorem wpList_appLs {α : Type} {L : Lay α} {e : TypeId} {P : Program} {ops : Array Oper} {rest : List Oper} {o : Oper} {a : Act} {w : World} {Q : Exit → Act → World → Prop} (hgd : o.guard = none) (s x : Operand) (t : TypeId)
  (ho : o.op = .call { callee := .builtin .append, args := #[s, x], argTypes := #[t, t] })
  (z : Value) (k bytes : Nat) (ht : P.underlying t = some (.slice e)) (hi : (P.info? e).map (fun i => (i.zero, i.size, i.bytes)) = some (some z, k, bytes)) (hk : L.size = k) (hzs : z.cells.size = k) (hk0 : 0 < k)
  (B : Nat) (G F : Nat → Prop) (A : Option Addr) (n c : Nat) (xs : List α) (A2 : Option Addr) (m c2 : Nat) (ys : List α) (k2 : Nat) (hk2 : k2 = n + m)
  (hs : a.eval s = .slice A n c) (hx : a.eval x = .slice A2 m c2) (hown : L.own e w B G A n c xs) (hr : L.rd w F A2 m ys)
  (hFG : ∀ b, F b → b < w.heap.size → G b ∧ (Value.slice A n c).ownBlock ≠ some b) (hG : ∀ b, G b → b < w.heap.size) (hb : (n + m) * bytes ≤ 140737488355328) (hn : n + m ≤ maxLen) (hB : B ≤ w.heap.size)
  (h : ∀ A' c' w', L.own e w' B G A' k2 c' (xs ++ ys) → w.grownBy w' (Value.slice A n c).ownBlock → ((Value.slice A' k2 c').ownBlock = (Value.slice A n c).ownBlock ∨ (Value.slice A' k2 c').ownBlock = some w.heap.size) → wpList P ops Q rest (a.put o.dst (.slice A' k2 c')) w') : wpList P ops Q (o :: rest) a w := by
 subst hk2
 obtain ⟨hl, cs, hreps, hrow⟩ := hown
 obtain ⟨ds, hys, hrd⟩ := Lay.reads hr
 obtain ⟨i0, hi0, hz0, hz1, hz2⟩ := info_parts hi
 subst hk
 have hyl := Lay.rd_len hr
 refine wpList_append_any w hgd s x t ho B e i0 _ L.size bytes ht hi0 hz0 hz1 hz2 hzs hk0 (.slice A n c) n cs hs hrow w.heap.size A2 m c2 ds hx hrd (Lay.reps_one hys) hn hb hB ?_
 intro v' w' hown' hg hat
 obtain ⟨A', c', rfl⟩ := own_form' hown'
 have hne : ∀ b, G b → (Value.slice A n c).ownBlock ≠ some b → (Value.slice A' (n + m) c').ownBlock ≠ some b := fun b hb hne => by
  rcases hat with hat | hat
  · rw [hat]; exact hne
  · rw [hat]; intro e; injection e with e; have := hG b hb; omega
 have hkeep : ∀ b, (G b ∧ (Value.slice A n c).ownBlock ≠ some b) → b < w.heap.size → w'.heap[b]? = w.heap[b]? := fun b hb hlt => hg.block b hlt (fun e => hb.2 e.symm)
 have hys2 := Lay.reps_keep hkeep (Lay.reps_weak hFG hys)
 exact h A' c' w' ⟨by rw [List.length_append, hl, hyl], cs ++ ds, Lay.reps_append (Lay.reps_weak (fun b hb _ => ⟨hb.1, hne b hb.1 hb.2⟩) (Lay.reps_keep hkeep hreps)) (Lay.reps_weak (fun b hb _ => ⟨hb.1, hne b hb.1 hb.2⟩) hys2), hown'⟩ hg hat
/-- a literal without elements -/
theorem Lay.own_empty {α : Type} (L : Lay α) (w : World) (e : TypeId) (G : Nat → Prop) (_hz : 0 < L.size) : L.own e (w.alloc (.cells #[] e)) w.heap.size G (some ⟨w.heap.size, 0, none⟩) 0 0 [] :=
 ⟨rfl, [], rfl, by simp, .inr ⟨w.heap.size, 0, #[], rfl, Nat.le_refl _, heap_alloc_new w _, Nat.le_refl _, by decide, by simp, by simp⟩⟩
theorem infoB : (Try.prog.info? 45).map (fun i => (i.zero, i.size, i.bytes)) = some (some (.agg #[.slice none 0 0, .bool false, .int .u64 0]), 3, 40) := by kernel_rfl
set_option maxRecDepth 100000 in
set_option maxHeartbeats 4000000 in
theorem cloneB (F : Nat → Prop) (A : Option Addr) (m c : Nat) (xs : List BC) (w : World) (h : LB3.rd w F A m xs) (hm : m ≤ 100000) :
  Calls Try.prog 83 #[.slice A m c] w fun e w' => ∃ A' c', e = .returned (.slice A' m c') ∧ LB3.own 45 w' w.heap.size (fun b => F b ∧ b < w.heap.size) A' m c' xs ∧ Below w.heap.size w w' := by
 cases A with
 | none =>
  have hm0 : m = 0 := by
   rcases Nat.eq_zero_or_pos m with h0 | h0
   · exact h0
   · obtain ⟨ad, x, cs, e, _⟩ := Lay.rd_at h h0; cases e
  subst hm0
  obtain rfl : xs = [] := List.eq_nil_of_length_eq_zero (Lay.rd_len h)
  clear h
  have HQ : ∀ W, (binOp .eql 27 (.slice none 0 c) (.slice none 0 0)).run Try.prog W = .ok (.bool true) W := fun W => Lib.run_eql_slice_nil W _ _ _ _ _ _ _ Try.underlying27
  go_enter Try.func83, Try.ntmps83
  go_wp2
  go_ret
  exact ⟨none, 0, rfl, Lay.own_nil _ _, Below.refl _ _⟩
 | some a =>
  have oe := Lay.own_empty LB3 w 45 (fun b => F b ∧ b < w.heap.size) (by decide)
  have b1 := bl_al (Below.refl w.heap.size w) (.cells #[] 45)
  have h1 := Lay.rd_below h b1
  have h2 : LB3.rd (w.alloc (.cells #[] 45)) (fun b => F b ∧ b < w.heap.size) (some a) m xs := Lay.rd_below (Lay.rd_weak (fun b hb hl => ⟨hb, hl⟩) h) b1
  have hz := b1.size
  have HOE := Lib.hid oe
  have HH2 := Lib.hid h2
  have HB := Lib.hid b1
  have HQ : ∀ W, (binOp .eql 27 (.slice (some a) m c) (.slice none 0 0)).run Try.prog W = .ok (.bool false) W := fun W => Lib.run_eql_slice_nil W _ _ _ _ _ _ _ Try.underlying27
  clear h h1 h2 oe b1
  go_enter Try.func83, Try.ntmps83
  go_wp2_with (at_builtin; refine wpList_appLs (L := LB3) (e := 45) rfl (.tmp 5) (.tmp 6) 27 rfl (.agg #[.slice none 0 0, .bool false, .int .u64 0]) 3 40 Try.underlying27 infoB rfl rfl (by decide) w.heap.size (fun b => F b ∧ b < w.heap.size) (fun b => F b ∧ b < w.heap.size) (some ⟨w.heap.size, 0, none⟩) 0 0 [] (some a) m c xs m (by omega) rfl rfl HOE.out HH2.out (fun b hb _ => ⟨hb, fun e => by simp [Value.ownBlock] at e; have := hb.2; omega⟩) (fun b hb => Nat.lt_of_lt_of_le hb.2 hz) (by omega) (by unfold maxLen; omega) hz ?_; intro A4 c4 w4 o4 g4 _; rw [List.nil_append] at o4; have HO4 := Lib.hid o4; have HG4 := Lib.hid g4; clear o4 g4)
  go_ret
  exact ⟨A4, c4, rfl, HO4.out, HB.out.grown HG4.out hz (fun k e => by simp [Value.ownBlock] at e; omega)⟩
theorem infoR : (Try.prog.info? 89).map (fun i => (i.zero, i.size, i.bytes)) = some (some (.slice none 0 0), 1, 24) := by kernel_rfl
set_option maxRecDepth 100000 in
set_option maxHeartbeats 4000000 in
theorem cloneR (F : Nat → Prop) (A : Option Addr) (m c : Nat) (xs : List (List VV)) (w : World) (h : LR.rd w F A m xs) (hm : m ≤ 100000) :
  Calls Try.prog 99 #[.slice A m c] w fun e w' => ∃ A' c', e = .returned (.slice A' m c') ∧ LR.own 89 w' w.heap.size (fun b => F b ∧ b < w.heap.size) A' m c' xs ∧ Below w.heap.size w w' := by
 cases A with
 | none =>
  have hm0 : m = 0 := by
   rcases Nat.eq_zero_or_pos m with h0 | h0
   · exact h0
   · obtain ⟨ad, x, cs, e, _⟩ := Lay.rd_at h h0; cases e
  subst hm0
  obtain rfl : xs = [] := List.eq_nil_of_length_eq_zero (Lay.rd_len h)
  clear h
  have HQ : ∀ W, (binOp .eql 43 (.slice none 0 c) (.slice none 0 0)).run Try.prog W = .ok (.bool true) W := fun W => Lib.run_eql_slice_nil W _ _ _ _ _ _ _ Try.underlying43
  go_enter Try.func99, Try.ntmps99
  go_wp2
  go_ret
  exact ⟨none, 0, rfl, Lay.own_nil _ _, Below.refl _ _⟩
 | some a =>
  have oe := Lay.own_empty LR w 89 (fun b => F b ∧ b < w.heap.size) (by decide)
  have b1 := bl_al (Below.refl w.heap.size w) (.cells #[] 89)
  have h1 := Lay.rd_below h b1
  have h2 : LR.rd (w.alloc (.cells #[] 89)) (fun b => F b ∧ b < w.heap.size) (some a) m xs := Lay.rd_below (Lay.rd_weak (fun b hb hl => ⟨hb, hl⟩) h) b1
  have hz := b1.size
  have HOE := Lib.hid oe
  have HH2 := Lib.hid h2
  have HB := Lib.hid b1
  have HQ : ∀ W, (binOp .eql 43 (.slice (some a) m c) (.slice none 0 0)).run Try.prog W = .ok (.bool false) W := fun W => Lib.run_eql_slice_nil W _ _ _ _ _ _ _ Try.underlying43
  clear h h1 h2 oe b1
  go_enter Try.func99, Try.ntmps99
  go_wp2_with (at_builtin; refine wpList_appLs (L := LR) (e := 89) rfl (.tmp 5) (.tmp 6) 43 rfl (.slice none 0 0) 1 24 Try.underlying43 infoR rfl rfl (by decide) w.heap.size (fun b => F b ∧ b < w.heap.size) (fun b => F b ∧ b < w.heap.size) (some ⟨w.heap.size, 0, none⟩) 0 0 [] (some a) m c xs m (by omega) rfl rfl HOE.out HH2.out (fun b hb _ => ⟨hb, fun e => by simp [Value.ownBlock] at e; have := hb.2; omega⟩) (fun b hb => Nat.lt_of_lt_of_le hb.2 hz) (by omega) (by unfold maxLen; omega) hz ?_; intro A4 c4 w4 o4 g4 _; rw [List.nil_append] at o4; have HO4 := Lib.hid o4; have HG4 := Lib.hid g4; clear o4 g4)
  go_ret
  exact ⟨A4, c4, rfl, HO4.out, HB.out.grown HG4.out hz (fun k e => by simp [Value.ownBlock] at e; omega)⟩
theorem infoH : (Try.prog.info? 81).map (fun i => (i.zero, i.size, i.bytes)) = some (some (.agg #[.int .u64 0, .slice none 0 0, .bool false, .int .u64 0]), 4, 48) := by kernel_rfl
set_option maxRecDepth 100000 in
set_option maxHeartbeats 4000000 in
theorem cloneH (F : Nat → Prop) (A : Option Addr) (m c : Nat) (xs : List HC) (w : World) (h : LH4.rd w F A m xs) (hm : m ≤ 100000) :
  Calls Try.prog 106 #[.slice A m c] w fun e w' => ∃ A' c', e = .returned (.slice A' m c') ∧ LH4.own 81 w' w.heap.size (fun b => F b ∧ b < w.heap.size) A' m c' xs ∧ Below w.heap.size w w' := by
 cases A with
 | none =>
  have hm0 : m = 0 := by
   rcases Nat.eq_zero_or_pos m with h0 | h0
   · exact h0
   · obtain ⟨ad, x, cs, e, _⟩ := Lay.rd_at h h0; cases e
  subst hm0
  obtain rfl : xs = [] := List.eq_nil_of_length_eq_zero (Lay.rd_len h)
  clear h
  have HQ : ∀ W, (binOp .eql 34 (.slice none 0 c) (.slice none 0 0)).run Try.prog W = .ok (.bool true) W := fun W => Lib.run_eql_slice_nil W _ _ _ _ _ _ _ Try.underlying34
  go_enter Try.func106, Try.ntmps106
  go_wp2
  go_ret
  exact ⟨none, 0, rfl, Lay.own_nil _ _, Below.refl _ _⟩
 | some a =>
  have oe := Lay.own_empty LH4 w 81 (fun b => F b ∧ b < w.heap.size) (by decide)
  have b1 := bl_al (Below.refl w.heap.size w) (.cells #[] 81)
  have h1 := Lay.rd_below h b1
  have h2 : LH4.rd (w.alloc (.cells #[] 81)) (fun b => F b ∧ b < w.heap.size) (some a) m xs := Lay.rd_below (Lay.rd_weak (fun b hb hl => ⟨hb, hl⟩) h) b1
  have hz := b1.size
  have HOE := Lib.hid oe
  have HH2 := Lib.hid h2
  have HB := Lib.hid b1
  have HQ : ∀ W, (binOp .eql 34 (.slice (some a) m c) (.slice none 0 0)).run Try.prog W = .ok (.bool false) W := fun W => Lib.run_eql_slice_nil W _ _ _ _ _ _ _ Try.underlying34
  clear h h1 h2 oe b1
  go_enter Try.func106, Try.ntmps106
  go_wp2_with (at_builtin; refine wpList_appLs (L := LH4) (e := 81) rfl (.tmp 5) (.tmp 6) 34 rfl (.agg #[.int .u64 0, .slice none 0 0, .bool false, .int .u64 0]) 4 48 Try.underlying34 infoH rfl rfl (by decide) w.heap.size (fun b => F b ∧ b < w.heap.size) (fun b => F b ∧ b < w.heap.size) (some ⟨w.heap.size, 0, none⟩) 0 0 [] (some a) m c xs m (by omega) rfl rfl HOE.out HH2.out (fun b hb _ => ⟨hb, fun e => by simp [Value.ownBlock] at e; have := hb.2; omega⟩) (fun b hb => Nat.lt_of_lt_of_le hb.2 hz) (by omega) (by unfold maxLen; omega) hz ?_; intro A4 c4 w4 o4 g4 _; rw [List.nil_append] at o4; have HO4 := Lib.hid o4; have HG4 := Lib.hid g4; clear o4 g4)
  go_ret
  exact ⟨A4, c4, rfl, HO4.out, HB.out.grown HG4.out hz (fun k e => by simp [Value.ownBlock] at e; omega)⟩
theorem infoP : (Try.prog.info? 47).map (fun i => (i.zero, i.size, i.bytes)) = some (some (.agg #[.int .i64 0, .int .u32 0, .int .u64 0, .int .u64 0, .slice none 0 0, .bool false, .int .u64 0]), 7, 72) := by kernel_rfl
set_option maxRecDepth 100000 in
set_option maxHeartbeats 4000000 in
theorem cloneP (F : Nat → Prop) (A : Option Addr) (m c : Nat) (xs : List PK) (w : World) (h : LP7.rd w F A m xs) (hm : m ≤ 100000) :
  Calls Try.prog 89 #[.slice A m c] w fun e w' => ∃ A' c', e = .returned (.slice A' m c') ∧ LP7.own 47 w' w.heap.size (fun b => F b ∧ b < w.heap.size) A' m c' xs ∧ Below w.heap.size w w' := by
 cases A with
 | none =>
  have hm0 : m = 0 := by
   rcases Nat.eq_zero_or_pos m with h0 | h0
   · exact h0
   · obtain ⟨ad, x, cs, e, _⟩ := Lay.rd_at h h0; cases e
  subst hm0
  obtain rfl : xs = [] := List.eq_nil_of_length_eq_zero (Lay.rd_len h)
  clear h
  have HQ : ∀ W, (binOp .eql 50 (.slice none 0 c) (.slice none 0 0)).run Try.prog W = .ok (.bool true) W := fun W => Lib.run_eql_slice_nil W _ _ _ _ _ _ _ Try.underlying50
  go_enter Try.func89, Try.ntmps89
  go_wp2
  go_ret
  exact ⟨none, 0, rfl, Lay.own_nil _ _, Below.refl _ _⟩
 | some a =>
  have oe := Lay.own_empty LP7 w 47 (fun b => F b ∧ b < w.heap.size) (by decide)
  have b1 := bl_al (Below.refl w.heap.size w) (.cells #[] 47)
  have h1 := Lay.rd_below h b1
  have h2 : LP7.rd (w.alloc (.cells #[] 47)) (fun b => F b ∧ b < w.heap.size) (some a) m xs := Lay.rd_below (Lay.rd_weak (fun b hb hl => ⟨hb, hl⟩) h) b1
  have hz := b1.size
  have HOE := Lib.hid oe
  have HH2 := Lib.hid h2
  have HB := Lib.hid b1
  have HQ : ∀ W, (binOp .eql 50 (.slice (some a) m c) (.slice none 0 0)).run Try.prog W = .ok (.bool false) W := fun W => Lib.run_eql_slice_nil W _ _ _ _ _ _ _ Try.underlying50
  clear h h1 h2 oe b1
  go_enter Try.func89, Try.ntmps89
  go_wp2_with (at_builtin; refine wpList_appLs (L := LP7) (e := 47) rfl (.tmp 5) (.tmp 6) 50 rfl (.agg #[.int .i64 0, .int .u32 0, .int .u64 0, .int .u64 0, .slice none 0 0, .bool false, .int .u64 0]) 7 72 Try.underlying50 infoP rfl rfl (by decide) w.heap.size (fun b => F b ∧ b < w.heap.size) (fun b => F b ∧ b < w.heap.size) (some ⟨w.heap.size, 0, none⟩) 0 0 [] (some a) m c xs m (by omega) rfl rfl HOE.out HH2.out (fun b hb _ => ⟨hb, fun e => by simp [Value.ownBlock] at e; have := hb.2; omega⟩) (fun b hb => Nat.lt_of_lt_of_le hb.2 hz) (by omega) (by unfold maxLen; omega) hz ?_; intro A4 c4 w4 o4 g4 _; rw [List.nil_append] at o4; have HO4 := Lib.hid o4; have HG4 := Lib.hid g4; clear o4 g4)
  go_ret
  exact ⟨A4, c4, rfl, HO4.out, HB.out.grown HG4.out hz (fun k e => by simp [Value.ownBlock] at e; omega)⟩
end Go.Proofs.Ytojghgbaiiajfaa
/- bowspritlaw22.cut of values, rows, batches, held batches; a part of one element of an owned row stored. Conditions: the slice reads so. -/
namespace Go.Proofs.Ytojghgbaiiajfaa
open Go.RowKit
def cutS (s : ByteArray) : ByteArray := if s.size ≤ 41 then s else s.extract 0 41
def VV.short (v : VV) : VV := ⟨v.k, v.n, v.u, cutS v.s⟩
def shortR (vs : List VV) : List VV := (vs.take 17).map VV.short
def rowsC (l : List (List VV)) : List (List VV) := (l.take 5).map shortR
theorem row_setCells {B g s n c : Nat} {e : TypeId} : ∀ (vs : List Value) (o : Nat) {w : World} {L : List Value}, w.ownsRow B e s (.slice (some ⟨g, 0, none⟩) n c) n L → o + vs.length ≤ L.length →
  (w.setCells g o vs).ownsRow B e s (.slice (some ⟨g, 0, none⟩) n c) n (L.take o ++ vs ++ L.drop (o + vs.length)) ∧ w.grownBy (w.setCells g o vs) (some g)
 | [], o, w, L, h, _ => by simp only [World.setCells, List.append_nil, List.length_nil, Nat.add_zero, List.take_append_drop]; exact ⟨h, World.grownBy.refl _ _⟩
 | v :: vs, o, w, L, h, hl => by
  simp only [List.length_cons] at hl
  have h1 := World.ownsRow.stored h o v
  have h2 := row_setCells vs (o + 1) h1.1 (by rw [List.length_set]; omega)
  have hL : (L.set o v).take (o + 1) ++ vs ++ (L.set o v).drop (o + 1 + vs.length) = L.take o ++ (v :: vs) ++ L.drop (o + (v :: vs).length) := by
   rw [List.take_add_one, List.take_set, List.set_eq_of_length_le (l := L.take o) (by rw [List.length_take]; omega), List.getElem?_set_self (by omega), List.drop_set_of_lt (by omega), List.length_cons, show o + (vs.length + 1) = o + 1 + vs.length from by omega]
   simp
  rw [hL] at h2
  exact ⟨h2.1, grown_setCells _ _ _ (World.grownBy.refl _ _)⟩
/-- a part of one of several -/
theorem Lay.reps_part {α : Type} {L : Lay α} {w : World} {F : Nat → Prop} {x y : α} {j : Nat} {vs : List Value} (hj : j + vs.length ≤ L.size) (hr : ∀ ds, L.rep w F y ds → L.rep w F x (ds.take j ++ vs ++ ds.drop (j + vs.length))) :
  ∀ {xs : List α} {cs : List Value} {i : Nat}, L.reps w F xs cs → xs[i]? = some y → L.reps w F (xs.set i x) (cs.take (i * L.size + j) ++ vs ++ cs.drop (i * L.size + j + vs.length))
 | [], _, _, _, h => by simp at h
 | z :: l, _, 0, ⟨a, b, rfl, ha, hb⟩, h => by
  simp at h
  subst h
  have hl := L.len ha
  refine ⟨a.take j ++ vs ++ a.drop (j + vs.length), b, ?_, hr a ha, hb⟩
  rw [Nat.zero_mul, Nat.zero_add, List.take_append_of_le_length (by omega), List.drop_append_of_le_length (by omega), List.append_assoc (a.take j ++ vs)]
 | z :: l, _, i + 1, ⟨a, b, rfl, ha, hb⟩, h => by
  have hl := L.len ha
  have ih := Lay.reps_part hj hr (i := i) hb (by simpa using h)
  refine ⟨a, _, ?_, ha, ih⟩
  rw [show (i + 1) * L.size + j = a.length + (i * L.size + j) from by rw [Nat.succ_mul, hl]; omega, show a.length + (i * L.size + j) + vs.length = a.length + (i * L.size + j + vs.length) from by omega, List.take_length_add_append, List.drop_length_add_append]
  simp
theorem Lay.own_part {α : Type} {L : Lay α} {e : TypeId} {w : World} {B g n c i j : Nat} {G : Nat → Prop} {xs : List α} {x y : α} {vs : List Value} (h : L.own e w B G (some ⟨g, 0, none⟩) n c xs) (hy : xs[i]? = some y) (hj : j + vs.length ≤ L.size)
  (hr : ∀ ds, L.rep w (fun b => G b ∧ b ≠ g) y ds → L.rep w (fun b => G b ∧ b ≠ g) x (ds.take j ++ vs ++ ds.drop (j + vs.length))) :
  L.own e (w.setCells g (i * L.size + j) vs) B G (some ⟨g, 0, none⟩) n c (xs.set i x) ∧ w.grownBy (w.setCells g (i * L.size + j) vs) (some g) := by
 obtain ⟨hl, cs, hreps, hrow⟩ := h
 obtain ⟨hi, _⟩ := List.getElem?_eq_some_iff.1 hy
 have hcl := Lay.reps_len hreps
 have hle : i * L.size + j + vs.length ≤ cs.length := by
  rw [hcl]
  have : (i + 1) * L.size ≤ xs.length * L.size := Nat.mul_le_mul_right _ hi
  rw [Nat.succ_mul] at this
  omega
 obtain ⟨h1, h2⟩ := row_setCells vs (i * L.size + j) hrow hle
 have hF : ∀ b, (G b ∧ (Value.slice (some ⟨g, 0, none⟩) n c).ownBlock ≠ some b) ↔ (G b ∧ b ≠ g) := fun b => by simp [Value.ownBlock, eq_comm]
 have hr0 := Lay.reps_weak (fun b hb _ => (hF b).1 hb) hreps
 have hr1 := Lay.reps_part hj hr hr0 hy
 refine ⟨⟨by rw [List.length_set]; exact hl, _, Lay.reps_weak (fun b hb _ => (hF b).2 hb) (Lay.reps_keep (fun b hb hlt => h2.block b hlt (fun e => hb.2 (by injection e))) hr1), h1⟩, h2⟩
theorem infoVV : (Try.prog.info? 142).map (fun i => (i.zero, i.size, i.bytes)) = some (some (.agg #[.int .i64 0, .int .i64 0, .int .u64 0, .string ⟨#[]⟩]), 4, 40) := by kernel_rfl
set_option maxRecDepth 100000 in
set_option maxHeartbeats 4000000 in
theorem cutVV (F : Nat → Prop) (A : Option Addr) (m c most : Nat) (xs : List VV) (w : World) (h : LV.rd w F A m xs) (hmc : m ≤ c) (hc : c ≤ 9223372036854775807) (hmost : most ≤ 100) :
  Calls Try.prog 103 #[.slice A m c, .int .i64 most] w fun e w' => ∃ A' c', e = .returned (.slice A' (min m most) c') ∧ LV.own 142 w' w.heap.size (fun b => F b ∧ b < w.heap.size) A' (min m most) c' (xs.take most) ∧ Below w.heap.size w w' := by
 obtain ⟨kk, hkk⟩ : ∃ kk, kk = min m most := ⟨_, rfl⟩
 have hk1 : kk ≤ m := by omega
 have hk2 : kk ≤ 100 := by omega
 have hmn : min (m : Int) (most : Int) = (kk : Int) := by omega
 have hkc : (kk : Int) ≤ (c : Int) := by omega
 have htk : xs.take most = xs.take kk := by
  have := Lay.rd_len h
  rw [hkk, ← this, List.take_eq_take_iff]; omega
 rw [← hkk, htk]
 have oe := Lay.own_empty LV w 142 (fun b => F b ∧ b < w.heap.size) (by decide)
 have b1 := bl_al (Below.refl w.heap.size w) (.cells #[] 142)
 have h2 : LV.rd (w.alloc (.cells #[] 142)) (fun b => F b ∧ b < w.heap.size) A kk (xs.take kk) := Lay.rd_below (Lay.rd_weak (fun b hb hl => ⟨hb, hl⟩) (Lay.rd_take h hk1)) b1
 have hz := b1.size
 have HOE := Lib.hid oe
 have HH2 := Lib.hid h2
 have HB := Lib.hid b1
 clear h h2 oe b1 hkk htk
 go_enter Try.func103, Try.ntmps103
 go_wp2_with (at_builtin; refine wpList_appLs (L := LV) (e := 142) rfl (.tmp 5) (.tmp 11) 88 rfl (.agg #[.int .i64 0, .int .i64 0, .int .u64 0, .string ⟨#[]⟩]) 4 40 Try.underlying88 infoVV rfl rfl (by decide) w.heap.size (fun b => F b ∧ b < w.heap.size) (fun b => F b ∧ b < w.heap.size) (some ⟨w.heap.size, 0, none⟩) 0 0 [] A kk c (xs.take kk) kk (by omega) rfl rfl HOE.out HH2.out (fun b hb _ => ⟨hb, fun e => by simp [Value.ownBlock] at e; have := hb.2; omega⟩) (fun b hb => Nat.lt_of_lt_of_le hb.2 hz) (by omega) (by unfold maxLen; omega) hz ?_; intro A4 c4 w4 o4 g4 _; rw [List.nil_append] at o4; have HO4 := Lib.hid o4; have HG4 := Lib.hid g4; clear o4 g4)
 go_ret
 exact ⟨A4, c4, rfl, HO4.out, HB.out.grown HG4.out hz (fun k e => by simp [Value.ownBlock] at e; omega)⟩
set_option maxRecDepth 100000 in
set_option maxHeartbeats 4000000 in
theorem cutB (F : Nat → Prop) (A : Option Addr) (m c most : Nat) (xs : List BC) (w : World) (h : LB3.rd w F A m xs) (hmc : m ≤ c) (hc : c ≤ 9223372036854775807) (hmost : most ≤ 100) :
  Calls Try.prog 101 #[.slice A m c, .int .i64 most] w fun e w' => ∃ A' c', e = .returned (.slice A' (min m most) c') ∧ LB3.own 45 w' w.heap.size (fun b => F b ∧ b < w.heap.size) A' (min m most) c' (xs.take most) ∧ Below w.heap.size w w' := by
 obtain ⟨kk, hkk⟩ : ∃ kk, kk = min m most := ⟨_, rfl⟩
 have hk1 : kk ≤ m := by omega
 have hk2 : kk ≤ 100 := by omega
 have hmn : min (m : Int) (most : Int) = (kk : Int) := by omega
 have hkc : (kk : Int) ≤ (c : Int) := by omega
 have htk : xs.take most = xs.take kk := by
  have := Lay.rd_len h
  rw [hkk, ← this, List.take_eq_take_iff]; omega
 rw [← hkk, htk]
 have oe := Lay.own_empty LB3 w 45 (fun b => F b ∧ b < w.heap.size) (by decide)
 have b1 := bl_al (Below.refl w.heap.size w) (.cells #[] 45)
 have h2 : LB3.rd (w.alloc (.cells #[] 45)) (fun b => F b ∧ b < w.heap.size) A kk (xs.take kk) := Lay.rd_below (Lay.rd_weak (fun b hb hl => ⟨hb, hl⟩) (Lay.rd_take h hk1)) b1
 have hz := b1.size
 have HOE := Lib.hid oe
 have HH2 := Lib.hid h2
 have HB := Lib.hid b1
 clear h h2 oe b1 hkk htk
 go_enter Try.func101, Try.ntmps101
 go_wp2_with (at_builtin; refine wpList_appLs (L := LB3) (e := 45) rfl (.tmp 5) (.tmp 11) 27 rfl (.agg #[.slice none 0 0, .bool false, .int .u64 0]) 3 40 Try.underlying27 infoB rfl rfl (by decide) w.heap.size (fun b => F b ∧ b < w.heap.size) (fun b => F b ∧ b < w.heap.size) (some ⟨w.heap.size, 0, none⟩) 0 0 [] A kk c (xs.take kk) kk (by omega) rfl rfl HOE.out HH2.out (fun b hb _ => ⟨hb, fun e => by simp [Value.ownBlock] at e; have := hb.2; omega⟩) (fun b hb => Nat.lt_of_lt_of_le hb.2 hz) (by omega) (by unfold maxLen; omega) hz ?_; intro A4 c4 w4 o4 g4 _; rw [List.nil_append] at o4; have HO4 := Lib.hid o4; have HG4 := Lib.hid g4; clear o4 g4)
 go_ret
 exact ⟨A4, c4, rfl, HO4.out, HB.out.grown HG4.out hz (fun k e => by simp [Value.ownBlock] at e; omega)⟩
set_option maxRecDepth 100000 in
set_option maxHeartbeats 4000000 in
theorem cutR (F : Nat → Prop) (A : Option Addr) (m c most : Nat) (xs : List (List VV)) (w : World) (h : LR.rd w F A m xs) (hmc : m ≤ c) (hc : c ≤ 9223372036854775807) (hmost : most ≤ 100) :
  Calls Try.prog 102 #[.slice A m c, .int .i64 most] w fun e w' => ∃ A' c', e = .returned (.slice A' (min m most) c') ∧ LR.own 89 w' w.heap.size (fun b => F b ∧ b < w.heap.size) A' (min m most) c' (xs.take most) ∧ Below w.heap.size w w' := by
 obtain ⟨kk, hkk⟩ : ∃ kk, kk = min m most := ⟨_, rfl⟩
 have hk1 : kk ≤ m := by omega
 have hk2 : kk ≤ 100 := by omega
 have hmn : min (m : Int) (most : Int) = (kk : Int) := by omega
 have hkc : (kk : Int) ≤ (c : Int) := by omega
 have htk : xs.take most = xs.take kk := by
  have := Lay.rd_len h
  rw [hkk, ← this, List.take_eq_take_iff]; omega
 rw [← hkk, htk]
 have oe := Lay.own_empty LR w 89 (fun b => F b ∧ b < w.heap.size) (by decide)
 have b1 := bl_al (Below.refl w.heap.size w) (.cells #[] 89)
 have h2 : LR.rd (w.alloc (.cells #[] 89)) (fun b => F b ∧ b < w.heap.size) A kk (xs.take kk) := Lay.rd_below (Lay.rd_weak (fun b hb hl => ⟨hb, hl⟩) (Lay.rd_take h hk1)) b1
 have hz := b1.size
 have HOE := Lib.hid oe
 have HH2 := Lib.hid h2
 have HB := Lib.hid b1
 clear h h2 oe b1 hkk htk
 go_enter Try.func102, Try.ntmps102
 go_wp2_with (at_builtin; refine wpList_appLs (L := LR) (e := 89) rfl (.tmp 5) (.tmp 11) 43 rfl (.slice none 0 0) 1 24 Try.underlying43 infoR rfl rfl (by decide) w.heap.size (fun b => F b ∧ b < w.heap.size) (fun b => F b ∧ b < w.heap.size) (some ⟨w.heap.size, 0, none⟩) 0 0 [] A kk c (xs.take kk) kk (by omega) rfl rfl HOE.out HH2.out (fun b hb _ => ⟨hb, fun e => by simp [Value.ownBlock] at e; have := hb.2; omega⟩) (fun b hb => Nat.lt_of_lt_of_le hb.2 hz) (by omega) (by unfold maxLen; omega) hz ?_; intro A4 c4 w4 o4 g4 _; rw [List.nil_append] at o4; have HO4 := Lib.hid o4; have HG4 := Lib.hid g4; clear o4 g4)
 go_ret
 exact ⟨A4, c4, rfl, HO4.out, HB.out.grown HG4.out hz (fun k e => by simp [Value.ownBlock] at e; omega)⟩
set_option maxRecDepth 100000 in
set_option maxHeartbeats 4000000 in
theorem cutH (F : Nat → Prop) (A : Option Addr) (m c most : Nat) (xs : List HC) (w : World) (h : LH4.rd w F A m xs) (hmc : m ≤ c) (hc : c ≤ 9223372036854775807) (hmost : most ≤ 100) :
  Calls Try.prog 66 #[.slice A m c, .int .i64 most] w fun e w' => ∃ A' c', e = .returned (.slice A' (min m most) c') ∧ LH4.own 81 w' w.heap.size (fun b => F b ∧ b < w.heap.size) A' (min m most) c' (xs.take most) ∧ Below w.heap.size w w' := by
 obtain ⟨kk, hkk⟩ : ∃ kk, kk = min m most := ⟨_, rfl⟩
 have hk1 : kk ≤ m := by omega
 have hk2 : kk ≤ 100 := by omega
 have hmn : min (m : Int) (most : Int) = (kk : Int) := by omega
 have hkc : (kk : Int) ≤ (c : Int) := by omega
 have htk : xs.take most = xs.take kk := by
  have := Lay.rd_len h
  rw [hkk, ← this, List.take_eq_take_iff]; omega
 rw [← hkk, htk]
 have oe := Lay.own_empty LH4 w 81 (fun b => F b ∧ b < w.heap.size) (by decide)
 have b1 := bl_al (Below.refl w.heap.size w) (.cells #[] 81)
 have h2 : LH4.rd (w.alloc (.cells #[] 81)) (fun b => F b ∧ b < w.heap.size) A kk (xs.take kk) := Lay.rd_below (Lay.rd_weak (fun b hb hl => ⟨hb, hl⟩) (Lay.rd_take h hk1)) b1
 have hz := b1.size
 have HOE := Lib.hid oe
 have HH2 := Lib.hid h2
 have HB := Lib.hid b1
 clear h h2 oe b1 hkk htk
 go_enter Try.func66, Try.ntmps66
 go_wp2_with (at_builtin; refine wpList_appLs (L := LH4) (e := 81) rfl (.tmp 5) (.tmp 11) 34 rfl (.agg #[.int .u64 0, .slice none 0 0, .bool false, .int .u64 0]) 4 48 Try.underlying34 infoH rfl rfl (by decide) w.heap.size (fun b => F b ∧ b < w.heap.size) (fun b => F b ∧ b < w.heap.size) (some ⟨w.heap.size, 0, none⟩) 0 0 [] A kk c (xs.take kk) kk (by omega) rfl rfl HOE.out HH2.out (fun b hb _ => ⟨hb, fun e => by simp [Value.ownBlock] at e; have := hb.2; omega⟩) (fun b hb => Nat.lt_of_lt_of_le hb.2 hz) (by omega) (by unfold maxLen; omega) hz ?_; intro A4 c4 w4 o4 g4 _; rw [List.nil_append] at o4; have HO4 := Lib.hid o4; have HG4 := Lib.hid g4; clear o4 g4)
 go_ret
 exact ⟨A4, c4, rfl, HO4.out, HB.out.grown HG4.out hz (fun k e => by simp [Value.ownBlock] at e; omega)⟩
end Go.Proofs.Ytojghgbaiiajfaa
/- link.inRow, ends, last. Conditions: the slices read so. -/
namespace Go.Proofs.Ytojghgbaiiajfaa
open Go.RowKit
def inRowB : List BC → Int → Bool
 | [], _ => true
 | b :: l, n => (batchB b n && (!b.fin || l.isEmpty)) && inRowB l (n + 1)
theorem drop_at {α : Type} {l : List α} {i : Nat} {x : α} (h : l[i]? = some x) : l.drop i = x :: l.drop (i + 1) := by
 obtain ⟨hi, rfl⟩ := List.getElem?_eq_some_iff.1 h
 exact List.drop_eq_getElem_cons hi
theorem inRow_at {l : List BC} {i : Nat} {b : BC} {n : Int} (h : l[i]? = some b) : inRowB (l.drop i) (n + i) = ((batchB b (n + i) && (!b.fin || decide (l.length ≤ i + 1))) && inRowB (l.drop (i + 1)) (n + ((i + 1 : Nat) : Int))) := by
 rw [drop_at h]
 show ((batchB b (n + i) && (!b.fin || (l.drop (i + 1)).isEmpty)) && inRowB (l.drop (i + 1)) (n + i + 1)) = _
 rw [show n + (i : Int) + 1 = n + ((i + 1 : Nat) : Int) from by omega]
 congr 2
 congr 1
 rw [Bool.eq_iff_iff]
 simp
set_option maxRecDepth 100000 in
set_option maxHeartbeats 8000000 in
theorem inRow_any (F : Nat → Prop) (A : Option Addr) (m c : Nat) (l : List BC) (n : Int) (w : World) (h : LB3.rd w F A m l) (hm : m ≤ 100) (h0 : 0 ≤ n) (h1 : n ≤ 2000000000000) :
  Calls Try.prog 62 #[.slice A m c, .int .u64 n] w fun e w' => e = .returned (.bool (inRowB l n)) ∧ Below w.heap.size w w' := by
 have HL := Lib.hid (Lay.rd_len h)
 obtain ⟨r, hr⟩ : ∃ r, r = inRowB l n := ⟨_, rfl⟩
 rw [← hr]
 have HR := Lib.hid hr
 clear hr
 go_enter Try.func62, Try.ntmps62
 go_wp2_with fail
 go_loopg [9] m (fun g a wr => ∃ i : Nat, i + g = m ∧ a = .int .i64 i ∧ r = inRowB (l.drop i) (n + i) ∧ Below w.heap.size w wr)
 case atStart => exact ⟨0, by omega, rfl, by rw [HR.out]; simp, Below.refl _ _⟩
 case round =>
  obtain ⟨i, hig, rfl, hri, bb⟩ := hrel
  have HI := Lib.hid hri
  have HBB := Lib.hid bb
  clear hri
  by_cases hlt : i < m
  · have hi1 : (i : Int) < (m : Int) := by omega
   obtain ⟨p, b, B, k, d, rfl, hx, s1⟩ := LB3_at (Lay.rd_below h bb) hlt
   have e0 := s1.c0
   have e1 := s1.c1
   have e2 := s1.c2
   have q5 := bl_al (Below.refl wr.heap.size wr) (.cells (b.cells B k d) 45)
   have HC := Lib.hid (batch_any F b B k d (n + (i : Int)) _ (Lay.rd_below s1.rd q5) (Nat.le_trans s1.nc s1.cm))
   have HS := Lib.hid (inRow_at (n := n) hx)
   have HB5 := Lib.hid (bl_ca HBB.out q5)
   have f1 := (Blk.new wr 45 (b.cells B k d))
   have HF1 := Lib.hid f1
   clear hx s1 bb q5 f1
   obtain ⟨rows, fin, cnt⟩ := b
   dsimp only at *
   obtain ⟨q, hq⟩ : ∃ q, q = batchB ⟨rows, fin, cnt⟩ (n + (i : Int)) := ⟨_, rfl⟩
   rw [← hq] at HC HS
   clear hq
   cases q
   · go_wp2_with fail
    refine HC.out.mono ?_
    rintro e w2 ⟨rfl, q2⟩
    have b2 := Lib.hid (bl_ca HB5.out q2)
    clear q2
    go_wp2
    go_ret
    exact ⟨ret_bool (by rw [HI.out, HS.out]; rfl), b2.out⟩
   · cases fin
    · go_wp2_with fail
     refine HC.out.mono ?_
     rintro e w2 ⟨rfl, q2⟩
     have b2 := Lib.hid (bl_ca HB5.out q2)
     have x1 : w2.cell? ⟨wr.heap.size, 1, none⟩ = some (.bool false) := (HF1.out.ca q2).cell 1
     clear q2
     go_wp2
     go_roundg (gk - 1)
     · exact ⟨i + 1, by omega, by go_num, by rw [HI.out, HS.out]; simp, b2.out⟩
     · omega
    · by_cases hl : i + 1 = m
     · have hl2 : decide ((i : Int) < (m : Int) - 1) = false := by simp; omega
      go_wp2_with fail
      refine HC.out.mono ?_
      rintro e w2 ⟨rfl, q2⟩
      have b2 := Lib.hid (bl_ca HB5.out q2)
      have x1 : w2.cell? ⟨wr.heap.size, 1, none⟩ = some (.bool true) := (HF1.out.ca q2).cell 1
      have HL2 := Lib.hid hl
      clear q2 hl
      go_wp2
      go_roundg (gk - 1)
      · exact ⟨i + 1, by omega, by go_num, by rw [HI.out, HS.out, HL.out, show decide (m ≤ i + 1) = true from by have := HL2.out; simp; omega]; simp, b2.out⟩
      · omega
     · have hl2 : decide ((i : Int) < (m : Int) - 1) = true := by simp; omega
      have hl3 : i + 1 < m := by omega
      clear hl
      go_wp2_with fail
      refine HC.out.mono ?_
      rintro e w2 ⟨rfl, q2⟩
      have b2 := Lib.hid (bl_ca HB5.out q2)
      have x1 : w2.cell? ⟨wr.heap.size, 1, none⟩ = some (.bool true) := (HF1.out.ca q2).cell 1
      clear q2
      go_wp2
      go_ret
      exact ⟨ret_bool (by rw [HI.out, HS.out, HL.out, show decide (m ≤ i + 1) = false from by simp; omega]; rfl), b2.out⟩
  · obtain rfl : i = m := by omega
   have hi1 : (i : Int) ≤ (i : Int) := by omega
   clear bb
   go_wp2
   go_ret
   exact ⟨ret_bool (by rw [HI.out, List.drop_of_length_le (by rw [HL.out]; exact Nat.le_refl _)]; rfl), HBB.out⟩
def endsB (l : List BC) : Bool := match l[l.length - 1]? with | some b => b.fin | none => false
set_option maxRecDepth 100000 in
theorem ends_any (F : Nat → Prop) (A : Option Addr) (m c : Nat) (l : List BC) (w : World) (h : LB3.rd w F A m l) (hm : m ≤ 9223372036854775807) :
  Calls Try.prog 63 #[.slice A m c] w fun e w' => e = .returned (.bool (endsB l)) ∧ w = w' := by
 have HL := Lib.hid (Lay.rd_len h)
 obtain ⟨r, hr⟩ : ∃ r, r = endsB l := ⟨_, rfl⟩
 rw [← hr]
 rcases Nat.eq_zero_or_pos m with h0 | h0
 · subst h0
  obtain rfl : l = [] := List.eq_nil_of_length_eq_zero HL.out
  obtain rfl : r = false := hr
  clear h
  go_enter Try.func63, Try.ntmps63
  go_wp2
  go_ret
  exact ⟨rfl, rfl⟩
 · obtain ⟨p, b, B, k, d, rfl, hx, s1⟩ := LB3_at h (show m - 1 < m by omega)
  obtain rfl : r = b.fin := by rw [hr]; unfold endsB; rw [HL.out, hx]
  have e1 := s1.c1
  obtain ⟨m1, hm1⟩ : ∃ m1, m = m1 + 1 := ⟨m - 1, by omega⟩
  subst hm1
  rw [show m1 + 1 - 1 = m1 from rfl] at e1
  clear h hx s1 hr h0
  have hl : (m1 : Int) < (m1 : Int) + 1 := by omega
  go_enter Try.func63, Try.ntmps63
  go_wp2
  go_ret
  exact ⟨rfl, rfl⟩
set_option maxRecDepth 100000 in
theorem last_any (s : SC) (A : Option Addr) (n c : Nat) (w : World) (h1 : 1 ≤ s.base) (h2 : s.base ≤ 2000000000000) (hn : n ≤ 100) :
  Calls Try.prog 64 #[.agg (s.cells A n c)] w fun e w' => e = .returned (.int .u64 (s.base - 1 + n)) ∧ Below w.heap.size w w' := by
 obtain ⟨ses, base, q, sent, lim, timer, ended⟩ := s
 dsimp only at *
 have b1 := bl_al (Below.refl w.heap.size w) (.cells (SC.cells ⟨ses, base, q, sent, lim, timer, ended⟩ A n c) 29)
 go_enter Try.func64, Try.ntmps64
 go_wp2
 go_ret
 exact ⟨rfl, b1⟩
end Go.Proofs.Ytojghgbaiiajfaa
