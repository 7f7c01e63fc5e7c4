/- codec.taken, TakeRow, TakeList. Conditions: the slice reads as these bytes. -/
import Derived.Test.YtfpodalnnchnoaaCRow
namespace Go.Proofs.Ytfpodalnnchnoaa
open Go.RowKit
def takE (s : St) : Int := if s.bad then 160 else s.why
def takN (s : St) : Nat := if takE s = 0 then s.p else 0
theorem left_below (R : Nat) (O : Option Addr) (n c : Nat) (bs : List UInt8) (p : Nat) (why : Int) (w : World) (h : Rdr w R O n c bs p why) :
    Calls Try.prog 44 #[.pointer (some ⟨R, 0, none⟩)] w fun e w' => e = .returned (.int .i64 ((n : Int) - p)) ∧ Below w.heap.size w w' :=
  (left_any R O n c bs p why w h).mono fun _ _ ⟨he, q, hw⟩ => ⟨he, hw ▸ bl_dr (Below.refl _ _) q⟩
set_option maxRecDepth 100000 in
set_option maxHeartbeats 4000000 in
theorem taken_row (T R : Nat) (O : Option Addr) (n c : Nat) (bs : List UInt8) (s : St) (Ax : Option Addr) (k cx : Nat) (w : World) (hk : Tk w T R O n c bs s) :
    Calls Try.prog 35 #[.pointer (some ⟨T, 0, none⟩), .slice Ax k cx] w fun e w' => e = .returned (.tuple #[if takE s = 0 then .slice Ax k cx else .slice none 0 0, .int .i64 (takN s : Int), .int .i64 (takE s)]) ∧ Below w.heap.size w w' := by
  have t0 : w.cell? ⟨T, 0, none⟩ = some (.pointer (some ⟨R, 0, none⟩)) := hk.blk.cell 0
  have t2 : w.cell? ⟨T, 2, none⟩ = some (.bool s.bad) := hk.blk.cell 2
  have HE := Lib.hid (err_any R O n c bs s.p s.why w hk.rdr)
  have hle := hk.rdr.le
  have hlim := hk.rdr.lim
  rcases s with ⟨p, why, bad⟩
  simp only at t2 HE hle
  cases bad
  · by_cases hw : why = 0
    · subst hw
      rw [show takE ⟨p, 0, false⟩ = 0 from rfl, show takN ⟨p, 0, false⟩ = p from rfl, if_pos rfl]
      go_enter Try.func35, Try.ntmps35
      go_wp2_with fail
      refine (HE.out).mono ?_
      rintro e w1 ⟨rfl, rfl⟩
      go_wp2_with fail
      refine wp_region_lin (S := Grew w) (by kernel_rfl) (Grew.start _) ?_
      refine Good.val (i := 0) (d := some 27) (v := ?v6_0_1) rfl rfl (by kernel_rfl) (by kernel_rfl) (by kernel_rfl) (by rfl) (fun w9 hS => ?h6_0_1) ?r6_0_1
      case h6_0_1 =>
        go_simp
        try rfl
      try simp only [Act.put, List.setIfInBounds_toArray, List.set_cons_zero, List.set_cons_succ]
      refine Good.val (i := 1) (d := some 28) (v := ?v6_1_2) rfl rfl (by kernel_rfl) (by kernel_rfl) (by kernel_rfl) (by rfl) (fun w9 hS => ?h6_1_2) ?r6_1_2
      case h6_1_2 =>
        go_simp
        try rfl
      try simp only [Act.put, List.setIfInBounds_toArray, List.set_cons_zero, List.set_cons_succ]
      refine Good.val (i := 2) (d := some 29) (v := ?v6_2_3) rfl rfl (by kernel_rfl) (by kernel_rfl) (by kernel_rfl) (by rfl) (fun w9 hS => ?h6_2_3) ?r6_2_3
      case h6_2_3 =>
        go_simp
        try rfl
      try simp only [Act.put, List.setIfInBounds_toArray, List.set_cons_zero, List.set_cons_succ]
      refine Good.val (i := 3) (d := some 30) (v := ?v6_3_4) rfl rfl (by kernel_rfl) (by kernel_rfl) (by kernel_rfl) (by rfl) (fun w9 hS => ?h6_3_4) ?r6_3_4
      case h6_3_4 =>
        go_simp
        try rfl
      try simp only [Act.put, List.setIfInBounds_toArray, List.set_cons_zero, List.set_cons_succ]
      refine Good.val (i := 4) (d := some 31) (v := ?v6_4_5) rfl rfl (by kernel_rfl) (by kernel_rfl) (by kernel_rfl) (by rfl) (fun w9 hS => ?h6_4_5) ?r6_4_5
      case h6_4_5 =>
        have t9 : w9.cell? ⟨T, 1, none⟩ = some (.int .i64 (n : Int)) := (hk.below hS).blk.cell 1
        go_simp
        try rfl
      try simp only [Act.put, List.setIfInBounds_toArray, List.set_cons_zero, List.set_cons_succ]
      refine Good.val (i := 5) (d := some 32) (v := ?v6_5_6) rfl rfl (by kernel_rfl) (by kernel_rfl) (by kernel_rfl) (by rfl) (fun w9 hS => ?h6_5_6) ?r6_5_6
      case h6_5_6 =>
        go_simp
        try rfl
      try simp only [Act.put, List.setIfInBounds_toArray, List.set_cons_zero, List.set_cons_succ]
      refine Good.val (i := 6) (d := some 33) (v := ?v6_6_7) rfl rfl (by kernel_rfl) (by kernel_rfl) (by kernel_rfl) (by rfl) (fun w9 hS => ?h6_6_7) ?r6_6_7
      case h6_6_7 =>
        go_simp
        try rfl
      try simp only [Act.put, List.setIfInBounds_toArray, List.set_cons_zero, List.set_cons_succ]
      refine Good.val (i := 7) (d := some 34) (v := ?v6_7_8) rfl rfl (by kernel_rfl) (by kernel_rfl) (by kernel_rfl) (by rfl) (fun w9 hS => ?h6_7_8) ?r6_7_8
      case h6_7_8 =>
        go_simp
        try rfl
      try simp only [Act.put, List.setIfInBounds_toArray, List.set_cons_zero, List.set_cons_succ]
      refine Good.val (i := 8) (d := some 35) (v := ?v6_8_9) rfl rfl (by kernel_rfl) (by kernel_rfl) (by kernel_rfl) (by rfl) (fun w9 hS => ?h6_8_9) ?r6_8_9
      case h6_8_9 =>
        have t9 : w9.cell? ⟨T, 0, none⟩ = some (.pointer (some ⟨R, 0, none⟩)) := (hk.below hS).blk.cell 0
        go_simp
        try rfl
      try simp only [Act.put, List.setIfInBounds_toArray, List.set_cons_zero, List.set_cons_succ]
      refine Good.call (i := 9) (d := some 36) (fn := ?f6_9_10) (args := ?a6_9_10) (v := ?v6_9_10) rfl rfl (by kernel_rfl) (by kernel_rfl) (by kernel_rfl) (by rfl) (fun w9 hS => ?h6_9_10) (Grew.call fun w9 qS => ?c6_9_10) ?r6_9_10
      case h6_9_10 => go_simp; refine ⟨?_, ?_⟩ <;> rfl
      case c6_9_10 => exact left_below R O n c bs p 0 _ (hk.below qS).rdr
      try simp only [Act.put, List.setIfInBounds_toArray, List.set_cons_zero, List.set_cons_succ]
      refine Good.val (i := 10) (d := some 37) (v := .int .i64 (p : Int)) rfl rfl (by kernel_rfl) (by kernel_rfl) (by kernel_rfl) (by rfl) (fun w9 hS => ?h6_10_11) ?r6_10_11
      case h6_10_11 =>
        have hsub : IntKind.i64.wrap ((n : Int) - ((n : Int) - (p : Int))) = (p : Int) := by rw [IntKind.wrap_i64]; omega
        go_simp
        try rfl
      try simp only [Act.put, List.setIfInBounds_toArray, List.set_cons_zero, List.set_cons_succ]
      refine Good.val (i := 11) (d := some 4) (v := ?v6_11_12) rfl rfl (by kernel_rfl) (by kernel_rfl) (by kernel_rfl) (by rfl) (fun w9 hS => ?h6_11_12) ?r6_11_12
      case h6_11_12 =>
        go_simp
        try rfl
      try simp only [Act.put, List.setIfInBounds_toArray, List.set_cons_zero, List.set_cons_succ]
      refine Good.val (i := 12) (d := some 5) (v := ?v6_12_13) rfl rfl (by kernel_rfl) (by kernel_rfl) (by kernel_rfl) (by rfl) (fun w9 hS => ?h6_12_13) ?r6_12_13
      case h6_12_13 =>
        go_simp
        try rfl
      try simp only [Act.put, List.setIfInBounds_toArray, List.set_cons_zero, List.set_cons_succ]
      refine Good.val (i := 13) (d := some 6) (v := ?v6_13_14) rfl rfl (by kernel_rfl) (by kernel_rfl) (by kernel_rfl) (by rfl) (fun w9 hS => ?h6_13_14) ?r6_13_14
      case h6_13_14 =>
        go_simp
        try rfl
      try simp only [Act.put, List.setIfInBounds_toArray, List.set_cons_zero, List.set_cons_succ]
      refine Good.done (by kernel_rfl) (fun w1 qw1 => ?_) _
      go_wp2
      exact bodyPost_ret (results_tmp3 rfl _ _ _) rfl ⟨rfl, qw1⟩
    · have hw1 : (why != 0) = true := by simpa using hw
      rw [show takE ⟨p, why, false⟩ = why from rfl, show takN ⟨p, why, false⟩ = 0 from by unfold takN; rw [show takE ⟨p, why, false⟩ = why from rfl, if_neg hw], if_neg hw]
      clear hw
      go_enter Try.func35, Try.ntmps35
      go_wp2_with fail
      refine (HE.out).mono ?_
      rintro e w1 ⟨rfl, rfl⟩
      go_wp2_with fail
      refine (HE.out).mono ?_
      rintro e w1 ⟨rfl, rfl⟩
      go_wp2
      exact bodyPost_ret (results_tmp3 rfl _ _ _) rfl ⟨rfl, Below.refl _ _⟩
  · rw [show takE ⟨p, why, true⟩ = 160 from rfl, show takN ⟨p, why, true⟩ = 0 from rfl, if_neg (by omega)]
    go_enter Try.func35, Try.ntmps35
    go_wp2
    exact bodyPost_ret (results_tmp3 rfl _ _ _) rfl ⟨rfl, Below.refl _ _⟩
set_option maxRecDepth 100000 in
set_option maxHeartbeats 4000000 in
theorem taken_list (T R : Nat) (O : Option Addr) (n c : Nat) (bs : List UInt8) (s : St) (Ax : Option Addr) (k cx : Nat) (w : World) (hk : Tk w T R O n c bs s) :
    Calls Try.prog 33 #[.pointer (some ⟨T, 0, none⟩), .slice Ax k cx] w fun e w' => e = .returned (.tuple #[if takE s = 0 then .slice Ax k cx else .slice none 0 0, .int .i64 (takN s : Int), .int .i64 (takE s)]) ∧ Below w.heap.size w w' := by
  have t0 : w.cell? ⟨T, 0, none⟩ = some (.pointer (some ⟨R, 0, none⟩)) := hk.blk.cell 0
  have t2 : w.cell? ⟨T, 2, none⟩ = some (.bool s.bad) := hk.blk.cell 2
  have HE := Lib.hid (err_any R O n c bs s.p s.why w hk.rdr)
  have hle := hk.rdr.le
  have hlim := hk.rdr.lim
  rcases s with ⟨p, why, bad⟩
  simp only at t2 HE hle
  cases bad
  · by_cases hw : why = 0
    · subst hw
      rw [show takE ⟨p, 0, false⟩ = 0 from rfl, show takN ⟨p, 0, false⟩ = p from rfl, if_pos rfl]
      go_enter Try.func33, Try.ntmps33
      go_wp2_with fail
      refine (HE.out).mono ?_
      rintro e w1 ⟨rfl, rfl⟩
      go_wp2_with fail
      refine wp_region_lin (S := Grew w) (by kernel_rfl) (Grew.start _) ?_
      refine Good.val (i := 0) (d := some 27) (v := ?v6_0_15) rfl rfl (by kernel_rfl) (by kernel_rfl) (by kernel_rfl) (by rfl) (fun w9 hS => ?h6_0_15) ?r6_0_15
      case h6_0_15 =>
        go_simp
        try rfl
      try simp only [Act.put, List.setIfInBounds_toArray, List.set_cons_zero, List.set_cons_succ]
      refine Good.val (i := 1) (d := some 28) (v := ?v6_1_16) rfl rfl (by kernel_rfl) (by kernel_rfl) (by kernel_rfl) (by rfl) (fun w9 hS => ?h6_1_16) ?r6_1_16
      case h6_1_16 =>
        go_simp
        try rfl
      try simp only [Act.put, List.setIfInBounds_toArray, List.set_cons_zero, List.set_cons_succ]
      refine Good.val (i := 2) (d := some 29) (v := ?v6_2_17) rfl rfl (by kernel_rfl) (by kernel_rfl) (by kernel_rfl) (by rfl) (fun w9 hS => ?h6_2_17) ?r6_2_17
      case h6_2_17 =>
        go_simp
        try rfl
      try simp only [Act.put, List.setIfInBounds_toArray, List.set_cons_zero, List.set_cons_succ]
      refine Good.val (i := 3) (d := some 30) (v := ?v6_3_18) rfl rfl (by kernel_rfl) (by kernel_rfl) (by kernel_rfl) (by rfl) (fun w9 hS => ?h6_3_18) ?r6_3_18
      case h6_3_18 =>
        go_simp
        try rfl
      try simp only [Act.put, List.setIfInBounds_toArray, List.set_cons_zero, List.set_cons_succ]
      refine Good.val (i := 4) (d := some 31) (v := ?v6_4_19) rfl rfl (by kernel_rfl) (by kernel_rfl) (by kernel_rfl) (by rfl) (fun w9 hS => ?h6_4_19) ?r6_4_19
      case h6_4_19 =>
        have t9 : w9.cell? ⟨T, 1, none⟩ = some (.int .i64 (n : Int)) := (hk.below hS).blk.cell 1
        go_simp
        try rfl
      try simp only [Act.put, List.setIfInBounds_toArray, List.set_cons_zero, List.set_cons_succ]
      refine Good.val (i := 5) (d := some 32) (v := ?v6_5_20) rfl rfl (by kernel_rfl) (by kernel_rfl) (by kernel_rfl) (by rfl) (fun w9 hS => ?h6_5_20) ?r6_5_20
      case h6_5_20 =>
        go_simp
        try rfl
      try simp only [Act.put, List.setIfInBounds_toArray, List.set_cons_zero, List.set_cons_succ]
      refine Good.val (i := 6) (d := some 33) (v := ?v6_6_21) rfl rfl (by kernel_rfl) (by kernel_rfl) (by kernel_rfl) (by rfl) (fun w9 hS => ?h6_6_21) ?r6_6_21
      case h6_6_21 =>
        go_simp
        try rfl
      try simp only [Act.put, List.setIfInBounds_toArray, List.set_cons_zero, List.set_cons_succ]
      refine Good.val (i := 7) (d := some 34) (v := ?v6_7_22) rfl rfl (by kernel_rfl) (by kernel_rfl) (by kernel_rfl) (by rfl) (fun w9 hS => ?h6_7_22) ?r6_7_22
      case h6_7_22 =>
        go_simp
        try rfl
      try simp only [Act.put, List.setIfInBounds_toArray, List.set_cons_zero, List.set_cons_succ]
      refine Good.val (i := 8) (d := some 35) (v := ?v6_8_23) rfl rfl (by kernel_rfl) (by kernel_rfl) (by kernel_rfl) (by rfl) (fun w9 hS => ?h6_8_23) ?r6_8_23
      case h6_8_23 =>
        have t9 : w9.cell? ⟨T, 0, none⟩ = some (.pointer (some ⟨R, 0, none⟩)) := (hk.below hS).blk.cell 0
        go_simp
        try rfl
      try simp only [Act.put, List.setIfInBounds_toArray, List.set_cons_zero, List.set_cons_succ]
      refine Good.call (i := 9) (d := some 36) (fn := ?f6_9_24) (args := ?a6_9_24) (v := ?v6_9_24) rfl rfl (by kernel_rfl) (by kernel_rfl) (by kernel_rfl) (by rfl) (fun w9 hS => ?h6_9_24) (Grew.call fun w9 qS => ?c6_9_24) ?r6_9_24
      case h6_9_24 => go_simp; refine ⟨?_, ?_⟩ <;> rfl
      case c6_9_24 => exact left_below R O n c bs p 0 _ (hk.below qS).rdr
      try simp only [Act.put, List.setIfInBounds_toArray, List.set_cons_zero, List.set_cons_succ]
      refine Good.val (i := 10) (d := some 37) (v := .int .i64 (p : Int)) rfl rfl (by kernel_rfl) (by kernel_rfl) (by kernel_rfl) (by rfl) (fun w9 hS => ?h6_10_25) ?r6_10_25
      case h6_10_25 =>
        have hsub : IntKind.i64.wrap ((n : Int) - ((n : Int) - (p : Int))) = (p : Int) := by rw [IntKind.wrap_i64]; omega
        go_simp
        try rfl
      try simp only [Act.put, List.setIfInBounds_toArray, List.set_cons_zero, List.set_cons_succ]
      refine Good.val (i := 11) (d := some 4) (v := ?v6_11_26) rfl rfl (by kernel_rfl) (by kernel_rfl) (by kernel_rfl) (by rfl) (fun w9 hS => ?h6_11_26) ?r6_11_26
      case h6_11_26 =>
        go_simp
        try rfl
      try simp only [Act.put, List.setIfInBounds_toArray, List.set_cons_zero, List.set_cons_succ]
      refine Good.val (i := 12) (d := some 5) (v := ?v6_12_27) rfl rfl (by kernel_rfl) (by kernel_rfl) (by kernel_rfl) (by rfl) (fun w9 hS => ?h6_12_27) ?r6_12_27
      case h6_12_27 =>
        go_simp
        try rfl
      try simp only [Act.put, List.setIfInBounds_toArray, List.set_cons_zero, List.set_cons_succ]
      refine Good.val (i := 13) (d := some 6) (v := ?v6_13_28) rfl rfl (by kernel_rfl) (by kernel_rfl) (by kernel_rfl) (by rfl) (fun w9 hS => ?h6_13_28) ?r6_13_28
      case h6_13_28 =>
        go_simp
        try rfl
      try simp only [Act.put, List.setIfInBounds_toArray, List.set_cons_zero, List.set_cons_succ]
      refine Good.done (by kernel_rfl) (fun w1 qw1 => ?_) _
      go_wp2
      exact bodyPost_ret (results_tmp3 rfl _ _ _) rfl ⟨rfl, qw1⟩
    · have hw1 : (why != 0) = true := by simpa using hw
      rw [show takE ⟨p, why, false⟩ = why from rfl, show takN ⟨p, why, false⟩ = 0 from by unfold takN; rw [show takE ⟨p, why, false⟩ = why from rfl, if_neg hw], if_neg hw]
      clear hw
      go_enter Try.func33, Try.ntmps33
      go_wp2_with fail
      refine (HE.out).mono ?_
      rintro e w1 ⟨rfl, rfl⟩
      go_wp2_with fail
      refine (HE.out).mono ?_
      rintro e w1 ⟨rfl, rfl⟩
      go_wp2
      exact bodyPost_ret (results_tmp3 rfl _ _ _) rfl ⟨rfl, Below.refl _ _⟩
  · rw [show takE ⟨p, why, true⟩ = 160 from rfl, show takN ⟨p, why, true⟩ = 0 from rfl, if_neg (by omega)]
    go_enter Try.func33, Try.ntmps33
    go_wp2
    exact bodyPost_ret (results_tmp3 rfl _ _ _) rfl ⟨rfl, Below.refl _ _⟩
end Go.Proofs.Ytfpodalnnchnoaa
