/- The law OctetAhead. Conditions: a number below 2^64. -/
import Derived.Test.YtlbeppagdhdmcaaAheadM
import Derived.Test.YtlbeppagdhdmcaaCount
import Derived.Test.YtlbeppagdhdmcaaWakes1
import Derived.Test.YtlbeppagdhdmcaaFrame
import Derived.Deep.RegionHeld3
namespace Go.Proofs.Ytlbeppagdhdmcaa
open Go.RowKit
theorem add1_eq (a b : UInt8) (h : a = b + 1) : IntKind.u8.wrap ((b.toNat : Int) + 1) = (a.toNat : Int) := by
  subst h
  rw [UInt8.toNat_add]
  simp [IntKind.wrap, IntKind.bits, IntKind.signed]
set_option maxRecDepth 100000 in
set_option maxHeartbeats 4000000 in
theorem octetAhead_walk (x : Nat) (w : World) (hx : x < 18446744073709551616) :
    Calls Try.prog 3 #[.int .u64 (x : Nat)] w fun e w' => e = .returned (.bool true) ∧ Below w.heap.size w w' := by
  have HX := Lib.hid hx
  by_cases h56 : x < 72057594037927936
  · obtain ⟨Y, hY⟩ : ∃ Y, Y = 256 * x := ⟨_, rfl⟩
    obtain ⟨Z, hZ⟩ : ∃ Z, Z = x + 1 := ⟨_, rfl⟩
    have hm : IntKind.u64.wrap (256 * (x : Int)) = (Y : Int) := by simp [IntKind.wrap, IntKind.bits, IntKind.signed]; omega
    have hp : IntKind.u64.wrap ((x : Int) + 1) = (Z : Int) := by simp [IntKind.wrap, IntKind.bits, IntKind.signed]; omega
    have hz : ((Z : Int) == 0) = false := by rw [beq_eq_false_iff_ne]; omega
    have hlt : (decide ((x : Int) < 72057594037927936)) = true := by simp; omega
    have HY := Lib.hid (show Y < 18446744073709551616 by omega)
    have HZ := Lib.hid (show Z < 18446744073709551616 by omega)
    have EY := Lib.hid hY
    have EZ := Lib.hid hZ
    have Hm := Lib.hid hm
    clear hx h56 hY hZ hm
    go_enter Try.func3, Try.ntmps3
    go_wp2_with fail
    refine (wakes1_any w).mono ?_
    rintro e w1 ⟨rfl, b1⟩
    go_wp2_with fail
    refine (Put64_any none 0 0 [] x w1 RdB.nil (by omega) HX.out).mono ?_
    rintro e w2 ⟨A2, c2, rfl, ho2, q2⟩
    rw [List.nil_append, Nat.zero_add] at ho2
    rw [Nat.zero_add]
    have b2 := b1.trans (q2.mono b1.size)
    clear b1 q2
    go_wp2_with fail
    rw [Hm.out]
    clear hlt
    refine (Put64_any none 0 0 [] Y w2 RdB.nil (by omega) HY.out).mono ?_
    rintro e w3 ⟨A3, c3, rfl, ho3, q3⟩
    rw [List.nil_append, Nat.zero_add] at ho3
    rw [Nat.zero_add]
    have b3 := b2.trans (q3.mono b2.size)
    replace ho2 := ho2.below q3
    clear b2 q3
    have hk3 := ho3.cap
    have hk2 := ho2.cap
    have r1 : RdB w3.drew A3 7 ((beB 8 Y).take 7) := ho3.rd.take (k := 7) (by omega)
    have r2 := RdB.cut ho2.rd (k := 1) (cap := c2) (by omega) hk2.1
    rw [if_neg (show ¬ c2 = 1 by omega)] at r2
    obtain ⟨g3, rfl, _, _, hc3, _, _⟩ := ho3.at_ 7 (by omega)
    obtain ⟨g2, rfl, _, _, _, _, _⟩ := ho2.at_ 7 (by omega)
    have r2' : RdB w3.drew (some ⟨g2, 1, none⟩) 7 ((beB 8 x).drop 1) := r2
    have l7 : w3.drew.cell? ⟨g3, 7, none⟩ = some (.int .u8 0) := by
      have h := far_last x
      rw [← EY.out] at h
      rw [h] at hc3
      exact hc3
    clear r2 hc3
    have j1 : (7 : Int) ≤ (c3 : Int) := by omega
    have j2 : ¬ (c2 = 1) := by omega
    go_wp2
    go_region_held3 (fun w' => w'.cell? ⟨g3, 7, none⟩ = some (.int .u8 0)) (first | go_keep)
      (first
        | (go_at_call 6; refine (equal_any (some ⟨g3, 0, none⟩) (some ⟨g2, 1, none⟩) 7 c3 7 (c2 - 1) _ _ _ r1 r2').mono ?_; rintro e wa ⟨rfl, rfl⟩; rw [show ((beB 8 Y).take 7 == (beB 8 x).drop 1) = true from by rw [EY.out, far_same]; exact beq_self_eq_true _]))
    replace ho2 := ho2.below (Below.refl _ _).drew
    replace b3 := b3.drew
    clear r1 r2' l7 ho3 hk3
    generalize w3.drew = wB at *
    go_wp2_with fail
    refine (Put64_any none 0 0 [] Z wB RdB.nil (by omega) HZ.out).mono ?_
    rintro e wC ⟨A5, c5, rfl, ho5, q5⟩
    rw [List.nil_append, Nat.zero_add] at ho5
    rw [Nat.zero_add]
    have bC := b3.trans (q5.mono b3.size)
    replace ho2 := ho2.below q5
    have hk5 := ho5.cap
    obtain ⟨g5, rfl, _, _, _, _, _⟩ := ho5.at_ 7 (by omega)
    clear hp hz q5 b3
    go_wp2
    go_loopg [6] 7 (fun g s wr => ∃ k : Nat, k ≤ 7 ∧ k ≤ g ∧ g ≤ k ∧ s = .int .i64 k ∧ (x + 1) % 256 ^ (7 - k) = 0 ∧ wr = wC)
    case atStart => exact ⟨7, by omega, by omega, by omega, rfl, Nat.mod_one _, rfl⟩
    case round =>
      obtain ⟨k, hk7, hg1, hg2, rfl, hmod, rfl⟩ := hrel
      have HM := Lib.hid hmod
      clear hmod
      have hbk : wr.cell? ⟨g2, k, none⟩ = some (vb ((beB 8 x).getD k 0)) := by
        obtain ⟨g', e, _, _, hc, _⟩ := ho2.at_ k (by omega)
        injection e with e; injection e with e; subst e; exact hc
      have hck : wr.cell? ⟨g5, k, none⟩ = some (vb ((beB 8 Z).getD k 0)) := by
        obtain ⟨g', e, _, _, hc, _⟩ := ho5.at_ k (by omega)
        injection e with e; injection e with e; subst e; exact hc
      have r5 : RdB wr.drew (some ⟨g5, 0, none⟩) k ((beB 8 Z).take k) := ho5.rd.take (k := k) (by omega)
      have r2 : RdB wr.drew (some ⟨g2, 0, none⟩) k ((beB 8 x).take k) := ho2.rd.take (k := k) (by omega)
      have hne0 : 0 < k → (beB 8 Z).getD k 0 = 0 → (x + 1) % 256 ^ (7 - (k - 1)) = 0 := by
        intro a c
        rw [EZ.out] at c
        exact next_more x k (by omega) a HM.out c
      obtain ⟨bk, hbkE⟩ : ∃ bk, (beB 8 x).getD k 0 = bk := ⟨_, rfl⟩
      obtain ⟨ck, hckE⟩ : ∃ ck, (beB 8 Z).getD k 0 = ck := ⟨_, rfl⟩
      rw [hbkE] at hbk
      rw [hckE] at hck hne0
      unfold vb at hbk hck
      have hbd : wr.drew.cell? ⟨g2, k, none⟩ = some (.int .u8 (bk.toNat : Int)) := hbk
      have hcd : wr.drew.cell? ⟨g5, k, none⟩ = some (.int .u8 (ck.toNat : Int)) := hck
      rcases Nat.eq_zero_or_pos k with rfl | hk0
      · have hne : 0 = 0 ∨ (beB 8 x).getD 0 0 ≠ 255 ∨ (beB 8 (x + 1)).getD 0 0 ≠ 0 := .inl rfl
        clear hne0
        have i0 : (0 : Int) ≤ (0 : Int) := by omega
        have i1 : (0 : Int) < 8 := by omega
        have i2 : (0 : Int) ≤ (c5 : Int) := by omega
        have i3 : (0 : Int) ≤ (c2 : Int) := by omega
        have eq1 := add1_eq _ _ (next_at x 0 (by omega) HM.out)
        have eq2 := Lib.hid (next_before x 0 (by omega) HM.out hne)
        rw [← EZ.out] at eq1 eq2
        rw [hckE, hbkE] at eq1
        clear hne hbkE hckE
        go_wp2
        go_region_held3 (fun w' => w'.cell? ⟨g2, 0, none⟩ = some (.int .u8 (bk.toNat : Int)) ∧ w'.cell? ⟨g5, 0, none⟩ = some (.int .u8 (ck.toNat : Int))) (first | go_keep)
          (first
            | (go_at_call 6; refine (equal_any (some ⟨g5, 0, none⟩) (some ⟨g2, 0, none⟩) 0 c5 0 c2 _ _ _ r5 r2).mono ?_; rintro e wa ⟨rfl, rfl⟩; rw [show ((beB 8 Z).take 0 == (beB 8 x).take 0) = true from by rw [eq2.out]; exact beq_self_eq_true _]))
        go_wp2
        go_ret
        exact ⟨rfl, bC.drew⟩
      · have hk0' : 0 < (k : Int) := by omega
        by_cases hb : bk = 255
        · have hb' : ((bk.toNat : Int) == 255) = true := by subst hb; rfl
          by_cases hc : ck = 0
          · have hc' : ((ck.toNat : Int) == 0) = true := by subst hc; rfl
            have HN := Lib.hid (hne0 hk0 hc)
            clear hne0 hb hc
            obtain ⟨j, rfl⟩ : ∃ j, k = j + 1 := ⟨k - 1, by omega⟩
            go_wp2
            go_roundg (gk - 1)
            · exact ⟨j, by omega, by omega, by omega, by go_num, (by have := HN.out; rwa [Nat.add_sub_cancel] at this), rfl⟩
            · omega
          · have hc' : ((ck.toNat : Int) == 0) = false := by rw [beq_eq_false_iff_ne]; intro e; exact hc (UInt8.toNat_inj.1 (show ck.toNat = 0 by omega))
            have hne : k = 0 ∨ (beB 8 x).getD k 0 ≠ 255 ∨ (beB 8 (x + 1)).getD k 0 ≠ 0 := by rw [← EZ.out, hckE]; exact .inr (.inr hc)
            clear hne0 hb hc
            have i0 : (0 : Int) ≤ (k : Int) := by omega
            have i1 : (k : Int) < 8 := by omega
            have i2 : (k : Int) ≤ (c5 : Int) := by omega
            have i3 : (k : Int) ≤ (c2 : Int) := by omega
            have eq1 := add1_eq _ _ (next_at x k (by omega) HM.out)
            have eq2 := Lib.hid (next_before x k (by omega) HM.out hne)
            rw [← EZ.out] at eq1 eq2
            rw [hckE, hbkE] at eq1
            clear hne hbkE hckE
            go_wp2
            go_region_held3 (fun w' => w'.cell? ⟨g2, k, none⟩ = some (.int .u8 (bk.toNat : Int)) ∧ w'.cell? ⟨g5, k, none⟩ = some (.int .u8 (ck.toNat : Int))) (first | go_keep)
              (first
                | (go_at_call 6; refine (equal_any (some ⟨g5, 0, none⟩) (some ⟨g2, 0, none⟩) k c5 k c2 _ _ _ r5 r2).mono ?_; rintro e wa ⟨rfl, rfl⟩; rw [show ((beB 8 Z).take k == (beB 8 x).take k) = true from by rw [eq2.out]; exact beq_self_eq_true _]))
            go_wp2
            go_ret
            exact ⟨rfl, bC.drew⟩
        · have hb' : ((bk.toNat : Int) == 255) = false := by rw [beq_eq_false_iff_ne]; intro e; exact hb (UInt8.toNat_inj.1 (show bk.toNat = 255 by omega))
          have hne : k = 0 ∨ (beB 8 x).getD k 0 ≠ 255 ∨ (beB 8 (x + 1)).getD k 0 ≠ 0 := by rw [hbkE]; exact .inr (.inl hb)
          clear hne0 hb
          have i0 : (0 : Int) ≤ (k : Int) := by omega
          have i1 : (k : Int) < 8 := by omega
          have i2 : (k : Int) ≤ (c5 : Int) := by omega
          have i3 : (k : Int) ≤ (c2 : Int) := by omega
          have eq1 := add1_eq _ _ (next_at x k (by omega) HM.out)
          have eq2 := Lib.hid (next_before x k (by omega) HM.out hne)
          rw [← EZ.out] at eq1 eq2
          rw [hckE, hbkE] at eq1
          clear hne hbkE hckE
          go_wp2
          go_region_held3 (fun w' => w'.cell? ⟨g2, k, none⟩ = some (.int .u8 (bk.toNat : Int)) ∧ w'.cell? ⟨g5, k, none⟩ = some (.int .u8 (ck.toNat : Int))) (first | go_keep)
            (first
              | (go_at_call 6; refine (equal_any (some ⟨g5, 0, none⟩) (some ⟨g2, 0, none⟩) k c5 k c2 _ _ _ r5 r2).mono ?_; rintro e wa ⟨rfl, rfl⟩; rw [show ((beB 8 Z).take k == (beB 8 x).take k) = true from by rw [eq2.out]; exact beq_self_eq_true _]))
          go_wp2
          go_ret
          exact ⟨rfl, bC.drew⟩
  · by_cases hmax : x = 18446744073709551615
    · have hp : IntKind.u64.wrap ((x : Int) + 1) = 0 := by subst hmax; rfl
      have hlt : (decide ((x : Int) < 72057594037927936)) = false := by simp; omega
      have EX := Lib.hid hmax
      clear hx h56 hmax
      go_enter Try.func3, Try.ntmps3
      go_wp2_with fail
      refine (wakes1_any w).mono ?_
      rintro e w1 ⟨rfl, b1⟩
      go_wp2_with fail
      refine (Put64_any none 0 0 [] x w1 RdB.nil (by omega) HX.out).mono ?_
      rintro e w2 ⟨A2, c2, rfl, ho2, q2⟩
      rw [List.nil_append, Nat.zero_add] at ho2
      rw [Nat.zero_add]
      have b2 := b1.trans (q2.mono b1.size)
      clear b1 q2
      obtain ⟨g2, rfl, _, _, _, _, _⟩ := ho2.at_ 7 (by omega)
      go_wp2_with fail
      clear hlt
      have h8 : beB 8 x = [255, 255, 255, 255, 255, 255, 255, 255] := by rw [EX.out]; exact all255
      have b4 := b2.alloc b2.size (.cells #[.int .u8 255] 5)
      have hcl : (w2.alloc (.cells #[.int .u8 255] 5)).cell? ⟨w2.heap.size, 0, none⟩ = some (.int .u8 255) := (Blk.new w2 5 #[.int .u8 255]).cell 0
      refine (count8 g2 c2 w2.heap.size 1 _ (beB 8 x) (ho2.rd.alloc _) h8 hcl).mono ?_
      rintro e w3 ⟨rfl, rfl⟩
      clear h8
      go_wp2
      go_ret
      exact ⟨rfl, b4⟩
    · obtain ⟨Z, hZ⟩ : ∃ Z, Z = x + 1 := ⟨_, rfl⟩
      have hp : IntKind.u64.wrap ((x : Int) + 1) = (Z : Int) := by simp [IntKind.wrap, IntKind.bits, IntKind.signed]; omega
      have hz : ((Z : Int) == 0) = false := by rw [beq_eq_false_iff_ne]; omega
      have hlt : (decide ((x : Int) < 72057594037927936)) = false := by simp; omega
      have HZ := Lib.hid (show Z < 18446744073709551616 by omega)
      have EZ := Lib.hid hZ
      clear hx h56 hZ hmax
      go_enter Try.func3, Try.ntmps3
      go_wp2_with fail
      refine (wakes1_any w).mono ?_
      rintro e w1 ⟨rfl, b1⟩
      go_wp2_with fail
      refine (Put64_any none 0 0 [] x w1 RdB.nil (by omega) HX.out).mono ?_
      rintro e w2 ⟨A2, c2, rfl, ho2, q2⟩
      rw [List.nil_append, Nat.zero_add] at ho2
      rw [Nat.zero_add]
      have b2 := b1.trans (q2.mono b1.size)
      clear b1 q2
      have hk2 := ho2.cap
      obtain ⟨g2, rfl, _, _, _, _, _⟩ := ho2.at_ 7 (by omega)
      obtain ⟨wB, rfl⟩ : ∃ wB, wB = w2 := ⟨_, rfl⟩
      have b3 := b2
      clear b2
      go_wp2_with fail
      clear hlt
      refine (Put64_any none 0 0 [] Z wB RdB.nil (by omega) HZ.out).mono ?_
      rintro e wC ⟨A5, c5, rfl, ho5, q5⟩
      rw [List.nil_append, Nat.zero_add] at ho5
      rw [Nat.zero_add]
      have bC := b3.trans (q5.mono b3.size)
      replace ho2 := ho2.below q5
      have hk5 := ho5.cap
      obtain ⟨g5, rfl, _, _, _, _, _⟩ := ho5.at_ 7 (by omega)
      clear hp hz q5 b3
      go_wp2
      go_loopg [6] 7 (fun g s wr => ∃ k : Nat, k ≤ 7 ∧ k ≤ g ∧ g ≤ k ∧ s = .int .i64 k ∧ (x + 1) % 256 ^ (7 - k) = 0 ∧ wr = wC)
      case atStart => exact ⟨7, by omega, by omega, by omega, rfl, Nat.mod_one _, rfl⟩
      case round =>
        obtain ⟨k, hk7, hg1, hg2, rfl, hmod, rfl⟩ := hrel
        have HM := Lib.hid hmod
        clear hmod
        have hbk : wr.cell? ⟨g2, k, none⟩ = some (vb ((beB 8 x).getD k 0)) := by
          obtain ⟨g', e, _, _, hc, _⟩ := ho2.at_ k (by omega)
          injection e with e; injection e with e; subst e; exact hc
        have hck : wr.cell? ⟨g5, k, none⟩ = some (vb ((beB 8 Z).getD k 0)) := by
          obtain ⟨g', e, _, _, hc, _⟩ := ho5.at_ k (by omega)
          injection e with e; injection e with e; subst e; exact hc
        have r5 : RdB wr.drew (some ⟨g5, 0, none⟩) k ((beB 8 Z).take k) := ho5.rd.take (k := k) (by omega)
        have r2 : RdB wr.drew (some ⟨g2, 0, none⟩) k ((beB 8 x).take k) := ho2.rd.take (k := k) (by omega)
        have hne0 : 0 < k → (beB 8 Z).getD k 0 = 0 → (x + 1) % 256 ^ (7 - (k - 1)) = 0 := by
          intro a c
          rw [EZ.out] at c
          exact next_more x k (by omega) a HM.out c
        obtain ⟨bk, hbkE⟩ : ∃ bk, (beB 8 x).getD k 0 = bk := ⟨_, rfl⟩
        obtain ⟨ck, hckE⟩ : ∃ ck, (beB 8 Z).getD k 0 = ck := ⟨_, rfl⟩
        rw [hbkE] at hbk
        rw [hckE] at hck hne0
        unfold vb at hbk hck
        have hbd : wr.drew.cell? ⟨g2, k, none⟩ = some (.int .u8 (bk.toNat : Int)) := hbk
        have hcd : wr.drew.cell? ⟨g5, k, none⟩ = some (.int .u8 (ck.toNat : Int)) := hck
        rcases Nat.eq_zero_or_pos k with rfl | hk0
        · have hne : 0 = 0 ∨ (beB 8 x).getD 0 0 ≠ 255 ∨ (beB 8 (x + 1)).getD 0 0 ≠ 0 := .inl rfl
          clear hne0
          have i0 : (0 : Int) ≤ (0 : Int) := by omega
          have i1 : (0 : Int) < 8 := by omega
          have i2 : (0 : Int) ≤ (c5 : Int) := by omega
          have i3 : (0 : Int) ≤ (c2 : Int) := by omega
          have eq1 := add1_eq _ _ (next_at x 0 (by omega) HM.out)
          have eq2 := Lib.hid (next_before x 0 (by omega) HM.out hne)
          rw [← EZ.out] at eq1 eq2
          rw [hckE, hbkE] at eq1
          clear hne hbkE hckE
          go_wp2
          go_region_held3 (fun w' => w'.cell? ⟨g2, 0, none⟩ = some (.int .u8 (bk.toNat : Int)) ∧ w'.cell? ⟨g5, 0, none⟩ = some (.int .u8 (ck.toNat : Int))) (first | go_keep)
            (first
              | (go_at_call 6; refine (equal_any (some ⟨g5, 0, none⟩) (some ⟨g2, 0, none⟩) 0 c5 0 c2 _ _ _ r5 r2).mono ?_; rintro e wa ⟨rfl, rfl⟩; rw [show ((beB 8 Z).take 0 == (beB 8 x).take 0) = true from by rw [eq2.out]; exact beq_self_eq_true _]))
          go_wp2
          go_ret
          exact ⟨rfl, bC.drew⟩
        · have hk0' : 0 < (k : Int) := by omega
          by_cases hb : bk = 255
          · have hb' : ((bk.toNat : Int) == 255) = true := by subst hb; rfl
            by_cases hc : ck = 0
            · have hc' : ((ck.toNat : Int) == 0) = true := by subst hc; rfl
              have HN := Lib.hid (hne0 hk0 hc)
              clear hne0 hb hc
              obtain ⟨j, rfl⟩ : ∃ j, k = j + 1 := ⟨k - 1, by omega⟩
              go_wp2
              go_roundg (gk - 1)
              · exact ⟨j, by omega, by omega, by omega, by go_num, (by have := HN.out; rwa [Nat.add_sub_cancel] at this), rfl⟩
              · omega
            · have hc' : ((ck.toNat : Int) == 0) = false := by rw [beq_eq_false_iff_ne]; intro e; exact hc (UInt8.toNat_inj.1 (show ck.toNat = 0 by omega))
              have hne : k = 0 ∨ (beB 8 x).getD k 0 ≠ 255 ∨ (beB 8 (x + 1)).getD k 0 ≠ 0 := by rw [← EZ.out, hckE]; exact .inr (.inr hc)
              clear hne0 hb hc
              have i0 : (0 : Int) ≤ (k : Int) := by omega
              have i1 : (k : Int) < 8 := by omega
              have i2 : (k : Int) ≤ (c5 : Int) := by omega
              have i3 : (k : Int) ≤ (c2 : Int) := by omega
              have eq1 := add1_eq _ _ (next_at x k (by omega) HM.out)
              have eq2 := Lib.hid (next_before x k (by omega) HM.out hne)
              rw [← EZ.out] at eq1 eq2
              rw [hckE, hbkE] at eq1
              clear hne hbkE hckE
              go_wp2
              go_region_held3 (fun w' => w'.cell? ⟨g2, k, none⟩ = some (.int .u8 (bk.toNat : Int)) ∧ w'.cell? ⟨g5, k, none⟩ = some (.int .u8 (ck.toNat : Int))) (first | go_keep)
                (first
                  | (go_at_call 6; refine (equal_any (some ⟨g5, 0, none⟩) (some ⟨g2, 0, none⟩) k c5 k c2 _ _ _ r5 r2).mono ?_; rintro e wa ⟨rfl, rfl⟩; rw [show ((beB 8 Z).take k == (beB 8 x).take k) = true from by rw [eq2.out]; exact beq_self_eq_true _]))
              go_wp2
              go_ret
              exact ⟨rfl, bC.drew⟩
          · have hb' : ((bk.toNat : Int) == 255) = false := by rw [beq_eq_false_iff_ne]; intro e; exact hb (UInt8.toNat_inj.1 (show bk.toNat = 255 by omega))
            have hne : k = 0 ∨ (beB 8 x).getD k 0 ≠ 255 ∨ (beB 8 (x + 1)).getD k 0 ≠ 0 := by rw [hbkE]; exact .inr (.inl hb)
            clear hne0 hb
            have i0 : (0 : Int) ≤ (k : Int) := by omega
            have i1 : (k : Int) < 8 := by omega
            have i2 : (k : Int) ≤ (c5 : Int) := by omega
            have i3 : (k : Int) ≤ (c2 : Int) := by omega
            have eq1 := add1_eq _ _ (next_at x k (by omega) HM.out)
            have eq2 := Lib.hid (next_before x k (by omega) HM.out hne)
            rw [← EZ.out] at eq1 eq2
            rw [hckE, hbkE] at eq1
            clear hne hbkE hckE
            go_wp2
            go_region_held3 (fun w' => w'.cell? ⟨g2, k, none⟩ = some (.int .u8 (bk.toNat : Int)) ∧ w'.cell? ⟨g5, k, none⟩ = some (.int .u8 (ck.toNat : Int))) (first | go_keep)
              (first
                | (go_at_call 6; refine (equal_any (some ⟨g5, 0, none⟩) (some ⟨g2, 0, none⟩) k c5 k c2 _ _ _ r5 r2).mono ?_; rintro e wa ⟨rfl, rfl⟩; rw [show ((beB 8 Z).take k == (beB 8 x).take k) = true from by rw [eq2.out]; exact beq_self_eq_true _]))
            go_wp2
            go_ret
            exact ⟨rfl, bC.drew⟩
theorem octetAhead_walkF (x : Int) (w : World) (hx : (Lit.int .u64 x).wf = true) :
    Calls Try.prog 3 #[.int .u64 x] w fun e w' => e = .returned (.bool true) ∧ Below w.heap.size w w' := by
  obtain ⟨h1, h2⟩ := wf_u64 hx
  obtain ⟨y, rfl⟩ := Int.eq_ofNat_of_zero_le h1
  exact octetAhead_walk y w (by omega)
end Go.Proofs.Ytlbeppagdhdmcaa
