/- bowspritlaw04.wakes. Conditions: none. -/
import Derived.Test.YtemakmgppafccaaAllV
import Derived.Test.YtemakmgppafccaaOwnV
import Derived.Deep.DrawnRows
namespace Go.Proofs.Ytemakmgppafccaa
open Go.RowKit
attribute [local go_sem ↓] Go.wp_at_zero Go.wp_at_succ
theorem rdv_blk {w : World} {g : Nat} {t : TypeId} {cs : Array Value} {vs : List VV} (h : Blk w g t cs) (hc : cs.toList = vcells vs) : RdV w (some ⟨g, 0, none⟩) vs.length vs := by
  refine ⟨rfl, fun i hi => ?_⟩
  obtain ⟨c0, c1, c2, c3⟩ := vcells_at vs i vs[i] (List.getElem?_eq_getElem hi)
  have hadd : ∀ j, (⟨g, 0, none⟩ : Addr).add j = ⟨g, j, none⟩ := fun j => by unfold Addr.add; split <;> simp_all
  have e : ∀ j, w.cell? ⟨g, j, none⟩ = (vcells vs)[j]? := fun j => by rw [h.cell j, ← hc]; simp
  refine ⟨_, vs[i], rfl, List.getElem?_eq_getElem hi, h.lt, ?_, ?_, ?_, ?_⟩
  all_goals rw [hadd, e]
  · exact c0
  · exact c1
  · exact c2
  · exact c3
set_option maxRecDepth 100000 in
set_option maxHeartbeats 4000000 in
theorem wakes_walk (w : World) (hsub : ∀ w, Calls Try.prog 22 #[.agg #[.int .i64 2, .int .i64 3, .int .u64 0, .string ⟨#[]⟩], .agg #[.int .i64 2, .int .i64 5, .int .u64 0, .string ⟨#[]⟩]] w fun e w' => e = .returned (.tuple #[.agg #[.int .i64 2, .int .i64 (-2), .int .u64 0, .string ⟨#[]⟩], .int .i64 0]) ∧ Below w.heap.size w w') (hadd : ∀ w, Calls Try.prog 20 #[.agg #[.int .i64 2, .int .i64 9223372036854775807, .int .u64 0, .string ⟨#[]⟩], .agg #[.int .i64 2, .int .i64 1, .int .u64 0, .string ⟨#[]⟩]] w fun e w' => e = .returned (.tuple #[.agg #[.int .i64 0, .int .i64 0, .int .u64 0, .string ⟨#[]⟩], .int .i64 140]) ∧ Below w.heap.size w w') (hall : ∀ g w, Blk w g 27 #[.int .i64 2, .int .i64 9223372036854775807, .int .u64 0, .string ⟨#[]⟩, .int .i64 2, .int .i64 9223372036854775807, .int .u64 0, .string ⟨#[]⟩, .int .i64 2, .int .i64 (-9223372036854775808), .int .u64 0, .string ⟨#[]⟩] → Calls Try.prog 18 #[.slice (some ⟨g, 0, none⟩) 3 3] w fun e w' => e = .returned (.tuple #[.agg #[.int .i64 2, .int .i64 9223372036854775806, .int .u64 0, .string ⟨#[]⟩], .int .i64 0]) ∧ Below w.heap.size w w') :
    Calls Try.prog 8 #[] w fun e w' => e = .returned (.bool true) ∧ Below w.heap.size w w' := by
  have HA := Lib.hid hadd
  have HS := Lib.hid hsub
  have HL := Lib.hid hall
  clear hadd hsub hall
  have bb := Below.refl w.heap.size w
  go_enter Try.func8, Try.ntmps8
  go_wp2_with fail
  refine (vint_any 3 w).mono ?_
  rintro e w1 ⟨rfl, q1⟩
  replace bb := bl_ca bb q1
  clear q1
  go_wp2_with fail
  refine (vint_any 5 _).mono ?_
  rintro e w2 ⟨rfl, q2⟩
  replace bb := bl_ca bb q2
  clear q2
  go_wp2_with fail
  refine (HS.out _).mono ?_
  rintro e w3 ⟨rfl, q3⟩
  replace bb := bl_ca bb q3
  clear q3
  have hX := Blk.new w3 27 #[.int .i64 2, .int .i64 (-2), .int .u64 0, .string ⟨#[]⟩]
  have bz := bb.size
  replace bb := bl_al bb (.cells #[.int .i64 2, .int .i64 (-2), .int .u64 0, .string ⟨#[]⟩] 27)
  go_wp2_with fail
  generalize w3.alloc (.cells #[.int .i64 2, .int .i64 (-2), .int .u64 0, .string ⟨#[]⟩] 27) = wx at *
  generalize w3.heap.size = GX at *
  refine (vint_any 9223372036854775807 wx).mono ?_
  rintro e w4 ⟨rfl, q4⟩
  replace hX := hX.ca q4
  replace bb := bl_ca bb q4
  clear q4
  go_wp2_with fail
  refine (vint_any 1 _).mono ?_
  rintro e w5 ⟨rfl, q5⟩
  replace hX := hX.ca q5
  replace bb := bl_ca bb q5
  clear q5
  go_wp2_with fail
  refine (HA.out _).mono ?_
  rintro e w6 ⟨rfl, q6⟩
  replace hX := hX.ca q6
  replace bb := bl_ca bb q6
  clear q6
  have lhY_hX := hX.lt
  replace hX := hX.alloc (.cells #[.int .i64 0, .int .i64 0, .int .u64 0, .string ⟨#[]⟩] 27)
  have hY := Blk.new w6 27 #[.int .i64 0, .int .i64 0, .int .u64 0, .string ⟨#[]⟩]
  have bz := bb.size
  replace bb := bl_al bb (.cells #[.int .i64 0, .int .i64 0, .int .u64 0, .string ⟨#[]⟩] 27)
  go_wp2_with fail
  generalize w6.alloc (.cells #[.int .i64 0, .int .i64 0, .int .u64 0, .string ⟨#[]⟩] 27) = wy at *
  generalize w6.heap.size = GY at *
  refine (vint_any 9223372036854775807 wy).mono ?_
  rintro e w7 ⟨rfl, q7⟩
  replace hX := hX.ca q7
  replace hY := hY.ca q7
  replace bb := bl_ca bb q7
  clear q7
  go_wp2_with fail
  refine (vint_any 9223372036854775807 _).mono ?_
  rintro e w8 ⟨rfl, q8⟩
  replace hX := hX.ca q8
  replace hY := hY.ca q8
  replace bb := bl_ca bb q8
  clear q8
  go_wp2_with fail
  refine (vint_any (-9223372036854775808) _).mono ?_
  rintro e w9 ⟨rfl, q9⟩
  replace hX := hX.ca q9
  replace hY := hY.ca q9
  replace bb := bl_ca bb q9
  clear q9
  have lhL_hX := hX.lt
  have lhL_hY := hY.lt
  replace hX := hX.alloc (.cells #[.int .i64 2, .int .i64 9223372036854775807, .int .u64 0, .string ⟨#[]⟩, .int .i64 2, .int .i64 9223372036854775807, .int .u64 0, .string ⟨#[]⟩, .int .i64 2, .int .i64 (-9223372036854775808), .int .u64 0, .string ⟨#[]⟩] 27)
  replace hY := hY.alloc (.cells #[.int .i64 2, .int .i64 9223372036854775807, .int .u64 0, .string ⟨#[]⟩, .int .i64 2, .int .i64 9223372036854775807, .int .u64 0, .string ⟨#[]⟩, .int .i64 2, .int .i64 (-9223372036854775808), .int .u64 0, .string ⟨#[]⟩] 27)
  have hL := Blk.new w9 27 #[.int .i64 2, .int .i64 9223372036854775807, .int .u64 0, .string ⟨#[]⟩, .int .i64 2, .int .i64 9223372036854775807, .int .u64 0, .string ⟨#[]⟩, .int .i64 2, .int .i64 (-9223372036854775808), .int .u64 0, .string ⟨#[]⟩]
  have bz := bb.size
  replace bb := bl_al bb (.cells #[.int .i64 2, .int .i64 9223372036854775807, .int .u64 0, .string ⟨#[]⟩, .int .i64 2, .int .i64 9223372036854775807, .int .u64 0, .string ⟨#[]⟩, .int .i64 2, .int .i64 (-9223372036854775808), .int .u64 0, .string ⟨#[]⟩] 27)
  go_wp2_with fail
  generalize w9.alloc (.cells #[.int .i64 2, .int .i64 9223372036854775807, .int .u64 0, .string ⟨#[]⟩, .int .i64 2, .int .i64 9223372036854775807, .int .u64 0, .string ⟨#[]⟩, .int .i64 2, .int .i64 (-9223372036854775808), .int .u64 0, .string ⟨#[]⟩] 27) = wl at *
  generalize w9.heap.size = GL at *
  refine (HL.out GL wl hL).mono ?_
  rintro e w10 ⟨rfl, q10⟩
  replace hX := hX.ca q10
  replace hY := hY.ca q10
  replace hL := hL.ca q10
  replace bb := bl_ca bb q10
  clear q10
  clear hL hY
  have lhZ_hX := hX.lt
  replace hX := hX.alloc (.cells #[.int .i64 2, .int .i64 9223372036854775806, .int .u64 0, .string ⟨#[]⟩] 27)
  have hZ := Blk.new w10 27 #[.int .i64 2, .int .i64 9223372036854775806, .int .u64 0, .string ⟨#[]⟩]
  have bz := bb.size
  replace bb := bl_al bb (.cells #[.int .i64 2, .int .i64 9223372036854775806, .int .u64 0, .string ⟨#[]⟩] 27)
  go_wp2
  generalize w10.alloc (.cells #[.int .i64 2, .int .i64 9223372036854775806, .int .u64 0, .string ⟨#[]⟩] 27) = w11 at *
  generalize w10.heap.size = G11 at *
  go_region_held3 (fun w' => (w'.cell? ⟨GX, 0, none⟩ = some (.int .i64 2) ∧ w'.cell? ⟨GX, 1, none⟩ = some (.int .i64 (-2)) ∧ w'.cell? ⟨GX, 2, none⟩ = some (.int .u64 0) ∧ w'.cell? ⟨GX, 3, none⟩ = some (.string ⟨#[]⟩)) ∧ (w'.cell? ⟨G11, 0, none⟩ = some (.int .i64 2) ∧ w'.cell? ⟨G11, 1, none⟩ = some (.int .i64 9223372036854775806) ∧ w'.cell? ⟨G11, 2, none⟩ = some (.int .u64 0) ∧ w'.cell? ⟨G11, 3, none⟩ = some (.string ⟨#[]⟩))) (first | with_reducible exact ⟨vS (hX), vS (hZ)⟩ | with_reducible exact ⟨vS (hX.drew), vS (hZ.drew)⟩ | with_reducible exact ⟨vS ((hX.alloc _).drew), vS ((hZ.alloc _).drew)⟩ | with_reducible exact ⟨vS (((hX.alloc _).alloc _).drew), vS (((hZ.alloc _).alloc _).drew)⟩ | with_reducible exact ⟨vS ((hX.alloc _)), vS ((hZ.alloc _))⟩)
    (first
      | (go_at_call 17; (with_reducible refine (vint_any _ _).mono ?_); rintro e w12 ⟨rfl, q12⟩; replace hX : Blk w12 (GX) 27 #[.int .i64 2, .int .i64 (-2), .int .u64 0, .string ⟨#[]⟩] := (by first | with_reducible exact (hX).ca q12 | with_reducible exact (hX.drew).ca q12 | with_reducible exact ((hX.alloc _).drew).ca q12 | with_reducible exact (((hX.alloc _).alloc _).drew).ca q12 | with_reducible exact ((hX.alloc _)).ca q12); replace hZ : Blk w12 (G11) 27 #[.int .i64 2, .int .i64 9223372036854775806, .int .u64 0, .string ⟨#[]⟩] := (by first | with_reducible exact (hZ).ca q12 | with_reducible exact (hZ.drew).ca q12 | with_reducible exact ((hZ.alloc _).drew).ca q12 | with_reducible exact (((hZ.alloc _).alloc _).drew).ca q12 | with_reducible exact ((hZ.alloc _)).ca q12); replace bb : Below w.heap.size w w12 := (by first | with_reducible exact bl_ca bb q12 | with_reducible exact bl_ca (bl_d1 bb) q12 | with_reducible exact bl_ca (bl_d1 (bl_al bb _)) q12 | with_reducible exact bl_ca (bl_d1 (bl_al (bl_al bb _) _)) q12 | with_reducible exact bl_ca (bl_al bb _) q12)))
  go_wp2
  go_ret
  exact ⟨rfl, bb⟩
theorem wakes4_any (w : World) : Calls Try.prog 8 #[] w fun e w' => e = .returned (.bool true) ∧ Below w.heap.size w w' := by
  have e0 : (⟨#[]⟩ : ByteArray).toList = [] := by rw [ByteArray.toList_eq]
  have ok : ∀ n, (VI n).ok = true := fun n => by simp [VI, VV.ok, rightB, e0]
  have ok0 : V0.ok = true := by simp [V0, VV.ok, rightB, e0]
  have okS : ∀ n, (VS n).ok = true := fun n => by simp [VS, VV.ok, rightB, e0]
  have m2 : ∀ n, misB 2 (VI n) = false := fun n => by simp [VI, misB]
  have m4 : ∀ n, misB 4 (VS n) = false := fun n => by simp [VS, misB]
  have m0 : misB 4 V0 = false := by simp [V0, misB]
  have hk : ∀ n, (VI n).k ≠ 0 := fun n => by simp [VI]
  have hop : ∀ r a b, opV r (VI a) (VI b) = outR r := fun r a b => by
    unfold opV
    rw [areE_two]
    simp [ok, m2, outR, hk]
  refine wakes_walk w (fun w => ?_) (fun w => ?_) (fun g w h => ?_)
  · have := sub_any (VI 3) (VI 5) w ⟨by decide, by decide⟩ ⟨by decide, by decide⟩
    rw [hop] at this
    exact this
  · have := add_any (VI 9223372036854775807) (VI 1) w ⟨by decide, by decide⟩ ⟨by decide, by decide⟩
    rw [hop] at this
    exact this
  · have := all_any (some ⟨g, 0, none⟩) 3 3 [VI 9223372036854775807, VI 9223372036854775807, VI (-9223372036854775808)] w (rdv_blk h rfl) (by decide) (by
      intro v hv
      simp only [List.mem_cons, List.not_mem_nil, or_false] at hv
      rcases hv with rfl | rfl | rfl
      · exact ⟨⟨by decide, by decide⟩, by decide, by decide⟩
      · exact ⟨⟨by decide, by decide⟩, by decide, by decide⟩
      · exact ⟨⟨by decide, by decide⟩, by decide, by decide⟩)
    have s1 : sumV V0 (VI 9223372036854775807) = (VS 9223372036854775807, 0) := by unfold sumV; simp [ok, ok0, m0, m2]; rfl
    have s2 : ∀ z n, n ≠ 0 ∨ True → sumV (VS z) (VI n) = outS (z + n) := fun z n _ => by
      unfold sumV
      rw [VS_z]
      simp [ok, okS, m4, m2]
      rfl
    have hrun : runV V0 [VI 9223372036854775807, VI 9223372036854775807, VI (-9223372036854775808)] = (VI 9223372036854775806, 0) := by
      unfold runV
      rw [s1]
      simp only [ne_eq, not_true_eq_false, if_false]
      unfold runV
      rw [s2 _ _ (.inr trivial)]
      rw [show outS (9223372036854775807 + 9223372036854775807) = (VS 18446744073709551614, 0) from rfl]
      simp only [ne_eq, not_true_eq_false, if_false]
      unfold runV
      rw [s2 _ _ (.inr trivial)]
      rw [show outS (18446744073709551614 + -9223372036854775808) = (VS 9223372036854775806, 0) from rfl]
      simp only [ne_eq, not_true_eq_false, if_false]
      unfold runV endV
      rw [okS, m4, VS_z]
      rfl
    rw [hrun] at this
    exact this
end Go.Proofs.Ytemakmgppafccaa
