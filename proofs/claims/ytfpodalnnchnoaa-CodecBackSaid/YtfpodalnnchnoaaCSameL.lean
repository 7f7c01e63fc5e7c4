/- bowspritref06.Same. Conditions: the slices read as these rows. -/
import Derived.Test.YtfpodalnnchnoaaCSameR
import Derived.Test.YtfpodalnnchnoaaCRows
namespace Go.Proofs.Ytfpodalnnchnoaa
open Go.RowKit
theorem cell_keep {w W : World} {p : Addr} {i : Nat} {v : Value} (h : w.cell? (p.add i) = some v) (hl : p.block < w.heap.size) (hb : Below w.heap.size w W) : W.cell? (p.add i) = some v :=
  (hb.cell (by rw [show (p.add i).block = p.block from by unfold Addr.add; split <;> rfl]; exact hl)).trans h
set_option maxRecDepth 100000 in
set_option maxHeartbeats 4000000 in
theorem same_any (F G : Nat → Prop) (A B : Option Addr) (m c n d : Nat) (xs ys : List (List VV)) (w : World) (hx : LR.rd w F A m xs) (hy : LR.rd w G B n ys) (hm : m ≤ 9223372036854775807) :
    Calls Try.prog 21 #[.slice A m c, .slice B n d] w fun e w' => e = .returned (.bool (decide (xs = ys))) ∧ Below w.heap.size w w' := by
  have hxl := hx.1
  have hyl := hy.1
  by_cases hmn : m = n
  · subst hmn
    obtain ⟨r, hr⟩ : ∃ r, r = decide (xs = ys) := ⟨_, rfl⟩
    rw [← hr]
    have HR := Lib.hid hr
    have HXL := Lib.hid hxl
    have HYL := Lib.hid hyl
    clear hr hxl hyl
    go_enter Try.func21, Try.ntmps21
    go_wp2
    go_loopg [13] m (fun g s wr => ∃ i : Nat, i + g ≤ m ∧ m ≤ i + g ∧ s = .int .i64 i ∧ xs.take i = ys.take i ∧ Below w.heap.size w wr)
    case atStart => exact ⟨0, by omega, by omega, rfl, rfl, Below.refl _ _⟩
    case round =>
      obtain ⟨i, hi1, hi2, rfl, hp, bb⟩ := hrel
      by_cases hi : i < m
      · obtain ⟨p1, v, Av, nv, cv, rfl, hv, l1, e0, lv, mv, hrv⟩ := Lay.slice_at (Lay.rd_below hx bb) hi
        obtain ⟨p2, u, Au, nu, cu, rfl, hu, l2, f0, _, _, hru⟩ := Lay.slice_at (Lay.rd_below hy bb) hi
        have HS := Lib.hid (fun w h1 h2 => samerow_any Av Au nv cv nu cu v u w h1 h2 (Nat.le_trans lv mv))
        have h1 := LV_rd hrv
        have h2 := LV_rd hru
        have HP := Lib.hid hp
        have HVI := Lib.hid hv
        have HUI := Lib.hid hu
        have qq := Below.refl wr.heap.size wr
        clear hp hv hu hx hy hrv hru lv mv
        obtain ⟨q, hq⟩ : ∃ q, q = decide (v = u) := ⟨_, rfl⟩
        rw [← hq] at HS
        have HQ := Lib.hid hq
        clear hq
        go_wp2_with fail
        go_region_held3 (fun w' => w'.cell? (p1.add i) = some (.slice Av nv cv) ∧ w'.cell? (p2.add i) = some (.slice Au nu cu)) (first | with_reducible exact ⟨cell_keep e0 l1 qq, cell_keep f0 l2 qq⟩ | with_reducible exact ⟨cell_keep e0 l1 (bl_d1 qq), cell_keep f0 l2 (bl_d1 qq)⟩)
          (first
            | (go_at_call 31; (refine (HS.out _ (h1.below (bl_d1 (Below.refl _ _))) (h2.below (bl_d1 (Below.refl _ _)))).mono ?_); rintro e wa ⟨rfl, qa⟩; replace qq := bl_ca (bl_d1 qq) qa))
        cases q
        · have HF := Lib.hid (show r = false from by
            rw [HR.out]
            refine decide_eq_false fun e => of_decide_eq_false HQ.out.symm ?_
            have h1 := HVI.out
            rw [e, HUI.out] at h1
            injection h1 with h1
            exact h1.symm)
          go_wp2
          exact bodyPost_ret (v := .bool false) (by simp [results, Try.results21, go_sem]) rfl ⟨by rw [HF.out], bl_ca bb qq⟩
        · have HP2 := Lib.hid (show xs.take (i + 1) = ys.take (i + 1) from by rw [List.take_add_one, List.take_add_one, HP.out, HVI.out, HUI.out, of_decide_eq_true HQ.out.symm])
          go_wp2
          go_roundg (gk - 1)
          · exact ⟨i + 1, by omega, by omega, by go_num, HP2.out, bl_ca bb qq⟩
          · omega
      · obtain rfl : i = m := by omega
        have HT := Lib.hid (show r = true from by
          rw [List.take_of_length_le (by rw [HXL.out]; omega), List.take_of_length_le (by rw [HYL.out]; omega)] at hp
          rw [HR.out]
          exact decide_eq_true hp)
        clear hp hx hy
        go_wp2
        exact bodyPost_ret (v := .bool true) (by simp [results, Try.results21, go_sem]) rfl ⟨by rw [HT.out], bb⟩
  · have e : decide (xs = ys) = false := decide_eq_false fun e => hmn (by rw [← hxl, ← hyl, e])
    rw [e]
    clear e hx hy hxl hyl
    go_enter Try.func21, Try.ntmps21
    go_wp2
    exact bodyPost_ret (v := .bool false) (by simp [results, Try.results21, go_sem]) rfl ⟨rfl, Below.refl _ _⟩
end Go.Proofs.Ytfpodalnnchnoaa
