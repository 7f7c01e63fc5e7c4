/- codec.List, Size. Conditions: the slice reads as these rows. -/
import Derived.Test.YtfpodalnnchnoaaCRows
import Derived.WalkMore
namespace Go.Proofs.Ytfpodalnnchnoaa
open Go.RowKit
set_option maxRecDepth 100000 in
set_option maxHeartbeats 4000000 in
theorem list_any (F : Nat → Prop) (A : Option Addr) (m c : Nat) (rows : List (List VV)) (w : World) (hv : LR.rd w F A m rows) (hu : rowsU rows) :
    Calls Try.prog 18 #[.slice A m c] w (retL w (listB rows) (listAt rows) (listE rows)) := by
  have hl := hv.1
  by_cases hm : 400 < m
  · have h1 : (400 : Int) < (m : Int) := by omega
    have e1 : listE rows = 3 := by unfold listE; rw [if_pos (by omega)]
    have e2 : listB rows = [] := by unfold listB; rw [e1]; rfl
    have e3 : listAt rows = 0 := by unfold listAt; rw [if_pos (by omega)]
    rw [e1, e2, e3]
    clear e1 e2 e3 hm hl hv hu
    go_enter Try.func18, Try.ntmps18
    go_wp2_with fail
    go_step3
    go_wp2
    rw [Exit.noGoto_ret]
    exact bodyPost_ret (results_tmp3 rfl _ _ _) rfl ⟨none, 0, rfl, OwnB.none_ _ _, Below.refl _ _⟩
  · have h1 : (m : Int) ≤ (400 : Int) := by omega
    obtain ⟨R, hR⟩ : ∃ R, R = listB rows := ⟨_, rfl⟩
    obtain ⟨E, hE⟩ : ∃ E, E = listE rows := ⟨_, rfl⟩
    obtain ⟨T, hT⟩ : ∃ T, T = listAt rows := ⟨_, rfl⟩
    have HE := Lib.hid (show E = match listX rows 0 with | none => 0 | some (_, e) => e from by rw [hE]; unfold listE; rw [if_neg (by omega)]; rfl)
    have HT := Lib.hid (show T = match listX rows 0 with | none => 0 | some (i, _) => i from by rw [hT]; unfold listAt; rw [if_neg (by omega)]; rfl)
    have HR := Lib.hid (show R = if E = 0 then beB 2 m ++ rows.flatMap rowB else [] from by rw [hR, hE]; unfold listB; rw [hl])
    rw [← hR, ← hE, ← hT]
    have HU := Lib.hid hu
    have HL := Lib.hid hl
    have hwr : IntKind.u16.wrap (m : Int) = (m : Int) := by rw [IntKind.wrap_u16]; omega
    clear hR hE hT hu hl
    go_enter Try.func18, Try.ntmps18
    go_wp2_with fail
    go_step3
    go_wp2_with fail
    refine (Put16_any none 0 0 [] m w RdB.nil (by omega) (by omega)).mono ?_
    rintro e w1 ⟨A1, c1, rfl, ho, b1⟩
    clear hwr
    have HC := Lib.hid (show [] ++ beB 2 m = beB 2 m ++ (rows.take 0).flatMap rowB from by simp)
    have HX := Lib.hid (show listX rows 0 = listX (rows.drop 0) 0 from by simp)
    generalize [] ++ beB 2 m = cur at *
    go_wp2_with fail
    go_step3
    go_wp2
    go_loopg [5, 6, 7, 20] m (fun g o a_ e_ s wr => ∃ (i n' c' : Nat) (A' : Option Addr) (cur : List UInt8), i + g ≤ m ∧ m ≤ i + g ∧ s = .int .i64 i ∧ o = .slice A' n' c' ∧ a_ = .int .i64 0 ∧ e_ = .int .i64 0 ∧ n' ≤ 2 + 673 * i ∧ Hid (cur = beB 2 m ++ (rows.take i).flatMap rowB) ∧ Hid (listX rows 0 = listX (rows.drop i) i) ∧ OwnB wr w.heap.size A' n' c' cur ∧ Below w.heap.size w wr)
    case atStart => exact ⟨0, 0 + 2, c1, A1, cur, by omega, by omega, rfl, rfl, rfl, rfl, by omega, HC, HX, ho, b1⟩
    case round =>
      clear ho b1 HC HX
      obtain ⟨i, n', c', A', cur', hi1, hi2, rfl, rfl, rfl, rfl, hn', HC, HX, ho, bb⟩ := hrel
      by_cases hi : i < m
      · obtain ⟨ad, r, Ar, nr, cr, hA2, hri, hal, hc0, _, _, hrd⟩ := Lay.slice_at (Lay.rd_below hv bb) hi
        subst hA2
        have HUR := Lib.hid (HU.out r (List.mem_of_getElem? hri))
        have HXS := Lib.hid (listX_at (k := i) hri)
        have HT2 := Lib.hid (show (rows.take (i + 1)).flatMap rowB = (rows.take i).flatMap rowB ++ rowB r from by rw [List.take_add_one, hri]; simp)
        have hrl := rowB_len r
        clear hri
        by_cases he : rowE r = 0
        · have HROW := Lib.hid (row_y (c := cr) (LV_rd hrd) HUR.out he)
          have HX2 := Lib.hid (show listX rows 0 = listX (rows.drop (i + 1)) (i + 1) from by rw [HX.out, HXS.out, if_pos he])
          have HC2 := Lib.hid (show cur' ++ rowB r = beB 2 m ++ (rows.take (i + 1)).flatMap rowB from by rw [HT2.out, HC.out, List.append_assoc])
          clear he hrd HXS HT2
          generalize rowB r = xs at *
          go_wp2_with fail
          refine HROW.out.mono ?_
          rintro e w3 ⟨A3, c3, rfl, ho3, q3⟩
          have ho1 := OwnB.below ho q3
          have hB : w.heap.size ≤ w3.heap.size := Nat.le_trans bb.size q3.size
          go_wp2_with (at_builtin; refine wpList_appB rfl (.tmp 33) (.tmp 34) rfl w.heap.size A' n' c' cur' A3 xs.length c3 xs rfl rfl ho1 ho3.rd (by omega) hB ?_; intro A4 c4 w4 ho4 b4)
          have b5 := (bl_ca bb q3).trans b4
          go_roundg (gk - 1)
          · exact ⟨i + 1, n' + xs.length, c4, A4, cur' ++ xs, by omega, by omega, by go_num, rfl, rfl, rfl, by omega, HC2, HX2, ho4, b5⟩
          · omega
        · have HROW := Lib.hid (row_n (c := cr) (LV_rd hrd) HUR.out he)
          have HX2 := Lib.hid (show listX rows 0 = some (i, rowE r) from by rw [HX.out, HXS.out, if_neg he])
          have he1 : (rowE r != 0) = true := by simpa using he
          have HE1 := Lib.hid (show E = rowE r from by rw [HE.out, HX2.out])
          have HT1 := Lib.hid (show T = i from by rw [HT.out, HX2.out])
          have HR1 := Lib.hid (show R = [] from by rw [HR.out, HE1.out, if_neg he])
          clear he hrd HXS HT2
          generalize rowE r = er at *
          go_wp2_with fail
          refine HROW.out.mono ?_
          rintro e w3 ⟨A3, c3, rfl, ho3, q3⟩
          go_wp2
          rw [Exit.noGoto_ret]
          exact bodyPost_ret (results_tmp3 rfl _ _ _) rfl ⟨none, 0, by rw [HR1.out, HE1.out, HT1.out]; rfl, by rw [HR1.out]; exact OwnB.none_ _ _, bl_ca bb q3⟩
      · have e : rows.take i = rows := List.take_of_length_le (by rw [HL.out]; omega)
        have e2 : rows.drop i = [] := List.drop_of_length_le (by rw [HL.out]; omega)
        rw [e] at HC
        rw [e2] at HX
        have HE1 := Lib.hid (show E = 0 from by rw [HE.out, HX.out]; rfl)
        have HT1 := Lib.hid (show T = 0 from by rw [HT.out, HX.out]; rfl)
        have HR1 := Lib.hid (show R = cur' from by rw [HR.out, HE1.out, if_pos rfl, HC.out])
        have HLL := Lib.hid ho.len
        clear e e2
        go_wp2
        rw [Exit.noGoto_ret]
        exact bodyPost_ret (results_tmp3 rfl _ _ _) rfl ⟨A', c', by rw [HR1.out, HE1.out, HT1.out, HLL.out]; rfl, by rw [HR1.out, HLL.out]; exact ho, bb⟩
set_option maxHeartbeats 1000000 in
theorem size_any (F : Nat → Prop) (A : Option Addr) (m c : Nat) (rows : List (List VV)) (w : World) (hv : LR.rd w F A m rows) (hu : rowsU rows) :
    Calls Try.prog 20 #[.slice A m c] w fun e w' => e = .returned (.tuple #[.int .i64 ((listB rows).length : Nat), .int .i64 (listE rows)]) ∧ Below w.heap.size w w' := by
  have HL := Lib.hid (list_any F A m c rows w hv hu)
  clear hv hu
  generalize listB rows = bs at *
  generalize listAt rows = p at *
  generalize listE rows = er at *
  go_enter Try.func20, Try.ntmps20
  go_wp2_with fail
  refine HL.out.mono ?_
  rintro e w1 ⟨A1, c1, rfl, _, q1⟩
  go_wp2
  go_ret2
  exact ⟨rfl, q1⟩
end Go.Proofs.Ytfpodalnnchnoaa
