/- The reference's Size and RightTree. Conditions: the nodes read so. -/
import Derived.Test.YtoaggmldekejoaaGreatDoorPkT12
import Derived.BigQuiet
namespace Go.Proofs.YtoaggmldekejoaaGreatDoor
open Go.RowKit
theorem size_bd (c : Py → Bool) (x : List Nd) : ∀ f m : Nat, (sizeF c x f m).1 ≤ m ∧ (sizeF c x f m).2 ≤ m
  | 0, m => ⟨Nat.zero_le _, Nat.zero_le _⟩
  | f + 1, 0 => ⟨Nat.le_refl _, Nat.le_refl _⟩
  | f + 1, m + 1 => by
    have h1 := size_bd c x f m
    have h2 := size_bd c x f (m - (sizeF c x f m).1)
    rw [sizeF]
    split
    · exact ⟨Nat.zero_le _, Nat.zero_le _⟩
    · split
      · split
        · split
          · exact ⟨by show 1 ≤ m + 1; omega, by show 1 ≤ m + 1; omega⟩
          · exact ⟨Nat.zero_le _, Nat.zero_le _⟩
        · split
          · split
            · exact ⟨Nat.zero_le _, Nat.zero_le _⟩
            · split
              · exact ⟨by show _ + 1 ≤ m + 1; omega, by show _ + 1 ≤ m + 1; omega⟩
              · exact ⟨Nat.zero_le _, Nat.zero_le _⟩
          · split
            · split
              · exact ⟨Nat.zero_le _, Nat.zero_le _⟩
              · split
                · exact ⟨Nat.zero_le _, Nat.zero_le _⟩
                · split
                  · exact ⟨by show _ + _ + 1 ≤ m + 1; omega, by show max _ _ + 1 ≤ m + 1; omega⟩
                  · exact ⟨Nat.zero_le _, Nat.zero_le _⟩
            · exact ⟨Nat.zero_le _, Nat.zero_le _⟩
      · exact ⟨Nat.zero_le _, Nat.zero_le _⟩
theorem ret_2 {a b a' b' : Int} (h : a = a') (k : b = b') : Ending.returned (.tuple #[.int .i64 a, .int .i64 b]) = Ending.returned (.tuple #[.int .i64 a', .int .i64 b']) := by rw [h, k]
set_option maxRecDepth 100000 in
set_option maxHeartbeats 8000000 in
theorem rsize_any (F : Nat → Prop) (xs : List Nd) (A : Option Addr) (n c : Nat) (hn : n ≤ 100000) (hS : ∀ x ∈ xs, SmP x.p) : ∀ (f m : Nat) (pl : Int) (w : World), m ≤ f → m ≤ n → pl = (m : Int) - 1 → LN.rd w F A n xs →
    Calls Tryz.prog 13 #[.agg #[.slice A n c], .int .i64 pl] w fun e w' => e = .returned (.tuple #[.int .i64 ((sizeF cntB xs f m).1 : Int), .int .i64 ((sizeF cntB xs f m).2 : Int)]) ∧ Below w.heap.size w w'
  | f, 0, pl, w, _, _, hpl, h => by
    have h0 : sizeF cntB xs f 0 = (0, 0) := by cases f <;> rfl
    rw [h0]
    have hp : pl < 0 := by omega
    have HQ := Lib.hid (bl_al (Below.refl w.heap.size w) (.cells #[.slice A n c] 26))
    clear hpl h
    go_enter Tryz.func13, Tryz.ntmps13
    go_wp2
    go_ret2
    exact ⟨rfl, HQ.out⟩
  | 0, m + 1, pl, w, hf, _, _, _ => absurd hf (by omega)
  | f + 1, m + 1, pl, w, hf, hmn, hpl, h => by
    obtain rfl : pl = (m : Int) := by omega
    have HI1 := Lib.hid (fun w' (hw : LN.rd w' F A n xs) => rsize_any F xs A n c hn hS f m ((m : Int) - 1) w' (by omega) (by omega) rfl hw)
    have hb1 := size_bd cntB xs f m
    have HI2 := Lib.hid (fun w' (hw : LN.rd w' F A n xs) => rsize_any F xs A n c hn hS f (m - (sizeF cntB xs f m).1) ((m : Int) - 1 - ((sizeF cntB xs f m).1 : Int)) w' (by omega) (by omega) (by omega) hw)
    have hb2 := size_bd cntB xs f (m - (sizeF cntB xs f m).1)
    obtain ⟨p, x, hAe, hx, s1⟩ := LN_at h (show m < n by omega)
    obtain rfl : A = some p := hAe
    have HSZ := Lib.hid (show sizeF cntB xs (f + 1) (m + 1) = if cntB x.p then
        if partsI x.p.tag = 0 then (if x.l = -1 ∧ x.r = -1 then (1, 1) else (0, 0))
        else if partsI x.p.tag = 1 then
          (if (sizeF cntB xs f m).1 = 0 then (0, 0)
           else if x.l = (m : Int) - 1 ∧ x.r = -1 then ((sizeF cntB xs f m).1 + 1, (sizeF cntB xs f m).2 + 1) else (0, 0))
        else if partsI x.p.tag = 2 then
          (if (sizeF cntB xs f m).1 = 0 then (0, 0)
           else if (sizeF cntB xs f (m - (sizeF cntB xs f m).1)).1 = 0 then (0, 0)
           else if x.r = (m : Int) - 1 ∧ x.l = (m : Int) - 1 - ((sizeF cntB xs f m).1 : Int) then
             ((sizeF cntB xs f m).1 + (sizeF cntB xs f (m - (sizeF cntB xs f m).1)).1 + 1, max (sizeF cntB xs f m).2 (sizeF cntB xs f (m - (sizeF cntB xs f m).1)).2 + 1) else (0, 0))
        else (0, 0)
      else (0, 0) from by rw [sizeF, hx])
    obtain ⟨R, hR⟩ : ∃ R, R = sizeF cntB xs (f + 1) (m + 1) := ⟨_, rfl⟩
    rw [← hR] at HSZ ⊢
    generalize sizeF cntB xs f (m - (sizeF cntB xs f m).1) = S2 at *
    generalize sizeF cntB xs f m = S1 at *
    obtain ⟨a, b⟩ := S1
    obtain ⟨a2, b2⟩ := S2
    simp only at HI1 HI2 HSZ hb1 hb2
    have HSX := Lib.hid (hS x (List.mem_of_getElem? hx))
    have HCT := Lib.hid (fun W => rcounts_any x.p x.l x.r W HSX.out.1)
    have HPT := Lib.hid (fun W => rparts_any x.p.tag W)
    obtain ⟨kk, hkk⟩ : ∃ kk, kk = partsI x.p.tag := ⟨_, rfl⟩
    obtain ⟨cb, hcb⟩ : ∃ cb, cb = cntB x.p := ⟨_, rfl⟩
    rw [← hkk] at HPT HSZ
    rw [← hcb] at HCT HSZ
    have HKR := Lib.hid (show -1 ≤ kk ∧ kk ≤ 2 from by rw [hkk]; exact parts_le _)
    have HZ0 := Lib.hid (fun (h : R = (0, 0)) => ret_2 (a := 0) (b := 0) (show (0 : Int) = (R.1 : Int) from by rw [h]; rfl) (show (0 : Int) = (R.2 : Int) from by rw [h]; rfl))
    have HQ := Lib.hid (bl_al (Below.refl w.heap.size w) (.cells #[.slice (some p) n c] 26))
    have HQ2 := Lib.hid (bl_al HQ.out (.cells (Nd.cells x) 57))
    have HB1 := Lib.hid ((Blk.new w 26 #[.slice (some p) n c]).alloc (.cells (Nd.cells x) 57))
    have HB2 := Lib.hid (show Blk ((w.alloc (.cells #[.slice (some p) n c] 26)).alloc (.cells (Nd.cells x) 57)) (w.heap.size + 1) 57 (Nd.cells x) from by
      have := Blk.new (w.alloc (.cells #[.slice (some p) n c] 26)) 57 (Nd.cells x)
      rwa [World.size_alloc] at this)
    have HRD := Lib.hid (Lay.rd_below h HQ2.out)
    have e0 := ce s1.c0 HQ.out
    have e1 := ce s1.c1 HQ.out
    have e2 := ce s1.c2 HQ.out
    have e3 := ce s1.c3 HQ.out
    have e4 := ce s1.c4 HQ.out
    have e5 := ce s1.c5 HQ.out
    have e6 := ce s1.c6 HQ.out
    have e7 := ce s1.c7 HQ.out
    have e8 := ce s1.c8 HQ.out
    have hm0 : 0 ≤ (m : Int) := by omega
    have hm1 : (m : Int) < (n : Int) := by omega
    have hm2 : (n : Int) ≤ 100000 := by omega
    clear hR hkk hcb hx s1 h hpl HSX
    go_enter Tryz.func13, Tryz.ntmps13
    go_upto_region 1 with fail
    have c0 := (Blk.new w 26 #[.slice (some p) n c]).cell 0
    simp at c0
    go_upto_region 4 with fail
    clear e0 e1 e2 e3 e4 e5 e6 e7 e8 c0
    generalize (w.alloc (.cells #[.slice (some p) n c] 26)).alloc (.cells #[.int .i64 x.p.tag, .int .i64 x.l, .int .i64 x.r, .int .i64 x.p.k, .int .i64 x.p.n, .int .u64 x.p.u, .string x.p.s, .string x.p.tb, .string x.p.nm] 57) = w1 at *
    have y0 := HB2.out.cell 0
    have y1 := HB2.out.cell 1
    have y2 := HB2.out.cell 2
    have y3 := HB2.out.cell 3
    have y4 := HB2.out.cell 4
    have y5 := HB2.out.cell 5
    have y6 := HB2.out.cell 6
    have y7 := HB2.out.cell 7
    have y8 := HB2.out.cell 8
    simp at y0 y1 y2 y3 y4 y5 y6 y7 y8
    go_wp2_with fail
    refine (HPT.out _).mono ?_
    rintro e w9 ⟨rfl, rfl⟩
    by_cases k0 : kk < 0
    · have HF := Lib.hid (HZ0.out (by rw [HSZ.out, if_neg (show ¬ kk = 0 by omega), if_neg (show ¬ kk = 1 by omega), if_neg (show ¬ kk = 2 by omega)]; exact ite_self _))
      go_wp2
      go_ret2
      exact ⟨HF.out, HQ2.out⟩
    have k0' : 0 ≤ kk := by omega
    clear k0
    go_wp2_with fail
    refine (HCT.out _).mono ?_
    rintro e w2 ⟨rfl, q2⟩
    have HQ3 := Lib.hid (bl_ca HQ2.out q2)
    have HRD2 := Lib.hid (Lay.rd_below HRD.out q2)
    have z1 := (HB2.out.ca q2).cell 1
    have z2 := (HB2.out.ca q2).cell 2
    have z9 := (HB1.out.ca q2).cell 0
    simp at z1 z2 z9
    have HBN := Lib.hid (HB2.out.ca q2)
    have HBT := Lib.hid (HB1.out.ca q2)
    clear q2 y0 y1 y2 y3 y4 y5 y6 y7 y8 HB1 HB2 HRD HPT HCT
    cases cb
    · have HF := Lib.hid (HZ0.out (by rw [HSZ.out]; rfl))
      go_wp2
      go_ret2
      exact ⟨HF.out, HQ3.out⟩
    have HSY := Lib.hid (show R = if kk = 0 then if x.l = -1 ∧ x.r = -1 then (1, 1) else (0, 0)
        else if kk = 1 then (if a = 0 then (0, 0) else if x.l = (m : Int) - 1 ∧ x.r = -1 then (a + 1, b + 1) else (0, 0))
        else if kk = 2 then (if a = 0 then (0, 0) else if a2 = 0 then (0, 0) else if x.r = (m : Int) - 1 ∧ x.l = (m : Int) - 1 - (a : Int) then (a + a2 + 1, max b b2 + 1) else (0, 0)) else (0, 0) from by rw [HSZ.out, if_pos rfl])
    by_cases kz : kk = 0
    · subst kz
      have HSX2 := Lib.hid (show R = if x.l = -1 ∧ x.r = -1 then (1, 1) else (0, 0) from by rw [HSY.out, if_pos rfl])
      clear HSY HSZ
      by_cases hl : x.l = -1
      · by_cases hr : x.r = -1
        · have HF := Lib.hid (ret_2 (a := 1) (b := 1) (show (1 : Int) = (R.1 : Int) from by rw [HSX2.out, if_pos ⟨hl, hr⟩]; rfl) (show (1 : Int) = (R.2 : Int) from by rw [HSX2.out, if_pos ⟨hl, hr⟩]; rfl))
          have g1 : (x.l == -1) = true := by simpa using hl
          have g2 : (x.l != -1) = false := by simpa using hl
          have g3 : decide (x.l = -1) = true := decide_eq_true hl
          have g4 : (x.r == -1) = true := by simpa using hr
          have g5 : (x.r != -1) = false := by simpa using hr
          have g6 : decide (x.r = -1) = true := decide_eq_true hr
          go_wp2
          go_ret2
          exact ⟨HF.out, HQ3.out⟩
        · have HF := Lib.hid (HZ0.out (by rw [HSX2.out, if_neg (fun h => hr h.2)]))
          have g1 : (x.l == -1) = true := by simpa using hl
          have g2 : (x.l != -1) = false := by simpa using hl
          have g3 : decide (x.l = -1) = true := decide_eq_true hl
          have g4 : (x.r == -1) = false := by simpa using hr
          have g5 : (x.r != -1) = true := by simpa using hr
          have g6 : decide (x.r = -1) = false := decide_eq_false hr
          go_wp2
          go_ret2
          exact ⟨HF.out, HQ3.out⟩
      · have HF := Lib.hid (HZ0.out (by rw [HSX2.out, if_neg (fun h => hl h.1)]))
        have g1 : (x.l == -1) = false := by simpa using hl
        have g2 : (x.l != -1) = true := by simpa using hl
        have g3 : decide (x.l = -1) = false := decide_eq_false hl
        go_wp2
        go_ret2
        exact ⟨HF.out, HQ3.out⟩
    have kb : (kk == 0) = false := by simpa using kz
    have HKZ := Lib.hid kz
    clear kz
    go_wp2_with fail
    refine (HI1.out _ HRD2.out).mono ?_
    rintro e w3 ⟨rfl, q3⟩
    have HQ4 := Lib.hid (bl_ca HQ3.out q3)
    have HRD3 := Lib.hid (Lay.rd_below HRD2.out q3)
    have u1 := (HBN.out.ca q3).cell 1
    have u2 := (HBN.out.ca q3).cell 2
    have u9 := (HBT.out.ca q3).cell 0
    simp at u1 u2 u9
    have HBN3 := Lib.hid (HBN.out.ca q3)
    clear q3 z1 z2 z9 HBN HBT HRD2
    have hab : (a : Int) ≤ (m : Int) := by omega
    have hbb : (b : Int) ≤ (m : Int) := by omega
    have ha0 : 0 ≤ (a : Int) := by omega
    have hb0 : 0 ≤ (b : Int) := by omega
    by_cases az : a = 0
    · have HF := Lib.hid (HZ0.out (by rw [HSY.out, if_neg HKZ.out, if_pos az, if_pos az]; split; rfl; split <;> rfl))
      subst az
      go_wp2
      go_ret2
      exact ⟨HF.out, HQ4.out⟩
    have ab : ((a : Int) == 0) = false := by simp; omega
    have HAZ := Lib.hid az
    clear az
    by_cases k1 : kk = 1
    · subst k1
      have HSX2 := Lib.hid (show R = if x.l = (m : Int) - 1 ∧ x.r = -1 then (a + 1, b + 1) else (0, 0) from by rw [HSY.out, if_neg HKZ.out, if_pos rfl, if_neg HAZ.out])
      clear HSY HSZ
      by_cases hl : x.l = (m : Int) - 1
      · have g1 : (x.l == (m : Int) - 1) = true := by simpa using hl
        have g2 : (x.l != (m : Int) - 1) = false := by simpa using hl
        have g3 : decide (x.l = (m : Int) - 1) = true := decide_eq_true hl
        by_cases hr : x.r = -1
        · have HF := Lib.hid (ret_2 (a := (a : Int) + 1) (b := (b : Int) + 1) (show (a : Int) + 1 = (R.1 : Int) from by rw [HSX2.out, if_pos ⟨hl, hr⟩]; rfl) (show (b : Int) + 1 = (R.2 : Int) from by rw [HSX2.out, if_pos ⟨hl, hr⟩]; rfl))
          have g4 : (x.r == -1) = true := by simpa using hr
          have g5 : (x.r != -1) = false := by simpa using hr
          have g6 : decide (x.r = -1) = true := decide_eq_true hr
          clear hl hr
          go_wp2
          go_ret2
          exact ⟨HF.out, HQ4.out⟩
        · have HF := Lib.hid (HZ0.out (by rw [HSX2.out, if_neg (fun h => hr h.2)]))
          have g4 : (x.r == -1) = false := by simpa using hr
          have g5 : (x.r != -1) = true := by simpa using hr
          have g6 : decide (x.r = -1) = false := decide_eq_false hr
          clear hl hr
          go_wp2
          go_ret2
          exact ⟨HF.out, HQ4.out⟩
      · have HF := Lib.hid (HZ0.out (by rw [HSX2.out, if_neg (fun h => hl h.1)]))
        have g1 : (x.l == (m : Int) - 1) = false := by simpa using hl
        have g2 : (x.l != (m : Int) - 1) = true := by simpa using hl
        have g3 : decide (x.l = (m : Int) - 1) = false := decide_eq_false hl
        clear hl
        go_wp2
        go_ret2
        exact ⟨HF.out, HQ4.out⟩
    have kc : (kk == 1) = false := by simpa using k1
    have HK1 := Lib.hid k1
    clear k1
    go_wp2_with fail
    refine (HI2.out _ HRD3.out).mono ?_
    rintro e w4 ⟨rfl, q4⟩
    have HQ5 := Lib.hid (bl_ca HQ4.out q4)
    have v1 := (HBN3.out.ca q4).cell 1
    have v2 := (HBN3.out.ca q4).cell 2
    simp at v1 v2
    clear q4 u1 u2 u9 HBN3 HRD3
    have hk2 : kk = 2 := by have := HKR.out; have := HKZ.out; have := HK1.out; omega
    have HSX2 := Lib.hid (show R = if a2 = 0 then (0, 0) else if x.r = (m : Int) - 1 ∧ x.l = (m : Int) - 1 - (a : Int) then (a + a2 + 1, max b b2 + 1) else (0, 0) from by rw [HSY.out, if_neg HKZ.out, if_neg HK1.out, if_pos hk2, if_neg HAZ.out])
    have ha2 : (a2 : Int) ≤ (m : Int) := by omega
    have hb3 : (b2 : Int) ≤ (m : Int) := by omega
    have ha20 : 0 ≤ (a2 : Int) := by omega
    clear HSY HSZ hk2
    by_cases az2 : a2 = 0
    · have HF := Lib.hid (HZ0.out (by rw [HSX2.out, if_pos az2]))
      subst az2
      go_wp2
      go_ret2
      exact ⟨HF.out, HQ5.out⟩
    have ab2 : ((a2 : Int) == 0) = false := by simp; omega
    have HAZ2 := Lib.hid az2
    clear az2
    by_cases hr : x.r = (m : Int) - 1
    · have g1 : (x.r == (m : Int) - 1) = true := by simpa using hr
      have g2 : (x.r != (m : Int) - 1) = false := by simpa using hr
      have g3 : decide (x.r = (m : Int) - 1) = true := decide_eq_true hr
      by_cases hl : x.l = (m : Int) - 1 - (a : Int)
      · have HF := Lib.hid (ret_2 (a := (a : Int) + (a2 : Int) + 1) (b := max (b : Int) (b2 : Int) + 1) (show (a : Int) + (a2 : Int) + 1 = (R.1 : Int) from by rw [HSX2.out, if_neg HAZ2.out, if_pos ⟨hr, hl⟩]; rfl) (show max (b : Int) (b2 : Int) + 1 = (R.2 : Int) from by rw [HSX2.out, if_neg HAZ2.out, if_pos ⟨hr, hl⟩]; show _ = ((max b b2 + 1 : Nat) : Int); omega))
        have g4 : (x.l == (m : Int) - 1 - (a : Int)) = true := by simpa using hl
        have g5 : (x.l != (m : Int) - 1 - (a : Int)) = false := by simpa using hl
        have g6 : decide (x.l = (m : Int) - 1 - (a : Int)) = true := decide_eq_true hl
        obtain ⟨mx, hmx⟩ : ∃ mx : Nat, (mx : Int) = max (b : Int) (b2 : Int) := ⟨max b b2, by omega⟩
        have hm9 : max (b : Int) (b2 : Int) = (mx : Int) := hmx.symm
        have hm8 : (mx : Int) ≤ (m : Int) := by omega
        rw [hm9] at HF
        clear hl hr hmx
        go_wp2
        go_ret2
        exact ⟨HF.out, HQ5.out⟩
      · have HF := Lib.hid (HZ0.out (by rw [HSX2.out, if_neg HAZ2.out, if_neg (fun h => hl h.2)]))
        have g4 : (x.l == (m : Int) - 1 - (a : Int)) = false := by simpa using hl
        have g5 : (x.l != (m : Int) - 1 - (a : Int)) = true := by simpa using hl
        have g6 : decide (x.l = (m : Int) - 1 - (a : Int)) = false := decide_eq_false hl
        clear hl hr
        go_wp2
        go_ret2
        exact ⟨HF.out, HQ5.out⟩
    · have HF := Lib.hid (HZ0.out (by rw [HSX2.out, if_neg HAZ2.out, if_neg (fun h => hr h.1)]))
      have g1 : (x.r == (m : Int) - 1) = false := by simpa using hr
      have g2 : (x.r != (m : Int) - 1) = true := by simpa using hr
      have g3 : decide (x.r = (m : Int) - 1) = false := decide_eq_false hr
      clear hr
      go_wp2
      go_ret2
      exact ⟨HF.out, HQ5.out⟩
end Go.Proofs.YtoaggmldekejoaaGreatDoor
/- The reference's RightTree and SameTree. Conditions: the nodes read so. -/
namespace Go.Proofs.YtoaggmldekejoaaGreatDoor
open Go.RowKit
set_option maxRecDepth 100000 in
set_option maxHeartbeats 4000000 in
theorem rright_any (F : Nat → Prop) (xs : List Nd) (A : Option Addr) (n c : Nat) (w : World) (h : LN.rd w F A n xs) (hn : n ≤ 100000) (hS : ∀ x ∈ xs, SmP x.p) :
    Calls Tryz.prog 8 #[.agg #[.slice A n c]] w fun e w' => e = .returned (.bool (okF xs)) ∧ Below w.heap.size w w' := by
  have hl := Lay.rd_len h
  have HR := Lib.hid (show okF xs = (decide (1 ≤ n) && (decide (n ≤ 300) && (decide ((sizeF cntB xs n n).1 = n) && decide ((sizeF cntB xs n n).2 ≤ 20)))) from by rw [ok_right]; unfold rightT; rw [hl])
  have HQ := Lib.hid (bl_al (Below.refl w.heap.size w) (.cells #[.slice A n c] 26))
  have HB := Lib.hid (Blk.new w 26 #[.slice A n c])
  have HSZ := Lib.hid (fun (h1 : 1 ≤ n) => rsize_any F xs A n c hn hS n n ((n : Int) - 1) _ (Nat.le_refl _) (Nat.le_refl _) rfl (Lay.rd_below h HQ.out))
  have hbd := size_bd cntB xs n n
  generalize okF xs = r at *
  generalize sizeF cntB xs n n = S1 at *
  obtain ⟨a, b⟩ := S1
  simp only at HR HSZ hbd
  clear h hS hl
  go_enter Tryz.func8, Tryz.ntmps8
  go_upto_region 1 with fail
  generalize w.alloc (.cells #[.slice A n c] 26) = w1 at *
  have x0 := HB.out.cell 0
  simp at x0
  by_cases h1 : n < 1
  · have HF := Lib.hid (show r = false from by rw [HR.out, decide_eq_false (by omega)]; rfl)
    have g1 : (n : Int) < 1 := by omega
    clear h1
    go_wp2
    go_ret
    exact ⟨ret_bool HF.out.symm, HQ.out⟩
  have g1 : 1 ≤ (n : Int) := by omega
  by_cases h3 : 300 < n
  · have HF := Lib.hid (show r = false from by rw [HR.out, decide_eq_false (show ¬ n ≤ 300 by omega), Bool.false_and, Bool.and_false])
    have g2 : 300 < (n : Int) := by omega
    clear h1 h3
    go_wp2
    go_ret
    exact ⟨ret_bool HF.out.symm, HQ.out⟩
  have g2 : (n : Int) ≤ 300 := by omega
  have HR2 := Lib.hid (show r = (decide (a = n) && decide (b ≤ 20)) from by rw [HR.out, decide_eq_true (show 1 ≤ n by omega), decide_eq_true (show n ≤ 300 by omega)]; rfl)
  have HSC := Lib.hid (HSZ.out (by omega))
  clear h1 h3 HR HSZ
  go_wp2_with fail
  refine HSC.out.mono ?_
  rintro e w2 ⟨rfl, q2⟩
  have HQ2 := Lib.hid (bl_ca HQ.out q2)
  have y0 := (HB.out.ca q2).cell 0
  simp at y0
  clear q2 x0 HSC
  by_cases h4 : a = n
  · have HR3 := Lib.hid (show r = decide (b ≤ 20) from by rw [HR2.out, decide_eq_true h4]; rfl)
    subst h4
    by_cases h5 : b ≤ 20
    · have HF := Lib.hid (show r = true from by rw [HR3.out, decide_eq_true h5])
      have g3 : (b : Int) ≤ 20 := by omega
      clear h5
      go_wp2
      go_ret
      exact ⟨ret_bool HF.out.symm, HQ2.out⟩
    · have HF := Lib.hid (show r = false from by rw [HR3.out, decide_eq_false h5])
      have g3 : decide ((b : Int) ≤ 20) = false := decide_eq_false (by omega)
      clear h5
      go_wp2
      go_ret
      exact ⟨ret_bool HF.out.symm, HQ2.out⟩
  · have HF := Lib.hid (show r = false from by rw [HR2.out, decide_eq_false h4]; rfl)
    have e1 : ((a : Int) == (n : Int)) = false := by simp; omega
    have e2 : decide ((a : Int) = (n : Int)) = false := decide_eq_false (by omega)
    have e3 : (a == n) = false := by simpa using h4
    have e4 : decide (a = n) = false := decide_eq_false h4
    clear h4
    go_wp2
    go_ret
    exact ⟨ret_bool HF.out.symm, HQ2.out⟩
set_option maxRecDepth 100000 in
set_option maxHeartbeats 4000000 in
theorem rsame_any (F G : Nat → Prop) (xs ys : List Nd) (A : Option Addr) (m c : Nat) (B : Option Addr) (n d : Nat) (w : World) (h : LN.rd w F A m xs) (k : LN.rd w G B n ys) (hm : m ≤ 9223372036854775807) :
    Calls Tryz.prog 11 #[.agg #[.slice A m c], .agg #[.slice B n d]] w fun e w' => e = .returned (.bool (decide (xs = ys))) ∧ Below w.heap.size w w' := by
  have HL := Lib.hid (And.intro (Lay.rd_len h) (Lay.rd_len k))
  have HR := Lib.hid (show decide (xs = ys) = true ↔ xs = ys from decide_eq_true_iff)
  generalize decide (xs = ys) = r at *
  have HNO := Lib.hid (show ¬ xs = ys → r = false from fun h => by cases r; rfl; exact absurd (HR.out.1 rfl) h)
  have HQ := Lib.hid (bl_al (bl_al (Below.refl w.heap.size w) (.cells #[.slice A m c] 26)) (.cells #[.slice B n d] 26))
  have HB2 := Lib.hid ((Blk.new w 26 #[.slice A m c]).alloc (.cells #[.slice B n d] 26))
  have HB3 := Lib.hid (show Blk ((w.alloc (.cells #[.slice A m c] 26)).alloc (.cells #[.slice B n d] 26)) (w.heap.size + 1) 26 #[.slice B n d] from by
    have := Blk.new (w.alloc (.cells #[.slice A m c] 26)) 26 #[.slice B n d]
    rwa [World.size_alloc] at this)
  have HRX := Lib.hid (Lay.rd_below h HQ.out)
  have HRY := Lib.hid (Lay.rd_below k HQ.out)
  clear h k
  go_enter Tryz.func11, Tryz.ntmps11
  go_upto_region 1 with fail
  generalize (w.alloc (.cells #[.slice A m c] 26)).alloc (.cells #[.slice B n d] 26) = w1 at *
  have x2 := HB2.out.cell 0
  have x3 := HB3.out.cell 0
  simp at x2 x3
  by_cases c4 : m = n
  case neg =>
    have e2 : ((m : Int) == (n : Int)) = false := by simp; omega
    have e3 : (m == n) = false := by simpa using c4
    have HQQ := Lib.hid (HNO.out (fun h => c4 (by rw [← HL.out.1, ← HL.out.2, h])))
    clear c4
    go_wp2
    go_ret
    exact ⟨ret_bool HQQ.out.symm, HQ.out⟩
  subst c4
  go_wp2_with fail
  go_loopg [16] m (fun g a wr => ∃ i : Nat, i + g = m ∧ a = .int .i64 i ∧ (∀ (k : Nat) (x y : Nd), k < i → xs[k]? = some x → ys[k]? = some y → x = y) ∧ Below w1.heap.size w1 wr)
  case atStart => exact ⟨0, by omega, rfl, fun k x y hk => by omega, Below.refl _ _⟩
  case round =>
    obtain ⟨i, hig, rfl, heq, b1⟩ := hrel
    have HEQ := Lib.hid heq
    have HB1 := Lib.hid b1
    have h5 := Lay.rd_below HRX.out b1
    have h6 := Lay.rd_below HRY.out b1
    have z2 := ce x2 b1
    have z3 := ce x3 b1
    clear heq b1
    by_cases hlt : i < m
    · have hi1 : (i : Int) < (m : Int) := by omega
      obtain ⟨p, x, hAe, hx, s1⟩ := LN_at h5 hlt
      obtain ⟨p2, y, hAe2, hy, s2⟩ := LN_at h6 hlt
      obtain rfl : A = some p := hAe
      obtain rfl : B = some p2 := hAe2
      have e0 := s1.c0
      have e1 := s1.c1
      have e2 := s1.c2
      have e3 := s1.c3
      have e4 := s1.c4
      have e5 := s1.c5
      have e6 := s1.c6
      have e7 := s1.c7
      have e8 := s1.c8
      have f0 := s2.c0
      have f1 := s2.c1
      have f2 := s2.c2
      have f3 := s2.c3
      have f4 := s2.c4
      have f5 := s2.c5
      have f6 := s2.c6
      have f7 := s2.c7
      have f8 := s2.c8
      have HX := Lib.hid hx
      have HY := Lib.hid hy
      clear hx hy s1 s2
      go_wp2_with fail
      by_cases hq : x = y
      · have HQE : ∀ W, (Op.equalIn 10000 57 (.agg #[.int .i64 x.p.tag, .int .i64 x.l, .int .i64 x.r, .int .i64 x.p.k, .int .i64 x.p.n, .int .u64 x.p.u, .string x.p.s, .string x.p.tb, .string x.p.nm]) (.agg #[.int .i64 y.p.tag, .int .i64 y.l, .int .i64 y.r, .int .i64 y.p.k, .int .i64 y.p.n, .int .u64 y.p.u, .string y.p.s, .string y.p.tb, .string y.p.nm])).run Tryz.prog W = .ok true W := fun W => by rw [run_eqND, decide_eq_true hq]
        have HN := Lib.hid (show ∀ (k : Nat) (x y : Nd), k < i + 1 → xs[k]? = some x → ys[k]? = some y → x = y from fun k x' y' hk h8 h9 => by
          rcases Nat.lt_or_ge k i with h7 | h7
          · exact HEQ.out k x' y' h7 h8 h9
          · obtain rfl : k = i := by omega
            rw [← at_eq HX.out h8, ← at_eq HY.out h9]
            exact hq)
        clear hq
        go_quiet (fail)
        go_wp2
        go_roundg (gk - 1)
        · exact ⟨i + 1, by omega, by go_num, HN.out, bl_dr HB1.out _⟩
        · omega
      · have HQE : ∀ W, (Op.equalIn 10000 57 (.agg #[.int .i64 x.p.tag, .int .i64 x.l, .int .i64 x.r, .int .i64 x.p.k, .int .i64 x.p.n, .int .u64 x.p.u, .string x.p.s, .string x.p.tb, .string x.p.nm]) (.agg #[.int .i64 y.p.tag, .int .i64 y.l, .int .i64 y.r, .int .i64 y.p.k, .int .i64 y.p.n, .int .u64 y.p.u, .string y.p.s, .string y.p.tb, .string y.p.nm])).run Tryz.prog W = .ok false W := fun W => by rw [run_eqND, decide_eq_false hq]
        have HQQ := Lib.hid (HNO.out (fun h => hq (by have h8 := HX.out; rw [h] at h8; exact at_eq h8 HY.out)))
        clear hq
        go_quiet (fail)
        go_wp2
        go_ret
        exact ⟨ret_bool HQQ.out.symm, bl_ca HQ.out (bl_dr HB1.out _)⟩
    · obtain rfl : i = m := by omega
      have hi1 : (i : Int) ≤ (i : Int) := by omega
      have HQQ := Lib.hid (HR.out.2 (list_ext_lt HL.out.1 HL.out.2 HEQ.out))
      go_wp2
      go_ret
      exact ⟨ret_bool HQQ.out.symm, bl_ca HQ.out HB1.out⟩
end Go.Proofs.YtoaggmldekejoaaGreatDoor
/- The reference's writing: digits, values, names, signs. Conditions: none. -/
namespace Go.Proofs.YtoaggmldekejoaaGreatDoor
open Go.RowKit
def DigI (N i m : Nat) (l : List UInt8) : Prop := (i = 0 → m = N ∧ l = []) ∧ (0 < i → Lib.decDigits N = (if m = 0 then [] else Lib.decDigits m) ++ l)
theorem dig_step {N i m : Nat} {l : List UInt8} (h : DigI N i m l) (hc : i = 0 ∨ 0 < m) : DigI N (i + 1) (m / 10) (UInt8.ofNat (48 + m % 10) :: l) := by
  refine ⟨fun h => by omega, fun _ => ?_⟩
  have e : Lib.decDigits m = (if m / 10 = 0 then [] else Lib.decDigits (m / 10)) ++ [UInt8.ofNat (48 + m % 10)] := by
    rw [Lib.decDigits]
    by_cases h1 : m < 10
    · rw [dif_pos h1, if_pos (by omega), Nat.mod_eq_of_lt h1]; rfl
    · rw [dif_neg h1, if_neg (by omega)]
  rcases Nat.eq_zero_or_pos i with h0 | h0
  · obtain ⟨rfl, rfl⟩ := h.1 h0
    exact e
  · rw [h.2 h0]
    rw [if_neg (by omega), e, List.append_assoc]; rfl
theorem run_conv_dig (z : Int) (b : UInt8) (h0 : 48 ≤ z) (h1 : z ≤ 57) (hb : b = UInt8.ofNat z.toNat) (w : World) : (convert 21 9 (.int .i32 z)).run Tryz.prog w = .ok (.string ⟨#[b]⟩) w := by
  have e : Utf8.encode z = ⟨#[b]⟩ := by
    subst hb
    obtain ⟨k, rfl⟩ : ∃ k : Nat, z = (k : Int) := ⟨z.toNat, by omega⟩
    have : k = 48 ∨ k = 49 ∨ k = 50 ∨ k = 51 ∨ k = 52 ∨ k = 53 ∨ k = 54 ∨ k = 55 ∨ k = 56 ∨ k = 57 := by omega
    rcases this with rfl | rfl | rfl | rfl | rfl | rfl | rfl | rfl | rfl | rfl <;> rfl
  simp [convert, run_underlying Tryz.underlying21, run_underlying Tryz.underlying9, Conv.intToString, e]
set_option maxRecDepth 100000 in
set_option maxHeartbeats 8000000 in
theorem digits_any (N : Nat) (w : World) (hN : N ≤ 9223372036854775807) : Calls Tryz.prog 60 #[.int .i64 (N : Int)] w fun e w' => e = .returned (.string (bS (Lib.decDigits N))) ∧ Below w.heap.size w w' := by
  have HN := Lib.hid hN
  obtain ⟨z0, hz0⟩ : ∃ z0, z0 = (N : Int) := ⟨_, rfl⟩
  rw [← hz0]
  have HZ0 := Lib.hid hz0
  have hp0 : 0 ≤ z0 := by omega
  have hp1 : z0 ≤ 9223372036854775807 := by omega
  have hp2 : (z0 == -9223372036854775808) = false := by simp; omega
  clear hz0 hN
  go_enter Tryz.func60, Tryz.ntmps60
  go_wp2_with fail
  clear hp2
  go_loopg [0, 3] 19 (fun g a b wr => ∃ (i m : Nat) (S : ByteArray) (z : Int), i + g = 19 ∧ a = .int .i64 z ∧ b = .string S ∧ Hid (z = (m : Int) ∧ S.size ≤ i ∧ i ≤ 18 ∧ m < 10 ^ (19 - i) ∧ m ≤ 9223372036854775807 ∧ DigI N i m S.data.toList ∧ (i = 0 ∨ 0 < m)) ∧ Below w.heap.size w wr)
  case atStart => exact ⟨0, N, ⟨#[]⟩, z0, by omega, rfl, rfl, Lib.hid ⟨HZ0.out, Nat.le_refl _, by omega, Nat.lt_of_le_of_lt HN.out (by decide), HN.out, ⟨fun _ => ⟨rfl, rfl⟩, fun h => absurd h (by omega)⟩, .inl rfl⟩, Below.refl _ _⟩
  case round =>
    obtain ⟨i, m, S, z, hig, rfl, rfl, HI, hb⟩ := hrel
    have HB := Lib.hid hb
    clear hb
    have hz0 : 0 ≤ z := by rw [HI.out.1]; omega
    have hz1 : z ≤ 9223372036854775807 := by have := HI.out.2.2.2.2.1; rw [HI.out.1]; omega
    have hm0 : 0 ≤ z % 10 := by omega
    have hm1 : z % 10 ≤ 9 := by omega
    have hcv := run_conv_dig (48 + z % 10) (UInt8.ofNat (48 + m % 10)) (by omega) (by omega) (by rw [HI.out.1]; congr 1) wr
    have hS1 : S.size ≤ 100 := by have := HI.out.2.1; have := HI.out.2.2.1; omega
    have HS := Lib.hid (show (⟨#[UInt8.ofNat (48 + m % 10)]⟩ ++ S : ByteArray).data.toList = UInt8.ofNat (48 + m % 10) :: S.data.toList from by rw [ByteArray.data_append]; simp)
    have HS2 := Lib.hid (show (⟨#[UInt8.ofNat (48 + m % 10)]⟩ ++ S : ByteArray).size ≤ i + 1 from by rw [← len_data, HS.out, List.length_cons, len_data]; have := HI.out.2.1; omega)
    have hb1 : (⟨#[UInt8.ofNat (48 + m % 10)]⟩ : ByteArray).size ≤ 1 := by rw [← len_data]; exact Nat.le_refl _
    have HDI := Lib.hid (dig_step HI.out.2.2.2.2.2.1 HI.out.2.2.2.2.2.2)
    have HP := Lib.hid (show m / 10 < 10 ^ (19 - (i + 1)) from by
      have h3 := HI.out.2.2.2.1
      have h4 := HI.out.2.2.1
      rw [show 19 - i = (19 - (i + 1)) + 1 from by omega, Nat.pow_succ] at h3
      omega)
    generalize UInt8.ofNat (48 + m % 10) = b at *
    obtain ⟨zq, hzq⟩ : ∃ q, q = z / 10 := ⟨_, rfl⟩
    have HE := Lib.hid (show zq = ((m / 10 : Nat) : Int) from by rw [hzq, HI.out.1]; omega)
    have HM := HI.out.2.2.2.2.1
    by_cases h0 : zq = 0
    · have HF := Lib.hid (show ((⟨#[b]⟩ : ByteArray) ++ S) = bS (Lib.decDigits N) from bS_of (by
        have := HDI.out.2 (by omega)
        rw [if_pos (by have := HE.out; omega)] at this
        rw [HS.out, this]; rfl))
      have h0a : z / 10 = 0 := by omega
      clear hzq h0
      go_wp2
      go_ret
      exact ⟨by rw [HF.out]; rfl, HB.out⟩
    · have h0a : ¬ z / 10 = 0 := by omega
      have h0b : (z / 10 == 0) = false := by simp; omega
      have HPQ := Lib.hid (show 0 < m / 10 from by have := HE.out; omega)
      have HI18 := Lib.hid (show i + 1 ≤ 18 from by
        rcases Nat.lt_or_ge i 18 with h1 | h1
        · omega
        · have h2 := HP.out
          rw [show 19 - (i + 1) = 0 from by have := HI.out.2.2.1; omega] at h2
          have := HPQ.out
          simp at h2
          omega)
      have HZQ := Lib.hid hzq
      clear h0 hzq
      go_wp2
      go_roundg (gk - 1)
      · exact ⟨i + 1, m / 10, _, zq, by have := HI18.out; omega, by rw [HZQ.out], rfl, Lib.hid ⟨HE.out, HS2.out, HI18.out, HP.out, by omega, by rw [HS.out]; exact HDI.out, .inr HPQ.out⟩, HB.out⟩
      · have := HI18.out; omega
theorem quo_snoc (l : List UInt8) (b : UInt8) : quoU (l ++ [b]) = quoU l ++ (if b = 39 then [39, 39] else [b]) := by unfold quoU; rw [List.flatMap_append]; simp
theorem OwnB.one_ (W : World) (x : UInt8) (v : Value) (hv : v = vb x) : OwnB (W.alloc (.cells #[v] 5)) W.heap.size (some ⟨W.heap.size, 0, none⟩) 1 1 [x] := by
  subst hv
  exact ⟨by simp, .inr ⟨W.heap.size, 1, #[vb x], rfl, Nat.le_refl _, heap_alloc_new W _, Nat.le_refl _, by unfold maxLen; omega, by simp, by simp⟩⟩
set_option maxRecDepth 100000 in
set_option maxHeartbeats 8000000 in
theorem rprint_any (k n u : Int) (s : ByteArray) (w : World) (hn : k = 2 → 0 ≤ n ∧ n ≤ 9223372036854775807) (hs : s.size ≤ 100000) : Calls Tryz.prog 71 #[.agg #[.int .i64 k, .int .i64 n, .int .u64 u, .string s]] w fun e w' => e = .returned (.string (bS (litU k n s.data.toList))) ∧ Below w.heap.size w w' := by
  have HQ := Lib.hid (bl_al (Below.refl w.heap.size w) (.cells #[.int .i64 k, .int .i64 n, .int .u64 u, .string s] 55))
  have HBV := Lib.hid (Blk.new w 55 #[.int .i64 k, .int .i64 n, .int .u64 u, .string s])
  have HR := Lib.hid (show litU k n s.data.toList = if k = 0 then [78, 85, 76, 76] else if k = 1 then (if n = 1 then [84, 82, 85, 69] else [70, 65, 76, 83, 69]) else if k = 2 then Lib.decDigits n.toNat else 39 :: (quoU s.data.toList ++ [39]) from rfl)
  generalize litU k n s.data.toList = r at *
  by_cases h0 : k = 0
  · subst h0
    have HF := Lib.hid (show r = [78, 85, 76, 76] from by rw [HR.out]; rfl)
    clear HR hn
    go_enter Tryz.func71, Tryz.ntmps71
    go_wp2
    go_ret
    exact ⟨by rw [HF.out]; rfl, HQ.out⟩
  have k0 : (k == 0) = false := by simpa using h0
  by_cases h1 : k = 1
  · subst h1
    have HR2 := Lib.hid (show r = if n = 1 then [84, 82, 85, 69] else [70, 65, 76, 83, 69] from by rw [HR.out]; rfl)
    clear HR hn h0
    by_cases hn1 : n = 1
    · subst hn1
      have HF := Lib.hid (show r = [84, 82, 85, 69] from by rw [HR2.out]; rfl)
      clear HR2
      go_enter Tryz.func71, Tryz.ntmps71
      go_wp2
      go_ret
      exact ⟨by rw [HF.out]; rfl, HQ.out⟩
    · have n1 : (n == 1) = false := by simpa using hn1
      have HF := Lib.hid (show r = [70, 65, 76, 83, 69] from by rw [HR2.out, if_neg hn1])
      clear HR2
      go_enter Tryz.func71, Tryz.ntmps71
      go_wp2
      go_ret
      exact ⟨by rw [HF.out]; rfl, HQ.out⟩
  have k1 : (k == 1) = false := by simpa using h1
  by_cases h2 : k = 2
  · subst h2
    obtain ⟨hn0, hn1⟩ := hn rfl
    obtain ⟨N, rfl⟩ : ∃ N : Nat, n = (N : Int) := ⟨n.toNat, by omega⟩
    have HF := Lib.hid (show r = Lib.decDigits N from by rw [HR.out]; rfl)
    have H := Lib.hid (fun w => digits_any N w (by omega))
    clear HR h0 h1 hn
    go_enter Tryz.func71, Tryz.ntmps71
    go_wp2_with fail
    refine (H.out _).mono ?_
    rintro e w2 ⟨rfl, q2⟩
    go_wp2
    go_ret
    exact ⟨by rw [HF.out]; rfl, bl_ca HQ.out q2⟩
  have k2 : (k == 2) = false := by simpa using h2
  have HF := Lib.hid (show r = 39 :: (quoU s.data.toList ++ [39]) from by rw [HR.out, if_neg h0, if_neg h1, if_neg h2])
  clear HR h0 h1 h2 hn
  have HL := Lib.hid (len_data s)
  go_enter Tryz.func71, Tryz.ntmps71
  have HS1 := Lib.hid (show (w.alloc (.cells #[.int .i64 k, .int .i64 n, .int .u64 u, .string s] 55)).heap.size = w.heap.size + 1 from World.size_alloc _ _)
  go_upto_region 11 with fail
  generalize w.alloc (.cells #[.int .i64 k, .int .i64 n, .int .u64 u, .string s] 55) = w1 at *
  have HOW := Lib.hid (OwnB.one_ w1 39 (.int .u8 39) rfl)
  have HQ1 := Lib.hid (bl_al (Below.refl w1.heap.size w1) (.cells #[.int .u8 39] 5))
  have x3 := (HBV.out.ca HQ1.out).cell 3
  simp at x3
  go_wp2_with fail
  go_loopg [3, 23] s.size (fun g a b wr => ∃ (i m c : Nat) (A : Option Addr) (l : List UInt8), i + g = s.size ∧ a = .slice A m c ∧ b = .int .i64 i ∧ OwnB wr w1.heap.size A m c l ∧ Hid (m ≤ 2 * i + 1 ∧ l = 39 :: quoU (s.data.toList.take i)) ∧ Below w1.heap.size w1 wr)
  case atStart => exact ⟨0, 1, 1, _, [39], by omega, rfl, rfl, by rw [← HS1.out]; exact HOW.out, Lib.hid ⟨Nat.le_refl _, rfl⟩, HQ1.out⟩
  case round =>
    obtain ⟨i, m, c, A, l, hig, rfl, rfl, ho, HI, bb⟩ := hrel
    have HO := Lib.hid ho
    have HBB := Lib.hid bb
    clear ho bb x3
    by_cases hlt : i < s.size
    · have hi1 : (i : Int) < (s.size : Int) := by omega
      obtain ⟨b, hb⟩ := byte_at hlt
      have hix := run_bt hb
      have HTK := Lib.hid (show quoU (s.data.toList.take (i + 1)) = quoU (s.data.toList.take i) ++ (if b = 39 then [39, 39] else [b]) from by rw [show s.data.toList.take (i + 1) = s.data.toList.take i ++ [b] from by rw [List.take_add_one, hb]; rfl, quo_snoc])
      clear hb
      have HBC := Lib.hid (show ((b.toNat : Int) = 39 → b = 39) ∧ (¬ (b.toNat : Int) = 39 → b ≠ 39) from ⟨fun h => UInt8.toNat_inj.1 (by show b.toNat = 39; omega), fun h e => h (by rw [e]; rfl)⟩)
      obtain ⟨d, hd⟩ : ∃ d, d = (b.toNat : Int) := ⟨_, rfl⟩
      have HV := Lib.hid (show Value.int .u8 d = vb b from by rw [hd]; rfl)
      rw [← hd] at hix HBC
      clear hd
      have hms : m ≤ 200001 := by have := HI.out.1; omega
      have hsz := HBB.out.size
      have y3 := (HBV.out.ca HBB.out).cell 3
      simp at y3
      go_upto_region 15 with (at_builtin; refine wpList_appB rfl (.tmp 26) (.tmp 31) rfl w1.heap.size A m c _ (some ⟨wr.heap.size, 0, none⟩) 1 1 [b] rfl rfl (HO.out.alloc _) (RdB.one wr b _ HV.out _) (by omega) (by simp only [World.size_alloc]; omega) ?_; intro A1 c1 w2 ho2 hb2)
      have HO2 := Lib.hid ho2
      have HB2 := Lib.hid (HBB.out.trans (((Below.refl _ _).alloc hsz _).trans hb2))
      have hsz2 := HB2.out.size
      have z3 := (HBV.out.ca HB2.out).cell 3
      simp at z3
      clear ho2 hb2 y3
      by_cases h39 : d = 39
      · have e1 : (d == 39) = true := by simpa using h39
        have HE := Lib.hid (HBC.out.1 h39)
        clear h39 HBC
        go_wp2_with (at_builtin; refine wpList_appB rfl (.tmp 38) (.tmp 39) rfl w1.heap.size A1 (m + 1) c1 _ (some ⟨w2.heap.size, 0, none⟩) 1 1 [39] rfl rfl (HO2.out.alloc _) (RdB.one w2 39 _ rfl _) (by omega) (by simp only [World.size_alloc]; omega) ?_; intro A2 c2 w3 ho3 hb3)
        go_roundg (gk - 1)
        · exact ⟨i + 1, m + 1 + 1, c2, A2, _, by omega, rfl, by go_num, ho3, Lib.hid ⟨by have := HI.out.1; omega, by rw [HTK.out, if_pos HE.out, HE.out, HI.out.2]; simp⟩, HB2.out.trans (((Below.refl _ _).alloc hsz2 _).trans hb3)⟩
        · omega
      · have e1 : (d == 39) = false := by simpa using h39
        have HE := Lib.hid (HBC.out.2 h39)
        clear h39 HBC
        go_wp2
        go_roundg (gk - 1)
        · exact ⟨i + 1, m + 1, c1, A1, _, by omega, rfl, by go_num, HO2.out, Lib.hid ⟨by have := HI.out.1; omega, by rw [HTK.out, if_neg HE.out, HI.out.2]; rfl⟩, HB2.out⟩
        · omega
    · obtain rfl : i = s.size := by omega
      have hi1 : (s.size : Int) ≤ (s.size : Int) := by omega
      have hms : m ≤ 200001 := by have := HI.out.1; omega
      have hsz := HBB.out.size
      have HFF := Lib.hid (show l ++ [39] = r from by rw [HI.out.2, HF.out, List.take_of_length_le (by rw [HL.out]; exact Nat.le_refl _)]; rfl)
      go_wp2_with (at_builtin; refine wpList_appB rfl (.tmp 42) (.tmp 43) rfl w1.heap.size A m c _ (some ⟨wr.heap.size, 0, none⟩) 1 1 [39] rfl rfl (HO.out.alloc _) (RdB.one wr 39 _ rfl _) (by omega) (by simp only [World.size_alloc]; omega) ?_; intro A1 c1 w2 ho2 hb2; have hcv := ho2.rd.str c1)
      go_ret
      exact ⟨by rw [← HFF.out]; rfl, bl_ca HQ.out (HBB.out.trans (((Below.refl _ _).alloc hsz _).trans hb2))⟩
end Go.Proofs.YtoaggmldekejoaaGreatDoor
