/- The reference's Size and RightTree. Conditions: the nodes read so. -/
import Derived.Test.YtoaggmldekejoaaDoorPkM12
import Derived.BigQuiet
import Derived.BigRegion
namespace Go.Proofs.YtoaggmldekejoaaDoor
open Go.RowKit
theorem size_bd (c : Py → Bool) (x : List Nd) : ∀ f m : Nat, (sizeF c x f m).1 ≤ m ∧ (sizeF c x f m).2 ≤ m
  | 0, m => ⟨Nat.zero_le _, Nat.zero_le _⟩
  | f + 1, 0 => ⟨Nat.le_refl _, Nat.le_refl _⟩
  | f + 1, m + 1 => by
    have h1 := size_bd c x f m
    have h2 := size_bd c x f (m - (sizeF c x f m).1)
    rw [sizeF]
    split
    · exact ⟨Nat.zero_le _, Nat.zero_le _⟩
    · split
      · split
        · split
          · exact ⟨by show 1 ≤ m + 1; omega, by show 1 ≤ m + 1; omega⟩
          · exact ⟨Nat.zero_le _, Nat.zero_le _⟩
        · split
          · split
            · exact ⟨Nat.zero_le _, Nat.zero_le _⟩
            · split
              · exact ⟨by show _ + 1 ≤ m + 1; omega, by show _ + 1 ≤ m + 1; omega⟩
              · exact ⟨Nat.zero_le _, Nat.zero_le _⟩
          · split
            · split
              · exact ⟨Nat.zero_le _, Nat.zero_le _⟩
              · split
                · exact ⟨Nat.zero_le _, Nat.zero_le _⟩
                · split
                  · exact ⟨by show _ + _ + 1 ≤ m + 1; omega, by show max _ _ + 1 ≤ m + 1; omega⟩
                  · exact ⟨Nat.zero_le _, Nat.zero_le _⟩
            · exact ⟨Nat.zero_le _, Nat.zero_le _⟩
      · exact ⟨Nat.zero_le _, Nat.zero_le _⟩
theorem ret_2 {a b a' b' : Int} (h : a = a') (k : b = b') : Ending.returned (.tuple #[.int .i64 a, .int .i64 b]) = Ending.returned (.tuple #[.int .i64 a', .int .i64 b']) := by rw [h, k]
set_option maxRecDepth 100000 in
set_option maxHeartbeats 8000000 in
theorem rsize_any (F : Nat → Prop) (xs : List Nd) (A : Option Addr) (n c : Nat) (hn : n ≤ 100000) (hS : ∀ x ∈ xs, SmP x.p) : ∀ (f m : Nat) (pl : Int) (w : World), m ≤ f → m ≤ n → pl = (m : Int) - 1 → LN.rd w F A n xs →
    Calls Tryd.prog 24 #[.agg #[.slice A n c], .int .i64 pl] w fun e w' => e = .returned (.tuple #[.int .i64 ((sizeF cntB xs f m).1 : Int), .int .i64 ((sizeF cntB xs f m).2 : Int)]) ∧ Below w.heap.size w w'
  | f, 0, pl, w, _, _, hpl, h => by
    have h0 : sizeF cntB xs f 0 = (0, 0) := by cases f <;> rfl
    rw [h0]
    have hp : pl < 0 := by omega
    have HQ := Lib.hid (bl_al (Below.refl w.heap.size w) (.cells #[.slice A n c] 30))
    clear hpl h
    go_enter Tryd.func24, Tryd.ntmps24
    go_wp2
    go_ret2
    exact ⟨rfl, HQ.out⟩
  | 0, m + 1, pl, w, hf, _, _, _ => absurd hf (by omega)
  | f + 1, m + 1, pl, w, hf, hmn, hpl, h => by
    obtain rfl : pl = (m : Int) := by omega
    have HI1 := Lib.hid (fun w' (hw : LN.rd w' F A n xs) => rsize_any F xs A n c hn hS f m ((m : Int) - 1) w' (by omega) (by omega) rfl hw)
    have hb1 := size_bd cntB xs f m
    have HI2 := Lib.hid (fun w' (hw : LN.rd w' F A n xs) => rsize_any F xs A n c hn hS f (m - (sizeF cntB xs f m).1) ((m : Int) - 1 - ((sizeF cntB xs f m).1 : Int)) w' (by omega) (by omega) (by omega) hw)
    have hb2 := size_bd cntB xs f (m - (sizeF cntB xs f m).1)
    obtain ⟨p, x, hAe, hx, s1⟩ := LN_at h (show m < n by omega)
    obtain rfl : A = some p := hAe
    have HSZ := Lib.hid (show sizeF cntB xs (f + 1) (m + 1) = if cntB x.p then
        if partsI x.p.tag = 0 then (if x.l = -1 ∧ x.r = -1 then (1, 1) else (0, 0))
        else if partsI x.p.tag = 1 then
          (if (sizeF cntB xs f m).1 = 0 then (0, 0)
           else if x.l = (m : Int) - 1 ∧ x.r = -1 then ((sizeF cntB xs f m).1 + 1, (sizeF cntB xs f m).2 + 1) else (0, 0))
        else if partsI x.p.tag = 2 then
          (if (sizeF cntB xs f m).1 = 0 then (0, 0)
           else if (sizeF cntB xs f (m - (sizeF cntB xs f m).1)).1 = 0 then (0, 0)
           else if x.r = (m : Int) - 1 ∧ x.l = (m : Int) - 1 - ((sizeF cntB xs f m).1 : Int) then
             ((sizeF cntB xs f m).1 + (sizeF cntB xs f (m - (sizeF cntB xs f m).1)).1 + 1, max (sizeF cntB xs f m).2 (sizeF cntB xs f (m - (sizeF cntB xs f m).1)).2 + 1) else (0, 0))
        else (0, 0)
      else (0, 0) from by rw [sizeF, hx])
    obtain ⟨R, hR⟩ : ∃ R, R = sizeF cntB xs (f + 1) (m + 1) := ⟨_, rfl⟩
    rw [← hR] at HSZ ⊢
    generalize sizeF cntB xs f (m - (sizeF cntB xs f m).1) = S2 at *
    generalize sizeF cntB xs f m = S1 at *
    obtain ⟨a, b⟩ := S1
    obtain ⟨a2, b2⟩ := S2
    simp only at HI1 HI2 HSZ hb1 hb2
    have HSX := Lib.hid (hS x (List.mem_of_getElem? hx))
    have HCT := Lib.hid (fun W => rcounts_any x.p x.l x.r W HSX.out.1)
    have HPT := Lib.hid (fun W => rparts_any x.p.tag W)
    obtain ⟨kk, hkk⟩ : ∃ kk, kk = partsI x.p.tag := ⟨_, rfl⟩
    obtain ⟨cb, hcb⟩ : ∃ cb, cb = cntB x.p := ⟨_, rfl⟩
    rw [← hkk] at HPT HSZ
    rw [← hcb] at HCT HSZ
    have HKR := Lib.hid (show -1 ≤ kk ∧ kk ≤ 2 from by rw [hkk]; exact parts_le _)
    have HZ0 := Lib.hid (fun (h : R = (0, 0)) => ret_2 (a := 0) (b := 0) (show (0 : Int) = (R.1 : Int) from by rw [h]; rfl) (show (0 : Int) = (R.2 : Int) from by rw [h]; rfl))
    have HQ := Lib.hid (bl_al (Below.refl w.heap.size w) (.cells #[.slice (some p) n c] 30))
    have HQ2 := Lib.hid (bl_al HQ.out (.cells (Nd.cells x) 27))
    have HB1 := Lib.hid ((Blk.new w 30 #[.slice (some p) n c]).alloc (.cells (Nd.cells x) 27))
    have HB2 := Lib.hid (show Blk ((w.alloc (.cells #[.slice (some p) n c] 30)).alloc (.cells (Nd.cells x) 27)) (w.heap.size + 1) 27 (Nd.cells x) from by
      have := Blk.new (w.alloc (.cells #[.slice (some p) n c] 30)) 27 (Nd.cells x)
      rwa [World.size_alloc] at this)
    have HRD := Lib.hid (Lay.rd_below h HQ2.out)
    have e0 := ce s1.c0 HQ.out
    have e1 := ce s1.c1 HQ.out
    have e2 := ce s1.c2 HQ.out
    have e3 := ce s1.c3 HQ.out
    have e4 := ce s1.c4 HQ.out
    have e5 := ce s1.c5 HQ.out
    have e6 := ce s1.c6 HQ.out
    have e7 := ce s1.c7 HQ.out
    have e8 := ce s1.c8 HQ.out
    have hm0 : 0 ≤ (m : Int) := by omega
    have hm1 : (m : Int) < (n : Int) := by omega
    have hm2 : (n : Int) ≤ 100000 := by omega
    clear hR hkk hcb hx s1 h hpl HSX
    go_enter Tryd.func24, Tryd.ntmps24
    go_upto_region 1 with fail
    have c0 := (Blk.new w 30 #[.slice (some p) n c]).cell 0
    simp at c0
    go_upto_region 4 with fail
    clear e0 e1 e2 e3 e4 e5 e6 e7 e8 c0
    generalize (w.alloc (.cells #[.slice (some p) n c] 30)).alloc (.cells #[.int .i64 x.p.tag, .int .i64 x.l, .int .i64 x.r, .int .i64 x.p.k, .int .i64 x.p.n, .int .u64 x.p.u, .string x.p.s, .string x.p.tb, .string x.p.nm] 27) = w1 at *
    have y0 := HB2.out.cell 0
    have y1 := HB2.out.cell 1
    have y2 := HB2.out.cell 2
    have y3 := HB2.out.cell 3
    have y4 := HB2.out.cell 4
    have y5 := HB2.out.cell 5
    have y6 := HB2.out.cell 6
    have y7 := HB2.out.cell 7
    have y8 := HB2.out.cell 8
    simp at y0 y1 y2 y3 y4 y5 y6 y7 y8
    go_wp2_with fail
    refine (HPT.out _).mono ?_
    rintro e w9 ⟨rfl, rfl⟩
    by_cases k0 : kk < 0
    · have HF := Lib.hid (HZ0.out (by rw [HSZ.out, if_neg (show ¬ kk = 0 by omega), if_neg (show ¬ kk = 1 by omega), if_neg (show ¬ kk = 2 by omega)]; exact ite_self _))
      go_wp2
      go_ret2
      exact ⟨HF.out, HQ2.out⟩
    have k0' : 0 ≤ kk := by omega
    clear k0
    go_wp2_with fail
    refine (HCT.out _).mono ?_
    rintro e w2 ⟨rfl, q2⟩
    have HQ3 := Lib.hid (bl_ca HQ2.out q2)
    have HRD2 := Lib.hid (Lay.rd_below HRD.out q2)
    have z1 := (HB2.out.ca q2).cell 1
    have z2 := (HB2.out.ca q2).cell 2
    have z9 := (HB1.out.ca q2).cell 0
    simp at z1 z2 z9
    have HBN := Lib.hid (HB2.out.ca q2)
    have HBT := Lib.hid (HB1.out.ca q2)
    clear q2 y0 y1 y2 y3 y4 y5 y6 y7 y8 HB1 HB2 HRD HPT HCT
    cases cb
    · have HF := Lib.hid (HZ0.out (by rw [HSZ.out]; rfl))
      go_wp2
      go_ret2
      exact ⟨HF.out, HQ3.out⟩
    have HSY := Lib.hid (show R = if kk = 0 then if x.l = -1 ∧ x.r = -1 then (1, 1) else (0, 0)
        else if kk = 1 then (if a = 0 then (0, 0) else if x.l = (m : Int) - 1 ∧ x.r = -1 then (a + 1, b + 1) else (0, 0))
        else if kk = 2 then (if a = 0 then (0, 0) else if a2 = 0 then (0, 0) else if x.r = (m : Int) - 1 ∧ x.l = (m : Int) - 1 - (a : Int) then (a + a2 + 1, max b b2 + 1) else (0, 0)) else (0, 0) from by rw [HSZ.out, if_pos rfl])
    by_cases kz : kk = 0
    · subst kz
      have HSX2 := Lib.hid (show R = if x.l = -1 ∧ x.r = -1 then (1, 1) else (0, 0) from by rw [HSY.out, if_pos rfl])
      clear HSY HSZ
      by_cases hl : x.l = -1
      · by_cases hr : x.r = -1
        · have HF := Lib.hid (ret_2 (a := 1) (b := 1) (show (1 : Int) = (R.1 : Int) from by rw [HSX2.out, if_pos ⟨hl, hr⟩]; rfl) (show (1 : Int) = (R.2 : Int) from by rw [HSX2.out, if_pos ⟨hl, hr⟩]; rfl))
          have g1 : (x.l == -1) = true := by simpa using hl
          have g2 : (x.l != -1) = false := by simpa using hl
          have g3 : decide (x.l = -1) = true := decide_eq_true hl
          have g4 : (x.r == -1) = true := by simpa using hr
          have g5 : (x.r != -1) = false := by simpa using hr
          have g6 : decide (x.r = -1) = true := decide_eq_true hr
          go_wp2
          go_ret2
          exact ⟨HF.out, HQ3.out⟩
        · have HF := Lib.hid (HZ0.out (by rw [HSX2.out, if_neg (fun h => hr h.2)]))
          have g1 : (x.l == -1) = true := by simpa using hl
          have g2 : (x.l != -1) = false := by simpa using hl
          have g3 : decide (x.l = -1) = true := decide_eq_true hl
          have g4 : (x.r == -1) = false := by simpa using hr
          have g5 : (x.r != -1) = true := by simpa using hr
          have g6 : decide (x.r = -1) = false := decide_eq_false hr
          go_wp2
          go_ret2
          exact ⟨HF.out, HQ3.out⟩
      · have HF := Lib.hid (HZ0.out (by rw [HSX2.out, if_neg (fun h => hl h.1)]))
        have g1 : (x.l == -1) = false := by simpa using hl
        have g2 : (x.l != -1) = true := by simpa using hl
        have g3 : decide (x.l = -1) = false := decide_eq_false hl
        go_wp2
        go_ret2
        exact ⟨HF.out, HQ3.out⟩
    have kb : (kk == 0) = false := by simpa using kz
    have HKZ := Lib.hid kz
    clear kz
    go_wp2_with fail
    refine (HI1.out _ HRD2.out).mono ?_
    rintro e w3 ⟨rfl, q3⟩
    have HQ4 := Lib.hid (bl_ca HQ3.out q3)
    have HRD3 := Lib.hid (Lay.rd_below HRD2.out q3)
    have u1 := (HBN.out.ca q3).cell 1
    have u2 := (HBN.out.ca q3).cell 2
    have u9 := (HBT.out.ca q3).cell 0
    simp at u1 u2 u9
    have HBN3 := Lib.hid (HBN.out.ca q3)
    clear q3 z1 z2 z9 HBN HBT HRD2
    have hab : (a : Int) ≤ (m : Int) := by omega
    have hbb : (b : Int) ≤ (m : Int) := by omega
    have ha0 : 0 ≤ (a : Int) := by omega
    have hb0 : 0 ≤ (b : Int) := by omega
    by_cases az : a = 0
    · have HF := Lib.hid (HZ0.out (by rw [HSY.out, if_neg HKZ.out, if_pos az, if_pos az]; split; rfl; split <;> rfl))
      subst az
      go_wp2
      go_ret2
      exact ⟨HF.out, HQ4.out⟩
    have ab : ((a : Int) == 0) = false := by simp; omega
    have HAZ := Lib.hid az
    clear az
    by_cases k1 : kk = 1
    · subst k1
      have HSX2 := Lib.hid (show R = if x.l = (m : Int) - 1 ∧ x.r = -1 then (a + 1, b + 1) else (0, 0) from by rw [HSY.out, if_neg HKZ.out, if_pos rfl, if_neg HAZ.out])
      clear HSY HSZ
      by_cases hl : x.l = (m : Int) - 1
      · have g1 : (x.l == (m : Int) - 1) = true := by simpa using hl
        have g2 : (x.l != (m : Int) - 1) = false := by simpa using hl
        have g3 : decide (x.l = (m : Int) - 1) = true := decide_eq_true hl
        by_cases hr : x.r = -1
        · have HF := Lib.hid (ret_2 (a := (a : Int) + 1) (b := (b : Int) + 1) (show (a : Int) + 1 = (R.1 : Int) from by rw [HSX2.out, if_pos ⟨hl, hr⟩]; rfl) (show (b : Int) + 1 = (R.2 : Int) from by rw [HSX2.out, if_pos ⟨hl, hr⟩]; rfl))
          have g4 : (x.r == -1) = true := by simpa using hr
          have g5 : (x.r != -1) = false := by simpa using hr
          have g6 : decide (x.r = -1) = true := decide_eq_true hr
          clear hl hr
          go_wp2
          go_ret2
          exact ⟨HF.out, HQ4.out⟩
        · have HF := Lib.hid (HZ0.out (by rw [HSX2.out, if_neg (fun h => hr h.2)]))
          have g4 : (x.r == -1) = false := by simpa using hr
          have g5 : (x.r != -1) = true := by simpa using hr
          have g6 : decide (x.r = -1) = false := decide_eq_false hr
          clear hl hr
          go_wp2
          go_ret2
          exact ⟨HF.out, HQ4.out⟩
      · have HF := Lib.hid (HZ0.out (by rw [HSX2.out, if_neg (fun h => hl h.1)]))
        have g1 : (x.l == (m : Int) - 1) = false := by simpa using hl
        have g2 : (x.l != (m : Int) - 1) = true := by simpa using hl
        have g3 : decide (x.l = (m : Int) - 1) = false := decide_eq_false hl
        clear hl
        go_wp2
        go_ret2
        exact ⟨HF.out, HQ4.out⟩
    have kc : (kk == 1) = false := by simpa using k1
    have HK1 := Lib.hid k1
    clear k1
    go_wp2_with fail
    refine (HI2.out _ HRD3.out).mono ?_
    rintro e w4 ⟨rfl, q4⟩
    have HQ5 := Lib.hid (bl_ca HQ4.out q4)
    have v1 := (HBN3.out.ca q4).cell 1
    have v2 := (HBN3.out.ca q4).cell 2
    simp at v1 v2
    clear q4 u1 u2 u9 HBN3 HRD3
    have hk2 : kk = 2 := by have := HKR.out; have := HKZ.out; have := HK1.out; omega
    have HSX2 := Lib.hid (show R = if a2 = 0 then (0, 0) else if x.r = (m : Int) - 1 ∧ x.l = (m : Int) - 1 - (a : Int) then (a + a2 + 1, max b b2 + 1) else (0, 0) from by rw [HSY.out, if_neg HKZ.out, if_neg HK1.out, if_pos hk2, if_neg HAZ.out])
    have ha2 : (a2 : Int) ≤ (m : Int) := by omega
    have hb3 : (b2 : Int) ≤ (m : Int) := by omega
    have ha20 : 0 ≤ (a2 : Int) := by omega
    clear HSY HSZ hk2
    by_cases az2 : a2 = 0
    · have HF := Lib.hid (HZ0.out (by rw [HSX2.out, if_pos az2]))
      subst az2
      go_wp2
      go_ret2
      exact ⟨HF.out, HQ5.out⟩
    have ab2 : ((a2 : Int) == 0) = false := by simp; omega
    have HAZ2 := Lib.hid az2
    clear az2
    by_cases hr : x.r = (m : Int) - 1
    · have g1 : (x.r == (m : Int) - 1) = true := by simpa using hr
      have g2 : (x.r != (m : Int) - 1) = false := by simpa using hr
      have g3 : decide (x.r = (m : Int) - 1) = true := decide_eq_true hr
      by_cases hl : x.l = (m : Int) - 1 - (a : Int)
      · have HF := Lib.hid (ret_2 (a := (a : Int) + (a2 : Int) + 1) (b := max (b : Int) (b2 : Int) + 1) (show (a : Int) + (a2 : Int) + 1 = (R.1 : Int) from by rw [HSX2.out, if_neg HAZ2.out, if_pos ⟨hr, hl⟩]; rfl) (show max (b : Int) (b2 : Int) + 1 = (R.2 : Int) from by rw [HSX2.out, if_neg HAZ2.out, if_pos ⟨hr, hl⟩]; show _ = ((max b b2 + 1 : Nat) : Int); omega))
        have g4 : (x.l == (m : Int) - 1 - (a : Int)) = true := by simpa using hl
        have g5 : (x.l != (m : Int) - 1 - (a : Int)) = false := by simpa using hl
        have g6 : decide (x.l = (m : Int) - 1 - (a : Int)) = true := decide_eq_true hl
        obtain ⟨mx, hmx⟩ : ∃ mx : Nat, (mx : Int) = max (b : Int) (b2 : Int) := ⟨max b b2, by omega⟩
        have hm9 : max (b : Int) (b2 : Int) = (mx : Int) := hmx.symm
        have hm8 : (mx : Int) ≤ (m : Int) := by omega
        rw [hm9] at HF
        clear hl hr hmx
        go_wp2
        go_ret2
        exact ⟨HF.out, HQ5.out⟩
      · have HF := Lib.hid (HZ0.out (by rw [HSX2.out, if_neg HAZ2.out, if_neg (fun h => hl h.2)]))
        have g4 : (x.l == (m : Int) - 1 - (a : Int)) = false := by simpa using hl
        have g5 : (x.l != (m : Int) - 1 - (a : Int)) = true := by simpa using hl
        have g6 : decide (x.l = (m : Int) - 1 - (a : Int)) = false := decide_eq_false hl
        clear hl hr
        go_wp2
        go_ret2
        exact ⟨HF.out, HQ5.out⟩
    · have HF := Lib.hid (HZ0.out (by rw [HSX2.out, if_neg HAZ2.out, if_neg (fun h => hr h.1)]))
      have g1 : (x.r == (m : Int) - 1) = false := by simpa using hr
      have g2 : (x.r != (m : Int) - 1) = true := by simpa using hr
      have g3 : decide (x.r = (m : Int) - 1) = false := decide_eq_false hr
      clear hr
      go_wp2
      go_ret2
      exact ⟨HF.out, HQ5.out⟩
end Go.Proofs.YtoaggmldekejoaaDoor
/- The reference's RightTree and SameTree. Conditions: the nodes read so. -/
namespace Go.Proofs.YtoaggmldekejoaaDoor
open Go.RowKit
set_option maxRecDepth 100000 in
set_option maxHeartbeats 4000000 in
theorem rright_any (F : Nat → Prop) (xs : List Nd) (A : Option Addr) (n c : Nat) (w : World) (h : LN.rd w F A n xs) (hn : n ≤ 100000) (hS : ∀ x ∈ xs, SmP x.p) :
    Calls Tryd.prog 11 #[.agg #[.slice A n c]] w fun e w' => e = .returned (.bool (okF xs)) ∧ Below w.heap.size w w' := by
  have hl := Lay.rd_len h
  have HR := Lib.hid (show okF xs = (decide (1 ≤ n) && (decide (n ≤ 300) && (decide ((sizeF cntB xs n n).1 = n) && decide ((sizeF cntB xs n n).2 ≤ 20)))) from by rw [ok_right]; unfold rightT; rw [hl])
  have HQ := Lib.hid (bl_al (Below.refl w.heap.size w) (.cells #[.slice A n c] 30))
  have HB := Lib.hid (Blk.new w 30 #[.slice A n c])
  have HSZ := Lib.hid (fun (h1 : 1 ≤ n) => rsize_any F xs A n c hn hS n n ((n : Int) - 1) _ (Nat.le_refl _) (Nat.le_refl _) rfl (Lay.rd_below h HQ.out))
  have hbd := size_bd cntB xs n n
  generalize okF xs = r at *
  generalize sizeF cntB xs n n = S1 at *
  obtain ⟨a, b⟩ := S1
  simp only at HR HSZ hbd
  clear h hS hl
  go_enter Tryd.func11, Tryd.ntmps11
  go_upto_region 1 with fail
  generalize w.alloc (.cells #[.slice A n c] 30) = w1 at *
  have x0 := HB.out.cell 0
  simp at x0
  by_cases h1 : n < 1
  · have HF := Lib.hid (show r = false from by rw [HR.out, decide_eq_false (by omega)]; rfl)
    have g1 : (n : Int) < 1 := by omega
    clear h1
    go_wp2
    go_ret
    exact ⟨ret_bool HF.out.symm, HQ.out⟩
  have g1 : 1 ≤ (n : Int) := by omega
  by_cases h3 : 300 < n
  · have HF := Lib.hid (show r = false from by rw [HR.out, decide_eq_false (show ¬ n ≤ 300 by omega), Bool.false_and, Bool.and_false])
    have g2 : 300 < (n : Int) := by omega
    clear h1 h3
    go_wp2
    go_ret
    exact ⟨ret_bool HF.out.symm, HQ.out⟩
  have g2 : (n : Int) ≤ 300 := by omega
  have HR2 := Lib.hid (show r = (decide (a = n) && decide (b ≤ 20)) from by rw [HR.out, decide_eq_true (show 1 ≤ n by omega), decide_eq_true (show n ≤ 300 by omega)]; rfl)
  have HSC := Lib.hid (HSZ.out (by omega))
  clear h1 h3 HR HSZ
  go_wp2_with fail
  refine HSC.out.mono ?_
  rintro e w2 ⟨rfl, q2⟩
  have HQ2 := Lib.hid (bl_ca HQ.out q2)
  have y0 := (HB.out.ca q2).cell 0
  simp at y0
  clear q2 x0 HSC
  by_cases h4 : a = n
  · have HR3 := Lib.hid (show r = decide (b ≤ 20) from by rw [HR2.out, decide_eq_true h4]; rfl)
    subst h4
    by_cases h5 : b ≤ 20
    · have HF := Lib.hid (show r = true from by rw [HR3.out, decide_eq_true h5])
      have g3 : (b : Int) ≤ 20 := by omega
      clear h5
      go_wp2
      go_ret
      exact ⟨ret_bool HF.out.symm, HQ2.out⟩
    · have HF := Lib.hid (show r = false from by rw [HR3.out, decide_eq_false h5])
      have g3 : decide ((b : Int) ≤ 20) = false := decide_eq_false (by omega)
      clear h5
      go_wp2
      go_ret
      exact ⟨ret_bool HF.out.symm, HQ2.out⟩
  · have HF := Lib.hid (show r = false from by rw [HR2.out, decide_eq_false h4]; rfl)
    have e1 : ((a : Int) == (n : Int)) = false := by simp; omega
    have e2 : decide ((a : Int) = (n : Int)) = false := decide_eq_false (by omega)
    have e3 : (a == n) = false := by simpa using h4
    have e4 : decide (a = n) = false := decide_eq_false h4
    clear h4
    go_wp2
    go_ret
    exact ⟨ret_bool HF.out.symm, HQ2.out⟩
set_option maxRecDepth 100000 in
set_option maxHeartbeats 4000000 in
theorem rsame_any (F G : Nat → Prop) (xs ys : List Nd) (A : Option Addr) (m c : Nat) (B : Option Addr) (n d : Nat) (w : World) (h : LN.rd w F A m xs) (k : LN.rd w G B n ys) (hm : m ≤ 9223372036854775807) :
    Calls Tryd.prog 15 #[.agg #[.slice A m c], .agg #[.slice B n d]] w fun e w' => e = .returned (.bool (decide (xs = ys))) ∧ Below w.heap.size w w' := by
  have HL := Lib.hid (And.intro (Lay.rd_len h) (Lay.rd_len k))
  have HR := Lib.hid (show decide (xs = ys) = true ↔ xs = ys from decide_eq_true_iff)
  generalize decide (xs = ys) = r at *
  have HNO := Lib.hid (show ¬ xs = ys → r = false from fun h => by cases r; rfl; exact absurd (HR.out.1 rfl) h)
  have HQ := Lib.hid (bl_al (bl_al (Below.refl w.heap.size w) (.cells #[.slice A m c] 30)) (.cells #[.slice B n d] 30))
  have HB2 := Lib.hid ((Blk.new w 30 #[.slice A m c]).alloc (.cells #[.slice B n d] 30))
  have HB3 := Lib.hid (show Blk ((w.alloc (.cells #[.slice A m c] 30)).alloc (.cells #[.slice B n d] 30)) (w.heap.size + 1) 30 #[.slice B n d] from by
    have := Blk.new (w.alloc (.cells #[.slice A m c] 30)) 30 #[.slice B n d]
    rwa [World.size_alloc] at this)
  have HRX := Lib.hid (Lay.rd_below h HQ.out)
  have HRY := Lib.hid (Lay.rd_below k HQ.out)
  clear h k
  go_enter Tryd.func15, Tryd.ntmps15
  go_upto_region 1 with fail
  generalize (w.alloc (.cells #[.slice A m c] 30)).alloc (.cells #[.slice B n d] 30) = w1 at *
  have x2 := HB2.out.cell 0
  have x3 := HB3.out.cell 0
  simp at x2 x3
  by_cases c4 : m = n
  case neg =>
    have e2 : ((m : Int) == (n : Int)) = false := by simp; omega
    have e3 : (m == n) = false := by simpa using c4
    have HQQ := Lib.hid (HNO.out (fun h => c4 (by rw [← HL.out.1, ← HL.out.2, h])))
    clear c4
    go_wp2
    go_ret
    exact ⟨ret_bool HQQ.out.symm, HQ.out⟩
  subst c4
  go_wp2_with fail
  go_loopg [16] m (fun g a wr => ∃ i : Nat, i + g = m ∧ a = .int .i64 i ∧ (∀ (k : Nat) (x y : Nd), k < i → xs[k]? = some x → ys[k]? = some y → x = y) ∧ Below w1.heap.size w1 wr)
  case atStart => exact ⟨0, by omega, rfl, fun k x y hk => by omega, Below.refl _ _⟩
  case round =>
    obtain ⟨i, hig, rfl, heq, b1⟩ := hrel
    have HEQ := Lib.hid heq
    have HB1 := Lib.hid b1
    have h5 := Lay.rd_below HRX.out b1
    have h6 := Lay.rd_below HRY.out b1
    have z2 := ce x2 b1
    have z3 := ce x3 b1
    clear heq b1
    by_cases hlt : i < m
    · have hi1 : (i : Int) < (m : Int) := by omega
      obtain ⟨p, x, hAe, hx, s1⟩ := LN_at h5 hlt
      obtain ⟨p2, y, hAe2, hy, s2⟩ := LN_at h6 hlt
      obtain rfl : A = some p := hAe
      obtain rfl : B = some p2 := hAe2
      have e0 := s1.c0
      have e1 := s1.c1
      have e2 := s1.c2
      have e3 := s1.c3
      have e4 := s1.c4
      have e5 := s1.c5
      have e6 := s1.c6
      have e7 := s1.c7
      have e8 := s1.c8
      have f0 := s2.c0
      have f1 := s2.c1
      have f2 := s2.c2
      have f3 := s2.c3
      have f4 := s2.c4
      have f5 := s2.c5
      have f6 := s2.c6
      have f7 := s2.c7
      have f8 := s2.c8
      have HX := Lib.hid hx
      have HY := Lib.hid hy
      clear hx hy s1 s2
      go_wp2_with fail
      by_cases hq : x = y
      · have HQE : ∀ W, (Op.equalIn 10000 27 (.agg #[.int .i64 x.p.tag, .int .i64 x.l, .int .i64 x.r, .int .i64 x.p.k, .int .i64 x.p.n, .int .u64 x.p.u, .string x.p.s, .string x.p.tb, .string x.p.nm]) (.agg #[.int .i64 y.p.tag, .int .i64 y.l, .int .i64 y.r, .int .i64 y.p.k, .int .i64 y.p.n, .int .u64 y.p.u, .string y.p.s, .string y.p.tb, .string y.p.nm])).run Tryd.prog W = .ok true W := fun W => by rw [run_eqND, decide_eq_true hq]
        have HN := Lib.hid (show ∀ (k : Nat) (x y : Nd), k < i + 1 → xs[k]? = some x → ys[k]? = some y → x = y from fun k x' y' hk h8 h9 => by
          rcases Nat.lt_or_ge k i with h7 | h7
          · exact HEQ.out k x' y' h7 h8 h9
          · obtain rfl : k = i := by omega
            rw [← at_eq HX.out h8, ← at_eq HY.out h9]
            exact hq)
        clear hq
        go_quiet (fail)
        go_wp2
        go_roundg (gk - 1)
        · exact ⟨i + 1, by omega, by go_num, HN.out, bl_dr HB1.out _⟩
        · omega
      · have HQE : ∀ W, (Op.equalIn 10000 27 (.agg #[.int .i64 x.p.tag, .int .i64 x.l, .int .i64 x.r, .int .i64 x.p.k, .int .i64 x.p.n, .int .u64 x.p.u, .string x.p.s, .string x.p.tb, .string x.p.nm]) (.agg #[.int .i64 y.p.tag, .int .i64 y.l, .int .i64 y.r, .int .i64 y.p.k, .int .i64 y.p.n, .int .u64 y.p.u, .string y.p.s, .string y.p.tb, .string y.p.nm])).run Tryd.prog W = .ok false W := fun W => by rw [run_eqND, decide_eq_false hq]
        have HQQ := Lib.hid (HNO.out (fun h => hq (by have h8 := HX.out; rw [h] at h8; exact at_eq h8 HY.out)))
        clear hq
        go_quiet (fail)
        go_wp2
        go_ret
        exact ⟨ret_bool HQQ.out.symm, bl_ca HQ.out (bl_dr HB1.out _)⟩
    · obtain rfl : i = m := by omega
      have hi1 : (i : Int) ≤ (i : Int) := by omega
      have HQQ := Lib.hid (HR.out.2 (list_ext_lt HL.out.1 HL.out.2 HEQ.out))
      go_wp2
      go_ret
      exact ⟨ret_bool HQQ.out.symm, bl_ca HQ.out HB1.out⟩
end Go.Proofs.YtoaggmldekejoaaDoor
/- The law's short. Conditions: the nodes read so. -/
namespace Go.Proofs.YtoaggmldekejoaaDoor
open Go.RowKit
def CellsB (x : Nd) (s tb nm : ByteArray) : Array Value := #[.int .i64 x.p.tag, .int .i64 x.l, .int .i64 x.r, .int .i64 x.p.k, .int .i64 x.p.n, .int .u64 x.p.u, .string s, .string tb, .string nm]
/-- a node whose texts are cut, one behind the other -/
def CutB (nt : TypeId) (g : Nat) (x : Nd) (s tb nm : ByteArray) (W : World) (j : Nat) (_ : Nat → Value) (w' : World) : Prop :=
  Blk w' g nt (CellsB x (if 1 ≤ j then s else x.p.s) (if 2 ≤ j then tb else x.p.tb) (if 3 ≤ j then nm else x.p.nm)) ∧ W.grownBy w' (some g)
def cutK (k : Nat) (s : ByteArray) : ByteArray := s.extract 0 (min s.size k)
theorem cutK_size (k : Nat) (s : ByteArray) : (cutK k s).size ≤ k := by unfold cutK; rw [ByteArray.size_extract]; omega
def cutNd (x : Nd) : Nd := { x with p := { x.p with s := cutK 60 x.p.s, tb := cutK 40 x.p.tb, nm := cutK 40 x.p.nm } }
def shortN (xs : List Nd) : List Nd := (xs.take 301).map cutNd
theorem short_sm {xs : List Nd} : ∀ x ∈ shortN xs, SmP x.p := by
  intro x hx
  obtain ⟨y, _, rfl⟩ := List.mem_map.1 hx
  exact ⟨by have := cutK_size 60 y.p.s; show (cutK 60 y.p.s).size ≤ _; omega, by have := cutK_size 40 y.p.tb; show (cutK 40 y.p.tb).size ≤ _; omega, by have := cutK_size 40 y.p.nm; show (cutK 40 y.p.nm).size ≤ _; omega⟩
theorem short_rg {xs : List Nd} (h : ∀ x ∈ xs, RgP x.p) : ∀ x ∈ shortN xs, RgP x.p := by
  intro x hx
  obtain ⟨y, hy, rfl⟩ := List.mem_map.1 hx
  exact h y (List.mem_of_mem_take hy)
theorem short_len (xs : List Nd) : (shortN xs).length ≤ 301 := by unfold shortN; rw [List.length_map, List.length_take]; omega
theorem short_step {xs : List Nd} {i : Nat} {x : Nd} (h : xs[i]? = some x) (hi : i ≤ 300) : shortN (xs.take (i + 1)) = shortN (xs.take i) ++ [cutNd x] := by
  unfold shortN
  rw [List.take_take, List.take_take, Nat.min_eq_right (by omega), Nat.min_eq_right (by omega), List.take_add_one, h, List.map_append]
  rfl
theorem short_over {xs : List Nd} {i : Nat} (hi : 300 < i) : shortN (xs.take (i + 1)) = shortN (xs.take i) := by
  unfold shortN
  rw [List.take_take, List.take_take, Nat.min_eq_left (by omega), Nat.min_eq_left (by omega)]
set_option maxRecDepth 100000 in
set_option maxHeartbeats 8000000 in
theorem short_any (F : Nat → Prop) (xs : List Nd) (A : Option Addr) (n c : Nat) (w : World) (h : LN.rd w F A n xs) (hn : n ≤ 9223372036854775807) (hS : ∀ x ∈ xs, SmP x.p) :
    Calls Tryd.prog 8 #[.agg #[.slice A n c]] w fun e w' => ∃ A' n' c', e = .returned (.agg #[.slice A' n' c']) ∧ LN.rd w' (fun b => w.heap.size ≤ b) A' n' (shortN xs) ∧ n' ≤ c' ∧ c' ≤ 9223372036854775807 ∧ Below w.heap.size w w' := by
  have HLEN := Lib.hid (Lay.rd_len h)
  have HS := Lib.hid hS
  have HQ1 := Lib.hid (bl_al (bl_al (bl_al (Below.refl w.heap.size w) (.cells #[.slice A n c] 30)) (.cells #[.slice none 0 0] 30)) (.cells #[.slice none 0 0] 30))
  have HB1 := Lib.hid (((Blk.new w 30 #[.slice A n c]).alloc (.cells #[.slice none 0 0] 30)).alloc (.cells #[.slice none 0 0] 30))
  have HB2 := Lib.hid (show Blk (((w.alloc (.cells #[.slice A n c] 30)).alloc (.cells #[.slice none 0 0] 30)).alloc (.cells #[.slice none 0 0] 30)) (w.heap.size + 1) 30 #[.slice none 0 0] from by
    have := (Blk.new (w.alloc (.cells #[.slice A n c] 30)) 30 #[.slice none 0 0]).alloc (.cells #[.slice none 0 0] 30)
    rwa [World.size_alloc] at this)
  have HB3 := Lib.hid (show Blk (((w.alloc (.cells #[.slice A n c] 30)).alloc (.cells #[.slice none 0 0] 30)).alloc (.cells #[.slice none 0 0] 30)) (w.heap.size + 1 + 1) 30 #[.slice none 0 0] from by
    have := Blk.new ((w.alloc (.cells #[.slice A n c] 30)).alloc (.cells #[.slice none 0 0] 30)) 30 #[.slice none 0 0]
    rwa [World.size_alloc, World.size_alloc] at this)
  have HRD := Lib.hid h
  clear h hS
  go_enter Tryd.func8, Tryd.ntmps8
  go_upto_region 2 with fail
  generalize ((w.alloc (.cells #[.slice A n c] 30)).alloc (.cells #[.slice none 0 0] 30)).alloc (.cells #[.slice none 0 0] 30) = w1 at *
  generalize hg3 : w.heap.size + 1 + 1 = g3 at *
  generalize hg2 : w.heap.size + 1 = g2 at *
  have l1 : w.heap.size < g2 := by omega
  have l2 : g2 < g3 := by omega
  have l3 := HB3.out.lt
  have x0 := HB1.out.cell 0
  simp at x0
  clear hg3 hg2
  go_wp2_with fail
  go_loopg [9] n (fun g a wr => ∃ (i : Nat) (Ao : Option Addr) (no co : Nat), i + g = n ∧ a = .int .i64 (i : Int) ∧ Hid (Blk wr g3 30 #[.slice Ao no co]) ∧ Hid (LN.own 27 wr w1.heap.size (fun _ => False) Ao no co (shortN (xs.take i))) ∧ Hid (Blk wr g2 30 #[.slice none 0 0]) ∧ Hid (Below w.heap.size w wr) ∧ Hid (w1.heap.size ≤ wr.heap.size))
  case atStart => exact ⟨0, none, 0, 0, by omega, rfl, HB3, Lib.hid (Lay.own_nil _ _), HB2, HQ1, Lib.hid (Nat.le_refl _)⟩
  case round =>
    obtain ⟨i, Ao, no, co, hig, rfl, HC3, HOO, HC2, HQB, HZ⟩ := hrel
    have hno : no ≤ 301 := by have h1 := Lay.own_len HOO.out; have h2 := short_len (xs.take i); omega
    have hz1 := HZ.out
    by_cases hlt : i < n
    · have hi1 : (i : Int) < (n : Int) := by omega
      have hi0 : 0 ≤ (i : Int) := by omega
      obtain ⟨p, x, hAe, hx, s1⟩ := LN_at (Lay.rd_below HRD.out HQB.out) hlt
      obtain rfl : A = some p := hAe
      have e0 := s1.c0
      have e1 := s1.c1
      have e2 := s1.c2
      have e3 := s1.c3
      have e4 := s1.c4
      have e5 := s1.c5
      have e6 := s1.c6
      have e7 := s1.c7
      have e8 := s1.c8
      have HX := Lib.hid hx
      have HBN := Lib.hid (Blk.new wr 27 (Nd.cells x))
      have HQ2 := Lib.hid (bl_al (Below.refl wr.heap.size wr) (.cells (Nd.cells x) 27))
      have hsm := HS.out x (List.mem_of_getElem? hx)
      clear hx s1
      go_upto_region 5 with fail
      clear e0 e1 e2 e3 e4 e5 e6 e7 e8
      generalize wr.alloc (.cells #[.int .i64 x.p.tag, .int .i64 x.l, .int .i64 x.r, .int .i64 x.p.k, .int .i64 x.p.n, .int .u64 x.p.u, .string x.p.s, .string x.p.tb, .string x.p.nm] 27) = w2 at *
      have hz2 := HQ2.out.size
      by_cases h300 : i ≤ 300
      · have h3 : (i : Int) ≤ 300 := by omega
        obtain ⟨a6, ha6⟩ : ∃ a6, a6 = min x.p.s.size 60 := ⟨_, rfl⟩
        obtain ⟨a7, ha7⟩ : ∃ a7, a7 = min x.p.tb.size 40 := ⟨_, rfl⟩
        obtain ⟨a8, ha8⟩ : ∃ a8, a8 = min x.p.nm.size 40 := ⟨_, rfl⟩
        have m6 : min (x.p.s.size : Int) 60 = (a6 : Int) := by omega
        have m7 : min (x.p.tb.size : Int) 40 = (a7 : Int) := by omega
        have m8 : min (x.p.nm.size : Int) 40 = (a8 : Int) := by omega
        have p6 : (a6 : Int) ≤ (x.p.s.size : Int) := by omega
        have p7 : (a7 : Int) ≤ (x.p.tb.size : Int) := by omega
        have p8 : (a8 : Int) ≤ (x.p.nm.size : Int) := by omega
        have q6 : 0 ≤ (a6 : Int) := by omega
        have q7 : 0 ≤ (a7 : Int) := by omega
        have q8 : 0 ≤ (a8 : Int) := by omega
        have HA6 := Lib.hid ha6
        have HA7 := Lib.hid ha7
        have HA8 := Lib.hid ha8
        have f6 := HBN.out.cell 6
        have f7 := HBN.out.cell 7
        have f8 := HBN.out.cell 8
        have z6 := HBN.out.frozen 6
        have z7 := HBN.out.frozen 7
        have z8 := HBN.out.frozen 8
        simp at f6 f7 f8
        clear ha6 ha7 ha8 h300 hsm
        go_upto_region 6 with fail
        refine wp_region_ps (S := SeqN [25, 27, 29] (CutB 27 wr.heap.size x (x.p.s.extract 0 a6) (x.p.tb.extract 0 a7) (x.p.nm.extract 0 a8) w2)) (by kernel_rfl) ?spswg1 ?ppswg1
        case spswg1 =>
          exact SeqN.start (by rfl) ⟨HBN.out, ⟨rfl, rfl, rfl, Nat.le_refl _, fun _ _ _ => rfl⟩⟩
        refine Ps.st (i := 0) (d := some 16) (u := (.pointer (some ⟨wr.heap.size, 3, none⟩))) rfl rfl (by exact StepS.pure (SeqN.pass (by decide)) rfl fun _ => rfl) ?_
        try simp only [Act.put, sA, sZ, sS]
        refine Ps.st (i := 1) (d := some 17) (u := (.pointer (some ⟨wr.heap.size, 6, none⟩))) rfl rfl (by exact StepS.pure (SeqN.pass (by decide)) rfl fun _ => rfl) ?_
        try simp only [Act.put, sA, sZ, sS]
        refine Ps.st (i := 2) (d := some 18) (u := (.string x.p.s)) rfl rfl ?ywg1_4 ?rwg1_4
        case ywg1_4 =>
          refine StepS.read [] (by kernel_rfl) (SeqN.pass (by decide)) (by rfl) (fun L9 m9 w9 hSh hAt hDn hS => ?_)
          have hB := SeqN.zero (post_no (post := [25, 27, 29]) hSh hDn (by kernel_rfl)) hS
          have x0 : w9.cell? ⟨wr.heap.size, 6, none⟩ = some (.string x.p.s) := hB.1.cell 6
          clear hB hS
          go_simp
          try rfl
        try simp only [Act.put, sA, sZ, sS]
        refine Ps.st (i := 3) (d := some 19) (u := (.pointer (some ⟨wr.heap.size, 3, none⟩))) rfl rfl (by exact StepS.pure (SeqN.pass (by decide)) rfl fun _ => rfl) ?_
        try simp only [Act.put, sA, sZ, sS]
        refine Ps.st (i := 4) (d := some 20) (u := (.pointer (some ⟨wr.heap.size, 6, none⟩))) rfl rfl (by exact StepS.pure (SeqN.pass (by decide)) rfl fun _ => rfl) ?_
        try simp only [Act.put, sA, sZ, sS]
        refine Ps.st (i := 5) (d := some 21) (u := (.string x.p.s)) rfl rfl ?ywg1_7 ?rwg1_7
        case ywg1_7 =>
          refine StepS.read [] (by kernel_rfl) (SeqN.pass (by decide)) (by rfl) (fun L9 m9 w9 hSh hAt hDn hS => ?_)
          have hB := SeqN.zero (post_no (post := [25, 27, 29]) hSh hDn (by kernel_rfl)) hS
          have x0 : w9.cell? ⟨wr.heap.size, 6, none⟩ = some (.string x.p.s) := hB.1.cell 6
          clear hB hS
          go_simp
          try rfl
        try simp only [Act.put, sA, sZ, sS]
        refine Ps.st (i := 6) (d := some 22) (u := (.int .i64 ((x.p.s.size : Int)))) rfl rfl (by exact StepS.pure (SeqN.pass (by decide)) rfl fun _ => by first | rfl | (go_simp; done) | (go_simp; rfl)) ?_
        try simp only [Act.put, sA, sZ, sS]
        refine Ps.st (i := 7) (d := some 23) (u := (.int .i64 ((a6 : Int)))) rfl rfl ?ywg1_9 ?rwg1_9
        case ywg1_9 =>
          refine StepS.pure (SeqN.pass (by decide)) (by rfl) (fun w9 => ?_)
          go_simp
        try simp only [Act.put, sA, sZ, sS]
        refine Ps.st (i := 8) (d := some 24) (u := (.string ((x.p.s.extract 0 a6)))) rfl rfl ?ywg1_10 ?rwg1_10
        case ywg1_10 =>
          refine StepS.pure (SeqN.pass (by decide)) (by rfl) (fun w9 => ?_)
          have hz9 := trivial
          first | rfl | (go_simp; done) | (go_simp; rfl)
        try simp only [Act.put, sA, sZ, sS]
        refine Ps.st (i := 9) (d := some 25) (u := (.pointer (some ⟨wr.heap.size, 7, none⟩))) rfl rfl (by exact StepS.pure (SeqN.pass (by decide)) rfl fun _ => rfl) ?_
        try simp only [Act.put, sA, sZ, sS]
        refine Ps.st (i := 10) (d := some 26) (u := (.string x.p.tb)) rfl rfl ?ywg1_12 ?rwg1_12
        case ywg1_12 =>
          refine StepS.read [] (by kernel_rfl) (SeqN.pass (by decide)) (by rfl) (fun L9 m9 w9 hSh hAt hDn hS => ?_)
          have hB := SeqN.zero (post_no (post := [25, 27, 29]) hSh hDn (by kernel_rfl)) hS
          have x0 : w9.cell? ⟨wr.heap.size, 7, none⟩ = some (.string x.p.tb) := hB.1.cell 7
          clear hB hS
          go_simp
          try rfl
        try simp only [Act.put, sA, sZ, sS]
        refine Ps.st (i := 11) (d := some 27) (u := (.pointer (some ⟨wr.heap.size, 7, none⟩))) rfl rfl (by exact StepS.pure (SeqN.pass (by decide)) rfl fun _ => rfl) ?_
        try simp only [Act.put, sA, sZ, sS]
        refine Ps.st (i := 12) (d := some 28) (u := (.string x.p.tb)) rfl rfl ?ywg1_14 ?rwg1_14
        case ywg1_14 =>
          refine StepS.read [] (by kernel_rfl) (SeqN.pass (by decide)) (by rfl) (fun L9 m9 w9 hSh hAt hDn hS => ?_)
          have hB := SeqN.zero (post_no (post := [25, 27, 29]) hSh hDn (by kernel_rfl)) hS
          have x0 : w9.cell? ⟨wr.heap.size, 7, none⟩ = some (.string x.p.tb) := hB.1.cell 7
          clear hB hS
          go_simp
          try rfl
        try simp only [Act.put, sA, sZ, sS]
        refine Ps.st (i := 13) (d := some 29) (u := (.int .i64 ((x.p.tb.size : Int)))) rfl rfl (by exact StepS.pure (SeqN.pass (by decide)) rfl fun _ => by first | rfl | (go_simp; done) | (go_simp; rfl)) ?_
        try simp only [Act.put, sA, sZ, sS]
        refine Ps.st (i := 14) (d := some 30) (u := (.int .i64 ((a7 : Int)))) rfl rfl ?ywg1_16 ?rwg1_16
        case ywg1_16 =>
          refine StepS.pure (SeqN.pass (by decide)) (by rfl) (fun w9 => ?_)
          go_simp
        try simp only [Act.put, sA, sZ, sS]
        refine Ps.st (i := 15) (d := some 31) (u := (.string ((x.p.tb.extract 0 a7)))) rfl rfl ?ywg1_17 ?rwg1_17
        case ywg1_17 =>
          refine StepS.pure (SeqN.pass (by decide)) (by rfl) (fun w9 => ?_)
          have hz9 := trivial
          first | rfl | (go_simp; done) | (go_simp; rfl)
        try simp only [Act.put, sA, sZ, sS]
        refine Ps.st (i := 16) (d := some 32) (u := (.pointer (some ⟨wr.heap.size, 8, none⟩))) rfl rfl (by exact StepS.pure (SeqN.pass (by decide)) rfl fun _ => rfl) ?_
        try simp only [Act.put, sA, sZ, sS]
        refine Ps.st (i := 17) (d := some 33) (u := (.string x.p.nm)) rfl rfl ?ywg1_19 ?rwg1_19
        case ywg1_19 =>
          refine StepS.read [] (by kernel_rfl) (SeqN.pass (by decide)) (by rfl) (fun L9 m9 w9 hSh hAt hDn hS => ?_)
          have hB := SeqN.zero (post_no (post := [25, 27, 29]) hSh hDn (by kernel_rfl)) hS
          have x0 : w9.cell? ⟨wr.heap.size, 8, none⟩ = some (.string x.p.nm) := hB.1.cell 8
          clear hB hS
          go_simp
          try rfl
        try simp only [Act.put, sA, sZ, sS]
        refine Ps.st (i := 18) (d := some 34) (u := (.pointer (some ⟨wr.heap.size, 8, none⟩))) rfl rfl (by exact StepS.pure (SeqN.pass (by decide)) rfl fun _ => rfl) ?_
        try simp only [Act.put, sA, sZ, sS]
        refine Ps.st (i := 19) (d := some 35) (u := (.string x.p.nm)) rfl rfl ?ywg1_21 ?rwg1_21
        case ywg1_21 =>
          refine StepS.read [] (by kernel_rfl) (SeqN.pass (by decide)) (by rfl) (fun L9 m9 w9 hSh hAt hDn hS => ?_)
          have hB := SeqN.zero (post_no (post := [25, 27, 29]) hSh hDn (by kernel_rfl)) hS
          have x0 : w9.cell? ⟨wr.heap.size, 8, none⟩ = some (.string x.p.nm) := hB.1.cell 8
          clear hB hS
          go_simp
          try rfl
        try simp only [Act.put, sA, sZ, sS]
        refine Ps.st (i := 20) (d := some 36) (u := (.int .i64 ((x.p.nm.size : Int)))) rfl rfl (by exact StepS.pure (SeqN.pass (by decide)) rfl fun _ => by first | rfl | (go_simp; done) | (go_simp; rfl)) ?_
        try simp only [Act.put, sA, sZ, sS]
        refine Ps.st (i := 21) (d := some 37) (u := (.int .i64 ((a8 : Int)))) rfl rfl ?ywg1_23 ?rwg1_23
        case ywg1_23 =>
          refine StepS.pure (SeqN.pass (by decide)) (by rfl) (fun w9 => ?_)
          go_simp
        try simp only [Act.put, sA, sZ, sS]
        refine Ps.st (i := 22) (d := some 38) (u := (.string ((x.p.nm.extract 0 a8)))) rfl rfl ?ywg1_24 ?rwg1_24
        case ywg1_24 =>
          refine StepS.pure (SeqN.pass (by decide)) (by rfl) (fun w9 => ?_)
          have hz9 := trivial
          first | rfl | (go_simp; done) | (go_simp; rfl)
        try simp only [Act.put, sA, sZ, sS]
        refine Ps.st (i := 23) (d := some 39) (u := (.pointer (some ⟨wr.heap.size, 3, none⟩))) rfl rfl (by exact StepS.pure (SeqN.pass (by decide)) rfl fun _ => rfl) ?_
        try simp only [Act.put, sA, sZ, sS]
        refine Ps.st (i := 24) (d := some 40) (u := (.pointer (some ⟨wr.heap.size, 6, none⟩))) rfl rfl (by exact StepS.pure (SeqN.pass (by decide)) rfl fun _ => rfl) ?_
        try simp only [Act.put, sA, sZ, sS]
        refine Ps.st (i := 25) (d := none) (u := undef) rfl rfl ?ywg1_27 ?rwg1_27
        case ywg1_27 =>
          refine StepS.store [] (by kernel_rfl) (by rfl) (fun L9 m9 w9 hSh hAt hDn hS => ?_)
          obtain ⟨hB, hg⟩ := SeqN.at_ (m0 := m9) (m1 := m9) [] [27, 29] hSh (fun d hd => by cases hd) hDn (by kernel_rfl) hS
          have x1 : w9.cell? ⟨wr.heap.size, 6, none⟩ = some (.string x.p.s) := hB.cell 6
          have fx : w9.frozen? ⟨wr.heap.size, 6, none⟩ = false := hB.frozen 6
          have hB2 := hB.set_ 6 (.string (x.p.s.extract 0 a6))
          refine ⟨w9.setCell ⟨wr.heap.size, 6, none⟩ (.string (x.p.s.extract 0 a6)), ?_, SeqN.set_ (m0 := m9) (m1 := m9) [] [27, 29] hSh (fun d hd => by cases hd) hDn (by kernel_rfl) (by decide) (by decide) ⟨hB2, only_setCell (p := ⟨wr.heap.size, 6, none⟩) hg (.inl rfl) _⟩⟩
          clear hS hB hB2 hg
          go_simp
        try simp only [Act.put]
        refine Ps.st (i := 26) (d := some 41) (u := (.pointer (some ⟨wr.heap.size, 7, none⟩))) rfl rfl (by exact StepS.pure (SeqN.pass (by decide)) rfl fun _ => rfl) ?_
        try simp only [Act.put, sA, sZ, sS]
        refine Ps.st (i := 27) (d := none) (u := undef) rfl rfl ?ywg1_29 ?rwg1_29
        case ywg1_29 =>
          refine StepS.store [25] (by kernel_rfl) (by rfl) (fun L9 m9 w9 hSh hAt hDn hS => ?_)
          obtain ⟨hB, hg⟩ := SeqN.at_ [25] [29] hSh hAt hDn (by kernel_rfl) hS
          have x1 : w9.cell? ⟨wr.heap.size, 7, none⟩ = some (.string x.p.tb) := hB.cell 7
          have fx : w9.frozen? ⟨wr.heap.size, 7, none⟩ = false := hB.frozen 7
          have hB2 := hB.set_ 7 (.string (x.p.tb.extract 0 a7))
          refine ⟨w9.setCell ⟨wr.heap.size, 7, none⟩ (.string (x.p.tb.extract 0 a7)), ?_, SeqN.set_ [25] [29] hSh hAt hDn (by kernel_rfl) (by decide) (by decide) ⟨hB2, only_setCell (p := ⟨wr.heap.size, 7, none⟩) hg (.inl rfl) _⟩⟩
          clear hS hB hB2 hg
          go_simp
        try simp only [Act.put]
        refine Ps.st (i := 28) (d := some 42) (u := (.pointer (some ⟨wr.heap.size, 8, none⟩))) rfl rfl (by exact StepS.pure (SeqN.pass (by decide)) rfl fun _ => rfl) ?_
        try simp only [Act.put, sA, sZ, sS]
        refine Ps.st (i := 29) (d := none) (u := undef) rfl rfl ?ywg1_31 ?rwg1_31
        case ywg1_31 =>
          refine StepS.store [25, 27] (by kernel_rfl) (by rfl) (fun L9 m9 w9 hSh hAt hDn hS => ?_)
          obtain ⟨hB, hg⟩ := SeqN.at_ [25, 27] [] hSh hAt hDn (by kernel_rfl) hS
          have x1 : w9.cell? ⟨wr.heap.size, 8, none⟩ = some (.string x.p.nm) := hB.cell 8
          have fx : w9.frozen? ⟨wr.heap.size, 8, none⟩ = false := hB.frozen 8
          have hB2 := hB.set_ 8 (.string (x.p.nm.extract 0 a8))
          refine ⟨w9.setCell ⟨wr.heap.size, 8, none⟩ (.string (x.p.nm.extract 0 a8)), ?_, SeqN.set_ [25, 27] [] hSh hAt hDn (by kernel_rfl) (by decide) (by decide) ⟨hB2, only_setCell (p := ⟨wr.heap.size, 8, none⟩) hg (.inl rfl) _⟩⟩
          clear hS hB hB2 hg
          go_simp
        try simp only [Act.put]
        refine Ps.done (by kernel_rfl) (fun wg1 hS => ?_) _
        obtain ⟨hB3, hg3⟩ := SeqN.fin (by rfl) hS
        clear hS
        have HBX := Lib.hid hB3
        have HGX := Lib.hid hg3
        clear hB3 hg3
        obtain ⟨w3, rfl⟩ : ∃ x, x = wg1 := ⟨_, rfl⟩
        have HBY := Lib.hid (show Blk w3 wr.heap.size 27 (Nd.cells (cutNd x)) from by
          have h1 : cutK 60 x.p.s = x.p.s.extract 0 a6 := by unfold cutK; rw [HA6.out]
          have h2 : cutK 40 x.p.tb = x.p.tb.extract 0 a7 := by unfold cutK; rw [HA7.out]
          have h3 : cutK 40 x.p.nm = x.p.nm.extract 0 a8 := by unfold cutK; rw [HA8.out]
          have h9 : CellsB x (x.p.s.extract 0 a6) (x.p.tb.extract 0 a7) (x.p.nm.extract 0 a8) = Nd.cells (cutNd x) := by rw [← h1, ← h2, ← h3]; rfl
          rw [← h9]
          exact HBX.out)
        have HY3 := Lib.hid ((HC3.out.ca HQ2.out).apart HGX.out (by omega))
        have HY2 := Lib.hid ((HC2.out.ca HQ2.out).apart HGX.out (by omega))
        have HYO := Lib.hid (own_via HOO.out HQ2.out HGX.out (Nat.le_refl _))
        have HYQ := Lib.hid ((bl_ca HQB.out HQ2.out).grown HGX.out (bl_ca HQB.out HQ2.out).size (fun k e => by injection e with e; have := HQB.out.size; omega))
        have hz3 := HGX.out.size
        have HST := Lib.hid (short_step HX.out (show i ≤ 300 by omega))
        obtain ⟨y, hy⟩ : ∃ y, y = cutNd x := ⟨_, rfl⟩
        rw [← hy] at HBY HST
        clear hy z6 z7 z8 f6 f7 f8 m6 m7 m8 p6 p7 p8 q6 q7 q8 HBX
        have r0 := HBY.out.cell 0
        have r1 := HBY.out.cell 1
        have r2 := HBY.out.cell 2
        have r3 := HBY.out.cell 3
        have r4 := HBY.out.cell 4
        have r5 := HBY.out.cell 5
        have r6 := HBY.out.cell 6
        have r7 := HBY.out.cell 7
        have r8 := HBY.out.cell 8
        have x3 : w3.cell? ⟨g3, 0, none⟩ = some (.slice Ao no co) := HY3.out.cell 0
        simp at r0 r1 r2 r3 r4 r5 r6 r7 r8
        have HBZ := Lib.hid (Blk.new w3 27 (Nd.cells y))
        have HQZ := Lib.hid (bl_al (Below.refl w3.heap.size w3) (.cells (Nd.cells y) 27))
        have HOZ := Lib.hid (Lay.own_below HYO.out HQZ.out)
        have hzy := HQZ.out.size
        have hzz : w1.heap.size ≤ w3.heap.size := by omega
        have HDZ := Lib.hid (HY3.out.ca HQZ.out)
        have HDZ2 := Lib.hid (HY2.out.ca HQZ.out)
        have HZQ := Lib.hid (bl_ca HYQ.out HQZ.out)
        go_wp2_with (at_builtin; refine wpList_appG (L := LN) (e := 27) rfl (.tmp 44) (.tmp 46) 28 rfl (.agg #[.int .i64 0, .int .i64 0, .int .i64 0, .int .i64 0, .int .i64 0, .int .u64 0, .string ⟨#[]⟩, .string ⟨#[]⟩, .string ⟨#[]⟩]) 9 96 Tryd.underlying28 infoN rfl rfl (by decide) w1.heap.size (fun _ => False) Ao no co (shortN (xs.take i)) w3.heap.size 1 27 (Nd.cells y) y rfl rfl rfl HOZ.out HBZ.out rfl (fun b h => h.elim) (by omega) (by unfold maxLen; omega) (Nat.le_trans hzz hzy) ?_; intro A9 c9 w9 o9 g9 k9; have HO9 := Lib.hid o9; have HG9 := Lib.hid g9; have HN3 := Lib.hid (show Blk w9 g3 30 #[.slice Ao no co] from (g9.block g3 HDZ.out.lt (fun e => by have := (Lay.own_base HOZ.out g3 e.symm).1; omega)).trans HDZ.out); have n6 : w9.cell? ⟨g3, 0, none⟩ = some (.slice Ao no co) := HN3.out.cell 0; have n7 := HN3.out.frozen 0; clear o9 g9 k9)
        have hgr9 : w9.grownBy (w9.setCell ⟨g3, 0, none⟩ (.slice A9 (no + 1) c9)) (some g3) := only_setCell (p := ⟨g3, 0, none⟩) (World.grownBy.refl w9 _) (.inl rfl) _
        have q3 : Blk (w9.setCell ⟨g3, 0, none⟩ (.slice A9 (no + 1) c9)) g3 30 #[.slice A9 (no + 1) c9] := HN3.out.set_ 0 _
        have q2 : Blk (w9.setCell ⟨g3, 0, none⟩ (.slice A9 (no + 1) c9)) g2 30 #[.slice none 0 0] := Blk.apart (show Blk w9 g2 30 #[.slice none 0 0] from (HG9.out.block g2 HDZ2.out.lt (fun e => by have := (Lay.own_base HOZ.out g2 e.symm).1; omega)).trans HDZ2.out) hgr9 (by omega)
        have q9 := Lay.own_same (w' := w9.setCell ⟨g3, 0, none⟩ (.slice A9 (no + 1) c9)) HO9.out (fun k hk => Below.heap_setCell _ _ _ _ (by have := (Lay.own_base HO9.out k hk).1; show k ≠ g3; omega)) (fun _ h => h.elim)
        have qb : Below w.heap.size w (w9.setCell ⟨g3, 0, none⟩ (.slice A9 (no + 1) c9)) := bl_set (HZQ.out.grown HG9.out HZQ.out.size (fun k e => by have := (Lay.own_base HOZ.out k e).1; omega)) (p := ⟨g3, 0, none⟩) (by show _ ≤ g3; omega) _
        have qz : w1.heap.size ≤ (w9.setCell ⟨g3, 0, none⟩ (.slice A9 (no + 1) c9)).heap.size := Nat.le_trans (Nat.le_trans hzz hzy) (Nat.le_trans HG9.out.size hgr9.size)
        rw [← HST.out] at q9
        clear hgr9 r0 r1 r2 r3 r4 r5 r6 r7 r8 x3 n6 n7
        have HP3 := Lib.hid q3
        have HP2 := Lib.hid q2
        have HP9 := Lib.hid q9
        have HPB := Lib.hid qb
        have HPZ := Lib.hid qz
        clear q3 q2 q9 qb qz
        generalize w9.setCell ⟨g3, 0, none⟩ (.slice A9 (no + 1) c9) = w10 at *
        go_roundg (gk - 1)
        · exact ⟨i + 1, A9, no + 1, c9, by omega, by go_num, HP3, HP9, HP2, HPB, HPZ⟩
        · omega
      · have h3 : 300 < (i : Int) := by omega
        have HSO := Lib.hid (short_over (xs := xs) (show 300 < i by omega))
        have HG3 := Lib.hid (HC3.out.ca HQ2.out)
        have HG2 := Lib.hid (HC2.out.ca HQ2.out)
        have HGO := Lib.hid (Lay.own_below HOO.out HQ2.out)
        have HGQ := Lib.hid (bl_ca HQB.out HQ2.out)
        clear h300 hsm
        go_wp2
        go_roundg (gk - 1)
        · exact ⟨i + 1, Ao, no, co, by omega, by go_num, HG3, by rw [HSO.out]; exact HGO, HG2, HGQ, Lib.hid (by omega)⟩
        · omega
    · obtain rfl : i = n := by omega
      have hi1 : (i : Int) ≤ (i : Int) := by omega
      have HT := Lib.hid (show xs.take i = xs from List.take_of_length_le (by rw [HLEN.out]; exact Nat.le_refl _))
      rw [HT.out] at HOO
      have hcap := Lay.own_caps HOO.out
      have x3 : wr.cell? ⟨g3, 0, none⟩ = some (.slice Ao no co) := HC3.out.cell 0
      have y0 : wr.cell? ⟨g2, 0, none⟩ = some (.slice none 0 0) := HC2.out.cell 0
      have y1 := HC2.out.frozen 0
      go_wp2
      exact bodyPost_ret (res1 Tryd.results8 rfl (HC2.out.set_ 0 (.slice Ao no co)) Tryd.underlying30 rfl treeI) rfl ⟨Ao, no, co, rfl, Lay.rd_weak (fun b hb _ => Nat.le_trans HQ1.out.size hb) (Lay.rd_keep (fun b hb _ => Below.heap_setCell _ _ _ _ (by have h7 : w1.heap.size ≤ b := hb; show b ≠ g2; omega)) (Lay.own_rd2 (F := fun b => w1.heap.size ≤ b) HOO.out (fun b e => (Lay.own_base HOO.out b e).1) (fun b h _ => h.elim))), hcap.1, hcap.2, bl_set HQB.out (p := ⟨g2, 0, none⟩) (by show _ ≤ g2; omega) _⟩
end Go.Proofs.YtoaggmldekejoaaDoor
