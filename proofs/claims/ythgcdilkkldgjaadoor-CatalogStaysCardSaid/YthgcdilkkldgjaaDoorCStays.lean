/- The law CatalogStays. Conditions: the slice reads so; what the tables hold. -/
import Derived.Test.YthgcdilkkldgjaaDoorCTells
import Derived.Test.YthgcdilkkldgjaaDoorCStayM
namespace Go.Proofs.YthgcdilkkldgjaaDoor
open Go.RowKit
/-- the round's state -/
structure Stay (w1 : World) (gv : Nat) (A : Option Addr) (m c : Nat) (cs : List TC) (wr : World) : Prop where
  blk : Blk wr gv 24 #[.slice A m c]
  rd : LT3.rd wr (fun b => b ≠ gv) A m cs
  mc : m ≤ c
  cm : c ≤ 9223372036854775807
  m4 : m ≤ 4
  sz : ∀ (k : Nat) (t : TC), cs[k]? = some t → Sz t ∧ Ln t
  bel : Below w1.heap.size w1 wr
theorem Stay.below {w1 : World} {gv : Nat} {A : Option Addr} {m c : Nat} {cs : List TC} {wr w' : World} (h : Stay w1 gv A m c cs wr) (q : Below wr.heap.size wr w') : Stay w1 gv A m c cs w' :=
  ⟨h.blk.ca q, Lay.rd_below h.rd q, h.mc, h.cm, h.m4, h.sz, bl_ca h.bel q⟩
set_option maxRecDepth 100000 in
set_option maxHeartbeats 16000000 in
theorem stays_law (l : List TC) (A0 : Option Addr) (n0 c0 : Nat) (w : World) (hx : LT3.rd w AllB A0 n0 l) (hn : n0 ≤ 9223372036854775807) (hT : Tab w) :
    Calls Tryd.prog 5 #[.slice A0 n0 c0] w fun e w' => e = .returned (.bool true) ∧ Below w.heap.size w w' := by
  have HX := Lib.hid hx
  have HT := Lib.hid hT
  have HL := Lib.hid (Lay.rd_len hx)
  clear hx hT
  go_enter Tryd.func5, Tryd.ntmps5
  go_wp2_with fail
  refine (wakes_any w HT.out).mono ?_
  rintro e w1 ⟨rfl, q1⟩
  have HX1 := Lib.hid (Lay.rd_below HX.out q1)
  have HT1 := Lib.hid (HT.out.below q1)
  have HQ1 := Lib.hid q1
  have HST0 : Hid (Stay w1 w1.heap.size none 0 0 [] (w1.alloc (.cells #[.slice none 0 0] 24))) := Lib.hid ⟨Blk.new w1 _ _, Lay.rd_nil _, Nat.le_refl _, by omega, by omega, fun k t h => by simp at h, bl_al (Below.refl _ _) _⟩
  clear q1 HX HT
  go_wp2_with fail
  go_loopg [22] n0 (fun g b wr => ∃ (i : Nat) (A : Option Addr) (m c : Nat) (cs : List TC), i + g = n0 ∧ b = .int .i64 i ∧ Stay w1 w1.heap.size A m c cs wr)
  case atStart => exact ⟨0, none, 0, 0, [], by omega, rfl, HST0.out⟩
  case round =>
    obtain ⟨i, A, m, c, cs, hig, rfl, hst⟩ := hrel
    have HS := Lib.hid hst
    have hsz := hst.bel.size
    clear hst HST0
    by_cases hlt : i < n0
    · have hi1 : (i : Int) < (n0 : Int) := by omega
      obtain ⟨p, x, A1, n1, c1, B1, m1, d1, hAe, _, s1⟩ := LT3_at (Lay.rd_below HX1.out HS.out.bel) hlt
      obtain rfl : A0 = some p := hAe
      have HNN := Lib.hid (And.intro (Nat.le_trans s1.nc s1.cm) (Nat.le_trans s1.md s1.dm))
      have e0 := s1.c0
      have e1 := s1.c1
      have e2 := s1.c2
      have q2 := bl_al (Below.refl wr.heap.size wr) (.cells (x.cells A1 n1 c1 B1 m1 d1) 28)
      have HR2 := Lib.hid (Lay.rd_below s1.rd q2)
      have HK2 := Lib.hid (Lay.rd_below s1.rk q2)
      have HB2 := Lib.hid (Blk.new wr 28 (x.cells A1 n1 c1 B1 m1 d1))
      have HS2 := Lib.hid (HS.out.below q2)
      have t0 := HB2.out.cell 0
      have t1 := HB2.out.cell 1
      have t2 := HB2.out.cell 2
      have hs2 : (wr.alloc (.cells (x.cells A1 n1 c1 B1 m1 d1) 28)).heap.size = wr.heap.size + 1 := by simp only [World.size_alloc]
      clear s1 q2 HS
      go_upto_region 7 with fail
      generalize wr.alloc (.cells (x.cells A1 n1 c1 B1 m1 d1) 28) = w2 at *
      clear e0 e1 e2
      by_cases hi20 : i = 20
      · have j1 : ((i : Int) == 20) = true := by simp; omega
        have j2 : (i : Int) = 20 := by omega
        clear hi20
        go_wp2
        go_ret
        exact ⟨rfl, bl_ca HQ1.out HS2.out.bel⟩
      have j1 : ((i : Int) == 20) = false := by simp; omega
      have j2 : ¬ ((i : Int) = 20) := by omega
      clear hi20
      go_wp2_with fail
      refine (large_any AllB AllB x A1 n1 c1 B1 m1 d1 w2 HR2.out HK2.out HNN.out.1).mono ?_
      rintro e w3 ⟨rfl, q3⟩
      have HR3 := Lib.hid (Lay.rd_below HR2.out q3)
      have HK3 := Lib.hid (Lay.rd_below HK2.out q3)
      have HB3 := Lib.hid (HB2.out.ca q3)
      have HS3 := Lib.hid (HS2.out.below q3)
      have hs3 := q3.size
      clear q3 HR2 HK2 HB2 HS2 t0 t1 t2
      obtain ⟨lb, hlb⟩ : ∃ lb, lb = largeB x := ⟨_, rfl⟩
      rw [← hlb]
      have HLB := Lib.hid hlb
      clear hlb
      cases lb
      case true =>
        go_wp2_with fail
        go_roundg (gk - 1)
        · exact ⟨i + 1, A, m, c, cs, by omega, by go_num, HS3.out⟩
        · omega
      have HXZ := Lib.hid (large_no HLB.out.symm)
      have y0 := HS3.out.blk.cell 0
      have t0 := HB3.out.cell 0
      have t1 := HB3.out.cell 1
      have t2 := HB3.out.cell 2
      have hm4 := HS3.out.m4
      go_wp2_with fail
      refine (add_any AllB cs A m c x A1 n1 c1 B1 m1 d1 w3 (Lay.rd_weak (fun _ _ _ => trivial) HS3.out.rd) (by omega) (HT1.out.below HS3.out.bel) HS3.out.sz HR3.out HK3.out HXZ.out.1 HXZ.out.2).mono ?_
      rintro e w4 ⟨A3, n3, c3, rfl, hr3, hn3, hc3, q4⟩
      have hs4 := q4.size
      have q5 := bl_al (Below.refl w4.heap.size w4) (.cells #[.slice A3 n3 c3] 24)
      have HB5 := Lib.hid ((HB3.out.ca q4).ca q5)
      have HS5 := Lib.hid ((HS3.out.below q4).below q5)
      have HN5 := Lib.hid (Lay.rd_below hr3 q5)
      have HBN5 := Lib.hid (Blk.new w4 24 #[.slice A3 n3 c3])
      have HNL := Lib.hid (Lay.rd_len hr3)
      have HNC := Lib.hid (And.intro hn3 hc3)
      have hs5 : (w4.alloc (.cells #[.slice A3 n3 c3] 24)).heap.size = w4.heap.size + 1 := by simp only [World.size_alloc]
      clear q4 q5 hr3 hn3 hc3 HR3 HK3 HB3 HS3 y0 t0 t1 t2
      obtain ⟨E, hE⟩ : ∃ E, E = addE cs x := ⟨_, rfl⟩
      rw [← hE]
      have HE := Lib.hid hE
      clear hE
      have t0 := HB5.out.cell 0
      have t1 := HB5.out.cell 1
      have t2 := HB5.out.cell 2
      have y0 := HS5.out.blk.cell 0
      have n0_ := HBN5.out.cell 0
      by_cases hE0 : E = 0
      · subst hE0
        have HAO := Lib.hid (add_ok HE.out.symm)
        have HAR := Lib.hid (show addR cs x = cs ++ [x] from by unfold addR; rw [if_pos HE.out.symm])
        have HCL := Lib.hid (Lay.rd_len HS5.out.rd)
        have hnm : n3 = m + 1 := by
          have h9 := HNL.out
          rw [HAR.out, List.length_append, HCL.out] at h9
          exact h9.symm
        have HN3 := Lib.hid hnm
        have hn34 : n3 ≤ 5 := by omega
        have hnp : 0 < n3 := by omega
        have HSZN : Hid (∀ (k : Nat) (t : TC), (cs ++ [x])[k]? = some t → Sz t ∧ Ln t) := Lib.hid (fun k t hk => by
          rcases Nat.lt_or_ge k cs.length with h9 | h9
          · rw [List.getElem?_append_left h9] at hk; exact HS5.out.sz k t hk
          · rw [List.getElem?_append_right h9] at hk
            have hk0 : k - cs.length = 0 := by
              rcases Nat.eq_zero_or_pos (k - cs.length) with e | e
              · exact e
              · rw [List.getElem?_eq_none (by simp only [List.length_singleton]; omega)] at hk; cases hk
            rw [hk0] at hk
            simp at hk
            subst hk
            exact HXZ.out)
        have HN6 : Hid (LT3.rd (w4.alloc (.cells #[.slice A3 n3 c3] 24)) (fun b => w3.heap.size ≤ b) A3 n3 (cs ++ [x])) := Lib.hid (by have h9 := HN5.out; rw [HAR.out] at h9; exact h9)
        clear hnm HN5 HAR
        go_wp2_with fail
        generalize w4.alloc (.cells #[.slice A3 n3 c3] 24) = w5 at *
        refine (drop_any AllB (cs ++ [x]) A3 n3 c3 x.name w5 (Lay.rd_weak (fun _ _ _ => trivial) HN6.out) (by omega) (HT1.out.below HS5.out.bel) HSZN.out).mono ?_
        rintro e w6 ⟨A4, n4, c4, rfl, hr4, hn4, hc4, q6⟩
        rw [HAO.out.dropR] at hr4
        rw [HAO.out.dropE]
        have hs6 := q6.size
        have q7 := bl_al (Below.refl w6.heap.size w6) (.cells #[.slice A4 n4 c4] 24)
        have HB7 := Lib.hid ((HB5.out.ca q6).ca q7)
        have HS7 := Lib.hid ((HS5.out.below q6).below q7)
        have HN7 := Lib.hid (Lay.rd_below (Lay.rd_below HN6.out q6) q7)
        have HBN7 := Lib.hid ((HBN5.out.ca q6).ca q7)
        have HD7 := Lib.hid (Lay.rd_below hr4 q7)
        have HBD7 := Lib.hid (Blk.new w6 24 #[.slice A4 n4 c4])
        have hs7 : (w6.alloc (.cells #[.slice A4 n4 c4] 24)).heap.size = w6.heap.size + 1 := by simp only [World.size_alloc]
        have HNC4 := Lib.hid (Nat.le_trans hn4 hc4)
        clear t0 t1 t2 y0 n0_ q6 q7 hr4 hn4 hc4 HB5 HS5 HN6 HBN5
        have t0 := HB7.out.cell 0
        have n0_ := HBN7.out.cell 0
        go_wp2_with fail
        generalize w6.alloc (.cells #[.slice A4 n4 c4] 24) = w7 at *
        refine (find_any AllB (cs ++ [x]) A3 n3 c3 x.name w7 (Lay.rd_weak (fun _ _ _ => trivial) HN7.out) (by omega)).mono ?_
        rintro e w8 ⟨rfl, q8⟩
        rw [HAO.out.idx, HCL.out, show fnd (m : Int) = (m : Int) from by unfold fnd; omega, show decide ((0 : Int) ≤ (m : Int)) = true from decide_eq_true (by omega)]
        have HS8 := Lib.hid (HS7.out.below q8)
        have HN8 := Lib.hid (Lay.rd_below HN7.out q8)
        have HBN8 := Lib.hid (HBN7.out.ca q8)
        have HD8 := Lib.hid (Lay.rd_below HD7.out q8)
        have HBD8 := Lib.hid (HBD7.out.ca q8)
        have hs8 := q8.size
        clear t0 n0_ q8 HS7 HN7 HBN7 HD7 HBD7 HB7
        have d0 := HBD8.out.cell 0
        have y0 := HS8.out.blk.cell 0
        go_wp2_with fail
        refine (same_any AllB AllB cs cs A4 n4 c4 A m c w8 (Lay.rd_weak (fun _ _ _ => trivial) HD8.out) (Lay.rd_weak (fun _ _ _ => trivial) HS8.out.rd) HNC4.out).mono ?_
        rintro e w10 ⟨rfl, q10⟩
        rw [show decide (cs = cs) = true from decide_eq_true rfl]
        have HS10 := Lib.hid (HS8.out.below q10)
        have HN10 := Lib.hid (Lay.rd_below HN8.out q10)
        have HBN10 := Lib.hid (HBN8.out.ca q10)
        have hs10 := q10.size
        clear d0 y0 q10 HS8 HN8 HBN8 HD8 HBD8
        have n0_ := HBN10.out.cell 0
        go_wp2_with fail
        refine (check_any AllB (cs ++ [x]) A3 n3 c3 w10 (Lay.rd_weak (fun _ _ _ => trivial) HN10.out) (by omega) (HT1.out.below HS10.out.bel) (fun k t hk => (HSZN.out k t hk).1)).mono ?_
        rintro e w11 ⟨rfl, q11⟩
        rw [HAO.out.cat, show eC true = 0 from rfl]
        have HS11 := Lib.hid (HS10.out.below q11)
        have HN11 := Lib.hid (Lay.rd_below HN10.out q11)
        have HBN11 := Lib.hid (HBN10.out.ca q11)
        have hs11 := q11.size
        clear n0_ q11 HS10 HN10 HBN10
        have n0_ := HBN11.out.cell 0
        have hn31 : (n3 : Int) - 1 = (m : Int) := by have := HN3.out; omega
        go_wp2_with (first | (refine wpList_store_blk rfl 24 (.tmp 3) (.tmp 125) rfl w1.heap.size 24 #[.slice A m c] #[.slice A3 n3 c3] rfl rfl HS11.out.blk rfl catI (by simp [Value.oneCell']) ?_; intro w12 h12 g12; have HB12 := Lib.hid h12; have HG12 := Lib.hid g12; clear h12 g12))
        go_roundg (gk - 1)
        · exact ⟨i + 1, A3, n3, c3, cs ++ [x], by omega, by go_num, HB12.out, rd_grownH (Lay.rd_weak (fun b hb _ => by omega) HN11.out) HG12.out (fun b hb => hb), HNC.out.1, HNC.out.2, by have h9 := ((catB_iff _).1 HAO.out.cat).hi; rw [List.length_append, HCL.out] at h9; simp only [List.length_singleton] at h9; omega, HSZN.out, bl_gr HS11.out.bel HG12.out (Nat.le_refl _)⟩
        · omega
      have f1 : (E == 0) = false := by simpa using hE0
      have f2 : decide (E = 0) = false := decide_eq_false hE0
      have f3 : (E != 0) = true := by simpa using hE0
      by_cases hE5 : E = 5
      · subst hE5
        obtain ⟨k, hk⟩ := add_there HE.out.symm
        have HTH := Lib.hid hk
        have HCL := Lib.hid (Lay.rd_len HS5.out.rd)
        have hkm : k < m := by have := hk.lt; rw [HCL.out] at this; exact this
        clear hk f1 f2 f3
        go_wp2_with fail
        generalize w4.alloc (.cells #[.slice A3 n3 c3] 24) = w5 at *
        refine (find_any AllB cs A m c x.name w5 (Lay.rd_weak (fun _ _ _ => trivial) HS5.out.rd) (by omega)).mono ?_
        rintro e w6 ⟨rfl, q6⟩
        rw [HTH.out.ix, show fnd (k : Int) = (k : Int) from by unfold fnd; omega, show decide ((0 : Int) ≤ (k : Int)) = true from decide_eq_true (by omega)]
        have HS6 := Lib.hid (HS5.out.below q6)
        have HB6 := Lib.hid (HB5.out.ca q6)
        have hs6 := q6.size
        clear t0 t1 t2 y0 n0_ q6 HS5 HB5 HN5 HBN5
        have y0 := HS6.out.blk.cell 0
        have t0 := HB6.out.cell 0
        have k1 : decide ((m : Int) ≤ (k : Int)) = false := decide_eq_false (by omega)
        have k2 : ¬ ((m : Int) ≤ (k : Int)) := by omega
        go_wp2_with fail
        refine (drop_any AllB cs A m c x.name w6 (Lay.rd_weak (fun _ _ _ => trivial) HS6.out.rd) (by omega) (HT1.out.below HS6.out.bel) HS6.out.sz).mono ?_
        rintro e w7 ⟨A4, n4, c4, rfl, hr4, hn4, hc4, q7⟩
        rw [HTH.out.dr] at hr4
        rw [HTH.out.de]
        have hs7 := q7.size
        have hn4m : (m : Int) - 1 = (n4 : Int) := by
          have h9 := Lay.rd_len hr4
          have h8 := HTH.out.lt
          rw [List.length_eraseIdx, if_pos h8, HCL.out] at h9
          omega
        have q8 := bl_al (Below.refl w7.heap.size w7) (.cells #[.slice A4 n4 c4] 24)
        have HS8 := Lib.hid ((HS6.out.below q7).below q8)
        have HB8 := Lib.hid ((HB6.out.ca q7).ca q8)
        have HD8 := Lib.hid (Lay.rd_below hr4 q8)
        have HBD8 := Lib.hid (Blk.new w7 24 #[.slice A4 n4 c4])
        have HNC4 := Lib.hid (Nat.le_trans hn4 hc4)
        have hs8 : (w7.alloc (.cells #[.slice A4 n4 c4] 24)).heap.size = w7.heap.size + 1 := by simp only [World.size_alloc]
        clear t0 y0 q7 q8 hr4 hn4 hc4 HS6 HB6 k1 k2
        have t0 := HB8.out.cell 0
        have d0 := HBD8.out.cell 0
        go_wp2_with fail
        generalize w7.alloc (.cells #[.slice A4 n4 c4] 24) = w8 at *
        refine (find_any AllB (cs.eraseIdx k) A4 n4 c4 x.name w8 (Lay.rd_weak (fun _ _ _ => trivial) HD8.out) HNC4.out).mono ?_
        rintro e w9 ⟨rfl, q9⟩
        rw [HTH.out.no, show fnd (-1) = 0 from rfl, show decide ((0 : Int) ≤ -1) = false from rfl]
        have HS9 := Lib.hid (HS8.out.below q9)
        have HBD9 := Lib.hid (HBD8.out.ca q9)
        clear t0 d0 q9 HS8 HB8 HD8 HBD8
        have d0 := HBD9.out.cell 0
        have y0 := HS9.out.blk.cell 0
        go_wp2_with fail
        go_roundg (gk - 1)
        · exact ⟨i + 1, A, m, c, cs, by omega, by go_num, HS9.out⟩
        · omega
      have g1 : (E == 5) = false := by simpa using hE5
      have g2 : decide (E = 5) = false := decide_eq_false hE5
      go_wp2_with fail
      go_roundg (gk - 1)
      · exact ⟨i + 1, A, m, c, cs, by omega, by go_num, HS5.out⟩
      · omega
    · obtain rfl : i = n0 := by omega
      have hi1 : (i : Int) ≤ (i : Int) := by omega
      go_wp2
      go_ret
      exact ⟨rfl, bl_ca HQ1.out HS.out.bel⟩
theorem stays_walk (A0 : Option Addr) (n0 c0 : Nat) (l : List TC) (w : World) (hx : LT3.rd w AllB A0 n0 l) (hn : n0 ≤ 9223372036854775807) (_ : ∀ x ∈ l, True) (hT : Tab w) :
    Calls Tryd.prog 5 #[.slice A0 n0 c0] w fun e w' => e = .returned (.bool true) ∧ Below w.heap.size w w' := stays_law l A0 n0 c0 w hx hn hT
end Go.Proofs.YthgcdilkkldgjaaDoor
