/- LinkSafe's walk: the beginning that LinkSafe and LinkEnds have in common, and LinkSafe's loop. Conditions: the deeds read so. -/
import Derived.Test.YtojghgbaiiajfaaPkS25
namespace Go.Proofs.Ytojghgbaiiajfaa
open Go.RowKit
/-- a pair that is sound, behind i deeds -/
def SafeR (B0 g : Nat) (σ room : Int) (N P : Nat) (w0 wr : World) : Prop :=
 Below B0 w0 wr ∧ ∃ s r way put taken A n c A2 n2 c2 A3 n3 c3 A4 n4 c4 A5 n5 c5 A6 n6 c6, PM B0 g wr s r way put taken A n c A2 n2 c2 A3 n3 c3 A4 n4 c4 A5 n5 c5 A6 n6 c6 ∧ SInv σ room s r way put taken ∧ EX s r way ∧ n4 ≤ N ∧ n5 ≤ P
theorem PM.less {B0 B1 g : Nat} {w : World} {s : SC} {r : RC} {way : List PK} {put taken : List BC} {A : Option Addr} {n c : Nat} {A2 : Option Addr} {n2 c2 : Nat} {A3 : Option Addr} {n3 c3 : Nat} {A4 : Option Addr} {n4 c4 : Nat} {A5 : Option Addr} {n5 c5 : Nat} {A6 : Option Addr} {n6 c6 : Nat}
 (h : PM B0 g w s r way put taken A n c A2 n2 c2 A3 n3 c3 A4 n4 c4 A5 n5 c5 A6 n6 c6) (hB : B1 ≤ B0) : PM B1 g w s r way put taken A n c A2 n2 c2 A3 n3 c3 A4 n4 c4 A5 n5 c5 A6 n6 c6 :=
 { h with g0 := Nat.le_trans hB h.g0, wy := Lay.ownO_less h.wy hB, pt := Lay.ownO_less h.pt hB, tk := Lay.ownO_less h.tk hB }
theorem own_at0 {e : TypeId} {w : World} {B n c : Nat} {G : Nat → Prop} {A : Option Addr} {xs : List PK} (h : LP7.ownO e w B G A n c xs) (hn : 0 < n) : ∃ g' o, A = some ⟨g', o, none⟩ := by
 obtain ⟨_, cs, _, ho⟩ := h
 rcases ho.2 with ⟨_, e2⟩ | ⟨g', o, cap, cur, e1, _⟩
 · omega
 · injection e1 with e1 _ _
   exact ⟨g', o, e1⟩
theorem sound_at {B0 g : Nat} {σ room : Int} {w : World} {s : SC} {r : RC} {way : List PK} {put taken : List BC} {A : Option Addr} {n c : Nat} {A2 : Option Addr} {n2 c2 : Nat} {A3 : Option Addr} {n3 c3 : Nat} {A4 : Option Addr} {n4 c4 : Nat} {A5 : Option Addr} {n5 c5 : Nat} {A6 : Option Addr} {n6 c6 : Nat}
 (h : PM B0 g w s r way put taken A n c A2 n2 c2 A3 n3 c3 A4 n4 c4 A5 n5 c5 A6 n6 c6) (hi : SInv σ room s r way put taken) (h5 : n5 ≤ 100000) :
 Calls Try.prog 41 #[.pointer (some ⟨g, 0, none⟩)] w fun e w' => e = .returned (.bool true) ∧ Below w.heap.size w w' := by
 obtain ⟨a1, a2, a3, a4, a5, a6, a7⟩ := hi.sound
 have l5 := Lay.ownO_len h.pt
 have l6 := Lay.ownO_len h.tk
 have l3 := Lay.rd_len h.bf
 have e : (taken ++ r.buf).length = n6 + n3 := by rw [List.length_append, l6, l3]
 rw [e] at a1 a2 a7
 exact sound_any B0 g w s r way put taken A n c A2 n2 c2 A3 n3 c3 A4 n4 c4 A5 n5 c5 A6 n6 c6 h (by omega) a2 a3 a4 a5 (by rw [← l6]; exact a6) a7 h5
set_option maxRecDepth 100000 in
set_option maxHeartbeats 16000000 in
theorem safe_law (a b : Int) (A : Option Addr) (m c : Nat) (l : List DC) (w : World) (hl : LD4.rd w AllB A m l) (hm : m ≤ 9223372036854775807) :
 Calls Try.prog 8 #[.agg #[.int .i64 a, .int .i64 b], .slice A m c] w fun e w' => e = .returned (.bool true) ∧ Below w.heap.size w w' := by
 have q1 := bl_al (Below.refl w.heap.size w) (.cells #[.int .i64 a, .int .i64 b] 83)
 have HN1 := Lib.hid (Blk.new w 83 #[.int .i64 a, .int .i64 b])
 have HL1 := Lib.hid (Lay.rd_weak (G := fun k => k < w.heap.size) (fun _ _ h => h) hl)
 have HQ1 := Lib.hid q1
 clear q1 hl
 go_enter Try.func8, Try.ntmps8
 go_wp2_with fail
 generalize w.alloc (.cells #[.int .i64 a, .int .i64 b] 83) = w1 at *
 refine (wakes_any w1).mono ?_
 rintro e w2 ⟨rfl, q2⟩
 have HN2 := Lib.hid (HN1.out.ca q2)
 have HQ2 := Lib.hid (bl_ca HQ1.out q2)
 have x0 := HN2.out.cell 0
 have x1 := HN2.out.cell 1
 clear q2
 go_upto_region 3 with fail
 go_wp2_with fail
 generalize hsg : max a 0 % 4294967296 % 2147483647 + 1 = σ at *
 generalize hrm : max b 0 % 8 + 1 = room at *
 have hroom : roomB σ room = true := by
  unfold roomB sesB
  simp only [Bool.and_eq_true, decide_eq_true_eq]
  omega
 clear hsg hrm
 refine (begin_any σ room w2 hroom).mono ?_
 rintro e w3 ⟨g, rfl, q3, hPM⟩
 have HS3 := Lib.hid (show SafeR w2.heap.size g σ room 0 0 w2 w3 from ⟨q3, _, _, _, _, _, _, _, _, _, _, _, _, _, _, _, _, _, _, _, _, _, _, _, hPM, SInv.begin_ hroom, EX.begin_ hroom, Nat.le_refl _, Nat.le_refl _⟩)
 have HL2 := Lib.hid (Lay.rd_below HL1.out HQ2.out)
 have hw2 : w.heap.size < w2.heap.size := HN2.out.lt
 clear x0 x1 HN1 HN2 HL1 HQ1 hPM q3 hroom
 obtain ⟨B0, hB0⟩ : ∃ B0, B0 = w2.heap.size := ⟨_, rfl⟩
 rw [← hB0] at HS3
 have HB0 := Lib.hid hB0
 have hwB : w.heap.size < B0 := by omega
 clear hB0
 go_wp2_with fail
 go_loopg [30] m (fun gk a wr => ∃ i : Nat, i + gk = m ∧ i ≤ 150 ∧ a = .int .i64 i ∧ SafeR B0 g σ room 208 i w2 wr)
 case atStart => exact ⟨0, by omega, by omega, rfl, HS3.out.1, by obtain ⟨_, s, r, way, put, taken, A, n, c, A2, n2, c2, A3, n3, c3, A4, n4, c4, A5, n5, c5, A6, n6, c6, h1, h2, h3, h4, h5⟩ := HS3.out; exact ⟨s, r, way, put, taken, A, n, c, A2, n2, c2, A3, n3, c3, A4, n4, c4, A5, n5, c5, A6, n6, c6, h1, h2, h3, by omega, by omega⟩⟩
 case round =>
  obtain ⟨i, hig, hi150, rfl, hsf⟩ := hrel
  have HSF := Lib.hid hsf
  by_cases hlt : i < m
  · have hi1 : (i : Int) < (m : Int) := by omega
    obtain ⟨hbw, s, r, way, put, taken, A1, n1, c1, A2, n2, c2, A3, n3, c3, A4, n4, c4, A5, n5, c5, A6, n6, c6, hP, hI, hX, hn4, hn5⟩ := hsf
    have hbw2 : Below w.heap.size w2 wr := hbw.mono (by omega)
    have hlr : LD4.rd wr (fun k => k < w.heap.size) A m l := Lay.rd_keep (fun b hb _ => hbw2.block b hb) HL2.out
    obtain ⟨ad, d, R, rn, rc, rfl, hax, hab, sp⟩ := LD4_at hlr hlt
    have e0 := sp.c0
    have e1 := sp.c1
    have e2 := sp.c2
    have e3 := sp.c3
    have HROW := Lib.hid sp.rd
    have hrn : rn ≤ rc ∧ rc ≤ 9223372036854775807 := ⟨sp.nc, sp.cm⟩
    have HP := Lib.hid hP
    have HI := Lib.hid hI
    have HX := Lib.hid hX
    have HBW := Lib.hid hbw
    have q4 := bl_al (Below.refl wr.heap.size wr) (.cells #[.int .i64 d.kind, .int .i64 d.pick, .bool d.stays, .slice R rn rc] 91)
    have HD4 := Lib.hid (Blk.new wr 91 #[.int .i64 d.kind, .int .i64 d.pick, .bool d.stays, .slice R rn rc])
    have HQ4 := Lib.hid q4
    clear hax sp hlr hP hI hX hbw hbw2 q4
    by_cases hie : i = 150
    · have hi2 : ((i : Int) == 150) = true := by simp; omega
      clear hie
      go_wp2_with fail
      go_ret
      exact ⟨rfl, bl_ca HQ2.out ((HBW.out.mono (Nat.le_of_eq HB0.out.symm)).trans (HQ4.out.mono HBW.out.size))⟩
    · have hi2 : ((i : Int) == 150) = false := by simp; omega
      have hi3 : i < 150 := by omega
      clear hie hi150
      go_upto_region 10 with fail
      clear e0 e1 e2 e3
      generalize wr.alloc (.cells #[.int .i64 d.kind, .int .i64 d.pick, .bool d.stays, .slice R rn rc] 91) = w5 at *
      have HP5 := Lib.hid (HP.out.below HQ4.out)
      have HROW5 := Lib.hid (Lay.rd_below HROW.out HQ4.out)
      have hgB := HP.out.g0
      have hB5 : B0 ≤ w5.heap.size := Nat.le_trans (Nat.le_trans hgB (Nat.le_of_lt HP.out.blk.lt)) HQ4.out.size
      have hgw : g < wr.heap.size := HP.out.blk.lt
      have HB5 := Lib.hid (HBW.out.trans (HQ4.out.mono (Nat.le_trans hgB (Nat.le_of_lt hgw))))
      clear HROW HP HBW HQ4
      have y13 := HP5.out.blk.cell 13
      go_upto_if 42 with fail
      clear y13
      go_cut [] (fun wx => ∃ (way' : List PK) (A7 : Option Addr) (n7 c7 : Nat), Hid (PM B0 g wx s r way' put taken A1 n1 c1 A2 n2 c2 A3 n3 c3 A7 n7 c7 A5 n5 c5 A6 n6 c6) ∧ Hid (∀ p ∈ way', p ∈ way) ∧ n7 ≤ 200 ∧ Hid (Below B0 w5 wx) ∧ Hid (Blk wx wr.heap.size 91 #[.int .i64 d.kind, .int .i64 d.pick, .bool d.stays, .slice R rn rc]))
      case first =>
       by_cases hbig : 200 < n4
       · obtain ⟨g', o, rfl⟩ := own_at0 HP5.out.wy (by omega)
         have hc4 := (Lay.ownO_caps HP5.out.wy).1
         have hcc : ¬ c4 = 100 := by omega
         have y13 := HP5.out.blk.cell 13
         have f13 : w5.frozen? ⟨g, 13, none⟩ = false := HP5.out.blk.frozen 13
         go_wp2_with fail
         go_meet
         have hgr : w5.grownBy (w5.setCell ⟨g, 13, none⟩ (.slice (some ⟨g', o + 100 * 7, none⟩) (n4 - 100) (c4 - 100))) (some g) := only_setCell (World.grownBy.refl _ _) (.inl rfl) _
         have hbk : Blk (w5.setCell ⟨g, 13, none⟩ (.slice (some ⟨g', o + 100 * 7, none⟩) (n4 - 100) (c4 - 100))) g 93 (pairC s r A1 n1 c1 A2 n2 c2 A3 n3 c3 (.slice (some ⟨g', o + 100 * 7, none⟩) (n4 - 100) (c4 - 100)) (.slice A5 n5 c5) (.slice A6 n6 c6)) := by simpa using HP5.out.blk.set_ 13 (.slice (some ⟨g', o + 100 * 7, none⟩) (n4 - 100) (c4 - 100))
         refine ⟨way.drop 100, some ⟨g', o + 100 * 7, none⟩, n4 - 100, c4 - 100, Lib.hid (HP5.out.away (Chg.refl _ _) (Lay.ownO_drop HP5.out.wy (k := 100) (by omega)) (fun k e => .inl e) hgr hbk HP5.out.q HP5.out.cq HP5.out.ah HP5.out.ca HP5.out.bf HP5.out.cb), Lib.hid (fun p hp => List.mem_of_mem_drop hp), by omega, Lib.hid (Chg.bel (Below.refl B0 w5) ((Chg.refl (fun k => k = g) w5).grown hgr (fun k e => .inl (Option.some.inj e).symm)) (fun b _ hx => by rw [hx]; exact hgB) hB5), Lib.hid (HD4.out.grown hgr (fun e => by injection e with e; omega))⟩
       · have hsm : ¬ ((200 : Int) < (n4 : Int)) := by omega
         have y13 := HP5.out.blk.cell 13
         go_wp2_with fail
         go_meet
         exact ⟨way, A4, n4, c4, HP5, Lib.hid (fun p hp => hp), by omega, Lib.hid (Below.refl B0 w5), HD4⟩
      case rest =>
      obtain ⟨way', A7, n7, c7, HP6, HWS, hn7, HQ6, HD6⟩ := hcut
      have d0 := HD6.out.cell 0
      have d1 := HD6.out.cell 1
      have d2 := HD6.out.cell 2
      have d3 := HD6.out.cell 3
      have hrow6 : LV.rd wc (PF wc g A7 A5 A6) R rn d.row := by
       obtain ⟨b4, b5, b6⟩ := HP6.out.base4
       refine Lay.rd_weak (fun b hb hl => ⟨hl, by omega, fun e => by have := (b4 b e).1; omega, fun e => by have := (b5 b e).1; omega, fun e => by have := (b6 b e).1; omega⟩) (Lay.rd_keep (fun b hb _ => HQ6.out.block b (by omega)) HROW5.out)
      have HRW6 := Lib.hid hrow6
      have hB6 := Nat.le_trans hB5 HQ6.out.size
      have HB6 := Lib.hid (HB5.out.trans HQ6.out)
      clear hrow6 HB5 HQ6 HP5 HROW5 HD4 HSF
      go_wp2_with fail
      refine (does_any B0 g wc σ room s r way' put taken A1 n1 c1 A2 n2 c2 A3 n3 c3 A7 n7 c7 A5 n5 c5 A6 n6 c6 d.kind d.pick d.stays d.row R rn rc HP6.out (HI.out.less HWS.out) (HX.out.less HWS.out) HRW6.out hrn hB6 (by omega) (by omega)).mono ?_
      rintro e w7 ⟨rfl, q7, s', r', way2, put', taken', B1, l1, f1, B2, l2, f2, B3, l3, f3, B4, l4, f4, B5, l5, f5, B6, l6, f6, hP7, hI7, hX7, hm4, hm5⟩
      have HP7 := Lib.hid hP7
      have HI7 := Lib.hid hI7
      have HX7 := Lib.hid hX7
      have HB7 := Lib.hid (HB6.out.trans q7)
      clear d0 d1 d2 d3 hP7 hI7 hX7 q7 HB6 HP6 HWS HD6 HI HX HRW6
      go_wp2_with fail
      refine (sound_at HP7.out HI7.out (by omega)).mono ?_
      rintro e w8 ⟨rfl, q8⟩
      have HP8 := Lib.hid (HP7.out.below q8)
      have HB8 := Lib.hid (HB7.out.trans (q8.mono (Nat.le_trans HP7.out.g0 (Nat.le_of_lt HP7.out.blk.lt))))
      clear q8 HP7 HB7
      go_wp2_with fail
      go_roundg (gk - 1)
      · exact ⟨i + 1, by omega, by omega, by go_num, HB8.out, s', r', way2, put', taken', B1, l1, f1, B2, l2, f2, B3, l3, f3, B4, l4, f4, B5, l5, f5, B6, l6, f6, HP8.out, HI7.out, HX7.out, by omega, by omega⟩
      · omega
  · obtain rfl : i = m := by omega
    have hi1 : (i : Int) ≤ (i : Int) := by omega
    clear hsf
    go_wp2_with fail
    go_ret
    exact ⟨rfl, bl_ca HQ2.out (HSF.out.1.mono (Nat.le_of_eq HB0.out.symm))⟩
end Go.Proofs.Ytojghgbaiiajfaa
