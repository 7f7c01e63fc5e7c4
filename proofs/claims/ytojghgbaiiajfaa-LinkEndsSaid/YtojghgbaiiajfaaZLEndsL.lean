/- LinkEnds' walk. Conditions: the deeds read so. -/
import Derived.Test.YtojghgbaiiajfaaPkE25
import Derived.Deep.CutBlock
import Derived.Deep.DeepCutAuto
namespace Go.Proofs.Ytojghgbaiiajfaa
open Go.RowKit
def eN (s : SC) : Nat := if s.ended then 0 else 1
def PR (B0 g : Nat) (w : World) (s : SC) (r : RC) (way : List PK) (put taken : List BC) : Prop := ∃ A n c A2 n2 c2 A3 n3 c3 A4 n4 c4 A5 n5 c5 A6 n6 c6, PM B0 g w s r way put taken A n c A2 n2 c2 A3 n3 c3 A4 n4 c4 A5 n5 c5 A6 n6 c6
section
variable {B0 g : Nat} {w : World} {s : SC} {r : RC} {way : List PK} {put taken : List BC} {A : Option Addr} {n c : Nat} {A2 : Option Addr} {n2 c2 : Nat} {A3 : Option Addr} {n3 c3 : Nat} {A4 : Option Addr} {n4 c4 : Nat} {A5 : Option Addr} {n5 c5 : Nat} {A6 : Option Addr} {n6 c6 : Nat}
theorem PM.pr (h : PM B0 g w s r way put taken A n c A2 n2 c2 A3 n3 c3 A4 n4 c4 A5 n5 c5 A6 n6 c6) : PR B0 g w s r way put taken := ⟨A, n, c, A2, n2, c2, A3, n3, c3, A4, n4, c4, A5, n5, c5, A6, n6, c6, h⟩
end
def CloseR (room : Int) (s : SC) (r : RC) (put taken : List BC) (s1 : SC) (put1 : List BC) : Prop := (s1.q = [] → s1.ended = true) ∧ (RJ room s r taken → RJ room s1 r taken ∧ mJ s1 put1 taken = mJ s put taken) ∧ put1.length + eN s1 ≤ put.length + eN s
def RoundR (room : Int) (s : SC) (r : RC) (put taken : List BC) (P j : Nat) : Prop := put.length + eN s ≤ P + 1 ∧ (j = 0 ∨ (RJ room s r taken ∧ mJ s put taken ≤ 3 * (P + 1) - (j - 1)))
section
variable {σ room : Int} {s s1 : SC} {r r2 : RC} {way : List PK} {put taken put1 taken2 : List BC}
theorem CloseR.no (h : SInv σ room s r way put taken) (hp : put.length ≤ 1000) (hE : putE s ≠ 0) : CloseR room s r put taken s put := ⟨close_no h hp hE, fun h => ⟨h, rfl⟩, Nat.le_refl _⟩
theorem CloseR.yes (h : SInv σ room s r way put taken) (hE : putE s = 0) : CloseR room s r put taken (putR s (lastB s)) (put ++ [⟨[], true, (put.length : Int)⟩]) := by
 refine ⟨close_yes, fun hj => close_keeps h hj hE, ?_⟩
 have he : s.ended = false := by
  unfold putE at hE
  split at hE
  · cases hE
  · next he => simpa using he
 have e1 : eN (putR s (lastB s)) = 0 := rfl
 have e2 : eN s = 1 := by unfold eN; rw [he]; rfl
 rw [e1, e2, List.length_append, List.length_singleton]; omega
theorem round_end {P j : Nat} (hj : RoundR room s r put taken P j) (hcr : CloseR room s r put taken s1 put1) (h1 : SInv σ room s1 r way put1 taken) (x1 : EX s1 r way) (h2 : SInv σ room (tickR s1) r2 (way ++ outP s1) put1 taken2) (x2 : EX (tickR s1) r2 (way ++ outP s1)) (hb2 : r2.buf = []) (hn : r2.next = ((outP s1).foldl hearR r).next) (hp : put1.length ≤ 1000) :
 SInv σ room (ackedR (tickR s1) (ackR r2)) r2 way put1 taken2 ∧ EX (ackedR (tickR s1) (ackR r2)) r2 way ∧ RoundR room (ackedR (tickR s1) (ackR r2)) r2 put1 taken2 P (j + 1) := by
 have hw := h2.says.wy (ackR r2) (List.mem_append_right _ (List.mem_singleton.2 rfl))
 have h3 := h2.acked hw
 have x3 := x2.acked (ackR r2)
 have hA := RJ.acks h2 x2 hb2 hp
 have he : eN (ackedR (tickR s1) (ackR r2)) = eN s1 := by rw [hA]; rfl
 have hP := hcr.2.2
 have hP0 := hj.1
 refine ⟨h3.less (fun p hp => List.mem_append_left _ hp), x3.less (fun p hp => List.mem_append_left _ hp), by rw [he]; omega, .inr ?_⟩
 rw [Nat.add_sub_cancel]
 rcases hj.2 with h0 | ⟨hJ, hm⟩
 · refine ⟨by rw [hA]; exact ⟨hb2, rfl, rfl⟩, ?_⟩
   have h4 := mJ_le h3
   have h5 : kJ (ackedR (tickR s1) (ackR r2)) put1 taken2 ≤ put1.length + eN (ackedR (tickR s1) (ackR r2)) := Nat.sub_le _ _
   rw [he] at h5
   omega
 · obtain ⟨hJ1, hm1⟩ := hcr.2.1 hJ
   obtain ⟨a1, a2⟩ := round_falls h1 x1 hJ1 hcr.1 hp h2 x2 hb2 hn
   exact ⟨a1, by omega⟩
theorem taken_nil (h : takE r ≠ 0) : r.buf = [] := by
 unfold takE at h
 cases hb : r.buf with
 | nil => rfl
 | cons b l => rw [hb] at h; exact absurd rfl h
theorem taken_len (h : takE r = 0) : (takR r).buf.length + 1 = r.buf.length := by
 unfold takE at h
 unfold takR
 cases hb : r.buf with
 | nil => rw [hb] at h; cases h
 | cons b l => rfl
end
/-- a pair behind j rounds -/
def EndR (B0 g : Nat) (σ room : Int) (P j : Nat) (w0 wr : World) : Prop :=
 Below B0 w0 wr ∧ ∃ s r way put taken, PR B0 g wr s r way put taken ∧ way.length ≤ 1000 ∧ SInv σ room s r way put taken ∧ EX s r way ∧ RoundR room s r put taken P j
set_option maxRecDepth 100000 in
set_option maxHeartbeats 16000000 in
theorem ends_law (a b : Int) (DA : Option Addr) (m dc : Nat) (l : List DC) (w : World) (hl : LD4.rd w AllB DA m l) (hm : m ≤ 9223372036854775807) :
 Calls Try.prog 9 #[.agg #[.int .i64 a, .int .i64 b], .slice DA m dc] w fun e w' => e = .returned (.bool true) ∧ Below w.heap.size w w' := by
 have q1 := bl_al (Below.refl w.heap.size w) (.cells #[.int .i64 a, .int .i64 b] 83)
 have HN1 := Lib.hid (Blk.new w 83 #[.int .i64 a, .int .i64 b])
 have HL1 := Lib.hid (Lay.rd_weak (G := fun k => k < w.heap.size) (fun _ _ h => h) hl)
 have HQ1 := Lib.hid q1
 clear q1 hl
 go_enter Try.func9, Try.ntmps9
 go_wp2_with fail
 generalize w.alloc (.cells #[.int .i64 a, .int .i64 b] 83) = w1 at *
 refine (wakes_any w1).mono ?_
 rintro e w2 ⟨rfl, q2⟩
 have HN2 := Lib.hid (HN1.out.ca q2)
 have HQ2 := Lib.hid (bl_ca HQ1.out q2)
 have x0 := HN2.out.cell 0
 have x1 := HN2.out.cell 1
 clear q2
 go_upto_region 3 with fail
 go_wp2_with fail
 generalize hsg : max a 0 % 4294967296 % 2147483647 + 1 = σ at *
 generalize hrm : max b 0 % 8 + 1 = room at *
 have hroom : roomB σ room = true := by
  unfold roomB sesB
  simp only [Bool.and_eq_true, decide_eq_true_eq]
  omega
 clear hsg hrm
 refine (begin_any σ room w2 hroom).mono ?_
 rintro e w3 ⟨g, rfl, q3, hPM⟩
 have HS3 := Lib.hid (show SafeR w2.heap.size g σ room 0 0 w2 w3 from ⟨q3, _, _, _, _, _, _, _, _, _, _, _, _, _, _, _, _, _, _, _, _, _, _, _, hPM, SInv.begin_ hroom, EX.begin_ hroom, Nat.le_refl _, Nat.le_refl _⟩)
 have HL2 := Lib.hid (Lay.rd_below HL1.out HQ2.out)
 have hw2 : w.heap.size < w2.heap.size := HN2.out.lt
 clear x0 x1 HN1 HN2 HL1 HQ1 hPM q3 hroom
 obtain ⟨B0, hB0⟩ : ∃ B0, B0 = w2.heap.size := ⟨_, rfl⟩
 rw [← hB0] at HS3
 have HB0 := Lib.hid hB0
 have hwB : w.heap.size < B0 := by omega
 clear hB0
 go_upto_block 0 with fail
 go_cut [] (fun wx => SafeR B0 g σ room 640 80 w2 wx)
 case first =>
  go_wp2_with fail
  go_loopg [41] m (fun gk a wr => ∃ i : Nat, i + gk = m ∧ i ≤ 80 ∧ a = .int .i64 i ∧ SafeR B0 g σ room (8 * i) i w2 wr)
  case atStart => exact ⟨0, by omega, by omega, rfl, HS3.out.1, by obtain ⟨_, s, r, way, put, taken, A, n, c, A2, n2, c2, A3, n3, c3, A4, n4, c4, A5, n5, c5, A6, n6, c6, h1, h2, h3, h4, h5⟩ := HS3.out; exact ⟨s, r, way, put, taken, A, n, c, A2, n2, c2, A3, n3, c3, A4, n4, c4, A5, n5, c5, A6, n6, c6, h1, h2, h3, by omega, by omega⟩⟩
  case round =>
   obtain ⟨i, hig, hi80, rfl, hsf⟩ := hrel
   have HSF := Lib.hid hsf
   by_cases hlt : i < m
   · have hi1 : (i : Int) < (m : Int) := by omega
     obtain ⟨hbw, s, r, way, put, taken, A, n, c, A2, n2, c2, A3, n3, c3, A4, n4, c4, A5, n5, c5, A6, n6, c6, hP, hI, hX, hn4, hn5⟩ := hsf
     have hbw2 : Below w.heap.size w2 wr := hbw.mono (by omega)
     have hlr : LD4.rd wr (fun k => k < w.heap.size) DA m l := Lay.rd_keep (fun b hb _ => hbw2.block b hb) HL2.out
     obtain ⟨ad, d, R, rn, rc, rfl, hax, hab, sp⟩ := LD4_at hlr hlt
     have e0 := sp.c0
     have e1 := sp.c1
     have e2 := sp.c2
     have e3 := sp.c3
     have HROW := Lib.hid sp.rd
     have hrn : rn ≤ rc ∧ rc ≤ 9223372036854775807 := ⟨sp.nc, sp.cm⟩
     have HP := Lib.hid hP
     have HI := Lib.hid hI
     have HX := Lib.hid hX
     have HBW := Lib.hid hbw
     have q4 := bl_al (Below.refl wr.heap.size wr) (.cells #[.int .i64 d.kind, .int .i64 d.pick, .bool d.stays, .slice R rn rc] 91)
     have HD5 := Lib.hid (Blk.new wr 91 #[.int .i64 d.kind, .int .i64 d.pick, .bool d.stays, .slice R rn rc])
     have hgB := HP.out.g0
     have hgw : g < wr.heap.size := HP.out.blk.lt
     have HQ4 := Lib.hid q4
     clear hax sp hlr hP hI hX hbw hbw2 q4
     by_cases hie : i = 80
     · have hi2 : ((i : Int) == 80) = true := by simp; omega
       clear hie
       go_wp2_with fail
       go_meet
       exact ⟨HBW.out.trans (HQ4.out.mono (by omega)), s, r, way, put, taken, A, n, c, A2, n2, c2, A3, n3, c3, A4, n4, c4, A5, n5, c5, A6, n6, c6, HP.out.below HQ4.out, HI.out, HX.out, by omega, by omega⟩
     · have hi2 : ((i : Int) == 80) = false := by simp; omega
       have hi3 : i < 80 := by omega
       clear hie hi80
       go_upto_region 10 with fail
       clear e0 e1 e2 e3
       generalize wr.alloc (.cells #[.int .i64 d.kind, .int .i64 d.pick, .bool d.stays, .slice R rn rc] 91) = w5 at *
       have HP5 := Lib.hid (HP.out.below HQ4.out)
       have hrow5 : LV.rd w5 (PF w5 g A4 A5 A6) R rn d.row := by
        obtain ⟨b4, b5, b6⟩ := HP5.out.base4
        exact Lay.rd_weak (fun b hb hl => ⟨hl, by omega, fun e => by have := (b4 b e).1; omega, fun e => by have := (b5 b e).1; omega, fun e => by have := (b6 b e).1; omega⟩) (Lay.rd_below HROW.out HQ4.out)
       have HRW5 := Lib.hid hrow5
       have hB5 : B0 ≤ w5.heap.size := Nat.le_trans (by omega) HQ4.out.size
       have HB5 := Lib.hid (HBW.out.trans (HQ4.out.mono (by omega)))
       have d0 := HD5.out.cell 0
       have d1 := HD5.out.cell 1
       have d2 := HD5.out.cell 2
       have d3 := HD5.out.cell 3
       clear HROW HP HBW HQ4 hrow5 HSF
       go_wp2_with fail
       refine (does_any B0 g w5 σ room s r way put taken A n c A2 n2 c2 A3 n3 c3 A4 n4 c4 A5 n5 c5 A6 n6 c6 d.kind d.pick d.stays d.row R rn rc HP5.out HI.out HX.out HRW5.out hrn hB5 (by omega) (by omega)).mono ?_
       rintro e w7 ⟨rfl, q7, s', r', way2, put', taken', B1, l1, f1, B2, l2, f2, B3, l3, f3, B4, l4, f4, B5, l5, f5, B6, l6, f6, hP7, hI7, hX7, hm4, hm5⟩
       have HP7 := Lib.hid hP7
       have HI7 := Lib.hid hI7
       have HX7 := Lib.hid hX7
       have HB7 := Lib.hid (HB5.out.trans q7)
       clear d0 d1 d2 d3 hP7 hI7 hX7 q7 HB5 HP5 HD5 HI HX HRW5
       go_wp2_with fail
       go_roundg (gk - 1)
       · exact ⟨i + 1, by omega, by omega, by go_num, HB7.out, s', r', way2, put', taken', B1, l1, f1, B2, l2, f2, B3, l3, f3, B4, l4, f4, B5, l5, f5, B6, l6, f6, HP7.out, HI7.out, HX7.out, by omega, by omega⟩
       · omega
   · obtain rfl : i = m := by omega
     have hi1 : (i : Int) ≤ (i : Int) := by omega
     clear hsf
     go_wp2_with fail
     go_meet
     obtain ⟨h0, s, r, way, put, taken, A, n, c, A2, n2, c2, A3, n3, c3, A4, n4, c4, A5, n5, c5, A6, n6, c6, h1, h2, h3, h4, h5⟩ := HSF.out
     exact ⟨h0, s, r, way, put, taken, A, n, c, A2, n2, c2, A3, n3, c3, A4, n4, c4, A5, n5, c5, A6, n6, c6, h1, h2, h3, by omega, by omega⟩
 case rest =>
 clear HS3 HL2
 obtain ⟨hbw, s, r, way, put, taken, A, n, c, A2, n2, c2, A3, n3, c3, A4, n4, c4, A5, n5, c5, A6, n6, c6, hP, hI, hX, hn4, hn5⟩ := hcut
 obtain ⟨P, hPd⟩ : ∃ P, P = n5 := ⟨_, rfl⟩
 have y14 := hP.blk.cell 14
 rw [← hPd] at y14
 have hP80 : P ≤ 80 := by omega
 have HS4 := Lib.hid (show EndR B0 g σ room P 0 w2 wc from ⟨hbw, s, r, way, put, taken, hP.pr, by rw [Lay.ownO_len hP.wy]; omega, hI, hX, by rw [Lay.ownO_len hP.pt, hPd]; unfold eN; split <;> omega, .inl rfl⟩)
 clear hPd hbw hP hI hX hn4 hn5
 obtain ⟨T, hT9⟩ : ∃ T : Nat, ((P : Int) + 3) * 5 = (T : Int) := ⟨(P + 3) * 5, by omega⟩
 go_upto_block 2 with fail
 have hTT : T = (P + 3) * 5 := by omega
 have HTT := Lib.hid hTT
 have hT5 : T ≤ 500 := by omega
 clear y14 hT9 hTT
 go_wp2_with fail
 go_loopg [60] T (fun gk a wr => ∃ j : Nat, j + gk = T ∧ a = .int .i64 j ∧ EndR B0 g σ room P j w2 wr)
 case atStart => exact ⟨0, by omega, rfl, HS4.out⟩
 case round =>
  clear HS4
  obtain ⟨j, hjg, rfl, hE⟩ := hrel
  obtain ⟨hbw, s, r, way, put, taken, ⟨A, n, c, A2, n2, c2, A3, n3, c3, A4, n4, c4, A5, n5, c5, A6, n6, c6, hP⟩, hw9, hI, hX, hR⟩ := hE
  obtain ⟨g1, rfl⟩ : ∃ g1, g1 = gk := ⟨_, rfl⟩
  obtain ⟨w4, rfl⟩ : ∃ x, x = wr := ⟨_, rfl⟩
  have hput : put.length ≤ 81 := by have := hR.1; omega
  have hn5 : n5 ≤ 81 := by have := Lay.ownO_len hP.pt; omega
  have hn6 : n6 ≤ 81 := by
   have h1 := Lay.ownO_len hP.tk
   have h2 := hI.tn.2
   omega
  have hcq := hP.cq
  have hca := hP.ca
  have hcb := hP.cb
  have hb0 : 0 ≤ s.base := by have := hI.sb.b1; omega
  have hgB := hP.g0
  have hgl : g < w4.heap.size := hP.blk.lt
  have HP4 := Lib.hid hP
  have HI4 := Lib.hid hI
  have HX4 := Lib.hid hX
  have HR4 := Lib.hid hR
  have HB4 := Lib.hid hbw
  have HW4 := Lib.hid hw9
  have HSB := Lib.hid ((sp_iff s).2 hI.sb)
  clear hP hI hX hR hbw hw9
  by_cases hlt : j < T
  · have hj1 : (j : Int) < (T : Int) := by omega
    have y0 := HP4.out.blk.cell 0
    have y1 := HP4.out.blk.cell 1
    have y2 := HP4.out.blk.cell 2
    have y3 := HP4.out.blk.cell 3
    have y4 := HP4.out.blk.cell 4
    have y5 := HP4.out.blk.cell 5
    have y6 := HP4.out.blk.cell 6
    go_wp2_with fail
    refine (close_any (PF w4 g A4 A5 A6) s A n c w4 (fun k hk => hk.1) HP4.out.q (by omega) hb0).mono ?_
    rintro e w3 ⟨T0, A', n', c', N, rfl, ho⟩
    obtain ⟨q4, ho⟩ := HP4.out.sends ho HSB.out
    clear y0 y1 y2 y3 y4 y5 y6
    obtain ⟨E, hE⟩ : ∃ E, E = putE s := ⟨_, rfl⟩
    rw [← hE] at ho
    have HE := Lib.hid hE
    clear hE
    obtain ⟨T, A7, n7, c7, hC, hcs⟩ : ∃ (T : SC) (A7 : Option Addr) (n7 c7 : Nat), T0.cells A' n' c' = T.cells A7 n7 c7 ∧ ((E ≠ 0 ∧ N = E) ∨ (E = 0 ∧ N = 0 ∧ T = putR s (lastB s) ∧ (n7 ≤ c7 ∧ c7 ≤ 9223372036854775807) ∧ LB3.rd w3 (PF w3 g A4 A5 A6) A7 n7 T.q)) := by
     rcases ho with ⟨h0, hC, hN⟩ | ⟨h0, hN, A7, n7, c7, hC, hcap, hrd⟩
     · exact ⟨zeroS, none, 0, 0, hC, .inl ⟨h0, hN⟩⟩
     · exact ⟨_, A7, n7, c7, hC, .inr ⟨h0, hN, rfl, hcap, hrd⟩⟩
    rw [hC]
    have q5 := bl_al q4 (.cells (T.cells A7 n7 c7) 29)
    have HP5 := Lib.hid (HP4.out.below q5)
    have HQ5 := Lib.hid (HB4.out.trans (q5.mono (by omega)))
    have HB5 := Lib.hid (show B0 ≤ (w3.alloc (.cells (T.cells A7 n7 c7) 29)).heap.size from Nat.le_trans (by omega) q5.size)
    have HV5 := Lib.hid (Blk.new w3 29 (T.cells A7 n7 c7))
    have HQ6 := Lib.hid (bl_al (Below.refl w3.heap.size w3) (.cells (T.cells A7 n7 c7) 29))
    have HVN := Lib.hid (show ob A5 ≠ some w3.heap.size from fun e => by have := (HP4.out.base4.2.1 _ e).2; have := q4.size; omega)
    have HW5 := Lib.hid (show IntKind.u64.wrap (n5 : Int) = (n5 : Int) from u64_in (by omega) (by omega))
    have HCS := Lib.hid hcs
    clear hC q4 q5 ho hcs
    go_upto_if 71 with fail
    go_cut [] (fun wx => ∃ (s1 : SC) (put1 : List BC), Hid (Below B0 w2 wx) ∧ Hid (PR B0 g wx s1 r way put1 taken) ∧ Hid (SInv σ room s1 r way put1 taken) ∧ Hid (EX s1 r way) ∧ Hid (CloseR room s r put taken s1 put1))
    case first =>
     rcases HCS.out with ⟨h0, hN⟩ | ⟨h0, hN, hT, hcap, hrd⟩
     · have hN2 : (N == 0) = false := by simp; omega
       have HE0 := Lib.hid h0
       clear h0 hN HCS
       go_wp2_with fail
       go_meet
       exact ⟨s, put, HQ5, Lib.hid HP5.out.pr, HI4, HX4, Lib.hid (CloseR.no HI4.out (by omega) (by rw [← HE.out]; exact HE0.out))⟩
     · have HT := Lib.hid hT
       have HE0 := Lib.hid h0
       have HRD5 := Lib.hid (Lay.rd_weak (fun _ hb _ => PF.up HQ6.out.size hb) (Lay.rd_below hrd HQ6.out))
       subst hN
       clear hT h0 hrd HCS
       go_upto_region 17 with fail
       generalize w3.alloc (.cells (T.cells A7 n7 c7) 29) = w5 at *
       refine wp_region_ps (S := SeqN [14, 15, 18, 21] (fun z mm w' => match z with | 0 => Below w5.heap.size w5 w' | 1 => Below w5.heap.size w5 w' ∧ ∃ gb, mm 14 = .slice (some ⟨gb, 0, none⟩) 1 1 ∧ w5.heap.size ≤ gb ∧ Blk w' gb 45 #[.slice none 0 0, .bool (true), .int .u64 ((n5 : Int))] | 2 => ∃ X x, mm 15 = .slice X (n5 + 1) x ∧ AppY LB3 45 w5 B0 g A5 A4 A5 A6 (put ++ [⟨[], true, (n5 : Int)⟩]) X (n5 + 1) x w' | 3 => ∃ X x wq, mm 15 = .slice X (n5 + 1) x ∧ AppY LB3 45 w5 B0 g A5 A4 A5 A6 (put ++ [⟨[], true, (n5 : Int)⟩]) X (n5 + 1) x wq ∧ wq.grownBy w' (some g) ∧ Blk w' g 93 (pairC T r A7 n7 c7 A2 n2 c2 A3 n3 c3 (.slice A4 n4 c4) (.slice A5 n5 c5) (.slice A6 n6 c6)) | _ => ∃ X x wq, mm 15 = .slice X (n5 + 1) x ∧ AppY LB3 45 w5 B0 g A5 A4 A5 A6 (put ++ [⟨[], true, (n5 : Int)⟩]) X (n5 + 1) x wq ∧ wq.grownBy w' (some g) ∧ Blk w' g 93 (pairC T r A7 n7 c7 A2 n2 c2 A3 n3 c3 (.slice A4 n4 c4) (.slice X (n5 + 1) x) (.slice A6 n6 c6)))) (by kernel_rfl) ?spswg1 ?ppswg1
       case spswg1 =>
        exact SeqN.start (by decide) (Below.refl _ _).drew
       refine Pz 0 (some 72) (.pointer (some ⟨g, 0, none⟩)) rfl rfl (by exact StepS.pure (SeqN.pass (by decide)) rfl fun _ => rfl) ?_
       try simp only [Act.put, sA, sZ, sS]
       refine Pz 1 (some 73) (.pointer (some ⟨g, 0, none⟩)) rfl rfl (by exact StepS.pure (SeqN.pass (by decide)) rfl fun _ => rfl) ?_
       try simp only [Act.put, sA, sZ, sS]
       refine Pz 2 (some 74) (.agg #[.int .u32 (T.ses), .int .u64 (T.base), .slice A7 n7 c7, .int .u64 (T.sent), .int .u64 (T.lim), .int .i64 (T.timer), .bool (T.ended)]) rfl rfl ?ywg1_4 ?rwg1_4
       case ywg1_4 =>
        refine StepS.read [] (by kernel_rfl) (SeqN.pass (by decide)) (by rfl) (fun L9 m9 w9 hSh hAt hDn hS => ?_)
        have hT : Chg (fun k => ob A5 = some k) w5 w9 := SeqN.le [14, 15] [18, 21] (T := fun w9 => Chg (fun k => ob A5 = some k) w5 w9) (post_no hSh hDn (by kernel_rfl)) (fun z _ _ hz h => by match z, hz, h with | 0, _, h => exact Chg.of_below h | 1, _, h => exact Chg.of_below h.1 | 2, _, h => exact (let ⟨_, _, _, hy⟩ := h; hy.ch) | _ + 3, hz, _ => exact absurd hz (by simp)) hS
        have x0 : w9.cell? ⟨w3.heap.size, 0, none⟩ = some (.int .u32 (T.ses)) := (HV5.out.chg hT HVN.out).cell 0
        have x1 : w9.cell? ⟨w3.heap.size, 1, none⟩ = some (.int .u64 (T.base)) := (HV5.out.chg hT HVN.out).cell 1
        have x2 : w9.cell? ⟨w3.heap.size, 2, none⟩ = some (.slice A7 n7 c7) := (HV5.out.chg hT HVN.out).cell 2
        have x3 : w9.cell? ⟨w3.heap.size, 3, none⟩ = some (.int .u64 (T.sent)) := (HV5.out.chg hT HVN.out).cell 3
        have x4 : w9.cell? ⟨w3.heap.size, 4, none⟩ = some (.int .u64 (T.lim)) := (HV5.out.chg hT HVN.out).cell 4
        have x5 : w9.cell? ⟨w3.heap.size, 5, none⟩ = some (.int .i64 (T.timer)) := (HV5.out.chg hT HVN.out).cell 5
        have x6 : w9.cell? ⟨w3.heap.size, 6, none⟩ = some (.bool (T.ended)) := (HV5.out.chg hT HVN.out).cell 6
        clear hT hS
        go_simp
        try rfl
       try simp only [Act.put, sA, sZ, sS]
       refine Pz 3 (some 75) (.pointer (some ⟨g, 0, none⟩)) rfl rfl (by exact StepS.pure (SeqN.pass (by decide)) rfl fun _ => rfl) ?_
       try simp only [Act.put, sA, sZ, sS]
       refine Pz 4 (some 76) (.pointer (some ⟨g, 0, none⟩)) rfl rfl (by exact StepS.pure (SeqN.pass (by decide)) rfl fun _ => by first | rfl | (go_simp; done) | (go_simp; rfl)) ?_
       try simp only [Act.put, sA, sZ, sS]
       refine Pz 5 (some 77) (.pointer (some ⟨g, 14, none⟩)) rfl rfl (by exact StepS.pure (SeqN.pass (by decide)) rfl fun _ => rfl) ?_
       try simp only [Act.put, sA, sZ, sS]
       refine Pz 6 (some 78) (.slice A5 n5 c5) rfl rfl ?ywg1_8 ?rwg1_8
       case ywg1_8 =>
        refine StepS.read [] (by kernel_rfl) (SeqN.pass (by decide)) (by rfl) (fun L9 m9 w9 hSh hAt hDn hS => ?_)
        have hT : Chg (fun k => ob A5 = some k) w5 w9 := SeqN.le [14, 15] [18, 21] (T := fun w9 => Chg (fun k => ob A5 = some k) w5 w9) (post_no hSh hDn (by kernel_rfl)) (fun z _ _ hz h => by match z, hz, h with | 0, _, h => exact Chg.of_below h | 1, _, h => exact Chg.of_below h.1 | 2, _, h => exact (let ⟨_, _, _, hy⟩ := h; hy.ch) | _ + 3, hz, _ => exact absurd hz (by simp)) hS
        have x0 : w9.cell? ⟨g, 14, none⟩ = some (.slice A5 n5 c5) := (HP5.out.blk.chg hT HP5.out.dg.2.1).cell 14
        clear hT hS
        go_simp
        try rfl
       try simp only [Act.put, sA, sZ, sS]
       refine Pz 7 (some 79) (.pointer (some ⟨g, 0, none⟩)) rfl rfl (by exact StepS.pure (SeqN.pass (by decide)) rfl fun _ => rfl) ?_
       try simp only [Act.put, sA, sZ, sS]
       refine Pz 8 (some 80) (.pointer (some ⟨g, 0, none⟩)) rfl rfl (by exact StepS.pure (SeqN.pass (by decide)) rfl fun _ => by first | rfl | (go_simp; done) | (go_simp; rfl)) ?_
       try simp only [Act.put, sA, sZ, sS]
       refine Pz 9 (some 81) (.pointer (some ⟨g, 14, none⟩)) rfl rfl (by exact StepS.pure (SeqN.pass (by decide)) rfl fun _ => rfl) ?_
       try simp only [Act.put, sA, sZ, sS]
       refine Pz 10 (some 82) (.slice A5 n5 c5) rfl rfl ?ywg1_12 ?rwg1_12
       case ywg1_12 =>
        refine StepS.read [] (by kernel_rfl) (SeqN.pass (by decide)) (by rfl) (fun L9 m9 w9 hSh hAt hDn hS => ?_)
        have hT : Chg (fun k => ob A5 = some k) w5 w9 := SeqN.le [14, 15] [18, 21] (T := fun w9 => Chg (fun k => ob A5 = some k) w5 w9) (post_no hSh hDn (by kernel_rfl)) (fun z _ _ hz h => by match z, hz, h with | 0, _, h => exact Chg.of_below h | 1, _, h => exact Chg.of_below h.1 | 2, _, h => exact (let ⟨_, _, _, hy⟩ := h; hy.ch) | _ + 3, hz, _ => exact absurd hz (by simp)) hS
        have x0 : w9.cell? ⟨g, 14, none⟩ = some (.slice A5 n5 c5) := (HP5.out.blk.chg hT HP5.out.dg.2.1).cell 14
        clear hT hS
        go_simp
        try rfl
       try simp only [Act.put, sA, sZ, sS]
       refine Pz 11 (some 83) (.int .i64 ((n5 : Int))) rfl rfl (by exact StepS.pure (SeqN.pass (by decide)) rfl fun _ => by first | rfl | (go_simp; done) | (go_simp; rfl)) ?_
       try simp only [Act.put, sA, sZ, sS]
       refine Pz 12 (some 84) (.int .u64 ((n5 : Int))) rfl rfl ?ywg1_14 ?rwg1_14
       case ywg1_14 =>
        refine StepS.pure (SeqN.pass (by decide)) (by rfl) (fun w9 => ?_)
        refine Eq.trans ?_ (congrArg (fun z => Result.ok (Next.value (Value.int .u64 z)) w9) HW5.out)
        first | rfl | (go_simp; done) | (go_simp; rfl)
       try simp only [Act.put, sA, sZ, sS]
       refine Pz 13 (some 85) (.agg #[.slice none 0 0, .bool (true), .int .u64 ((n5 : Int))]) rfl rfl (by exact StepS.pure (SeqN.pass (by decide)) rfl fun _ => by first | rfl | (go_simp; done) | (go_simp; rfl)) ?_
       try simp only [Act.put, sA, sZ, sS]
       refine Ps.one (k := 14) (d := some 86) rfl rfl (by kernel_rfl) (TurnS.value (V := fun v => ∃ gb, v = .slice (some ⟨gb, 0, none⟩) 1 1) [] (by kernel_rfl) (by rfl) (fun L9 m9 w9 hSh hAt hDn hS => ?cwg1_16)) (fun v14 hVv14 => ?rwg1_16)
       case cwg1_16 =>
        have hT := SeqN.at_ (m0 := m9) (m1 := m9) [] [15, 18, 21] hSh (fun d hd => by cases hd) hDn (by kernel_rfl) hS
        refine ⟨.slice (some ⟨w9.heap.size, 0, none⟩) 1 1, w9.alloc (.cells #[.slice none 0 0, .bool (true), .int .u64 ((n5 : Int))] 45), ?_, ⟨_, rfl⟩, SeqN.set_ (m0 := m9) (m1 := m9) [] [15, 18, 21] hSh (fun d hd => by cases hd) hDn (by kernel_rfl) (by decide) (by decide) ⟨bl_al hT _, _, upd_same _ _ _, hT.size, Blk.new _ _ _⟩⟩
        clear hT hS
        go_simp
       try simp only [Act.put, sA, sZ, sS]
       obtain ⟨gb, rfl⟩ := hVv14
       refine Ps.one (k := 15) (d := some 87) rfl rfl (by kernel_rfl) (TurnS.value (V := fun v => ∃ X x, v = .slice X (n5 + 1) x) [14] (by kernel_rfl) (by rfl) (fun L9 m9 w9 hSh hAt hDn hS => ?cwg1_17)) (fun v15 hVv15 => ?rwg1_17)
       case cwg1_17 =>
        obtain ⟨hT, gb2, hv, hg1, hg2⟩ := SeqN.at_ [14] [18, 21] hSh hAt hDn (by kernel_rfl) hS
        obtain rfl : gb = gb2 := by have h9 : Value.slice (some ⟨gb, 0, none⟩) 1 1 = .slice (some ⟨gb2, 0, none⟩) 1 1 := (hAt 14 (by simp)).2.symm.trans hv; simpa using h9
        have hone : LB3.rd w9 (PF w9 g A4 A5 A6) (some ⟨gb, 0, none⟩) 1 [⟨[], true, (n5 : Int)⟩] := rd_blk1 hg2 ⟨none, 0, 0, rfl, by omega, by omega, Lay.rd_nil _⟩ (HP5.out.fence hT.size (.inr hg1) hg2.lt)
        obtain ⟨X, x, w8, hrun, hy⟩ := HP5.out.app5 hT (d := 1) hone (by omega) HB5.out
        exact ⟨_, w8, exec_append (.tmp 78) (.tmp 86) 27 rfl rfl rfl hrun, ⟨X, x, rfl⟩, SeqN.set_ [14] [18, 21] hSh hAt hDn (by kernel_rfl) (by decide) (by decide) ⟨X, x, upd_same _ _ _, hy⟩⟩
       try simp only [Act.put, sA, sZ, sS]
       obtain ⟨X, x, rfl⟩ := hVv15
       refine Pz 16 (some 88) (.pointer (some ⟨g, 0, none⟩)) rfl rfl (by exact StepS.pure (SeqN.pass (by decide)) rfl fun _ => by first | rfl | (go_simp; done) | (go_simp; rfl)) ?_
       try simp only [Act.put, sA, sZ, sS]
       refine Pz 17 (some 89) (.pointer (some ⟨g, 0, none⟩)) rfl rfl (by exact StepS.pure (SeqN.pass (by decide)) rfl fun _ => rfl) ?_
       try simp only [Act.put, sA, sZ, sS]
       refine Pz 18 none undef rfl rfl ?ywg1_20 ?rwg1_20
       case ywg1_20 =>
        refine StepS.store [14, 15] (by kernel_rfl) (by rfl) (fun L9 m9 w9 hSh hAt hDn hS => ?_)
        obtain ⟨X2, x2, hv, hy⟩ := SeqN.at_ [14, 15] [21] hSh hAt hDn (by kernel_rfl) hS
        obtain ⟨rfl, rfl⟩ : X = X2 ∧ x = x2 := by have h9 : Value.slice X (n5 + 1) x = .slice X2 (n5 + 1) x2 := (hAt 15 (by simp)).2.symm.trans hv; simpa using h9
        have hbk := HP5.out.blk.chg hy.ch HP5.out.dg.2.1
        refine (exec_store_part (w := w9) 29 (.tmp 89) (.tmp 74) (by rfl) g 0 93 (pairC s r A n c A2 n2 c2 A3 n3 c3 (.slice A4 n4 c4) (.slice A5 n5 c5) (.slice A6 n6 c6)) (T.cells A7 n7 c7) (pairC T r A7 n7 c7 A2 n2 c2 A3 n3 c3 (.slice A4 n4 c4) (.slice A5 n5 c5) (.slice A6 n6 c6)) (by rfl) (by rfl) hbk (by simp) senderI (by simp [Value.oneCell']) (by rfl)).imp fun w7 hx => ⟨hx.1, SeqN.set_ [14, 15] [21] hSh hAt hDn (by kernel_rfl) (by decide) (by decide) ⟨X, x, w9, hv, hy, hx.2.2, hx.2.1⟩⟩
       try simp only [Act.put]
       refine Pz 19 (some 90) (.pointer (some ⟨g, 0, none⟩)) rfl rfl (by exact StepS.pure (SeqN.pass (by decide)) rfl fun _ => by first | rfl | (go_simp; done) | (go_simp; rfl)) ?_
       try simp only [Act.put, sA, sZ, sS]
       refine Pz 20 (some 91) (.pointer (some ⟨g, 14, none⟩)) rfl rfl (by exact StepS.pure (SeqN.pass (by decide)) rfl fun _ => rfl) ?_
       try simp only [Act.put, sA, sZ, sS]
       refine Pz 21 none undef rfl rfl ?ywg1_23 ?rwg1_23
       case ywg1_23 =>
        refine StepS.store [14, 15, 18] (by kernel_rfl) (by rfl) (fun L9 m9 w9 hSh hAt hDn hS => ?_)
        obtain ⟨X2, x2, wq, hv, hy, hg, hbk⟩ := SeqN.at_ [14, 15, 18] [] hSh hAt hDn (by kernel_rfl) hS
        obtain ⟨rfl, rfl⟩ : X = X2 ∧ x = x2 := by have h9 : Value.slice X (n5 + 1) x = .slice X2 (n5 + 1) x2 := (hAt 15 (by simp)).2.symm.trans hv; simpa using h9
        have hN2 : Blk (w9.setCell ⟨g, 14, none⟩ (.slice X (n5 + 1) x)) g 93 (pairC T r A7 n7 c7 A2 n2 c2 A3 n3 c3 (.slice A4 n4 c4) (.slice X (n5 + 1) x) (.slice A6 n6 c6)) := by simpa using hbk.set_ 14 (.slice X (n5 + 1) x)
        have hg2 : w9.grownBy (w9.setCell ⟨g, 14, none⟩ (.slice X (n5 + 1) x)) (some g) := only_setCell (World.grownBy.refl _ _) (.inl rfl) _
        have y9 : w9.cell? ⟨g, 14, none⟩ = some (.slice A5 n5 c5) := hbk.cell 14
        have fx : w9.frozen? ⟨g, 14, none⟩ = false := hbk.frozen 14
        refine ⟨w9.setCell ⟨g, 14, none⟩ (.slice X (n5 + 1) x), ?_, SeqN.set_ [14, 15, 18] [] hSh hAt hDn (by kernel_rfl) (by decide) (by decide) ⟨X, x, wq, hv, hy, (grown_two hg hg2), hN2⟩⟩
        clear hv hy hbk hN2 hg2 hS hg
        go_simp
       try simp only [Act.put]
       refine Ps.done (by kernel_rfl) (fun wg1 hS => ?_) _
       obtain ⟨X2, x2, wq, hv, hy, hg, hbk⟩ := SeqN.fin (by rfl) hS
       clear hS
       obtain ⟨rfl, rfl⟩ : X = X2 ∧ x = x2 := by have h9 : Value.slice X (n5 + 1) x = .slice X2 (n5 + 1) x2 := hv; simpa using h9
       clear hv
       have HY := Lib.hid hy
       have HG := Lib.hid hg
       have HBK := Lib.hid hbk
       clear hy hg hbk
       obtain ⟨w8, rfl⟩ : ∃ x, x = wg1 := ⟨_, rfl⟩
       go_wp2_with fail
       go_meet
       refine ⟨T, put ++ [⟨[], true, (n5 : Int)⟩], Lib.hid (HQ5.out.trans (HY.out.bel HP5.out.base4.2.1 HG.out HP5.out.g0 HB5.out)), Lib.hid (HP5.out.aput HY.out.ch HY.out.own HY.out.at_ HG.out HBK.out HRD5.out hcap HP5.out.ah HP5.out.ca HP5.out.bf HP5.out.cb).pr, ?_, ?_, ?_⟩
       · rw [HT.out, ← Lay.ownO_len HP5.out.pt]; exact Lib.hid (HI4.out.end_ok (by rw [← HE.out]; exact HE0.out))
       · rw [HT.out]; exact Lib.hid (HX4.out.puts _)
       · rw [HT.out, ← Lay.ownO_len HP5.out.pt]; exact Lib.hid (CloseR.yes HI4.out (by rw [← HE.out]; exact HE0.out))
    case rest =>
    clear HE HP5 HQ5 HB5 HV5 HQ6 HVN HW5 HCS HP4 HB4 HX4 HI4 HSB
    clear hcq hca hcb hb0 hn5 hn6
    obtain ⟨s1, put1, HB6, HPR6, HI6, HX6, HCR⟩ := hcut
    obtain ⟨A, n, c, A2, n2, c2, A3, n3, c3, A4, n4, c4, A5, n5, c5, A6, n6, c6, hP6⟩ := HPR6.out
    obtain ⟨w6, rfl⟩ : ∃ x, x = wc := ⟨_, rfl⟩
    have hput1 : put1.length ≤ 81 := by have h1 := HCR.out.2.2; have h2 := HR4.out.1; omega
    have hn5 : n5 ≤ 81 := by have := Lay.ownO_len hP6.pt; omega
    have hn6 : n6 ≤ 81 := by
     have h1 := Lay.ownO_len hP6.tk
     have h2 := HI6.out.tn.2
     omega
    have hcq := hP6.cq
    have hca := hP6.ca
    have hcb := hP6.cb
    have hb0 : 0 ≤ s1.base := by have := HI6.out.sb.b1; omega
    have hg6 : g < w6.heap.size := hP6.blk.lt
    have HP6 := Lib.hid hP6
    have HSB := Lib.hid ((sp_iff s1).2 HI6.out.sb)
    clear hP6 HPR6
    have y0 := HP6.out.blk.cell 0
    have y1 := HP6.out.blk.cell 1
    have y2 := HP6.out.blk.cell 2
    have y3 := HP6.out.blk.cell 3
    have y4 := HP6.out.blk.cell 4
    have y5 := HP6.out.blk.cell 5
    have y6 := HP6.out.blk.cell 6
    go_wp2_with fail
    refine (tick_any (PF w6 g A4 A5 A6) s1 A n c w6 (fun k hk => hk.1) HP6.out.q (by omega) hb0).mono ?_
    rintro e w7 ⟨T0, A', n', c', N, PA, pn, pc, rfl, ho, hto⟩
    obtain ⟨q7, ho⟩ := HP6.out.sends ho HSB.out
    clear y0 y1 y2 y3 y4 y5 y6
    rcases ho with ⟨h0, _⟩ | ⟨_, rfl, A7, n7, c7, hC, hcap, hrd⟩
    · exact absurd rfl h0
    unfold TickO at hto
    rw [if_pos HSB.out] at hto
    have hpl := Lay.own_caps hto
    have hout : LP7.rd w7 (PF w7 g A4 A5 A6) PA pn (outP s1) := Lay.own_rd hto (fun b h1 h2 => HP6.out.fence q7.size (.inr h1) h2) (fun b hb hl => HP6.out.fence q7.size (.inl hb) hl)
    obtain ⟨T, hT⟩ : ∃ T, T = tickR s1 := ⟨_, rfl⟩
    obtain ⟨out, hou⟩ : ∃ out, out = outP s1 := ⟨_, rfl⟩
    rw [← hT] at hC hrd
    rw [← hou] at hout
    have HTS := Lib.hid (And.intro hT hou)
    have hIT := HI6.out.tick
    have hXT := HX6.out.tick
    rw [← hT, ← hou] at hIT hXT
    have HIT := Lib.hid hIT
    have HXT := Lib.hid hXT
    rw [hC]
    have q9 := bl_al (Below.refl w7.heap.size w7) (.cells (T.cells A7 n7 c7) 29)
    have q8 := bl_al q7 (.cells (T.cells A7 n7 c7) 29)
    have HP9 := Lib.hid (HP6.out.below q8)
    have HB9 := Lib.hid (HB6.out.trans (q8.mono (by omega)))
    have HV9 := Lib.hid (Blk.new w7 29 (T.cells A7 n7 c7))
    have HRD9 := Lib.hid (Lay.rd_weak (fun _ hb _ => PF.up q9.size hb) (Lay.rd_below hrd q9))
    have HOUT9 := Lib.hid (Lay.rd_weak (fun _ hb _ => PF.up q9.size hb) (Lay.rd_below hout q9))
    have hg9 : g < w7.heap.size := Nat.lt_of_lt_of_le hg6 q7.size
    have hs9 := q8.size
    clear hT hou hIT hXT hC q7 q8 q9 hrd hout hto HP6 HB6
    go_upto_region 21 with fail
    generalize w7.alloc (.cells (T.cells A7 n7 c7) 29) = wt at *
    refine wp_region_ps0 .text (S := SeqN [4] (fun z mm w' => match z with | 0 => w' = wt | _ => wt.grownBy w' (some g) ∧ Blk w' g 93 (pairC T r A7 n7 c7 A2 n2 c2 A3 n3 c3 (.slice A4 n4 c4) (.slice A5 n5 c5) (.slice A6 n6 c6)))) (by kernel_rfl) ?spswg41 ?ppswg41
    case spswg41 =>
     exact SeqN.start (by decide) rfl
    refine Pz 0 (some 103) (.pointer (some ⟨g, 0, none⟩)) rfl rfl (by exact StepS.pure (SeqN.pass (by decide)) rfl fun _ => rfl) ?_
    try simp only [Act.put, sA, sZ, sS]
    refine Pz 1 (some 104) (.agg #[.int .u32 (T.ses), .int .u64 (T.base), .slice A7 n7 c7, .int .u64 (T.sent), .int .u64 (T.lim), .int .i64 (T.timer), .bool (T.ended)]) rfl rfl ?ywg41_43 ?rwg41_43
    case ywg41_43 =>
     refine StepS.read [] (by kernel_rfl) (SeqN.pass (by decide)) (by rfl) (fun L9 m9 w9 hSh hAt hDn hS => ?_)
     have hT : Below wt.heap.size wt w9 := by rw [show w9 = wt from SeqN.le [] [4] (T := fun w' => w' = wt) (post_no hSh hDn (by kernel_rfl)) (fun z _ _ hz h => by match z, hz, h with | 0, _, h => exact h | _ + 1, hz, _ => exact absurd hz (by simp)) hS]; exact Below.refl _ _
     have x0 : w9.cell? ⟨w7.heap.size, 0, none⟩ = some (.int .u32 (T.ses)) := (HV9.out.ca hT).cell 0
     have x1 : w9.cell? ⟨w7.heap.size, 1, none⟩ = some (.int .u64 (T.base)) := (HV9.out.ca hT).cell 1
     have x2 : w9.cell? ⟨w7.heap.size, 2, none⟩ = some (.slice A7 n7 c7) := (HV9.out.ca hT).cell 2
     have x3 : w9.cell? ⟨w7.heap.size, 3, none⟩ = some (.int .u64 (T.sent)) := (HV9.out.ca hT).cell 3
     have x4 : w9.cell? ⟨w7.heap.size, 4, none⟩ = some (.int .u64 (T.lim)) := (HV9.out.ca hT).cell 4
     have x5 : w9.cell? ⟨w7.heap.size, 5, none⟩ = some (.int .i64 (T.timer)) := (HV9.out.ca hT).cell 5
     have x6 : w9.cell? ⟨w7.heap.size, 6, none⟩ = some (.bool (T.ended)) := (HV9.out.ca hT).cell 6
     clear hT hS
     go_simp
     try rfl
    try simp only [Act.put, sA, sZ, sS]
    refine Pz 2 (some 105) (.pointer (some ⟨g, 0, none⟩)) rfl rfl (by exact StepS.pure (SeqN.pass (by decide)) rfl fun _ => by first | rfl | (go_simp; done) | (go_simp; rfl)) ?_
    try simp only [Act.put, sA, sZ, sS]
    refine Pz 3 (some 106) (.pointer (some ⟨g, 0, none⟩)) rfl rfl (by exact StepS.pure (SeqN.pass (by decide)) rfl fun _ => rfl) ?_
    try simp only [Act.put, sA, sZ, sS]
    refine Pz 4 none undef rfl rfl ?ywg41_46 ?rwg41_46
    case ywg41_46 =>
     refine StepS.store [] (by kernel_rfl) (by rfl) (fun L9 m9 w9 hSh hAt hDn hS => ?_)
     obtain rfl : w9 = wt := SeqN.at_ (m0 := m9) (m1 := m9) [] [] hSh (fun d hd => by cases hd) hDn (by kernel_rfl) hS
     refine (exec_store_part (w := w9) 29 (.tmp 106) (.tmp 104) (by rfl) g 0 93 (pairC s1 r A n c A2 n2 c2 A3 n3 c3 (.slice A4 n4 c4) (.slice A5 n5 c5) (.slice A6 n6 c6)) (T.cells A7 n7 c7) (pairC T r A7 n7 c7 A2 n2 c2 A3 n3 c3 (.slice A4 n4 c4) (.slice A5 n5 c5) (.slice A6 n6 c6)) (by rfl) (by rfl) HP9.out.blk (by simp) senderI (by simp [Value.oneCell']) (by rfl)).imp fun w7x hx => ⟨hx.1, SeqN.set_ (m0 := m9) (m1 := m9) [] [] hSh (fun d hd => by cases hd) hDn (by kernel_rfl) (by decide) (by decide) ⟨hx.2.2, hx.2.1⟩⟩
    try simp only [Act.put]
    refine Ps.done (by kernel_rfl) (fun wg41 hS => ?_) _
    obtain ⟨hg10, hb10⟩ := SeqN.fin (by rfl) hS
    clear hS
    obtain ⟨w10, rfl⟩ : ∃ x, x = wg41 := ⟨_, rfl⟩
    have HP10 := Lib.hid (HP9.out.stores hg10 hb10 HRD9.out hcap HP9.out.ah HP9.out.ca HP9.out.bf HP9.out.cb)
    have HOUT10 := Lib.hid (show LP7.rd w10 (PF w10 g A4 A5 A6) PA pn out from Lay.rd_weak (fun _ hb _ => PF.up hg10.size hb) (Lay.rd_keep (fun b hb hl => hg10.block b hl (fun e => hb.2.1 (Option.some.inj e))) HOUT9.out))
    have HB10 := Lib.hid (HB9.out.trans (Chg.bel (X := fun k => k = g) (Below.refl B0 wt) ((Chg.refl _ wt).grown hg10 (fun k e => .inl (Option.some.inj e).symm)) (fun b _ hx => by rw [hx]; exact hgB) (by omega)))
    clear hg10 hb10 HP9 HOUT9 HB9 HV9 HRD9 hcap hcq hca hcb
    go_upto_block 4 with fail
    go_cut [] (fun wx => ∃ (r1 : RC) (B1 : Option Addr) (l1 f1 : Nat) (B2 : Option Addr) (l2 f2 : Nat) (B3 : Option Addr) (l3 f3 : Nat), Hid (Below B0 w2 wx) ∧ Hid (PM B0 g wx T r1 way put1 taken B1 l1 f1 B2 l2 f2 B3 l3 f3 A4 n4 c4 A5 n5 c5 A6 n6 c6) ∧ Hid (r1 = out.foldl hearR r))
    case first =>
     go_wp2_with fail
     go_loopg [109] pn (fun gk a wr => ∃ i : Nat, i + gk = pn ∧ a = .int .i64 i ∧ ∃ (r1 : RC) (B1 : Option Addr) (l1 f1 : Nat) (B2 : Option Addr) (l2 f2 : Nat) (B3 : Option Addr) (l3 f3 : Nat), Below B0 w2 wr ∧ PM B0 g wr T r1 way put1 taken B1 l1 f1 B2 l2 f2 B3 l3 f3 A4 n4 c4 A5 n5 c5 A6 n6 c6 ∧ r1 = (out.take i).foldl hearR r ∧ LP7.rd wr (PF wr g A4 A5 A6) PA pn out)
     case atStart => exact ⟨0, by omega, rfl, r, _, _, _, _, _, _, _, _, _, HB10.out, HP10.out, rfl, HOUT10.out⟩
     case round =>
      obtain ⟨i, hig, rfl, r1, B1, l1, f1, B2, l2, f2, B3, l3, f3, hbw, hP, hr1, hou⟩ := hrel
      by_cases hlt2 : i < pn
      · have hi1 : (i : Int) < (pn : Int) := by omega
        obtain ⟨ad, z, Bz, kz, cz, rfl, hax, hab, sp⟩ := LP7_at hou hlt2
        have x0 := sp.c0
        have x1 := sp.c1
        have x2 := sp.c2
        have x3 := sp.c3
        have x4 := sp.c4
        have x5 := sp.c5
        have x6 := sp.c6
        have hzc : kz ≤ cz ∧ cz ≤ 9223372036854775807 := ⟨sp.nc, sp.cm⟩
        have HRZ := Lib.hid sp.rd
        have hzm : z ∈ out := List.mem_of_getElem? hax
        have hzk : z.kind = 1 := (HI6.out.out z (by rw [← HTS.out.2]; exact hzm)).2.1
        obtain ⟨hi9, hx9, _⟩ := hears_all (out.take i) HIT.out HXT.out (fun p hp => List.mem_append_right _ (List.mem_of_mem_take hp))
        rw [← hr1] at hi9 hx9
        have hfold : hearR r1 z = (out.take (i + 1)).foldl hearR r := by
         rw [List.take_add_one, List.foldl_append, ← hr1, hax]; rfl
        have HSB1 := Lib.hid (And.intro ((sp_iff T).2 hi9.sb) ((rp_iff r1).2 hi9.rb))
        have HFO := Lib.hid hfold
        have HZK := Lib.hid hzk
        have HPw := Lib.hid hP
        have HBw := Lib.hid hbw
        have HOw := Lib.hid hou
        have q1 := bl_al (Below.refl wr.heap.size wr) (.cells (z.cells Bz kz cz) 47)
        have HQ1 := Lib.hid q1
        have HVw := Lib.hid (Blk.new wr 47 (z.cells Bz kz cz))
        have hgr : g < wr.heap.size := hP.blk.lt
        clear hfold hi9 hx9 hr1 hax sp hzm hzk hP hbw hou q1
        go_upto_region 25 with fail
        clear x0 x1 x2 x3 x4 x5 x6
        generalize wr.alloc (.cells (z.cells Bz kz cz) 47) = w11 at *
        have HP11 := Lib.hid (HPw.out.below HQ1.out)
        have HR11 := Lib.hid (Lay.rd_weak (fun _ hb _ => PF.up HQ1.out.size hb) (Lay.rd_below HRZ.out HQ1.out))
        have HO11 := Lib.hid (Lay.rd_weak (fun _ hb _ => PF.up HQ1.out.size hb) (Lay.rd_below HOw.out HQ1.out))
        have HB11 := Lib.hid (HBw.out.trans (HQ1.out.mono (by omega)))
        have hs11 := HQ1.out.size
        have v0 := HVw.out.cell 0
        have v1 := HVw.out.cell 1
        have v2 := HVw.out.cell 2
        have v3 := HVw.out.cell 3
        have v4 := HVw.out.cell 4
        have v5 := HVw.out.cell 5
        have v6 := HVw.out.cell 6
        clear HPw HRZ HOw HBw HQ1
        go_wp2_with fail
        refine (comes_chg B0 g w11 T r1 way put1 taken B1 l1 f1 B2 l2 f2 B3 l3 f3 A4 n4 c4 A5 n5 c5 A6 n6 c6 z Bz kz cz HP11.out HR11.out hzc.1 hzc.2 HSB1.out.1 HSB1.out.2).mono ?_
        rintro e w12 ⟨rfl, hch, C1, k1, d1, C2, k2, d2, C3, k3, d3, hPM⟩
        rw [acked_data HZK.out, HFO.out] at hPM
        have HPM := Lib.hid hPM
        have HO12 := Lib.hid (show LP7.rd w12 (PF w12 g A4 A5 A6) (some ad) pn out from Lay.rd_weak (fun _ hb _ => PF.up hch.size hb) (rd_chg HO11.out hch (fun b hb _ => hb.2.1)))
        have HB12 := Lib.hid (HB11.out.trans (Chg.bel (Below.refl B0 w11) hch (fun b _ hx => by rw [hx]; exact hgB) (by omega)))
        clear v0 v1 v2 v3 v4 v5 v6 hPM hch HP11 HR11 HO11 HB11 HVw
        go_wp2_with fail
        go_roundg (gk - 1)
        · exact ⟨i + 1, by omega, by go_num, _, C1, k1, d1, C2, k2, d2, C3, k3, d3, HB12.out, HPM.out, rfl, HO12.out⟩
        · omega
      · obtain rfl : i = pn := by omega
        have hi1 : (i : Int) ≤ (i : Int) := by omega
        have hol := Lay.rd_len hou
        rw [List.take_of_length_le (by omega)] at hr1
        have HPw := Lib.hid hP
        have HBw := Lib.hid hbw
        have HR1 := Lib.hid hr1
        clear hP hbw hr1 hou hol
        go_wp2_with fail
        go_meet
        exact ⟨r1, B1, l1, f1, B2, l2, f2, B3, l3, f3, HBw, HPw, HR1⟩
    case rest =>
    clear HP10 HB10 HOUT10
    obtain ⟨r1, A, n, c, A2, n2, c2, A3, n3, c3, HB11, HP11, HR1⟩ := hcut
    obtain ⟨w11, rfl⟩ : ∃ x, x = wc := ⟨_, rfl⟩
    obtain ⟨hi9, hx9, _⟩ := hears_all out HIT.out HXT.out (fun p hp => List.mem_append_right _ hp)
    rw [← HR1.out] at hi9 hx9
    have HI11 := Lib.hid hi9
    have HX11 := Lib.hid hx9
    clear hi9 hx9 HIT HXT HSB hb0
    obtain ⟨s, hsT⟩ : ∃ s, s = T := ⟨_, rfl⟩
    subst hsT
    go_upto_block 6 with fail
    go_cut [] (fun wx => ∃ (r2 : RC) (taken2 : List BC), Hid (Below B0 w2 wx) ∧ Hid (PR B0 g wx s r2 way put1 taken2) ∧ Hid (SInv σ room s r2 (way ++ out) put1 taken2) ∧ Hid (EX s r2 (way ++ out)) ∧ Hid (r2.buf = [] ∧ r2.next = r1.next))
    case first =>
     go_wp2_with fail
     go_loopg [118] 8 (fun gk a wr => ∃ i : Nat, i + gk = 8 ∧ a = .int .i64 i ∧ ∃ (r2 : RC) (taken2 : List BC), Below B0 w2 wr ∧ PR B0 g wr s r2 way put1 taken2 ∧ SInv σ room s r2 (way ++ out) put1 taken2 ∧ EX s r2 (way ++ out) ∧ r2.buf.length ≤ gk ∧ r2.next = r1.next)
     case atStart => exact ⟨0, by omega, rfl, r1, taken, HB11.out, HP11.out.pr, HI11.out, HX11.out, by have h1 := HI11.out.rb.ln; have h2 := HI11.out.rb.m2; omega, rfl⟩
     case round =>
      clear HP11 HB11 HI11 HX11
      obtain ⟨i, hig, rfl, r, taken, hbw, ⟨A, n, c, A2, n2, c2, A3, n3, c3, A4, n4, c4, A5, n5, c5, A6, n6, c6, hP⟩, hI, hX, hlen, hnx⟩ := hrel
      have HBw := Lib.hid hbw
      have HPw := Lib.hid hP
      have HIw := Lib.hid hI
      have HXw := Lib.hid hX
      have HLN := Lib.hid (And.intro hlen hnx)
      clear hbw hP hI hX hlen hnx
      by_cases hlt2 : i < 8
      · have hi1 : (i : Int) < 8 := by omega
        have HRB := Lib.hid ((rp_iff r).2 HIw.out.rb)
        have hcq := HPw.out.cq
        have hca := HPw.out.ca
        have hcb := HPw.out.cb
        have hn6 : n6 ≤ 81 := by
         have h1 := Lay.ownO_len HPw.out.tk
         have h2 := HIw.out.tn.2
         omega
        have hgr : g < wr.heap.size := HPw.out.blk.lt
        have y7 := HPw.out.blk.cell 7
        have y8 := HPw.out.blk.cell 8
        have y9 := HPw.out.blk.cell 9
        have y10 := HPw.out.blk.cell 10
        have y11 := HPw.out.blk.cell 11
        have y12 := HPw.out.blk.cell 12
        go_wp2_with fail
        refine (take_any (PF wr g A4 A5 A6) r A2 n2 c2 A3 n3 c3 wr (fun k hk => hk.1) HPw.out.ah HPw.out.bf (by omega) (by omega)).mono ?_
        rintro e w3 ⟨A7, n7, c7, A8, n8, c8, Bx, kx, kc, rfl, q4, hro, hbx, hkc⟩
        clear y7 y8 y9 y10 y11 y12
        obtain ⟨T, hT⟩ : ∃ T, T = takT r := ⟨_, rfl⟩
        obtain ⟨U, hU⟩ : ∃ U, U = takU r := ⟨_, rfl⟩
        obtain ⟨N, hN⟩ : ∃ N, N = takN r := ⟨_, rfl⟩
        have hTU : T = takR r ∧ U = takB r ∧ N = takE r := by
         rw [hT, hU, hN]; unfold takT takU takN; rw [if_pos HRB.out, if_pos HRB.out, if_pos HRB.out]; exact ⟨rfl, rfl, rfl⟩
        rw [← hT, ← hU, ← hN]
        rw [← hT] at hro
        rw [← hU] at hbx
        have HTU := Lib.hid hTU
        clear hT hU hN hTU
        have hra := Lay.rd_weak (fun b hb hl => HPw.out.fence q4.size hb.2 hl) hro.ra
        have hrb := Lay.rd_weak (fun b hb hl => HPw.out.fence q4.size hb.2 hl) hro.rb
        have hrx := Lay.rd_weak (fun b hb hl => HPw.out.fence q4.size (.inl hb) hl) hbx
        have hca8 := hro.ca
        have hcb8 := hro.cb
        clear hro hbx
        have p5 := bl_al (Below.refl w3.heap.size w3) (.cells (T.cells A7 n7 c7 A8 n8 c8) 36)
        have p6 := bl_al p5 (.cells (U.cells Bx kx kc) 45)
        have hs5 : (w3.alloc (.cells (T.cells A7 n7 c7 A8 n8 c8) 36)).heap.size = w3.heap.size + 1 := World.size_alloc _ _
        have HV5 := Lib.hid ((Blk.new w3 36 (T.cells A7 n7 c7 A8 n8 c8)).ca (bl_al (Below.refl _ (w3.alloc (.cells (T.cells A7 n7 c7 A8 n8 c8) 36))) (.cells (U.cells Bx kx kc) 45)))
        have hu5 := Blk.new (w3.alloc (.cells (T.cells A7 n7 c7 A8 n8 c8) 36)) 45 (U.cells Bx kx kc)
        rw [hs5] at hu5
        have HU5 := Lib.hid hu5
        have q6 := bl_ca q4 p6
        have HQ5 := Lib.hid (HBw.out.trans (q6.mono (by omega)))
        have HP5 := Lib.hid (HPw.out.below q6)
        have HB5 := Lib.hid (Nat.le_trans (show B0 ≤ wr.heap.size by omega) q6.size)
        have HRA5 := Lib.hid (Lay.rd_weak (fun _ hb _ => PF.up p6.size hb) (Lay.rd_below hra p6))
        have HRB5 := Lib.hid (Lay.rd_weak (fun _ hb _ => PF.up p6.size hb) (Lay.rd_below hrb p6))
        have HRX5 := Lib.hid (Lay.rd_weak (fun _ hb _ => PF.up p6.size hb) (Lay.rd_below hrx p6))
        have HVN := Lib.hid (show ob A6 ≠ some w3.heap.size ∧ ob A6 ≠ some (w3.heap.size + 1) from ⟨fun e => by have := (HPw.out.base4.2.2 _ e).2; have := q4.size; omega, fun e => by have := (HPw.out.base4.2.2 _ e).2; have := q4.size; omega⟩)
        clear hs5 hu5 p5 p6 q4 q6 hra hrb hrx
        by_cases hN : N = 0
        · subst hN
          go_upto_region 32 with fail
          generalize (w3.alloc (.cells (T.cells A7 n7 c7 A8 n8 c8) 36)).alloc (.cells (U.cells Bx kx kc) 45) = w5 at *
          refine wp_region_ps (S := SeqN [8, 9, 12, 15] (fun z mm w' => match z with | 0 => Below w5.heap.size w5 w' | 1 => Below w5.heap.size w5 w' ∧ ∃ gb, mm 8 = .slice (some ⟨gb, 0, none⟩) 1 1 ∧ w5.heap.size ≤ gb ∧ Blk w' gb 45 #[.slice Bx kx kc, .bool (U.fin), .int .u64 (U.cnt)] | 2 => ∃ X x, mm 9 = .slice X (n6 + 1) x ∧ AppY LB3 45 w5 B0 g A6 A4 A5 A6 (taken ++ [U]) X (n6 + 1) x w' | 3 => ∃ X x wq, mm 9 = .slice X (n6 + 1) x ∧ AppY LB3 45 w5 B0 g A6 A4 A5 A6 (taken ++ [U]) X (n6 + 1) x wq ∧ wq.grownBy w' (some g) ∧ Blk w' g 93 (pairC s T A n c A7 n7 c7 A8 n8 c8 (.slice A4 n4 c4) (.slice A5 n5 c5) (.slice A6 n6 c6)) | _ => ∃ X x wq, mm 9 = .slice X (n6 + 1) x ∧ AppY LB3 45 w5 B0 g A6 A4 A5 A6 (taken ++ [U]) X (n6 + 1) x wq ∧ wq.grownBy w' (some g) ∧ Blk w' g 93 (pairC s T A n c A7 n7 c7 A8 n8 c8 (.slice A4 n4 c4) (.slice A5 n5 c5) (.slice X (n6 + 1) x)))) (by kernel_rfl) ?spswg24 ?ppswg24
          case spswg24 =>
           exact SeqN.start (by decide) (Below.refl _ _).drew
          refine Pz 0 (some 131) (.pointer (some ⟨g, 0, none⟩)) rfl rfl (by exact StepS.pure (SeqN.pass (by decide)) rfl fun _ => rfl) ?_
          try simp only [Act.put, sA, sZ, sS]
          refine Pz 1 (some 132) (.pointer (some ⟨g, 0, none⟩)) rfl rfl (by exact StepS.pure (SeqN.pass (by decide)) rfl fun _ => rfl) ?_
          try simp only [Act.put, sA, sZ, sS]
          refine Pz 2 (some 133) (.agg #[.int .u32 (T.ses), .int .u64 (T.next), .slice A7 n7 c7, .slice A8 n8 c8, .int .i64 (T.room), .bool (T.over)]) rfl rfl ?ywg24_27 ?rwg24_27
          case ywg24_27 =>
           refine StepS.read [] (by kernel_rfl) (SeqN.pass (by decide)) (by rfl) (fun L9 m9 w9 hSh hAt hDn hS => ?_)
           have hT : Chg (fun k => ob A6 = some k) w5 w9 := SeqN.le [8, 9] [12, 15] (T := fun w9 => Chg (fun k => ob A6 = some k) w5 w9) (post_no hSh hDn (by kernel_rfl)) (fun z _ _ hz h => by match z, hz, h with | 0, _, h => exact Chg.of_below h | 1, _, h => exact Chg.of_below h.1 | 2, _, h => exact (let ⟨_, _, _, hy⟩ := h; hy.ch) | _ + 3, hz, _ => exact absurd hz (by simp)) hS
           have x0 : w9.cell? ⟨w3.heap.size, 0, none⟩ = some (.int .u32 (T.ses)) := (HV5.out.chg hT HVN.out.1).cell 0
           have x1 : w9.cell? ⟨w3.heap.size, 1, none⟩ = some (.int .u64 (T.next)) := (HV5.out.chg hT HVN.out.1).cell 1
           have x2 : w9.cell? ⟨w3.heap.size, 2, none⟩ = some (.slice A7 n7 c7) := (HV5.out.chg hT HVN.out.1).cell 2
           have x3 : w9.cell? ⟨w3.heap.size, 3, none⟩ = some (.slice A8 n8 c8) := (HV5.out.chg hT HVN.out.1).cell 3
           have x4 : w9.cell? ⟨w3.heap.size, 4, none⟩ = some (.int .i64 (T.room)) := (HV5.out.chg hT HVN.out.1).cell 4
           have x5 : w9.cell? ⟨w3.heap.size, 5, none⟩ = some (.bool (T.over)) := (HV5.out.chg hT HVN.out.1).cell 5
           clear hT hS
           go_simp
           try rfl
          try simp only [Act.put, sA, sZ, sS]
          refine Pz 3 (some 134) (.pointer (some ⟨g, 0, none⟩)) rfl rfl (by exact StepS.pure (SeqN.pass (by decide)) rfl fun _ => rfl) ?_
          try simp only [Act.put, sA, sZ, sS]
          refine Pz 4 (some 135) (.pointer (some ⟨g, 0, none⟩)) rfl rfl (by exact StepS.pure (SeqN.pass (by decide)) rfl fun _ => by first | rfl | (go_simp; done) | (go_simp; rfl)) ?_
          try simp only [Act.put, sA, sZ, sS]
          refine Pz 5 (some 136) (.pointer (some ⟨g, 15, none⟩)) rfl rfl (by exact StepS.pure (SeqN.pass (by decide)) rfl fun _ => rfl) ?_
          try simp only [Act.put, sA, sZ, sS]
          refine Pz 6 (some 137) (.slice A6 n6 c6) rfl rfl ?ywg24_31 ?rwg24_31
          case ywg24_31 =>
           refine StepS.read [] (by kernel_rfl) (SeqN.pass (by decide)) (by rfl) (fun L9 m9 w9 hSh hAt hDn hS => ?_)
           have hT : Chg (fun k => ob A6 = some k) w5 w9 := SeqN.le [8, 9] [12, 15] (T := fun w9 => Chg (fun k => ob A6 = some k) w5 w9) (post_no hSh hDn (by kernel_rfl)) (fun z _ _ hz h => by match z, hz, h with | 0, _, h => exact Chg.of_below h | 1, _, h => exact Chg.of_below h.1 | 2, _, h => exact (let ⟨_, _, _, hy⟩ := h; hy.ch) | _ + 3, hz, _ => exact absurd hz (by simp)) hS
           have x0 : w9.cell? ⟨g, 15, none⟩ = some (.slice A6 n6 c6) := (HP5.out.blk.chg hT HP5.out.dg.2.2).cell 15
           clear hT hS
           go_simp
           try rfl
          try simp only [Act.put, sA, sZ, sS]
          refine Pz 7 (some 138) (.agg #[.slice Bx kx kc, .bool (U.fin), .int .u64 (U.cnt)]) rfl rfl ?ywg24_32 ?rwg24_32
          case ywg24_32 =>
           refine StepS.read [] (by kernel_rfl) (SeqN.pass (by decide)) (by rfl) (fun L9 m9 w9 hSh hAt hDn hS => ?_)
           have hT : Chg (fun k => ob A6 = some k) w5 w9 := SeqN.le [8, 9] [12, 15] (T := fun w9 => Chg (fun k => ob A6 = some k) w5 w9) (post_no hSh hDn (by kernel_rfl)) (fun z _ _ hz h => by match z, hz, h with | 0, _, h => exact Chg.of_below h | 1, _, h => exact Chg.of_below h.1 | 2, _, h => exact (let ⟨_, _, _, hy⟩ := h; hy.ch) | _ + 3, hz, _ => exact absurd hz (by simp)) hS
           have x0 : w9.cell? ⟨w3.heap.size + 1, 0, none⟩ = some (.slice Bx kx kc) := (HU5.out.chg hT HVN.out.2).cell 0
           have x1 : w9.cell? ⟨w3.heap.size + 1, 1, none⟩ = some (.bool (U.fin)) := (HU5.out.chg hT HVN.out.2).cell 1
           have x2 : w9.cell? ⟨w3.heap.size + 1, 2, none⟩ = some (.int .u64 (U.cnt)) := (HU5.out.chg hT HVN.out.2).cell 2
           clear hT hS
           go_simp
           try rfl
          try simp only [Act.put, sA, sZ, sS]
          refine Ps.one (k := 8) (d := some 139) rfl rfl (by kernel_rfl) (TurnS.value (V := fun v => ∃ gb, v = .slice (some ⟨gb, 0, none⟩) 1 1) [] (by kernel_rfl) (by rfl) (fun L9 m9 w9 hSh hAt hDn hS => ?cwg24_33)) (fun v8 hVv8 => ?rwg24_33)
          case cwg24_33 =>
           have hT := SeqN.at_ (m0 := m9) (m1 := m9) [] [9, 12, 15] hSh (fun d hd => by cases hd) hDn (by kernel_rfl) hS
           refine ⟨.slice (some ⟨w9.heap.size, 0, none⟩) 1 1, w9.alloc (.cells #[.slice Bx kx kc, .bool (U.fin), .int .u64 (U.cnt)] 45), ?_, ⟨_, rfl⟩, SeqN.set_ (m0 := m9) (m1 := m9) [] [9, 12, 15] hSh (fun d hd => by cases hd) hDn (by kernel_rfl) (by decide) (by decide) ⟨bl_al hT _, _, upd_same _ _ _, hT.size, Blk.new _ _ _⟩⟩
           clear hT hS
           go_simp
          try simp only [Act.put, sA, sZ, sS]
          obtain ⟨gb, rfl⟩ := hVv8
          refine Ps.one (k := 9) (d := some 140) rfl rfl (by kernel_rfl) (TurnS.value (V := fun v => ∃ X x, v = .slice X (n6 + 1) x) [8] (by kernel_rfl) (by rfl) (fun L9 m9 w9 hSh hAt hDn hS => ?cwg24_34)) (fun v9 hVv9 => ?rwg24_34)
          case cwg24_34 =>
           obtain ⟨hT, gb2, hv, hg1, hg2⟩ := SeqN.at_ [8] [12, 15] hSh hAt hDn (by kernel_rfl) hS
           obtain rfl : gb = gb2 := by have h9 : Value.slice (some ⟨gb, 0, none⟩) 1 1 = .slice (some ⟨gb2, 0, none⟩) 1 1 := (hAt 8 (by simp)).2.symm.trans hv; simpa using h9
           have hone : LB3.rd w9 (PF w9 g A4 A5 A6) (some ⟨gb, 0, none⟩) 1 [U] := rd_blk1 hg2 ⟨Bx, kx, kc, rfl, hkc.1, hkc.2, Lay.rd_weak (fun b hb hl => HP5.out.fence hT.size (.inl hb) hl) (Lay.rd_below HRX5.out hT)⟩ (HP5.out.fence hT.size (.inr hg1) hg2.lt)
           obtain ⟨X, x, w8, hrun, hy⟩ := HP5.out.app6 hT (d := 1) hone (by omega) HB5.out
           exact ⟨_, w8, exec_append (.tmp 137) (.tmp 139) 27 rfl rfl rfl hrun, ⟨X, x, rfl⟩, SeqN.set_ [8] [12, 15] hSh hAt hDn (by kernel_rfl) (by decide) (by decide) ⟨X, x, upd_same _ _ _, hy⟩⟩
          try simp only [Act.put, sA, sZ, sS]
          obtain ⟨X, x, rfl⟩ := hVv9
          refine Pz 10 (some 141) (.pointer (some ⟨g, 0, none⟩)) rfl rfl (by exact StepS.pure (SeqN.pass (by decide)) rfl fun _ => by first | rfl | (go_simp; done) | (go_simp; rfl)) ?_
          try simp only [Act.put, sA, sZ, sS]
          refine Pz 11 (some 142) (.pointer (some ⟨g, 7, none⟩)) rfl rfl (by exact StepS.pure (SeqN.pass (by decide)) rfl fun _ => rfl) ?_
          try simp only [Act.put, sA, sZ, sS]
          refine Pz 12 none undef rfl rfl ?ywg24_37 ?rwg24_37
          case ywg24_37 =>
           refine StepS.store [8, 9] (by kernel_rfl) (by rfl) (fun L9 m9 w9 hSh hAt hDn hS => ?_)
           obtain ⟨X2, x2, hv, hy⟩ := SeqN.at_ [8, 9] [15] hSh hAt hDn (by kernel_rfl) hS
           obtain ⟨rfl, rfl⟩ : X = X2 ∧ x = x2 := by have h9 : Value.slice X (n6 + 1) x = .slice X2 (n6 + 1) x2 := (hAt 9 (by simp)).2.symm.trans hv; simpa using h9
           have hbk := HP5.out.blk.chg hy.ch HP5.out.dg.2.2
           refine (exec_store_part (w := w9) 36 (.tmp 142) (.tmp 133) (by rfl) g 7 93 (pairC s r A n c A2 n2 c2 A3 n3 c3 (.slice A4 n4 c4) (.slice A5 n5 c5) (.slice A6 n6 c6)) (T.cells A7 n7 c7 A8 n8 c8) (pairC s T A n c A7 n7 c7 A8 n8 c8 (.slice A4 n4 c4) (.slice A5 n5 c5) (.slice A6 n6 c6)) (by rfl) (by rfl) hbk (by simp) receiverI (by simp [Value.oneCell']) (by rfl)).imp fun w7 hx => ⟨hx.1, SeqN.set_ [8, 9] [15] hSh hAt hDn (by kernel_rfl) (by decide) (by decide) ⟨X, x, w9, hv, hy, hx.2.2, hx.2.1⟩⟩
          try simp only [Act.put]
          refine Pz 13 (some 143) (.pointer (some ⟨g, 0, none⟩)) rfl rfl (by exact StepS.pure (SeqN.pass (by decide)) rfl fun _ => by first | rfl | (go_simp; done) | (go_simp; rfl)) ?_
          try simp only [Act.put, sA, sZ, sS]
          refine Pz 14 (some 144) (.pointer (some ⟨g, 15, none⟩)) rfl rfl (by exact StepS.pure (SeqN.pass (by decide)) rfl fun _ => rfl) ?_
          try simp only [Act.put, sA, sZ, sS]
          refine Pz 15 none undef rfl rfl ?ywg24_40 ?rwg24_40
          case ywg24_40 =>
           refine StepS.store [8, 9, 12] (by kernel_rfl) (by rfl) (fun L9 m9 w9 hSh hAt hDn hS => ?_)
           obtain ⟨X2, x2, wq, hv, hy, hg, hbk⟩ := SeqN.at_ [8, 9, 12] [] hSh hAt hDn (by kernel_rfl) hS
           obtain ⟨rfl, rfl⟩ : X = X2 ∧ x = x2 := by have h9 : Value.slice X (n6 + 1) x = .slice X2 (n6 + 1) x2 := (hAt 9 (by simp)).2.symm.trans hv; simpa using h9
           have hN2 : Blk (w9.setCell ⟨g, 15, none⟩ (.slice X (n6 + 1) x)) g 93 (pairC s T A n c A7 n7 c7 A8 n8 c8 (.slice A4 n4 c4) (.slice A5 n5 c5) (.slice X (n6 + 1) x)) := by simpa using hbk.set_ 15 (.slice X (n6 + 1) x)
           have hg2 : w9.grownBy (w9.setCell ⟨g, 15, none⟩ (.slice X (n6 + 1) x)) (some g) := only_setCell (World.grownBy.refl _ _) (.inl rfl) _
           have y9 : w9.cell? ⟨g, 15, none⟩ = some (.slice A6 n6 c6) := hbk.cell 15
           have fx : w9.frozen? ⟨g, 15, none⟩ = false := hbk.frozen 15
           refine ⟨w9.setCell ⟨g, 15, none⟩ (.slice X (n6 + 1) x), ?_, SeqN.set_ [8, 9, 12] [] hSh hAt hDn (by kernel_rfl) (by decide) (by decide) ⟨X, x, wq, hv, hy, (grown_two hg hg2), hN2⟩⟩
           clear hv hy hbk hN2 hg2 hS hg
           go_simp
          try simp only [Act.put]
          refine Ps.done (by kernel_rfl) (fun wg24 hS => ?_) _
          obtain ⟨X2, x2, wq, hv, hy, hg, hbk⟩ := SeqN.fin (by rfl) hS
          clear hS
          obtain ⟨rfl, rfl⟩ : X = X2 ∧ x = x2 := by have h9 : Value.slice X (n6 + 1) x = .slice X2 (n6 + 1) x2 := hv; simpa using h9
          clear hv
          have HY := Lib.hid hy
          have HG := Lib.hid hg
          have HBK := Lib.hid hbk
          clear hy hg hbk
          obtain ⟨w8, rfl⟩ : ∃ x, x = wg24 := ⟨_, rfl⟩
          have HE := Lib.hid (show takE r = 0 from HTU.out.2.2.symm)
          go_wp2_with fail
          go_roundg (gk - 1)
          · refine ⟨i + 1, by omega, by go_num, T, taken ++ [U], HQ5.out.trans (HY.out.bel HP5.out.base4.2.2 HG.out HP5.out.g0 HB5.out), (HP5.out.ataken HY.out.ch HY.out.own HY.out.at_ HG.out HBK.out HP5.out.q HP5.out.cq HRA5.out hca8 HRB5.out hcb8).pr, ?_, ?_, ?_, ?_⟩
            · rw [HTU.out.1, HTU.out.2.1]; exact HIw.out.takes HE.out
            · rw [HTU.out.1]; exact HXw.out.takes HE.out
            · have h1 := taken_len HE.out
              have h2 := HLN.out.1
              rw [HTU.out.1]; omega
            · rw [HTU.out.1, (takR_nx r HE.out).1]; exact HLN.out.2
          · omega
        · have hN0 : (N == 0) = false := by simpa using hN
          have HE := Lib.hid (show takE r ≠ 0 from fun e => hN (HTU.out.2.2.trans e))
          clear hN
          go_wp2_with fail
          go_meet
          exact ⟨r, taken, HQ5, Lib.hid HP5.out.pr, HIw, HXw, Lib.hid ⟨taken_nil HE.out, HLN.out.2⟩⟩
      · have hi8 : ¬ ((i : Int) < 8) := by omega
        have h0 : gk = 0 := by omega
        have hbf : r.buf = [] := List.eq_nil_of_length_eq_zero (by have := HLN.out.1; omega)
        have HBF := Lib.hid hbf
        clear hbf h0
        go_wp2_with fail
        go_meet
        exact ⟨r, taken, HBw, Lib.hid HPw.out.pr, HIw, HXw, Lib.hid ⟨HBF.out, HLN.out.2⟩⟩
    case rest =>
    clear HB11 HP11 HI11 HX11 hn6 hn5 hg6
    obtain ⟨r2, taken2, HB13, HPR13, HI13, HX13, HN13⟩ := hcut
    obtain ⟨A, n, c, A2, n2, c2, A3, n3, c3, A4, n4, c4, A5, n5, c5, A6, n6, c6, hP13⟩ := HPR13.out
    obtain ⟨w13, rfl⟩ : ∃ x, x = wc := ⟨_, rfl⟩
    have HP13 := Lib.hid hP13
    have hn5 : n5 ≤ 81 := by have := Lay.ownO_len hP13.pt; omega
    have hcq := hP13.cq
    have hca := hP13.ca
    have hcb := hP13.cb
    have hg13 : g < w13.heap.size := hP13.blk.lt
    have HSR := Lib.hid (And.intro ((sp_iff s).2 HI13.out.sb) ((rp_iff r2).2 HI13.out.rb))
    clear hP13 HPR13
    obtain ⟨h3i, h3x, h3r⟩ : SInv σ room (ackedR s (ackR r2)) r2 way put1 taken2 ∧ EX (ackedR s (ackR r2)) r2 way ∧ RoundR room (ackedR s (ackR r2)) r2 put1 taken2 P (j + 1) := by
     have e1 := HTS.out.1
     have e2 := HTS.out.2
     have i3 := HI13.out
     have x3 := HX13.out
     rw [e1, e2] at i3 x3
     rw [e1]
     exact round_end HR4.out HCR.out HI6.out HX6.out i3 x3 HN13.out.1 (by rw [HN13.out.2, HR1.out, e2]) (by omega)
    have H3I := Lib.hid h3i
    have H3X := Lib.hid h3x
    have H3R := Lib.hid h3r
    clear h3i h3x h3r
    have y7 := HP13.out.blk.cell 7
    have y8 := HP13.out.blk.cell 8
    have y9 := HP13.out.blk.cell 9
    have y10 := HP13.out.blk.cell 10
    have y11 := HP13.out.blk.cell 11
    have y12 := HP13.out.blk.cell 12
    go_wp2_with fail
    refine (ack_any _ _ r2 A2 n2 c2 A3 n3 c3 w13 HP13.out.ah HP13.out.bf (by omega) (by omega)).mono ?_
    rintro e w14 ⟨rfl, q4⟩
    rw [if_pos HSR.out.2]
    clear y7 y8 y9 y10 y11 y12
    obtain ⟨pk, hpk⟩ : ∃ pk, pk = ackR r2 := ⟨_, rfl⟩
    have hpr : pk.b.rows = [] ∧ pk.kind = 2 := by rw [hpk]; unfold ackR; rw [if_pos HSR.out.2]; exact ⟨rfl, rfl⟩
    rw [← hpk]
    rw [← hpk] at H3I H3X H3R
    have HPR := Lib.hid hpr
    have q5 := bl_al q4 (.cells (pk.cells none 0 0) 47)
    have HP15 := Lib.hid (HP13.out.below q5)
    have HB15 := Lib.hid (HB13.out.trans (q5.mono (by omega)))
    have HV15 := Lib.hid (Blk.new w14 47 (pk.cells none 0 0))
    have hs15 := q5.size
    clear hpk hpr q4 q5 HP13 HB13
    go_upto_region 35 with fail
    generalize w14.alloc (.cells (pk.cells none 0 0) 47) = w15 at *
    have v0 := HV15.out.cell 0
    have v1 := HV15.out.cell 1
    have v2 := HV15.out.cell 2
    have v3 := HV15.out.cell 3
    have v4 := HV15.out.cell 4
    have v5 := HV15.out.cell 5
    have v6 := HV15.out.cell 6
    go_wp2_with fail
    refine (comes_any B0 g w15 s r2 way put1 taken2 A n c A2 n2 c2 A3 n3 c3 A4 n4 c4 A5 n5 c5 A6 n6 c6 pk none 0 0 HP15.out (by rw [HPR.out.1]; exact Lay.rd_nil _) (by omega) (by omega) HSR.out.1 HSR.out.2 (by omega)).mono ?_
    rintro e w16 ⟨rfl, qb, C1, k1, d1, C2, k2, d2, C3, k3, d3, hPM⟩
    rw [heard_ack HPR.out.2] at hPM
    have HPM := Lib.hid hPM
    have HB16 := Lib.hid (HB15.out.trans qb)
    clear v0 v1 v2 v3 v4 v5 v6 hPM qb
    go_wp2_with fail
    refine (sound_at HPM.out H3I.out (by omega)).mono ?_
    rintro e w17 ⟨rfl, q17⟩
    have HP17 := Lib.hid (HPM.out.below q17)
    have HB17 := Lib.hid (HB16.out.trans (q17.mono (Nat.le_trans HPM.out.g0 (Nat.le_of_lt HPM.out.blk.lt))))
    clear q17 HPM HB16
    go_wp2_with fail
    go_roundg (g1 - 1)
    · exact ⟨j + 1, by omega, by go_num, HB17.out, ackedR s pk, r2, way, put1, taken2, HP17.out.pr, HW4.out, H3I.out, H3X.out, H3R.out⟩
    · omega
  · obtain rfl : j = T := by omega
    have hj1 : (j : Int) ≤ (j : Int) := by omega
    have hfin : RJ room s r taken ∧ mJ s put taken = 0 := by
     have h1 := HTT.out
     rcases HR4.out.2 with h2 | ⟨h2, h3⟩
     · omega
     · exact ⟨h2, by omega⟩
    obtain ⟨hov, htp, hq0⟩ := mJ_zero HI4.out hfin.1 hfin.2
    have hov12 : ∀ w9, Below w4.heap.size w4 w9 → w9.cell? ⟨g, 12, none⟩ = some (.bool true) := fun w9 hT => by
     have h : w9.cell? ⟨g, 12, none⟩ = some (.bool r.over) := (HP4.out.blk.ca hT).cell 12
     rw [hov] at h; exact h
    have hn0 : decide ((n : Int) = 0) = true := by
     have := Lay.rd_len HP4.out.q
     rw [hq0, List.length_nil] at this
     exact decide_eq_true (by omega)
    have HOV := Lib.hid hov12
    have HTP := Lib.hid htp
    have HN0 := Lib.hid hn0
    clear hfin hov htp hq0 hov12 hn0
    go_upto_region 38 with fail
    refine wp_region_ps (S := fun _ _ w' => Below w4.heap.size w4 w') (by kernel_rfl) ?spswg47 ?ppswg47
    case spswg47 =>
     exact (Below.refl w4.heap.size w4).drew
    refine Pz 0 (some 168) (.pointer (some ⟨g, 0, none⟩)) rfl rfl (by exact StepS.pure nP rfl fun _ => rfl) ?_
    try simp only [Act.put, sA, sZ, sS]
    refine Pz 1 (some 169) (.pointer (some ⟨g, 0, none⟩)) rfl rfl (by exact StepS.pure nP rfl fun _ => by first | rfl | (go_simp; done) | (go_simp; rfl)) ?_
    try simp only [Act.put, sA, sZ, sS]
    refine Pz 2 (some 170) (.pointer (some ⟨g, 7, none⟩)) rfl rfl (by exact StepS.pure nP rfl fun _ => rfl) ?_
    try simp only [Act.put, sA, sZ, sS]
    refine Pz 3 (some 171) (.pointer (some ⟨g, 12, none⟩)) rfl rfl (by exact StepS.pure nP rfl fun _ => rfl) ?_
    try simp only [Act.put, sA, sZ, sS]
    refine Pz 4 (some 172) (.bool (true)) rfl rfl ?ywg47_52 ?rwg47_52
    case ywg47_52 =>
     refine StepS.read [] (by kernel_rfl) nP (by rfl) (fun L9 m9 w9 hSh hAt hDn hS => ?_)
     have hT : Below _ _ w9 := hS
     have x0 : w9.cell? ⟨g, 12, none⟩ = some (.bool (true)) := HOV.out w9 hT
     clear hT hS
     go_simp
     try rfl
    try simp only [Act.put, sA, sZ, sS]
    refine Pz 5 (some 173) (.bool (true)) rfl rfl (by exact StepS.pure nP rfl fun _ => rfl) ?_
    try simp only [Act.put, sA, sZ, sS]
    refine Pz 6 (some 174) (.pointer (some ⟨g, 0, none⟩)) rfl rfl (by exact StepS.pure nP rfl fun _ => rfl) ?_
    try simp only [Act.put, sA, sZ, sS]
    refine Pz 7 (some 175) (.pointer (some ⟨g, 0, none⟩)) rfl rfl (by exact StepS.pure nP rfl fun _ => by first | rfl | (go_simp; done) | (go_simp; rfl)) ?_
    try simp only [Act.put, sA, sZ, sS]
    refine Pz 8 (some 176) (.pointer (some ⟨g, 15, none⟩)) rfl rfl (by exact StepS.pure nP rfl fun _ => rfl) ?_
    try simp only [Act.put, sA, sZ, sS]
    refine Pz 9 (some 177) (.slice A6 n6 c6) rfl rfl ?ywg47_57 ?rwg47_57
    case ywg47_57 =>
     refine StepS.read [] (by kernel_rfl) nP (by rfl) (fun L9 m9 w9 hSh hAt hDn hS => ?_)
     have hT : Below _ _ w9 := hS
     have x0 : w9.cell? ⟨g, 15, none⟩ = some (.slice A6 n6 c6) := (HP4.out.blk.ca hT).cell 15
     clear hT hS
     go_simp
     try rfl
    try simp only [Act.put, sA, sZ, sS]
    refine Pz 10 (some 178) (.pointer (some ⟨g, 0, none⟩)) rfl rfl (by exact StepS.pure nP rfl fun _ => rfl) ?_
    try simp only [Act.put, sA, sZ, sS]
    refine Pz 11 (some 179) (.pointer (some ⟨g, 0, none⟩)) rfl rfl (by exact StepS.pure nP rfl fun _ => by first | rfl | (go_simp; done) | (go_simp; rfl)) ?_
    try simp only [Act.put, sA, sZ, sS]
    refine Pz 12 (some 180) (.pointer (some ⟨g, 14, none⟩)) rfl rfl (by exact StepS.pure nP rfl fun _ => rfl) ?_
    try simp only [Act.put, sA, sZ, sS]
    refine Pz 13 (some 181) (.slice A5 n5 c5) rfl rfl ?ywg47_61 ?rwg47_61
    case ywg47_61 =>
     refine StepS.read [] (by kernel_rfl) nP (by rfl) (fun L9 m9 w9 hSh hAt hDn hS => ?_)
     have hT : Below _ _ w9 := hS
     have x0 : w9.cell? ⟨g, 14, none⟩ = some (.slice A5 n5 c5) := (HP4.out.blk.ca hT).cell 14
     clear hT hS
     go_simp
     try rfl
    try simp only [Act.put, sA, sZ, sS]
    refine Pz 14 (some 182) (.bool (true)) rfl rfl ?ywg47_62 ?rwg47_62
    case ywg47_62 =>
     refine StepS.call ?fwg47_62 ?awg47_62 [] (by kernel_rfl) (by rfl) (fun w9 => ?hwg47_62) (fun L9 m9 w9 hSh hAt hDn hS => ?cwg47_62)
     case hwg47_62 => go_simp; refine ⟨?_, ?_⟩ <;> rfl
     case cwg47_62 =>
      have hT : Below _ _ w9 := hS
      refine (eqfW (fun _ => True) (fun _ => True) A6 A5 n6 c6 n5 c5 taken put w9 (Lay.ownO_rd (HP4.out.below hT).tk (fun _ _ => trivial) (fun _ _ _ => trivial)) (Lay.ownO_rd (HP4.out.below hT).pt (fun _ _ => trivial) (fun _ _ _ => trivial)) (by omega)).mono ?_
      rintro e w8 ⟨rfl, q8⟩
      exact ⟨by rw [decide_eq_true HTP.out], bl_ca hT q8⟩
    try simp only [Act.put, sA, sZ, sS]
    refine Pz 15 (some 183) (.bool (true)) rfl rfl (by exact StepS.pure nP rfl fun _ => rfl) ?_
    try simp only [Act.put, sA, sZ, sS]
    refine Pz 16 (some 184) (.bool (true)) rfl rfl (by exact StepS.pure nP rfl fun _ => rfl) ?_
    try simp only [Act.put, sA, sZ, sS]
    refine Pz 17 (some 185) (.pointer (some ⟨g, 0, none⟩)) rfl rfl (by exact StepS.pure nP rfl fun _ => rfl) ?_
    try simp only [Act.put, sA, sZ, sS]
    refine Pz 18 (some 186) (.pointer (some ⟨g, 0, none⟩)) rfl rfl (by exact StepS.pure nP rfl fun _ => by first | rfl | (go_simp; done) | (go_simp; rfl)) ?_
    try simp only [Act.put, sA, sZ, sS]
    refine Pz 19 (some 187) (.pointer (some ⟨g, 0, none⟩)) rfl rfl (by exact StepS.pure nP rfl fun _ => rfl) ?_
    try simp only [Act.put, sA, sZ, sS]
    refine Pz 20 (some 188) (.pointer (some ⟨g, 2, none⟩)) rfl rfl (by exact StepS.pure nP rfl fun _ => rfl) ?_
    try simp only [Act.put, sA, sZ, sS]
    refine Pz 21 (some 189) (.slice A n c) rfl rfl ?ywg47_69 ?rwg47_69
    case ywg47_69 =>
     refine StepS.read [] (by kernel_rfl) nP (by rfl) (fun L9 m9 w9 hSh hAt hDn hS => ?_)
     have hT : Below _ _ w9 := hS
     have x0 : w9.cell? ⟨g, 2, none⟩ = some (.slice A n c) := (HP4.out.blk.ca hT).cell 2
     clear hT hS
     go_simp
     try rfl
    try simp only [Act.put, sA, sZ, sS]
    refine Pz 22 (some 190) (.int .i64 ((n : Int))) rfl rfl (by exact StepS.pure nP rfl fun _ => by first | rfl | (go_simp; done) | (go_simp; rfl)) ?_
    try simp only [Act.put, sA, sZ, sS]
    refine Pz 23 (some 191) (.bool (true)) rfl rfl ?ywg47_71 ?rwg47_71
    case ywg47_71 =>
     refine StepS.pure nP (by rfl) (fun w9 => ?_)
     have e9 := HN0.out
     refine Eq.trans ?_ (congrArg (fun b => Result.ok (Next.value (Value.bool b)) w9) e9)
     first | rfl | (go_simp; done) | (go_simp; rfl)
    try simp only [Act.put, sA, sZ, sS]
    refine Pz 24 (some 192) (.bool (true)) rfl rfl (by exact StepS.pure nP rfl fun _ => rfl) ?_
    try simp only [Act.put, sA, sZ, sS]
    refine Pz 25 (some 4) (.bool (true)) rfl rfl (by exact StepS.pure nP rfl fun _ => rfl) ?_
    try simp only [Act.put, sA, sZ, sS]
    refine Ps.done (by kernel_rfl) (fun wg47 hS => ?_) _
    have HQ5 := Lib.hid (show Below w4.heap.size w4 wg47 from hS)
    clear hS
    obtain ⟨w5, rfl⟩ : ∃ x, x = wg47 := ⟨_, rfl⟩
    go_wp2_with fail
    go_ret
    exact ⟨rfl, bl_ca HQ2.out ((HB4.out.mono (Nat.le_of_eq HB0.out.symm)).trans (HQ5.out.mono HB4.out.size))⟩
end Go.Proofs.Ytojghgbaiiajfaa
