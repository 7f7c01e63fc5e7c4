/- NetSends, walked. Conditions: the row reads as these ops. -/
import Derived.Test.YtnbcffnhgijmcaaPkS14
import Derived.Deep.DeepCutAuto
import Derived.Deep.CutBlock

namespace Go.Proofs.Ytnbcffnhgijmcaa
open Go.RowKit
/-- what holds from round to round, of the memory -/
structure Mem4 (w0 wr : World) (g3 gM B1 : Nat) (s : Int) (A : Option Addr) (m c : Nat) (ps : List PC) (sA : Option Addr) (sn sc : Nat) (sent : List OpC) (S : Int → Bool) (N : Nat) : Prop where
  bel : Below w0.heap.size w0 wr
  net : Blk wr g3 26 #[.int .u64 s, .slice A m c]
  rd : LP.rd wr (fun b => b ≠ g3 ∧ b ≠ gM ∧ (Value.slice sA sn sc).ownBlock ≠ some b) A m ps
  row : SentR wr B1 (fun b => b < w0.heap.size) sA sn sc sent
  ov : OvM wr gM S N
set_option maxRecDepth 100000 in
set_option maxHeartbeats 64000000 in
theorem sends_any (lA : Option Addr) (ln lc : Nat) (os : List OpC) (w : World) (hl : LO.rd w AllB lA ln os) (_hlm : ln ≤ 9223372036854775807) (_r : ∀ a ∈ os, True) :
    Calls Try.prog 6 #[.slice lA ln lc] w fun e w' => e = .returned (.bool true) ∧ Below w.heap.size w w' := by
  have HL := Lib.hid (Lay.rd_weak (G := fun b => b < w.heap.size) (fun b _ hb => hb) hl)
  clear hl
  have hmm := @run_makeMap Try.prog
  go_enter Try.func6, Try.ntmps6
  go_wp2_with fail
  refine (wakes_any _).mono ?_
  rintro e w2 ⟨rfl, q2⟩
  have q3 := bl_al (Below.refl w2.heap.size w2) (.cells #[.int .u64 0, .slice none 0 0] 26)
  have b3 := (Blk.new w2 26 #[.int .u64 0, .slice none 0 0]).ca (bl_al (Below.refl _ _) (.map #[] 0))
  have hov := OvM.made (w2.alloc (.cells #[.int .u64 0, .slice none 0 0] 26))
  rw [World.size_alloc] at hov
  have hbel := bl_ca (bl_ca q2 q3) (bl_al (Below.refl _ _) (.map #[] 0))
  have hg3 : w.heap.size ≤ w2.heap.size := q2.size
  have hB1 : w2.heap.size + 2 = ((w2.alloc (.cells #[.int .u64 0, .slice none 0 0] 26)).alloc (.map #[] 0)).heap.size := by simp only [World.size_alloc]
  have HM4 := Lib.hid (show Mem4 w _ w2.heap.size (w2.heap.size + 1) (w2.heap.size + 2) 0 none 0 0 [] none 0 0 [] (fun _ => false) 0 from ⟨hbel, b3, Lay.rd_nil none, Lay.own_nil _ _, hov⟩)
  have hB2 := Nat.le_of_eq hB1
  clear q2 q3 b3 hov hbel hB1
  go_wp2_with fail
  clear hmm
  generalize (w2.alloc (.cells #[.int .u64 0, .slice none 0 0] 26)).alloc (.map #[] 0) = w4 at *
  obtain ⟨g3, hg⟩ : ∃ g, g = w2.heap.size := ⟨_, rfl⟩
  rw [← hg] at HM4 hg3 hB2 ⊢
  clear hg
  go_loopg [4, 21] ln (fun gz sl a wr => ∃ (i : Nat) (s : Int) (A : Option Addr) (m c : Nat) (ps : List PC) (sA : Option Addr) (sn sc : Nat) (sent : List OpC) (S : Int → Bool) (N : Nat), i + gz = ln ∧ i ≤ 60 ∧ sl = .slice sA sn sc ∧ a = .int .i64 i ∧ Mem4 w wr g3 (g3 + 1) (g3 + 2) s A m c ps sA sn sc sent S N ∧ N ≤ i * 100 ∧ sn ≤ i ∧ g3 + 2 ≤ wr.heap.size ∧ Inv s ps sent S)
  case atStart => exact ⟨0, 0, none, 0, 0, [], none, 0, 0, [], fun _ => false, 0, by omega, by omega, rfl, rfl, HM4.out, by omega, by omega, hB2, inv_start⟩
  case round =>
    clear HM4 hB2
    obtain ⟨i, s, A, m, c, ps, sA, sn, sc, sent, S, N, hig, hi60, rfl, rfl, hm4, hN, hsn, hB2, hinv⟩ := hrel
    have HM4 := Lib.hid hm4
    have HINV := Lib.hid hinv
    by_cases hlt : i < ln
    · have hi1 : (i : Int) < (ln : Int) := by omega
      obtain ⟨ad, o, oA, on, oc, rfl, _, so⟩ := LO_at (Lay.rd_below HL.out hm4.bel) hlt
      have e0 := so.c0
      have e1 := so.c1
      have e2 := so.c2
      have e3 := so.c3
      have e4 := so.c4
      have e5 := so.c5
      have e6 := so.c6
      have e7 := so.c7
      by_cases hie : i = 60
      · have hi2 : ((i : Int) == 60) = true := by simp; omega
        clear hm4 hinv hie so
        go_wp2
        go_ret
        exact ⟨rfl, bl_al HM4.out.bel _⟩
      · have hi2 : ((i : Int) == 60) = false := by simp; omega
        have hi7 : i < 60 := by omega
        have hmb : m ≤ 20000 := by have := Lay.rd_len hm4.rd; have := (chk_rng hinv.chk).2; omega
        have hs0 : 0 ≤ s := by have := hinv.len; omega
        have HSL := Lib.hid (show sent.length = sn from Lay.own_len hm4.row)
        have q5 := bl_al (Below.refl wr.heap.size wr) (.cells #[.int .i64 o.kind, .int .i64 o.frm, .int .i64 o.to, .int .i64 o.at_, .int .i64 o.place, .bool o.oth, .int .u8 (o.by_.toNat : Int), .slice oA on oc] 49)
        have H7 := Lib.hid (Blk.new wr 49 #[.int .i64 o.kind, .int .i64 o.frm, .int .i64 o.to, .int .i64 o.at_, .int .i64 o.place, .bool o.oth, .int .u8 (o.by_.toNat : Int), .slice oA on oc])
        have HOB := Lib.hid (Lay.rd_below so.bs q5)
        have H3 := Lib.hid (hm4.net.ca q5)
        have HR := Lib.hid (Lay.rd_below hm4.rd q5)
        have HSE := Lib.hid (hm4.row.below q5)
        have HOV := Lib.hid (hm4.ov.below q5)
        have HBW := Lib.hid (bl_ca hm4.bel q5)
        have hs5 : g3 + 2 ≤ (wr.alloc (.cells #[.int .i64 o.kind, .int .i64 o.frm, .int .i64 o.to, .int .i64 o.at_, .int .i64 o.place, .bool o.oth, .int .u8 (o.by_.toNat : Int), .slice oA on oc] 49)).heap.size := Nat.le_trans hB2 q5.size
        have hs5b : wr.heap.size < (wr.alloc (.cells #[.int .i64 o.kind, .int .i64 o.frm, .int .i64 o.to, .int .i64 o.at_, .int .i64 o.place, .bool o.oth, .int .u8 (o.by_.toNat : Int), .slice oA on oc] 49)).heap.size := by simp only [World.size_alloc]; omega
        have hoc1 := so.nc
        have hoc2 := so.cm
        have HSB := Lib.hid hm4.row.base
        obtain ⟨T, hT⟩ : ∃ T, T = runT o s ps := ⟨_, rfl⟩
        obtain ⟨x, hx⟩ : ∃ x, x = numI o ps := ⟨_, rfl⟩
        obtain ⟨κ, hκ⟩ : ∃ κ, κ = kindI o := ⟨_, rfl⟩
        have HRUN := Lib.hid (fun W h1 h2 => run_any o oA on oc s A m c ps W h1 (by omega) hs0 h2 hoc1 hoc2)
        have HNUM := Lib.hid (fun W h1 => num_any o oA on oc s A m c ps W h1 (by omega))
        have HKI := Lib.hid (fun W => kind_any o oA on oc W)
        rw [← hT] at HRUN
        rw [← hx] at HNUM
        rw [← hκ] at HKI
        have HTT := Lib.hid hT
        have HXX := Lib.hid hx
        have HKK := Lib.hid hκ
        have x0 : (wr.alloc (.cells #[.int .i64 o.kind, .int .i64 o.frm, .int .i64 o.to, .int .i64 o.at_, .int .i64 o.place, .bool o.oth, .int .u8 (o.by_.toNat : Int), .slice oA on oc] 49)).cell? ⟨g3, 0, none⟩ = some (.int .u64 s) := H3.out.cell 0
        have x1 : (wr.alloc (.cells #[.int .i64 o.kind, .int .i64 o.frm, .int .i64 o.to, .int .i64 o.at_, .int .i64 o.place, .bool o.oth, .int .u8 (o.by_.toNat : Int), .slice oA on oc] 49)).cell? ⟨g3, 1, none⟩ = some (.slice A m c) := H3.out.cell 1
        clear hm4 hinv hie so q5 hT hx hκ HM4
        go_wp2_with fail
        clear e0 e1 e2 e3 e4 e5 e6 e7
        generalize wr.alloc (.cells #[.int .i64 o.kind, .int .i64 o.frm, .int .i64 o.to, .int .i64 o.at_, .int .i64 o.place, .bool o.oth, .int .u8 (o.by_.toNat : Int), .slice oA on oc] 49) = w5 at *
        generalize wr.heap.size = g7 at *
        refine (HNUM.out w5 (Lay.rd_weak (fun _ _ _ => trivial) HR.out)).mono ?_
        clear HNUM x0 x1
        rintro e w6 ⟨rfl, q6⟩
        replace H3 := Lib.hid (H3.out.ca q6)
        replace H7 := Lib.hid (H7.out.ca q6)
        replace HR := Lib.hid (Lay.rd_below HR.out q6)
        replace HOB := Lib.hid (Lay.rd_below HOB.out q6)
        replace HSE := Lib.hid (HSE.out.below q6)
        replace HOV := Lib.hid (HOV.out.below q6)
        replace HBW := Lib.hid (bl_ca HBW.out q6)
        have hs6 := q6.size
        clear q6
        have x0 : w6.cell? ⟨g3, 0, none⟩ = some (.int .u64 s) := H3.out.cell 0
        have x1 : w6.cell? ⟨g3, 1, none⟩ = some (.slice A m c) := H3.out.cell 1
        have y0 : w6.cell? ⟨g7, 0, none⟩ = some (.int .i64 o.kind) := H7.out.cell 0
        have y1 : w6.cell? ⟨g7, 1, none⟩ = some (.int .i64 o.frm) := H7.out.cell 1
        have y2 : w6.cell? ⟨g7, 2, none⟩ = some (.int .i64 o.to) := H7.out.cell 2
        have y3 : w6.cell? ⟨g7, 3, none⟩ = some (.int .i64 o.at_) := H7.out.cell 3
        have y4 : w6.cell? ⟨g7, 4, none⟩ = some (.int .i64 o.place) := H7.out.cell 4
        have y5 : w6.cell? ⟨g7, 5, none⟩ = some (.bool o.oth) := H7.out.cell 5
        have y6 : w6.cell? ⟨g7, 6, none⟩ = some (.int .u8 (o.by_.toNat : Int)) := H7.out.cell 6
        have y7 : w6.cell? ⟨g7, 7, none⟩ = some (.slice oA on oc) := H7.out.cell 7
        go_wp2_with fail
        refine (HRUN.out w6 (Lay.rd_weak (fun _ _ _ => trivial) HR.out) (LB_rd HOB.out)).mono ?_
        clear HRUN x0 x1
        clear y0 y1 y2 y3 y4 y5 y6 y7
        rintro e w8 ⟨A2, m2, c2, D2, n2, d2, rfl, hsep, q8⟩
        obtain ⟨Ts, Tps, Tn, Tp, Tg, Te⟩ := T
        dsimp only at hsep ⊢
        obtain ⟨es, hd, hes, hop, _⟩ := hsep
        have htr : LP.rd w8 (fun b => w6.heap.size ≤ b ∧ b < w8.heap.size) A2 m2 Tps := Lay.rd_weak (F := fun b => w6.heap.size ≤ b) (fun b hb hl => ⟨hb, hl⟩) (by have hes2 : es.map El.p = Tps := hes; rw [← hes2]; exact hd.rd (fun b hb => hb))
        have htb : LB.rd w8 (fun b => w6.heap.size ≤ b ∧ b < w8.heap.size) D2 n2 Tp.bs := Lay.rd_weak (F := fun b => w6.heap.size ≤ b) (fun b hb hl => ⟨hb, hl⟩) (reads_of_LB hop (fun b hb => hb))
        have q9 := bl_al (Below.refl w8.heap.size w8) (.cells #[.int .u64 Ts, .slice A2 m2 c2, .int .u64 Tn, .int .u64 Tp.num, .int .i64 Tp.frm, .int .i64 Tp.to, .slice D2 n2 d2, .bool Tp.sp, .int .i64 Tg, .int .i64 Te] 51)
        have q89 := bl_ca q8 q9
        have H9 := Lib.hid (Blk.new w8 51 #[.int .u64 Ts, .slice A2 m2 c2, .int .u64 Tn, .int .u64 Tp.num, .int .i64 Tp.frm, .int .i64 Tp.to, .slice D2 n2 d2, .bool Tp.sp, .int .i64 Tg, .int .i64 Te])
        have HTR := Lib.hid (Lay.rd_below htr q9)
        have HTB := Lib.hid (Lay.rd_below htb q9)
        replace H3 := Lib.hid (H3.out.ca q89)
        replace H7 := Lib.hid (H7.out.ca q89)
        replace HR := Lib.hid (Lay.rd_below HR.out q89)
        replace HOB := Lib.hid (Lay.rd_below HOB.out q89)
        replace HSE := Lib.hid (HSE.out.below q89)
        replace HOV := Lib.hid (HOV.out.below q89)
        replace HBW := Lib.hid (bl_ca HBW.out q89)
        have hs8 := q8.size
        have hs9 : w8.heap.size < (w8.alloc (.cells #[.int .u64 Ts, .slice A2 m2 c2, .int .u64 Tn, .int .u64 Tp.num, .int .i64 Tp.frm, .int .i64 Tp.to, .slice D2 n2 d2, .bool Tp.sp, .int .i64 Tg, .int .i64 Te] 51)).heap.size := by simp only [World.size_alloc]; omega
        clear hd hes hop htr htb q8 q9 q89
        by_cases hte : Te = 0
        rotate_left
        · have hte2 : (Te != 0) = true := by simpa using hte
          clear hte
          go_wp2
          go_roundg (gk - 1)
          · exact ⟨i + 1, s, A, m, c, ps, sA, sn, sc, sent, S, N, by omega, by omega, rfl, by go_num, ⟨HBW.out, H3.out, HR.out, HSE.out, HOV.out⟩, by omega, by omega, by omega, HINV.out⟩
          · omega
        · subst hte
          have y0 : (w8.alloc (.cells #[.int .u64 Ts, .slice A2 m2 c2, .int .u64 Tn, .int .u64 Tp.num, .int .i64 Tp.frm, .int .i64 Tp.to, .slice D2 n2 d2, .bool Tp.sp, .int .i64 Tg, .int .i64 0] 51)).cell? ⟨g7, 0, none⟩ = some (.int .i64 o.kind) := H7.out.cell 0
          have y1 : (w8.alloc (.cells #[.int .u64 Ts, .slice A2 m2 c2, .int .u64 Tn, .int .u64 Tp.num, .int .i64 Tp.frm, .int .i64 Tp.to, .slice D2 n2 d2, .bool Tp.sp, .int .i64 Tg, .int .i64 0] 51)).cell? ⟨g7, 1, none⟩ = some (.int .i64 o.frm) := H7.out.cell 1
          have y2 : (w8.alloc (.cells #[.int .u64 Ts, .slice A2 m2 c2, .int .u64 Tn, .int .u64 Tp.num, .int .i64 Tp.frm, .int .i64 Tp.to, .slice D2 n2 d2, .bool Tp.sp, .int .i64 Tg, .int .i64 0] 51)).cell? ⟨g7, 2, none⟩ = some (.int .i64 o.to) := H7.out.cell 2
          have y3 : (w8.alloc (.cells #[.int .u64 Ts, .slice A2 m2 c2, .int .u64 Tn, .int .u64 Tp.num, .int .i64 Tp.frm, .int .i64 Tp.to, .slice D2 n2 d2, .bool Tp.sp, .int .i64 Tg, .int .i64 0] 51)).cell? ⟨g7, 3, none⟩ = some (.int .i64 o.at_) := H7.out.cell 3
          have y4 : (w8.alloc (.cells #[.int .u64 Ts, .slice A2 m2 c2, .int .u64 Tn, .int .u64 Tp.num, .int .i64 Tp.frm, .int .i64 Tp.to, .slice D2 n2 d2, .bool Tp.sp, .int .i64 Tg, .int .i64 0] 51)).cell? ⟨g7, 4, none⟩ = some (.int .i64 o.place) := H7.out.cell 4
          have y5 : (w8.alloc (.cells #[.int .u64 Ts, .slice A2 m2 c2, .int .u64 Tn, .int .u64 Tp.num, .int .i64 Tp.frm, .int .i64 Tp.to, .slice D2 n2 d2, .bool Tp.sp, .int .i64 Tg, .int .i64 0] 51)).cell? ⟨g7, 5, none⟩ = some (.bool o.oth) := H7.out.cell 5
          have y6 : (w8.alloc (.cells #[.int .u64 Ts, .slice A2 m2 c2, .int .u64 Tn, .int .u64 Tp.num, .int .i64 Tp.frm, .int .i64 Tp.to, .slice D2 n2 d2, .bool Tp.sp, .int .i64 Tg, .int .i64 0] 51)).cell? ⟨g7, 6, none⟩ = some (.int .u8 (o.by_.toNat : Int)) := H7.out.cell 6
          have y7 : (w8.alloc (.cells #[.int .u64 Ts, .slice A2 m2 c2, .int .u64 Tn, .int .u64 Tp.num, .int .i64 Tp.frm, .int .i64 Tp.to, .slice D2 n2 d2, .bool Tp.sp, .int .i64 Tg, .int .i64 0] 51)).cell? ⟨g7, 7, none⟩ = some (.slice oA on oc) := H7.out.cell 7
          have HM2 := Lib.hid (show m2 = Tps.length from (Lay.rd_len HTR.out).symm)
          clear HR
          go_wp2_with fail
          generalize w8.alloc (.cells #[.int .u64 Ts, .slice A2 m2 c2, .int .u64 Tn, .int .u64 Tp.num, .int .i64 Tp.frm, .int .i64 Tp.to, .slice D2 n2 d2, .bool Tp.sp, .int .i64 Tg, .int .i64 0] 51) = w9 at *
          generalize w8.heap.size = g9 at *
          refine (HKI.out w9).mono ?_
          clear y0 y1 y2 y3 y4 y5 y6 y7
          rintro e w10 ⟨rfl, q10⟩
          replace H3 := Lib.hid (H3.out.ca q10)
          replace H7 := Lib.hid (H7.out.ca q10)
          replace H9 := Lib.hid (H9.out.ca q10)
          replace HOB := Lib.hid (Lay.rd_below HOB.out q10)
          replace HSE := Lib.hid (HSE.out.below q10)
          replace HOV := Lib.hid (HOV.out.below q10)
          replace HBW := Lib.hid (bl_ca HBW.out q10)
          replace HTR := Lib.hid (Lay.rd_below HTR.out q10)
          replace HTB := Lib.hid (Lay.rd_below HTB.out q10)
          have hs10 := q10.size
          clear q10
          have HSL2 := Lib.hid (show s = (sn : Int) from by rw [HINV.out.len, HSL.out])
          go_upto_block 2 with fail
          go_cut [4] (fun sl wx => ∃ (sA2 : Option Addr) (n1 sc2 : Nat) (sent2 : List OpC) (S2 : Int → Bool) (N2 : Nat), sl = .slice sA2 n1 sc2 ∧ Blk wx g3 26 #[.int .u64 s, .slice A m c] ∧ Blk wx g7 49 #[.int .i64 o.kind, .int .i64 o.frm, .int .i64 o.to, .int .i64 o.at_, .int .i64 o.place, .bool o.oth, .int .u8 (o.by_.toNat : Int), .slice oA on oc] ∧ Blk wx g9 51 #[.int .u64 Ts, .slice A2 m2 c2, .int .u64 Tn, .int .u64 Tp.num, .int .i64 Tp.frm, .int .i64 Tp.to, .slice D2 n2 d2, .bool Tp.sp, .int .i64 Tg, .int .i64 0] ∧ LP.rd wx (fun b => w6.heap.size ≤ b ∧ b < g9) A2 m2 Tps ∧ SentR wx (g3 + 2) (fun b => b < w.heap.size) sA2 n1 sc2 sent2 ∧ OvM wx (g3 + 1) S2 N2 ∧ Below w.heap.size w wx ∧ Inv Ts Tps sent2 S2 ∧ (∀ (b : Nat), (w6.heap.size ≤ b ∧ b < g9) → b ≠ g3 ∧ b ≠ g3 + 1 ∧ (Value.slice sA2 n1 sc2).ownBlock ≠ some b) ∧ ((κ < 3 ∨ κ = 6) → Tn = (n1 : Int)) ∧ n1 ≤ i + 1 ∧ N2 ≤ (i + 1) * 100 ∧ w10.heap.size ≤ wx.heap.size)
          case rest =>
            as_aux_lemma =>
            clear H3 H7 H9 HTR HSE HOV HBW HTB HOB HSL HINV HSB
            obtain ⟨sA2, n1, sc2, sent2, S2, N2, rfl, h3, h7, h9, htr, hse, hov, hbw, hinv2, hrf, htn, hn1, hN2, hwc⟩ := hcut
            have H3 := Lib.hid h3
            have H7 := Lib.hid h7
            have H9 := Lib.hid h9
            have HTR := Lib.hid htr
            have HSE2 := Lib.hid hse
            have HOV := Lib.hid hov
            have HBW := Lib.hid hbw
            have HINV2 := Lib.hid hinv2
            have HRF := Lib.hid hrf
            have HTN := Lib.hid htn
            have hTs : Ts = (n1 : Int) := hinv2.len.trans (congrArg (fun k : Nat => (k : Int)) (SentR.len hse))
            have hn0 : n1 ≤ 61 := by omega
            clear h3 h7 h9 htr hse hov hbw hinv2 hrf htn
            subst hTs
            go_upto_region 41 with fail
            go_cut [168] (fun b wx => b = .bool false ∧ Below wc.heap.size wc wx)
            case first =>
              have y0 : wc.cell? ⟨g7, 0, none⟩ = some (.int .i64 o.kind) := H7.out.cell 0
              have y1 : wc.cell? ⟨g7, 1, none⟩ = some (.int .i64 o.frm) := H7.out.cell 1
              have y2 : wc.cell? ⟨g7, 2, none⟩ = some (.int .i64 o.to) := H7.out.cell 2
              have y3 : wc.cell? ⟨g7, 3, none⟩ = some (.int .i64 o.at_) := H7.out.cell 3
              have y4 : wc.cell? ⟨g7, 4, none⟩ = some (.int .i64 o.place) := H7.out.cell 4
              have y5 : wc.cell? ⟨g7, 5, none⟩ = some (.bool o.oth) := H7.out.cell 5
              have y6 : wc.cell? ⟨g7, 6, none⟩ = some (.int .u8 (o.by_.toNat : Int)) := H7.out.cell 6
              have y7 : wc.cell? ⟨g7, 7, none⟩ = some (.slice oA on oc) := H7.out.cell 7
              by_cases hk3 : κ < 3
              · have hn := HTN.out (.inl hk3)
                subst hn
                have t2 : wc.cell? ⟨g9, 2, none⟩ = some (.int .u64 (n1 : Int)) := H9.out.cell 2
                go_wp2_with fail
                refine (HKI.out wc).mono ?_
                clear y0 y1 y2 y3 y4 y5 y6 y7 t2
                rintro e w20 ⟨rfl, q20⟩
                have HQ := Lib.hid q20
                clear q20
                have t2 : w20.cell? ⟨g9, 2, none⟩ = some (.int .u64 (n1 : Int)) := (H9.out.ca HQ.out).cell 2
                go_wp2_with fail
                go_meet
                exact ⟨by simp, HQ.out⟩
              · by_cases hk6 : κ = 6
                · have hn := HTN.out (.inr hk6)
                  subst hk6
                  subst hn
                  have t2 : wc.cell? ⟨g9, 2, none⟩ = some (.int .u64 (n1 : Int)) := H9.out.cell 2
                  go_wp2_with fail
                  refine (HKI.out wc).mono ?_
                  clear y0 y1 y2 y3 y4 y5 y6 y7 t2
                  rintro e w20 ⟨rfl, q20⟩
                  have HQ := Lib.hid q20
                  have y0 : w20.cell? ⟨g7, 0, none⟩ = some (.int .i64 o.kind) := (H7.out.ca q20).cell 0
                  have y1 : w20.cell? ⟨g7, 1, none⟩ = some (.int .i64 o.frm) := (H7.out.ca q20).cell 1
                  have y2 : w20.cell? ⟨g7, 2, none⟩ = some (.int .i64 o.to) := (H7.out.ca q20).cell 2
                  have y3 : w20.cell? ⟨g7, 3, none⟩ = some (.int .i64 o.at_) := (H7.out.ca q20).cell 3
                  have y4 : w20.cell? ⟨g7, 4, none⟩ = some (.int .i64 o.place) := (H7.out.ca q20).cell 4
                  have y5 : w20.cell? ⟨g7, 5, none⟩ = some (.bool o.oth) := (H7.out.ca q20).cell 5
                  have y6 : w20.cell? ⟨g7, 6, none⟩ = some (.int .u8 (o.by_.toNat : Int)) := (H7.out.ca q20).cell 6
                  have y7 : w20.cell? ⟨g7, 7, none⟩ = some (.slice oA on oc) := (H7.out.ca q20).cell 7
                  clear q20
                  go_wp2_with fail
                  refine (HKI.out w20).mono ?_
                  clear y0 y1 y2 y3 y4 y5 y6 y7
                  rintro e w21 ⟨rfl, q21⟩
                  replace HQ := Lib.hid (bl_ca HQ.out q21)
                  clear q21
                  have t2 : w21.cell? ⟨g9, 2, none⟩ = some (.int .u64 (n1 : Int)) := (H9.out.ca HQ.out).cell 2
                  go_wp2_with fail
                  go_meet
                  exact ⟨by simp, HQ.out⟩
                · have d6 : ((κ : Int) == 6) = false := by simpa using hk6
                  have d3 : decide ((κ : Int) < 3) = false := by simpa using hk3
                  clear hk3 hk6
                  go_wp2_with fail
                  refine (HKI.out wc).mono ?_
                  clear y0 y1 y2 y3 y4 y5 y6 y7
                  rintro e w20 ⟨rfl, q20⟩
                  have HQ := Lib.hid q20
                  have y0 : w20.cell? ⟨g7, 0, none⟩ = some (.int .i64 o.kind) := (H7.out.ca q20).cell 0
                  have y1 : w20.cell? ⟨g7, 1, none⟩ = some (.int .i64 o.frm) := (H7.out.ca q20).cell 1
                  have y2 : w20.cell? ⟨g7, 2, none⟩ = some (.int .i64 o.to) := (H7.out.ca q20).cell 2
                  have y3 : w20.cell? ⟨g7, 3, none⟩ = some (.int .i64 o.at_) := (H7.out.ca q20).cell 3
                  have y4 : w20.cell? ⟨g7, 4, none⟩ = some (.int .i64 o.place) := (H7.out.ca q20).cell 4
                  have y5 : w20.cell? ⟨g7, 5, none⟩ = some (.bool o.oth) := (H7.out.ca q20).cell 5
                  have y6 : w20.cell? ⟨g7, 6, none⟩ = some (.int .u8 (o.by_.toNat : Int)) := (H7.out.ca q20).cell 6
                  have y7 : w20.cell? ⟨g7, 7, none⟩ = some (.slice oA on oc) := (H7.out.ca q20).cell 7
                  clear q20
                  go_wp2_with fail
                  refine (HKI.out w20).mono ?_
                  clear y0 y1 y2 y3 y4 y5 y6 y7
                  rintro e w21 ⟨rfl, q21⟩
                  replace HQ := Lib.hid (bl_ca HQ.out q21)
                  clear q21
                  go_wp2_with fail
                  go_meet
                  exact ⟨by simp, HQ.out⟩
            case rest =>
              obtain ⟨rfl, hq⟩ := hcut
              have hsq := hq.size
              replace H3 := Lib.hid (H3.out.ca hq)
              replace H9 := Lib.hid (H9.out.ca hq)
              replace HTR := Lib.hid (Lay.rd_below HTR.out hq)
              replace HSE2 := Lib.hid (HSE2.out.below hq)
              replace HOV := Lib.hid (HOV.out.below hq)
              replace HBW := Lib.hid (bl_ca HBW.out hq)
              clear hq H7 HTN HKI
              have t0 := H9.out.cell 0
              have t1 := H9.out.cell 1
              replace t0 : wc.cell? ⟨g9, 0, none⟩ = some (.int .u64 (n1 : Int)) := t0
              replace t1 : wc.cell? ⟨g9, 1, none⟩ = some (.slice A2 m2 c2) := t1
              go_wp2_with (refine wpList_store_blk rfl 26 (.tmp 3) (.tmp 170) rfl g3 26 #[.int .u64 s, .slice A m c] #[.int .u64 (n1 : Int), .slice A2 m2 c2] rfl rfl H3.out rfl netI (by simp [Value.oneCell']) ?_; intro wz hZ gz; have HZ := Lib.hid hZ; have HGZ := Lib.hid gz; clear hZ gz t0 t1)
              have hzs := HGZ.out.size
              replace HTR := Lib.hid (Lay.rd_keep (fun b hF hb => HGZ.out.block b hb (fun e => by have h9 : w6.heap.size ≤ b := hF.1; injection e with e; omega)) HTR.out)
              replace HSE2 := Lib.hid (HSE2.out.grown HGZ.out (by omega) (fun b h9 => by have h8 : b < w.heap.size := h9; omega))
              replace HOV := Lib.hid (HOV.out.grown HGZ.out (fun e => by injection e with e; omega))
              replace HBW := Lib.hid (bl_gr HBW.out HGZ.out hg3)
              have HLOOK := Lib.hid (fun (j : Nat) (hj : (Lit.int .u64 ((j : Int) + 1)).wf = true) => HOV.out.look (x := (j : Int) + 1) hj)
              clear H9 HGZ H3
              obtain ⟨gj, rfl⟩ : ∃ g, g = gk := ⟨_, rfl⟩
              obtain ⟨wo, rfl⟩ : ∃ y, y = wr := ⟨_, rfl⟩
              go_loopg [14, 173] n1 (fun gz l a wr => ∃ j t : Nat, j + gz = n1 ∧ a = .int .i64 j ∧ l = .int .i64 t ∧ t = leftN S2 j ∧ t ≤ j ∧ wz = wr)
              case atStart => exact ⟨0, 0, by omega, rfl, rfl, rfl, by omega, rfl⟩
              case round =>
                obtain ⟨j, t, hjg, rfl, rfl, ht, htj, rfl⟩ := hrel
                have HT := Lib.hid ht
                clear ht
                by_cases hj : j < n1
                · have hj1 : (j : Int) < (n1 : Int) := by omega
                  have hlk := HLOOK.out j (wf_u64s (by omega) (by omega))
                  cases hS : S2 ((j : Int) + 1)
                  · rw [hS] at hlk
                    have HS := Lib.hid hS
                    clear hS
                    go_wp2
                    go_roundg (gk - 1)
                    · exact ⟨j + 1, t + 1, by omega, by go_num, by go_num, by rw [HT.out]; show _ = leftN S2 j + _; rw [HS.out]; rfl, by omega, rfl⟩
                    · omega
                  · rw [hS] at hlk
                    have HS := Lib.hid hS
                    clear hS
                    go_wp2
                    go_roundg (gk - 1)
                    · exact ⟨j + 1, t, by omega, by go_num, rfl, by rw [HT.out]; show _ = leftN S2 j + _; rw [HS.out]; rfl, by omega, rfl⟩
                    · omega
                · obtain rfl : j = n1 := by omega
                  have hj1 : (j : Int) ≤ (j : Int) := by omega
                  obtain rfl : t = m2 := by have h1 := HINV2.out.left; rw [SentR.len HSE2.out] at h1; rw [HT.out, h1, HM2.out]
                  have z0 : wz.cell? ⟨g3, 0, none⟩ = some (.int .u64 (j : Int)) := HZ.out.cell 0
                  have z1 : wz.cell? ⟨g3, 1, none⟩ = some (.slice A2 t c2) := HZ.out.cell 1
                  have HCK := Lib.hid (check_any AllB (j : Int) A2 t c2 Tps wz (Lay.rd_weak (fun _ _ _ => trivial) HTR.out) (by have := (chk_rng HINV2.out.chk).2; have := HM2.out; omega))
                  rw [HINV2.out.chk, show errN true = 0 from rfl] at HCK
                  go_wp2_with fail
                  refine HCK.out.mono ?_
                  clear HCK z0 z1
                  rintro e w30 ⟨rfl, q30⟩
                  have z0 : w30.cell? ⟨g3, 0, none⟩ = some (.int .u64 (j : Int)) := (HZ.out.ca q30).cell 0
                  have HQ30 := Lib.hid q30
                  have hs30 := q30.size
                  clear q30
                  go_wp2
                  go_roundg (gj - 1)
                  · exact ⟨i + 1, _, A2, t, c2, Tps, sA2, j, sc2, sent2, S2, N2, by omega, by omega, rfl, by go_num, ⟨bl_ca HBW.out HQ30.out, HZ.out.ca HQ30.out, Lay.rd_weak (fun b h9 _ => HRF.out b h9) (Lay.rd_below HTR.out HQ30.out), HSE2.out.below HQ30.out, HOV.out.below HQ30.out⟩, by omega, by omega, by omega, HINV2.out⟩
                  · omega
          case first =>
            have HKC : κ = 0 ∨ κ = 1 ∨ κ = 2 ∨ κ = 3 ∨ κ = 4 ∨ κ = 5 ∨ κ = 6 ∨ κ = 7 := by rw [HKK.out]; exact kind_cases o
            rcases HKC with rfl | rfl | rfl | rfl | rfl | rfl | rfl | rfl
            · skip
              have hst := step_send HINV.out (by rw [← HKK.out]; decide) (by rw [← HTT.out])
              rw [← HTT.out] at hst
              dsimp only at hst
              have HINV2 := Lib.hid hst.1
              have HTN := Lib.hid hst.2
              clear hst
              have y0 : w10.cell? ⟨g7, 0, none⟩ = some (.int .i64 o.kind) := H7.out.cell 0
              have y1 : w10.cell? ⟨g7, 1, none⟩ = some (.int .i64 o.frm) := H7.out.cell 1
              have y2 : w10.cell? ⟨g7, 2, none⟩ = some (.int .i64 o.to) := H7.out.cell 2
              have y3 : w10.cell? ⟨g7, 3, none⟩ = some (.int .i64 o.at_) := H7.out.cell 3
              have y4 : w10.cell? ⟨g7, 4, none⟩ = some (.int .i64 o.place) := H7.out.cell 4
              have y5 : w10.cell? ⟨g7, 5, none⟩ = some (.bool o.oth) := H7.out.cell 5
              have y6 : w10.cell? ⟨g7, 6, none⟩ = some (.int .u8 (o.by_.toNat : Int)) := H7.out.cell 6
              have y7 : w10.cell? ⟨g7, 7, none⟩ = some (.slice oA on oc) := H7.out.cell 7
              have hgB : (w10.alloc (.cells #[.int .i64 o.kind, .int .i64 o.frm, .int .i64 o.to, .int .i64 o.at_, .int .i64 o.place, .bool o.oth, .int .u8 (o.by_.toNat : Int), .slice oA on oc] 49)).heap.size = w10.heap.size + 1 := by simp only [World.size_alloc]
              have qb := bl_al (Below.refl w10.heap.size w10) (.cells #[.int .i64 o.kind, .int .i64 o.frm, .int .i64 o.to, .int .i64 o.at_, .int .i64 o.place, .bool o.oth, .int .u8 (o.by_.toNat : Int), .slice oA on oc] 49)
              replace H3 := Lib.hid (H3.out.ca qb)
              replace H7 := Lib.hid (H7.out.ca qb)
              replace H9 := Lib.hid (H9.out.ca qb)
              replace HOB := Lib.hid (Lay.rd_below HOB.out qb)
              replace HSE := Lib.hid (HSE.out.below qb)
              replace HOV := Lib.hid (HOV.out.below qb)
              replace HBW := Lib.hid (bl_ca HBW.out qb)
              replace HTR := Lib.hid (Lay.rd_below HTR.out qb)
              replace HTB := Lib.hid (Lay.rd_below HTB.out qb)
              have hel : LO.rep (w10.alloc (.cells #[.int .i64 o.kind, .int .i64 o.frm, .int .i64 o.to, .int .i64 o.at_, .int .i64 o.place, .bool o.oth, .int .u8 (o.by_.toNat : Int), .slice oA on oc] 49)) (fun b => b < w.heap.size ∧ (Value.slice sA sn sc).ownBlock ≠ some b) o (#[.int .i64 o.kind, .int .i64 o.frm, .int .i64 o.to, .int .i64 o.at_, .int .i64 o.place, .bool o.oth, .int .u8 (o.by_.toNat : Int), .slice oA on oc] : Array Value).toList := ⟨oA, on, oc, rfl, hoc1, hoc2, Lay.rd_weak (fun b hb _ => ⟨hb, fun e => by have h8 := HSB.out b e; have h9 : b < w.heap.size := hb; omega⟩) (HOB.out)⟩
              have HEL := Lib.hid hel
              clear hel qb
              obtain ⟨n1, hn1⟩ : ∃ n1, n1 = sn + 1 := ⟨_, rfl⟩
              have hn1b : n1 ≤ 61 := by omega
              have hn1c : n1 ≤ i + 1 := by omega
              have HN1 := Lib.hid hn1
              clear hn1
              go_wp2_with (refine wpList_appO rfl (.tmp 43) (.tmp 45) rfl (g3 + 2) (fun b => b < w.heap.size) sA sn sc sent w10.heap.size 1 49 #[.int .i64 o.kind, .int .i64 o.frm, .int .i64 o.to, .int .i64 o.at_, .int .i64 o.place, .bool o.oth, .int .u8 (o.by_.toNat : Int), .slice oA on oc] o rfl rfl HSE.out (Blk.new _ _ _) HEL.out (fun b hb => by have h9 : b < w.heap.size := hb; omega) (by omega) (by omega) n1 HN1.out ?_; intro sA2 sc2 w11 hS11 hg11 hat11; obtain ⟨QQ⟩ : Nonempty Unit := ⟨()⟩; have hcar : ∀ b, b < (w10.alloc (.cells #[.int .i64 o.kind, .int .i64 o.frm, .int .i64 o.to, .int .i64 o.at_, .int .i64 o.place, .bool o.oth, .int .u8 (o.by_.toNat : Int), .slice oA on oc] 49)).heap.size → (Value.slice sA sn sc).ownBlock ≠ some b → w11.heap[b]? = (w10.alloc (.cells #[.int .i64 o.kind, .int .i64 o.frm, .int .i64 o.to, .int .i64 o.at_, .int .i64 o.place, .bool o.oth, .int .u8 (o.by_.toNat : Int), .slice oA on oc] 49)).heap[b]? := fun b hb hne => hg11.block b hb (fun e => hne e.symm); have HS11 := Lib.hid hS11; have HAT := Lib.hid hat11; have HG11 := Lib.hid hg11; have HCAR := Lib.hid hcar; clear hS11 hg11 hat11 hcar y0 y1 y2 y3 y4 y5 y6 y7)
              replace H3 := Lib.hid (show Blk w11 g3 _ _ from (HCAR.out g3 H3.out.lt (fun e => by have := HSB.out _ e; omega)).trans H3.out)
              replace H7 := Lib.hid (show Blk w11 g7 _ _ from (HCAR.out g7 H7.out.lt (fun e => by have := HSB.out _ e; omega)).trans H7.out)
              replace H9 := Lib.hid (show Blk w11 g9 _ _ from (HCAR.out g9 H9.out.lt (fun e => by have := HSB.out _ e; omega)).trans H9.out)
              replace HTR := Lib.hid (Lay.rd_keep (fun b hF hb => HCAR.out b hb (fun e => by have h9 : w6.heap.size ≤ b := hF.1; have := (HSB.out _ e).2; omega)) HTR.out)
              replace HOV := Lib.hid (HOV.out.same (HCAR.out (g3 + 1) HOV.out.lt (fun e => by have := HSB.out _ e; omega)))
              have hs11 : w10.heap.size + 1 ≤ w11.heap.size := by have := HG11.out.size; omega
              replace HBW := Lib.hid (HBW.out.grown HG11.out HBW.out.size (fun k h9 => by have := HSB.out _ h9; omega))
              have HSE2 := Lib.hid HS11.out
              have HRF := Lib.hid (show ∀ (b : Nat), (w6.heap.size ≤ b ∧ b < g9) → b ≠ g3 ∧ b ≠ g3 + 1 ∧ (Value.slice sA2 n1 sc2).ownBlock ≠ some b from fun b hb => ⟨by omega, by omega, fun e => by rcases HAT.out with h8 | h8; rw [h8] at e; have := HSB.out _ e; omega; rw [h8] at e; injection e with e; omega⟩)
              try go_wp2_with fail
              go_meet
              exact ⟨sA2, n1, sc2, (sent ++ [o]), S, N, rfl, H3.out, H7.out, H9.out, HTR.out, HSE2.out, HOV.out, HBW.out, HINV2.out, HRF.out, fun _ => by have := HTN.out; have := HSL2.out; have := HN1.out; omega, by omega, by omega, by omega⟩
            · skip
              have hst := step_send HINV.out (by rw [← HKK.out]; decide) (by rw [← HTT.out])
              rw [← HTT.out] at hst
              dsimp only at hst
              have HINV2 := Lib.hid hst.1
              have HTN := Lib.hid hst.2
              clear hst
              have y0 : w10.cell? ⟨g7, 0, none⟩ = some (.int .i64 o.kind) := H7.out.cell 0
              have y1 : w10.cell? ⟨g7, 1, none⟩ = some (.int .i64 o.frm) := H7.out.cell 1
              have y2 : w10.cell? ⟨g7, 2, none⟩ = some (.int .i64 o.to) := H7.out.cell 2
              have y3 : w10.cell? ⟨g7, 3, none⟩ = some (.int .i64 o.at_) := H7.out.cell 3
              have y4 : w10.cell? ⟨g7, 4, none⟩ = some (.int .i64 o.place) := H7.out.cell 4
              have y5 : w10.cell? ⟨g7, 5, none⟩ = some (.bool o.oth) := H7.out.cell 5
              have y6 : w10.cell? ⟨g7, 6, none⟩ = some (.int .u8 (o.by_.toNat : Int)) := H7.out.cell 6
              have y7 : w10.cell? ⟨g7, 7, none⟩ = some (.slice oA on oc) := H7.out.cell 7
              have hgB : (w10.alloc (.cells #[.int .i64 o.kind, .int .i64 o.frm, .int .i64 o.to, .int .i64 o.at_, .int .i64 o.place, .bool o.oth, .int .u8 (o.by_.toNat : Int), .slice oA on oc] 49)).heap.size = w10.heap.size + 1 := by simp only [World.size_alloc]
              have qb := bl_al (Below.refl w10.heap.size w10) (.cells #[.int .i64 o.kind, .int .i64 o.frm, .int .i64 o.to, .int .i64 o.at_, .int .i64 o.place, .bool o.oth, .int .u8 (o.by_.toNat : Int), .slice oA on oc] 49)
              replace H3 := Lib.hid (H3.out.ca qb)
              replace H7 := Lib.hid (H7.out.ca qb)
              replace H9 := Lib.hid (H9.out.ca qb)
              replace HOB := Lib.hid (Lay.rd_below HOB.out qb)
              replace HSE := Lib.hid (HSE.out.below qb)
              replace HOV := Lib.hid (HOV.out.below qb)
              replace HBW := Lib.hid (bl_ca HBW.out qb)
              replace HTR := Lib.hid (Lay.rd_below HTR.out qb)
              replace HTB := Lib.hid (Lay.rd_below HTB.out qb)
              have hel : LO.rep (w10.alloc (.cells #[.int .i64 o.kind, .int .i64 o.frm, .int .i64 o.to, .int .i64 o.at_, .int .i64 o.place, .bool o.oth, .int .u8 (o.by_.toNat : Int), .slice oA on oc] 49)) (fun b => b < w.heap.size ∧ (Value.slice sA sn sc).ownBlock ≠ some b) o (#[.int .i64 o.kind, .int .i64 o.frm, .int .i64 o.to, .int .i64 o.at_, .int .i64 o.place, .bool o.oth, .int .u8 (o.by_.toNat : Int), .slice oA on oc] : Array Value).toList := ⟨oA, on, oc, rfl, hoc1, hoc2, Lay.rd_weak (fun b hb _ => ⟨hb, fun e => by have h8 := HSB.out b e; have h9 : b < w.heap.size := hb; omega⟩) (HOB.out)⟩
              have HEL := Lib.hid hel
              clear hel qb
              obtain ⟨n1, hn1⟩ : ∃ n1, n1 = sn + 1 := ⟨_, rfl⟩
              have hn1b : n1 ≤ 61 := by omega
              have hn1c : n1 ≤ i + 1 := by omega
              have HN1 := Lib.hid hn1
              clear hn1
              go_wp2_with (refine wpList_appO rfl (.tmp 43) (.tmp 45) rfl (g3 + 2) (fun b => b < w.heap.size) sA sn sc sent w10.heap.size 1 49 #[.int .i64 o.kind, .int .i64 o.frm, .int .i64 o.to, .int .i64 o.at_, .int .i64 o.place, .bool o.oth, .int .u8 (o.by_.toNat : Int), .slice oA on oc] o rfl rfl HSE.out (Blk.new _ _ _) HEL.out (fun b hb => by have h9 : b < w.heap.size := hb; omega) (by omega) (by omega) n1 HN1.out ?_; intro sA2 sc2 w11 hS11 hg11 hat11; obtain ⟨QQ⟩ : Nonempty Unit := ⟨()⟩; have hcar : ∀ b, b < (w10.alloc (.cells #[.int .i64 o.kind, .int .i64 o.frm, .int .i64 o.to, .int .i64 o.at_, .int .i64 o.place, .bool o.oth, .int .u8 (o.by_.toNat : Int), .slice oA on oc] 49)).heap.size → (Value.slice sA sn sc).ownBlock ≠ some b → w11.heap[b]? = (w10.alloc (.cells #[.int .i64 o.kind, .int .i64 o.frm, .int .i64 o.to, .int .i64 o.at_, .int .i64 o.place, .bool o.oth, .int .u8 (o.by_.toNat : Int), .slice oA on oc] 49)).heap[b]? := fun b hb hne => hg11.block b hb (fun e => hne e.symm); have HS11 := Lib.hid hS11; have HAT := Lib.hid hat11; have HG11 := Lib.hid hg11; have HCAR := Lib.hid hcar; clear hS11 hg11 hat11 hcar y0 y1 y2 y3 y4 y5 y6 y7)
              replace H3 := Lib.hid (show Blk w11 g3 _ _ from (HCAR.out g3 H3.out.lt (fun e => by have := HSB.out _ e; omega)).trans H3.out)
              replace H7 := Lib.hid (show Blk w11 g7 _ _ from (HCAR.out g7 H7.out.lt (fun e => by have := HSB.out _ e; omega)).trans H7.out)
              replace H9 := Lib.hid (show Blk w11 g9 _ _ from (HCAR.out g9 H9.out.lt (fun e => by have := HSB.out _ e; omega)).trans H9.out)
              replace HTR := Lib.hid (Lay.rd_keep (fun b hF hb => HCAR.out b hb (fun e => by have h9 : w6.heap.size ≤ b := hF.1; have := (HSB.out _ e).2; omega)) HTR.out)
              replace HOV := Lib.hid (HOV.out.same (HCAR.out (g3 + 1) HOV.out.lt (fun e => by have := HSB.out _ e; omega)))
              have hs11 : w10.heap.size + 1 ≤ w11.heap.size := by have := HG11.out.size; omega
              replace HBW := Lib.hid (HBW.out.grown HG11.out HBW.out.size (fun k h9 => by have := HSB.out _ h9; omega))
              have HSE2 := Lib.hid HS11.out
              have HRF := Lib.hid (show ∀ (b : Nat), (w6.heap.size ≤ b ∧ b < g9) → b ≠ g3 ∧ b ≠ g3 + 1 ∧ (Value.slice sA2 n1 sc2).ownBlock ≠ some b from fun b hb => ⟨by omega, by omega, fun e => by rcases HAT.out with h8 | h8; rw [h8] at e; have := HSB.out _ e; omega; rw [h8] at e; injection e with e; omega⟩)
              try go_wp2_with fail
              go_meet
              exact ⟨sA2, n1, sc2, (sent ++ [o]), S, N, rfl, H3.out, H7.out, H9.out, HTR.out, HSE2.out, HOV.out, HBW.out, HINV2.out, HRF.out, fun _ => by have := HTN.out; have := HSL2.out; have := HN1.out; omega, by omega, by omega, by omega⟩
            · skip
              have hst := step_send HINV.out (by rw [← HKK.out]; decide) (by rw [← HTT.out])
              rw [← HTT.out] at hst
              dsimp only at hst
              have HINV2 := Lib.hid hst.1
              have HTN := Lib.hid hst.2
              clear hst
              have y0 : w10.cell? ⟨g7, 0, none⟩ = some (.int .i64 o.kind) := H7.out.cell 0
              have y1 : w10.cell? ⟨g7, 1, none⟩ = some (.int .i64 o.frm) := H7.out.cell 1
              have y2 : w10.cell? ⟨g7, 2, none⟩ = some (.int .i64 o.to) := H7.out.cell 2
              have y3 : w10.cell? ⟨g7, 3, none⟩ = some (.int .i64 o.at_) := H7.out.cell 3
              have y4 : w10.cell? ⟨g7, 4, none⟩ = some (.int .i64 o.place) := H7.out.cell 4
              have y5 : w10.cell? ⟨g7, 5, none⟩ = some (.bool o.oth) := H7.out.cell 5
              have y6 : w10.cell? ⟨g7, 6, none⟩ = some (.int .u8 (o.by_.toNat : Int)) := H7.out.cell 6
              have y7 : w10.cell? ⟨g7, 7, none⟩ = some (.slice oA on oc) := H7.out.cell 7
              have hgB : (w10.alloc (.cells #[.int .i64 o.kind, .int .i64 o.frm, .int .i64 o.to, .int .i64 o.at_, .int .i64 o.place, .bool o.oth, .int .u8 (o.by_.toNat : Int), .slice oA on oc] 49)).heap.size = w10.heap.size + 1 := by simp only [World.size_alloc]
              have qb := bl_al (Below.refl w10.heap.size w10) (.cells #[.int .i64 o.kind, .int .i64 o.frm, .int .i64 o.to, .int .i64 o.at_, .int .i64 o.place, .bool o.oth, .int .u8 (o.by_.toNat : Int), .slice oA on oc] 49)
              replace H3 := Lib.hid (H3.out.ca qb)
              replace H7 := Lib.hid (H7.out.ca qb)
              replace H9 := Lib.hid (H9.out.ca qb)
              replace HOB := Lib.hid (Lay.rd_below HOB.out qb)
              replace HSE := Lib.hid (HSE.out.below qb)
              replace HOV := Lib.hid (HOV.out.below qb)
              replace HBW := Lib.hid (bl_ca HBW.out qb)
              replace HTR := Lib.hid (Lay.rd_below HTR.out qb)
              replace HTB := Lib.hid (Lay.rd_below HTB.out qb)
              have hel : LO.rep (w10.alloc (.cells #[.int .i64 o.kind, .int .i64 o.frm, .int .i64 o.to, .int .i64 o.at_, .int .i64 o.place, .bool o.oth, .int .u8 (o.by_.toNat : Int), .slice oA on oc] 49)) (fun b => b < w.heap.size ∧ (Value.slice sA sn sc).ownBlock ≠ some b) o (#[.int .i64 o.kind, .int .i64 o.frm, .int .i64 o.to, .int .i64 o.at_, .int .i64 o.place, .bool o.oth, .int .u8 (o.by_.toNat : Int), .slice oA on oc] : Array Value).toList := ⟨oA, on, oc, rfl, hoc1, hoc2, Lay.rd_weak (fun b hb _ => ⟨hb, fun e => by have h8 := HSB.out b e; have h9 : b < w.heap.size := hb; omega⟩) (HOB.out)⟩
              have HEL := Lib.hid hel
              clear hel qb
              obtain ⟨n1, hn1⟩ : ∃ n1, n1 = sn + 1 := ⟨_, rfl⟩
              have hn1b : n1 ≤ 61 := by omega
              have hn1c : n1 ≤ i + 1 := by omega
              have HN1 := Lib.hid hn1
              clear hn1
              go_wp2_with (refine wpList_appO rfl (.tmp 43) (.tmp 45) rfl (g3 + 2) (fun b => b < w.heap.size) sA sn sc sent w10.heap.size 1 49 #[.int .i64 o.kind, .int .i64 o.frm, .int .i64 o.to, .int .i64 o.at_, .int .i64 o.place, .bool o.oth, .int .u8 (o.by_.toNat : Int), .slice oA on oc] o rfl rfl HSE.out (Blk.new _ _ _) HEL.out (fun b hb => by have h9 : b < w.heap.size := hb; omega) (by omega) (by omega) n1 HN1.out ?_; intro sA2 sc2 w11 hS11 hg11 hat11; obtain ⟨QQ⟩ : Nonempty Unit := ⟨()⟩; have hcar : ∀ b, b < (w10.alloc (.cells #[.int .i64 o.kind, .int .i64 o.frm, .int .i64 o.to, .int .i64 o.at_, .int .i64 o.place, .bool o.oth, .int .u8 (o.by_.toNat : Int), .slice oA on oc] 49)).heap.size → (Value.slice sA sn sc).ownBlock ≠ some b → w11.heap[b]? = (w10.alloc (.cells #[.int .i64 o.kind, .int .i64 o.frm, .int .i64 o.to, .int .i64 o.at_, .int .i64 o.place, .bool o.oth, .int .u8 (o.by_.toNat : Int), .slice oA on oc] 49)).heap[b]? := fun b hb hne => hg11.block b hb (fun e => hne e.symm); have HS11 := Lib.hid hS11; have HAT := Lib.hid hat11; have HG11 := Lib.hid hg11; have HCAR := Lib.hid hcar; clear hS11 hg11 hat11 hcar y0 y1 y2 y3 y4 y5 y6 y7)
              replace H3 := Lib.hid (show Blk w11 g3 _ _ from (HCAR.out g3 H3.out.lt (fun e => by have := HSB.out _ e; omega)).trans H3.out)
              replace H7 := Lib.hid (show Blk w11 g7 _ _ from (HCAR.out g7 H7.out.lt (fun e => by have := HSB.out _ e; omega)).trans H7.out)
              replace H9 := Lib.hid (show Blk w11 g9 _ _ from (HCAR.out g9 H9.out.lt (fun e => by have := HSB.out _ e; omega)).trans H9.out)
              replace HTR := Lib.hid (Lay.rd_keep (fun b hF hb => HCAR.out b hb (fun e => by have h9 : w6.heap.size ≤ b := hF.1; have := (HSB.out _ e).2; omega)) HTR.out)
              replace HOV := Lib.hid (HOV.out.same (HCAR.out (g3 + 1) HOV.out.lt (fun e => by have := HSB.out _ e; omega)))
              have hs11 : w10.heap.size + 1 ≤ w11.heap.size := by have := HG11.out.size; omega
              replace HBW := Lib.hid (HBW.out.grown HG11.out HBW.out.size (fun k h9 => by have := HSB.out _ h9; omega))
              have HSE2 := Lib.hid HS11.out
              have HRF := Lib.hid (show ∀ (b : Nat), (w6.heap.size ≤ b ∧ b < g9) → b ≠ g3 ∧ b ≠ g3 + 1 ∧ (Value.slice sA2 n1 sc2).ownBlock ≠ some b from fun b hb => ⟨by omega, by omega, fun e => by rcases HAT.out with h8 | h8; rw [h8] at e; have := HSB.out _ e; omega; rw [h8] at e; injection e with e; omega⟩)
              try go_wp2_with fail
              go_meet
              exact ⟨sA2, n1, sc2, (sent ++ [o]), S, N, rfl, H3.out, H7.out, H9.out, HTR.out, HSE2.out, HOV.out, HBW.out, HINV2.out, HRF.out, fun _ => by have := HTN.out; have := HSL2.out; have := HN1.out; omega, by omega, by omega, by omega⟩
            · as_aux_lemma =>
              have hst := step_come HINV.out HKK.out.symm (by rw [← HTT.out])
              rw [← HTT.out, ← HXX.out] at hst
              dsimp only at hst
              have hrg := HINV.out.rng hst.1
              obtain ⟨o2, ho2, hf2, ht2, hb2, hn2⟩ := HINV.out.sent_at hst.1
              have HBND := Lib.hid (show Tp.bs.length ≤ 60000 from by have h9 : Tp = _ := hst.2.2; rw [h9]; exact ((chk_iff.1 HINV.out.chk).2.2.1 _ (getP_mem hst.1).1).len)
              rw [← hst.2.2] at hf2 ht2 hb2 hn2
              have hxs : x ≤ (sn : Int) := by have := HSL2.out; have h8 := hrg.2.1; omega
              have hx1 : 1 ≤ x := hrg.1
              have HSX := Lib.hid hrg.2.2
              have HINV2 := Lib.hid hst.2.1
              have HO2 := Lib.hid ho2
              have HB2 := Lib.hid hb2
              try dsimp only at hf2 ht2 hb2 hn2
              clear hst hrg ho2
              obtain ⟨j, hj⟩ : ∃ j : Nat, j = (x - 1).toNat := ⟨_, rfl⟩
              have hxj : x = (j : Int) + 1 := by omega
              have hjn : j < sn := by omega
              rw [← hj] at HO2
              clear hj
              subst hxj
              obtain ⟨ad2, o2x, o2A, o2n, o2c, hsA, ho2x, so2⟩ := SentR.at_ HSE.out hjn
              obtain rfl : o2x = o2 := by have h9 := HO2.out; rw [ho2x] at h9; injection h9
              subst hsA
              have e0 := so2.c0
              have e1 := so2.c1
              have e2 := so2.c2
              have e3 := so2.c3
              have e4 := so2.c4
              have e5 := so2.c5
              have e6 := so2.c6
              have e7 := so2.c7
              have ho2c1 := so2.nc
              have ho2c2 := so2.cm
              have HO2B := Lib.hid (LB_rd so2.bs)
              have hlk := HOV.out.look (x := (j : Int) + 1) (wf_u64s (by omega) (by omega))
              rw [HSX.out] at hlk
              have c3 : w10.cell? ⟨g9, 3, none⟩ = some (.int .u64 ((j : Int) + 1)) := by rw [← hn2]; exact H9.out.cell 3
              have c4 : w10.cell? ⟨g9, 4, none⟩ = some (.int .i64 o2x.frm) := by rw [← hf2]; exact H9.out.cell 4
              have c5 : w10.cell? ⟨g9, 5, none⟩ = some (.int .i64 o2x.to) := by rw [← ht2]; exact H9.out.cell 5
              have c6 : w10.cell? ⟨g9, 6, none⟩ = some (.slice D2 n2 d2) := H9.out.cell 6
              have HC4 := Lib.hid hf2
              have HC5 := Lib.hid ht2
              have hn2b : n2 ≤ 60000 := by have h1 := Lay.rd_len HTB.out; have h2 := HBND.out; omega
              clear ho2x hn2 hf2 ht2 hb2 so2
              cases hsp : Tp.sp
              · rw [hsp] at HB2
                have HSP := Lib.hid hsp
                clear hsp
                have qb := bl_al (Below.refl w10.heap.size w10) (.cells #[.int .i64 o2x.kind, .int .i64 o2x.frm, .int .i64 o2x.to, .int .i64 o2x.at_, .int .i64 o2x.place, .bool o2x.oth, .int .u8 (o2x.by_.toNat : Int), .slice o2A o2n o2c] 49)
                have H10 := Lib.hid (Blk.new w10 49 #[.int .i64 o2x.kind, .int .i64 o2x.frm, .int .i64 o2x.to, .int .i64 o2x.at_, .int .i64 o2x.place, .bool o2x.oth, .int .u8 (o2x.by_.toNat : Int), .slice o2A o2n o2c])
                have hgB : (w10.alloc (.cells #[.int .i64 o2x.kind, .int .i64 o2x.frm, .int .i64 o2x.to, .int .i64 o2x.at_, .int .i64 o2x.place, .bool o2x.oth, .int .u8 (o2x.by_.toNat : Int), .slice o2A o2n o2c] 49)).heap.size = w10.heap.size + 1 := by simp only [World.size_alloc]
                replace H3 := Lib.hid (H3.out.ca qb)
                replace H7 := Lib.hid (H7.out.ca qb)
                replace H9 := Lib.hid (H9.out.ca qb)
                replace HSE := Lib.hid (HSE.out.below qb)
                replace HOV := Lib.hid (HOV.out.below qb)
                replace HBW := Lib.hid (bl_ca HBW.out qb)
                replace HTR := Lib.hid (Lay.rd_below HTR.out qb)
                replace HTB := Lib.hid (Lay.rd_below HTB.out qb)
                have HO2C := Lib.hid (HO2B.out.below qb)
                clear qb
                have c7 : (w10.alloc (.cells #[.int .i64 o2x.kind, .int .i64 o2x.frm, .int .i64 o2x.to, .int .i64 o2x.at_, .int .i64 o2x.place, .bool o2x.oth, .int .u8 (o2x.by_.toNat : Int), .slice o2A o2n o2c] 49)).cell? ⟨g9, 7, none⟩ = some (.bool false) := by rw [← HSP.out]; exact H9.out.cell 7
                go_wp2_with fail
                generalize w10.alloc (.cells #[.int .i64 o2x.kind, .int .i64 o2x.frm, .int .i64 o2x.to, .int .i64 o2x.at_, .int .i64 o2x.place, .bool o2x.oth, .int .u8 (o2x.by_.toNat : Int), .slice o2A o2n o2c] 49) = w11 at *
                generalize w10.heap.size = g10 at *
                clear c3 c4 c5 c6 c7 e0 e1 e2 e3 e4 e5 e6 e7 hlk
                refine wp_region_ps (S := SeqN [19] (fun z m w' => match z with | 0 => Below w11.heap.size w11 w' | _ => Below w11.heap.size w11 w' ∧ ∃ bA bk bc, m 19 = .slice bA bk bc ∧ OwnB w' w11.heap.size bA bk bc (bytesO o2x))) (by kernel_rfl) ?spswqf ?ppswqf
                case spswqf =>
                  exact SeqN.start (by decide) (Below.refl _ _).drew
                refine Ps.step (i := 0) (d := some 97) (u := ?uwqf_1) rfl rfl (by kernel_rfl) (by kernel_rfl) (by kernel_rfl) (by kernel_rfl) ?ywqf_1 ?rwqf_1
                case ywqf_1 =>
                  refine StepS.pure (SeqN.pass (by decide)) (by rfl) (fun w9 => ?_)
                  go_simp
                  try rfl
                try simp only [Act.put, List.setIfInBounds_toArray, List.set_cons_zero, List.set_cons_succ]
                refine Ps.step (i := 1) (d := some 98) (u := ?uwqf_2) rfl rfl (by kernel_rfl) (by kernel_rfl) (by kernel_rfl) (by kernel_rfl) ?ywqf_2 ?rwqf_2
                case ywqf_2 =>
                  refine StepS.pure (SeqN.pass (by decide)) (by rfl) (fun w9 => ?_)
                  go_simp
                  try rfl
                try simp only [Act.put, List.setIfInBounds_toArray, List.set_cons_zero, List.set_cons_succ]
                refine Ps.step (i := 2) (d := some 99) (u := ?uwqf_3) rfl rfl (by kernel_rfl) (by kernel_rfl) (by kernel_rfl) (by kernel_rfl) ?ywqf_3 ?rwqf_3
                case ywqf_3 =>
                  refine StepS.read [] (by kernel_rfl) (SeqN.pass (by decide)) (by rfl) (fun L9 m9 w9 hSh hAt hDn hS => ?_)
                  have hT : Below w11.heap.size w11 w9 := SeqN.any (T := fun w9 => Below w11.heap.size w11 w9) (fun z _ _ h => by match z, h with | 0, h => exact h | _ + 1, h => exact h.1) hS
                  have xx : w9.cell? ⟨g9, 4, none⟩ = some (.int .i64 o2x.frm) := by rw [← HC4.out]; exact (H9.out.ca hT).cell 4
                  clear hT hS
                  go_simp
                  try rfl
                try simp only [Act.put, List.setIfInBounds_toArray, List.set_cons_zero, List.set_cons_succ]
                refine Ps.step (i := 3) (d := some 100) (u := ?uwqf_4) rfl rfl (by kernel_rfl) (by kernel_rfl) (by kernel_rfl) (by kernel_rfl) ?ywqf_4 ?rwqf_4
                case ywqf_4 =>
                  refine StepS.pure (SeqN.pass (by decide)) (by rfl) (fun w9 => ?_)
                  go_simp
                  try rfl
                try simp only [Act.put, List.setIfInBounds_toArray, List.set_cons_zero, List.set_cons_succ]
                refine Ps.step (i := 4) (d := some 101) (u := ?uwqf_5) rfl rfl (by kernel_rfl) (by kernel_rfl) (by kernel_rfl) (by kernel_rfl) ?ywqf_5 ?rwqf_5
                case ywqf_5 =>
                  refine StepS.read [] (by kernel_rfl) (SeqN.pass (by decide)) (by rfl) (fun L9 m9 w9 hSh hAt hDn hS => ?_)
                  have hT : Below w11.heap.size w11 w9 := SeqN.any (T := fun w9 => Below w11.heap.size w11 w9) (fun z _ _ h => by match z, h with | 0, h => exact h | _ + 1, h => exact h.1) hS
                  have xx : w9.cell? ⟨g10, 1, none⟩ = some (.int .i64 o2x.frm) := (H10.out.ca hT).cell 1
                  clear hT hS
                  go_simp
                  try rfl
                try simp only [Act.put, List.setIfInBounds_toArray, List.set_cons_zero, List.set_cons_succ]
                refine Ps.step (i := 5) (d := some 102) (u := ?uwqf_6) rfl rfl (by kernel_rfl) (by kernel_rfl) (by kernel_rfl) (by kernel_rfl) ?ywqf_6 ?rwqf_6
                case ywqf_6 =>
                  refine StepS.pure (SeqN.pass (by decide)) (by rfl) (fun w9 => ?_)
                  go_simp
                  try rfl
                try simp only [Act.put, List.setIfInBounds_toArray, List.set_cons_zero, List.set_cons_succ]
                refine Ps.step (i := 6) (d := some 103) (u := ?uwqf_7) rfl rfl (by kernel_rfl) (by kernel_rfl) (by kernel_rfl) (by kernel_rfl) ?ywqf_7 ?rwqf_7
                case ywqf_7 =>
                  refine StepS.pure (SeqN.pass (by decide)) (by rfl) (fun w9 => ?_)
                  go_simp
                  try rfl
                try simp only [Act.put, List.setIfInBounds_toArray, List.set_cons_zero, List.set_cons_succ]
                refine Ps.step (i := 7) (d := some 104) (u := ?uwqf_8) rfl rfl (by kernel_rfl) (by kernel_rfl) (by kernel_rfl) (by kernel_rfl) ?ywqf_8 ?rwqf_8
                case ywqf_8 =>
                  refine StepS.pure (SeqN.pass (by decide)) (by rfl) (fun w9 => ?_)
                  go_simp
                  try rfl
                try simp only [Act.put, List.setIfInBounds_toArray, List.set_cons_zero, List.set_cons_succ]
                refine Ps.step (i := 8) (d := some 105) (u := ?uwqf_9) rfl rfl (by kernel_rfl) (by kernel_rfl) (by kernel_rfl) (by kernel_rfl) ?ywqf_9 ?rwqf_9
                case ywqf_9 =>
                  refine StepS.pure (SeqN.pass (by decide)) (by rfl) (fun w9 => ?_)
                  go_simp
                  try rfl
                try simp only [Act.put, List.setIfInBounds_toArray, List.set_cons_zero, List.set_cons_succ]
                refine Ps.step (i := 9) (d := some 106) (u := ?uwqf_10) rfl rfl (by kernel_rfl) (by kernel_rfl) (by kernel_rfl) (by kernel_rfl) ?ywqf_10 ?rwqf_10
                case ywqf_10 =>
                  refine StepS.read [] (by kernel_rfl) (SeqN.pass (by decide)) (by rfl) (fun L9 m9 w9 hSh hAt hDn hS => ?_)
                  have hT : Below w11.heap.size w11 w9 := SeqN.any (T := fun w9 => Below w11.heap.size w11 w9) (fun z _ _ h => by match z, h with | 0, h => exact h | _ + 1, h => exact h.1) hS
                  have xx : w9.cell? ⟨g9, 5, none⟩ = some (.int .i64 o2x.to) := by rw [← HC5.out]; exact (H9.out.ca hT).cell 5
                  clear hT hS
                  go_simp
                  try rfl
                try simp only [Act.put, List.setIfInBounds_toArray, List.set_cons_zero, List.set_cons_succ]
                refine Ps.step (i := 10) (d := some 107) (u := ?uwqf_11) rfl rfl (by kernel_rfl) (by kernel_rfl) (by kernel_rfl) (by kernel_rfl) ?ywqf_11 ?rwqf_11
                case ywqf_11 =>
                  refine StepS.pure (SeqN.pass (by decide)) (by rfl) (fun w9 => ?_)
                  go_simp
                  try rfl
                try simp only [Act.put, List.setIfInBounds_toArray, List.set_cons_zero, List.set_cons_succ]
                refine Ps.step (i := 11) (d := some 108) (u := ?uwqf_12) rfl rfl (by kernel_rfl) (by kernel_rfl) (by kernel_rfl) (by kernel_rfl) ?ywqf_12 ?rwqf_12
                case ywqf_12 =>
                  refine StepS.read [] (by kernel_rfl) (SeqN.pass (by decide)) (by rfl) (fun L9 m9 w9 hSh hAt hDn hS => ?_)
                  have hT : Below w11.heap.size w11 w9 := SeqN.any (T := fun w9 => Below w11.heap.size w11 w9) (fun z _ _ h => by match z, h with | 0, h => exact h | _ + 1, h => exact h.1) hS
                  have xx : w9.cell? ⟨g10, 2, none⟩ = some (.int .i64 o2x.to) := (H10.out.ca hT).cell 2
                  clear hT hS
                  go_simp
                  try rfl
                try simp only [Act.put, List.setIfInBounds_toArray, List.set_cons_zero, List.set_cons_succ]
                refine Ps.step (i := 12) (d := some 109) (u := ?uwqf_13) rfl rfl (by kernel_rfl) (by kernel_rfl) (by kernel_rfl) (by kernel_rfl) ?ywqf_13 ?rwqf_13
                case ywqf_13 =>
                  refine StepS.pure (SeqN.pass (by decide)) (by rfl) (fun w9 => ?_)
                  go_simp
                  try rfl
                try simp only [Act.put, List.setIfInBounds_toArray, List.set_cons_zero, List.set_cons_succ]
                refine Ps.step (i := 13) (d := some 110) (u := ?uwqf_14) rfl rfl (by kernel_rfl) (by kernel_rfl) (by kernel_rfl) (by kernel_rfl) ?ywqf_14 ?rwqf_14
                case ywqf_14 =>
                  refine StepS.pure (SeqN.pass (by decide)) (by rfl) (fun w9 => ?_)
                  go_simp
                  try rfl
                try simp only [Act.put, List.setIfInBounds_toArray, List.set_cons_zero, List.set_cons_succ]
                refine Ps.step (i := 14) (d := some 111) (u := ?uwqf_15) rfl rfl (by kernel_rfl) (by kernel_rfl) (by kernel_rfl) (by kernel_rfl) ?ywqf_15 ?rwqf_15
                case ywqf_15 =>
                  refine StepS.pure (SeqN.pass (by decide)) (by rfl) (fun w9 => ?_)
                  go_simp
                  try rfl
                try simp only [Act.put, List.setIfInBounds_toArray, List.set_cons_zero, List.set_cons_succ]
                refine Ps.step (i := 15) (d := some 112) (u := ?uwqf_16) rfl rfl (by kernel_rfl) (by kernel_rfl) (by kernel_rfl) (by kernel_rfl) ?ywqf_16 ?rwqf_16
                case ywqf_16 =>
                  refine StepS.pure (SeqN.pass (by decide)) (by rfl) (fun w9 => ?_)
                  go_simp
                  try rfl
                try simp only [Act.put, List.setIfInBounds_toArray, List.set_cons_zero, List.set_cons_succ]
                refine Ps.step (i := 16) (d := some 113) (u := ?uwqf_17) rfl rfl (by kernel_rfl) (by kernel_rfl) (by kernel_rfl) (by kernel_rfl) ?ywqf_17 ?rwqf_17
                case ywqf_17 =>
                  refine StepS.pure (SeqN.pass (by decide)) (by rfl) (fun w9 => ?_)
                  go_simp
                  try rfl
                try simp only [Act.put, List.setIfInBounds_toArray, List.set_cons_zero, List.set_cons_succ]
                refine Ps.step (i := 17) (d := some 114) (u := ?uwqf_18) rfl rfl (by kernel_rfl) (by kernel_rfl) (by kernel_rfl) (by kernel_rfl) ?ywqf_18 ?rwqf_18
                case ywqf_18 =>
                  refine StepS.read [] (by kernel_rfl) (SeqN.pass (by decide)) (by rfl) (fun L9 m9 w9 hSh hAt hDn hS => ?_)
                  have hT : Below w11.heap.size w11 w9 := SeqN.any (T := fun w9 => Below w11.heap.size w11 w9) (fun z _ _ h => by match z, h with | 0, h => exact h | _ + 1, h => exact h.1) hS
                  have xx : w9.cell? ⟨g9, 6, none⟩ = some (.slice D2 n2 d2) := (H9.out.ca hT).cell 6
                  clear hT hS
                  go_simp
                  try rfl
                try simp only [Act.put, List.setIfInBounds_toArray, List.set_cons_zero, List.set_cons_succ]
                refine Ps.step (i := 18) (d := some 115) (u := ?uwqf_19) rfl rfl (by kernel_rfl) (by kernel_rfl) (by kernel_rfl) (by kernel_rfl) ?ywqf_19 ?rwqf_19
                case ywqf_19 =>
                  refine StepS.read [] (by kernel_rfl) (SeqN.pass (by decide)) (by rfl) (fun L9 m9 w9 hSh hAt hDn hS => ?_)
                  have hT : Below w11.heap.size w11 w9 := SeqN.any (T := fun w9 => Below w11.heap.size w11 w9) (fun z _ _ h => by match z, h with | 0, h => exact h | _ + 1, h => exact h.1) hS
                  have x0 : w9.cell? ⟨g10, 0, none⟩ = some (.int .i64 o2x.kind) := (H10.out.ca hT).cell 0
                  have x1 : w9.cell? ⟨g10, 1, none⟩ = some (.int .i64 o2x.frm) := (H10.out.ca hT).cell 1
                  have x2 : w9.cell? ⟨g10, 2, none⟩ = some (.int .i64 o2x.to) := (H10.out.ca hT).cell 2
                  have x3 : w9.cell? ⟨g10, 3, none⟩ = some (.int .i64 o2x.at_) := (H10.out.ca hT).cell 3
                  have x4 : w9.cell? ⟨g10, 4, none⟩ = some (.int .i64 o2x.place) := (H10.out.ca hT).cell 4
                  have x5 : w9.cell? ⟨g10, 5, none⟩ = some (.bool o2x.oth) := (H10.out.ca hT).cell 5
                  have x6 : w9.cell? ⟨g10, 6, none⟩ = some (.int .u8 (o2x.by_.toNat : Int)) := (H10.out.ca hT).cell 6
                  have x7 : w9.cell? ⟨g10, 7, none⟩ = some (.slice o2A o2n o2c) := (H10.out.ca hT).cell 7
                  clear hT hS
                  go_simp
                  try rfl
                try simp only [Act.put, List.setIfInBounds_toArray, List.set_cons_zero, List.set_cons_succ]
                refine Ps.step (i := 21) (d := some 118) (u := ?uwqf_20) rfl rfl (by kernel_rfl) (by kernel_rfl) (by kernel_rfl) (by kernel_rfl) ?ywqf_20 ?rwqf_20
                case ywqf_20 =>
                  refine StepS.pure (SeqN.pass (by decide)) (by rfl) (fun w9 => ?_)
                  go_simp
                  try rfl
                try simp only [Act.put, List.setIfInBounds_toArray, List.set_cons_zero, List.set_cons_succ]
                refine Ps.one (k := 19) (d := some 116) rfl rfl (by kernel_rfl) (TurnS.call (V := fun v => ∃ bA bk bc, v = .slice bA bk bc) ?fwqf_21 ?awqf_21 [] (by kernel_rfl) (by rfl) (fun w9 => ?hwqf_21) (fun L9 m9 w9 hSh hAt hDn hS => ?cwqf_21)) (fun v19 hVv19 => ?rwqf_21)
                case hwqf_21 => go_simp; refine ⟨?_, ?_⟩ <;> rfl
                case cwqf_21 =>
                  have hT : Below w11.heap.size w11 w9 := SeqN.any (T := fun w9 => Below w11.heap.size w11 w9) (fun z _ _ h => by match z, h with | 0, h => exact h | _ + 1, h => exact h.1) hS
                  refine (bytes_any o2x o2A o2n o2c w9 (HO2C.out.below hT) ho2c1 ho2c2).mono ?_
                  rintro e w8 ⟨bA, bk, bc, rfl, hob, q8⟩
                  exact ⟨_, rfl, ⟨bA, bk, bc, rfl⟩, SeqN.set_ (m0 := m9) (m1 := m9) [] [] hSh (fun d hd => by cases hd) hDn (by kernel_rfl) (by decide) (by decide) ⟨bl_ca hT q8, bA, bk, bc, upd_same _ _ _, hob.less hT.size⟩⟩
                try simp only [Act.put, List.setIfInBounds_toArray, List.set_cons_zero, List.set_cons_succ]
                obtain ⟨bA, bk, bc, rfl⟩ := hVv19
                refine Ps.step (i := 20) (d := some 117) (u := (.int .i64 (0 : Int))) rfl rfl (by kernel_rfl) (by kernel_rfl) (by kernel_rfl) (by kernel_rfl) ?ywqf_22 ?rwqf_22
                case ywqf_22 =>
                  refine StepS.call ?fwqf_22 ?awqf_22 [19] (by kernel_rfl) (by rfl) (fun w9 => ?hwqf_22) (fun L9 m9 w9 hSh hAt hDn hS => ?cwqf_22)
                  case hwqf_22 => go_simp; refine ⟨?_, ?_⟩ <;> rfl
                  case cwqf_22 =>
                    have hT : Below w11.heap.size w11 w9 := SeqN.any (T := fun w9 => Below w11.heap.size w11 w9) (fun z _ _ h => by match z, h with | 0, h => exact h | _ + 1, h => exact h.1) hS
                    obtain ⟨_, A6, k6, c6, h6, hob⟩ := SeqN.after19 (hAt 19 (by simp)).1 hS
                    obtain ⟨rfl, rfl, rfl⟩ : bA = A6 ∧ bk = k6 ∧ bc = c6 := by have h9 : Value.slice bA bk bc = .slice A6 k6 c6 := (hAt 19 (by simp)).2.symm.trans h6; simpa using h9
                    refine (other_any D2 n2 d2 Tp.bs bA bk bc (bytesO o2x) w9 (LB_rd (Lay.rd_below HTB.out hT)) hob.rd (by omega) (by have := OwnB.rd hob; have h8 := this.len; have h7 : (bytesO o2x).length ≤ 60001 := (by unfold bytesO; rw [List.length_take]; omega); omega)).mono ?_
                    rintro e w8 ⟨rfl, q8⟩
                    rw [HB2.out]
                    exact ⟨rfl, SeqN.move9 (by decide) (fun z m h => by match z, h with | 0, h => exact bl_ca h q8 | _ + 1, ⟨h, A, n, c, e, r⟩ => exact ⟨bl_ca h q8, A, n, c, e, r.below q8⟩) hS⟩
                try simp only [Act.put, List.setIfInBounds_toArray, List.set_cons_zero, List.set_cons_succ]
                refine Ps.step (i := 22) (d := some 119) (u := ?uwqf_23) rfl rfl (by kernel_rfl) (by kernel_rfl) (by kernel_rfl) (by kernel_rfl) ?ywqf_23 ?rwqf_23
                case ywqf_23 =>
                  refine StepS.pure (SeqN.pass (by decide)) (by rfl) (fun w9 => ?_)
                  go_simp
                  try rfl
                try simp only [Act.put, List.setIfInBounds_toArray, List.set_cons_zero, List.set_cons_succ]
                refine Ps.step (i := 23) (d := some 120) (u := ?uwqf_24) rfl rfl (by kernel_rfl) (by kernel_rfl) (by kernel_rfl) (by kernel_rfl) ?ywqf_24 ?rwqf_24
                case ywqf_24 =>
                  refine StepS.pure (SeqN.pass (by decide)) (by rfl) (fun w9 => ?_)
                  go_simp
                  try rfl
                try simp only [Act.put, List.setIfInBounds_toArray, List.set_cons_zero, List.set_cons_succ]
                refine Ps.done (by kernel_rfl) (fun wqf hS => ?_) _
                have HT29 := Lib.hid (show Below w11.heap.size w11 _ from SeqN.any (T := fun w9 => Below w11.heap.size w11 w9) (fun z _ _ h => by match z, h with | 0, h => exact h | _ + 1, h => exact h.1) hS)
                clear hS
                obtain ⟨w12, rfl⟩ : ∃ x, x = wqf := ⟨_, rfl⟩
                replace H3 := Lib.hid (H3.out.ca HT29.out)
                replace H7 := Lib.hid (H7.out.ca HT29.out)
                replace H9 := Lib.hid (H9.out.ca HT29.out)
                replace HSE := Lib.hid (HSE.out.below HT29.out)
                replace HOV := Lib.hid (HOV.out.below HT29.out)
                replace HBW := Lib.hid (bl_ca HBW.out HT29.out)
                replace HTR := Lib.hid (Lay.rd_below HTR.out HT29.out)
                have hs12 := HT29.out.size
                clear HT29 H10 HTB
                go_wp2_with (at_mapUpdate; refine wpList_over rfl (.tmp 121) (.tmp 122) _ rfl (g3 + 1) N S ((j : Int) + 1) rfl rfl rfl HOV.out (by unfold maxLen; omega) (wf_u64s (by omega) (by omega)) ?_; intro w11 hov11 hg11; have HOV11 := Lib.hid hov11; have HG11 := Lib.hid hg11; clear hov11 hg11 hxs hx1)
                replace H3 := Lib.hid (H3.out.apart HG11.out (by omega))
                replace H7 := Lib.hid (H7.out.apart HG11.out (by omega))
                replace H9 := Lib.hid (H9.out.apart HG11.out (by omega))
                replace HTR := Lib.hid (Lay.rd_keep (fun b hF hb => HG11.out.block b hb (fun e => by have h9 : w6.heap.size ≤ b := hF.1; injection e with e; omega)) HTR.out)
                replace HSE := Lib.hid (HSE.out.grown HG11.out (by omega) (fun b h9 => by have h8 : b < w.heap.size := h9; omega))
                replace HOV := Lib.hid HOV11.out
                have hs11 := HG11.out.size
                replace HBW := Lib.hid (bl_gr HBW.out HG11.out (by omega))
                clear HOV11 HG11
                have HSE2 := Lib.hid HSE.out
                have HRF := Lib.hid (show ∀ (b : Nat), (w6.heap.size ≤ b ∧ b < g9) → b ≠ g3 ∧ b ≠ g3 + 1 ∧ (Value.slice (some ad2) sn sc).ownBlock ≠ some b from fun b hb => ⟨by omega, by omega, fun e => by have := HSB.out _ e; omega⟩)
                try go_wp2_with fail
                go_meet
                exact ⟨(some ad2), sn, sc, sent, (fun y => if y = (j : Int) + 1 then true else S y), (N + 1), rfl, H3.out, H7.out, H9.out, HTR.out, HSE2.out, HOV.out, HBW.out, HINV2.out, HRF.out, fun h9 => by omega, by omega, by omega, by omega⟩
              · rw [hsp] at HB2
                have HSP := Lib.hid hsp
                clear hsp
                have qb := bl_al (Below.refl w10.heap.size w10) (.cells #[.int .i64 o2x.kind, .int .i64 o2x.frm, .int .i64 o2x.to, .int .i64 o2x.at_, .int .i64 o2x.place, .bool o2x.oth, .int .u8 (o2x.by_.toNat : Int), .slice o2A o2n o2c] 49)
                have H10 := Lib.hid (Blk.new w10 49 #[.int .i64 o2x.kind, .int .i64 o2x.frm, .int .i64 o2x.to, .int .i64 o2x.at_, .int .i64 o2x.place, .bool o2x.oth, .int .u8 (o2x.by_.toNat : Int), .slice o2A o2n o2c])
                have hgB : (w10.alloc (.cells #[.int .i64 o2x.kind, .int .i64 o2x.frm, .int .i64 o2x.to, .int .i64 o2x.at_, .int .i64 o2x.place, .bool o2x.oth, .int .u8 (o2x.by_.toNat : Int), .slice o2A o2n o2c] 49)).heap.size = w10.heap.size + 1 := by simp only [World.size_alloc]
                replace H3 := Lib.hid (H3.out.ca qb)
                replace H7 := Lib.hid (H7.out.ca qb)
                replace H9 := Lib.hid (H9.out.ca qb)
                replace HSE := Lib.hid (HSE.out.below qb)
                replace HOV := Lib.hid (HOV.out.below qb)
                replace HBW := Lib.hid (bl_ca HBW.out qb)
                replace HTR := Lib.hid (Lay.rd_below HTR.out qb)
                replace HTB := Lib.hid (Lay.rd_below HTB.out qb)
                have HO2C := Lib.hid (HO2B.out.below qb)
                clear qb
                have c7 : (w10.alloc (.cells #[.int .i64 o2x.kind, .int .i64 o2x.frm, .int .i64 o2x.to, .int .i64 o2x.at_, .int .i64 o2x.place, .bool o2x.oth, .int .u8 (o2x.by_.toNat : Int), .slice o2A o2n o2c] 49)).cell? ⟨g9, 7, none⟩ = some (.bool true) := by rw [← HSP.out]; exact H9.out.cell 7
                go_wp2_with fail
                generalize w10.alloc (.cells #[.int .i64 o2x.kind, .int .i64 o2x.frm, .int .i64 o2x.to, .int .i64 o2x.at_, .int .i64 o2x.place, .bool o2x.oth, .int .u8 (o2x.by_.toNat : Int), .slice o2A o2n o2c] 49) = w11 at *
                generalize w10.heap.size = g10 at *
                clear c3 c4 c5 c6 c7 e0 e1 e2 e3 e4 e5 e6 e7 hlk
                refine wp_region_ps (S := SeqN [19] (fun z m w' => match z with | 0 => Below w11.heap.size w11 w' | _ => Below w11.heap.size w11 w' ∧ ∃ bA bk bc, m 19 = .slice bA bk bc ∧ OwnB w' w11.heap.size bA bk bc (bytesO o2x))) (by kernel_rfl) ?spswqt ?ppswqt
                case spswqt =>
                  exact SeqN.start (by decide) (Below.refl _ _).drew
                refine Ps.step (i := 0) (d := some 97) (u := ?uwqt_25) rfl rfl (by kernel_rfl) (by kernel_rfl) (by kernel_rfl) (by kernel_rfl) ?ywqt_25 ?rwqt_25
                case ywqt_25 =>
                  refine StepS.pure (SeqN.pass (by decide)) (by rfl) (fun w9 => ?_)
                  go_simp
                  try rfl
                try simp only [Act.put, List.setIfInBounds_toArray, List.set_cons_zero, List.set_cons_succ]
                refine Ps.step (i := 1) (d := some 98) (u := ?uwqt_26) rfl rfl (by kernel_rfl) (by kernel_rfl) (by kernel_rfl) (by kernel_rfl) ?ywqt_26 ?rwqt_26
                case ywqt_26 =>
                  refine StepS.pure (SeqN.pass (by decide)) (by rfl) (fun w9 => ?_)
                  go_simp
                  try rfl
                try simp only [Act.put, List.setIfInBounds_toArray, List.set_cons_zero, List.set_cons_succ]
                refine Ps.step (i := 2) (d := some 99) (u := ?uwqt_27) rfl rfl (by kernel_rfl) (by kernel_rfl) (by kernel_rfl) (by kernel_rfl) ?ywqt_27 ?rwqt_27
                case ywqt_27 =>
                  refine StepS.read [] (by kernel_rfl) (SeqN.pass (by decide)) (by rfl) (fun L9 m9 w9 hSh hAt hDn hS => ?_)
                  have hT : Below w11.heap.size w11 w9 := SeqN.any (T := fun w9 => Below w11.heap.size w11 w9) (fun z _ _ h => by match z, h with | 0, h => exact h | _ + 1, h => exact h.1) hS
                  have xx : w9.cell? ⟨g9, 4, none⟩ = some (.int .i64 o2x.frm) := by rw [← HC4.out]; exact (H9.out.ca hT).cell 4
                  clear hT hS
                  go_simp
                  try rfl
                try simp only [Act.put, List.setIfInBounds_toArray, List.set_cons_zero, List.set_cons_succ]
                refine Ps.step (i := 3) (d := some 100) (u := ?uwqt_28) rfl rfl (by kernel_rfl) (by kernel_rfl) (by kernel_rfl) (by kernel_rfl) ?ywqt_28 ?rwqt_28
                case ywqt_28 =>
                  refine StepS.pure (SeqN.pass (by decide)) (by rfl) (fun w9 => ?_)
                  go_simp
                  try rfl
                try simp only [Act.put, List.setIfInBounds_toArray, List.set_cons_zero, List.set_cons_succ]
                refine Ps.step (i := 4) (d := some 101) (u := ?uwqt_29) rfl rfl (by kernel_rfl) (by kernel_rfl) (by kernel_rfl) (by kernel_rfl) ?ywqt_29 ?rwqt_29
                case ywqt_29 =>
                  refine StepS.read [] (by kernel_rfl) (SeqN.pass (by decide)) (by rfl) (fun L9 m9 w9 hSh hAt hDn hS => ?_)
                  have hT : Below w11.heap.size w11 w9 := SeqN.any (T := fun w9 => Below w11.heap.size w11 w9) (fun z _ _ h => by match z, h with | 0, h => exact h | _ + 1, h => exact h.1) hS
                  have xx : w9.cell? ⟨g10, 1, none⟩ = some (.int .i64 o2x.frm) := (H10.out.ca hT).cell 1
                  clear hT hS
                  go_simp
                  try rfl
                try simp only [Act.put, List.setIfInBounds_toArray, List.set_cons_zero, List.set_cons_succ]
                refine Ps.step (i := 5) (d := some 102) (u := ?uwqt_30) rfl rfl (by kernel_rfl) (by kernel_rfl) (by kernel_rfl) (by kernel_rfl) ?ywqt_30 ?rwqt_30
                case ywqt_30 =>
                  refine StepS.pure (SeqN.pass (by decide)) (by rfl) (fun w9 => ?_)
                  go_simp
                  try rfl
                try simp only [Act.put, List.setIfInBounds_toArray, List.set_cons_zero, List.set_cons_succ]
                refine Ps.step (i := 6) (d := some 103) (u := ?uwqt_31) rfl rfl (by kernel_rfl) (by kernel_rfl) (by kernel_rfl) (by kernel_rfl) ?ywqt_31 ?rwqt_31
                case ywqt_31 =>
                  refine StepS.pure (SeqN.pass (by decide)) (by rfl) (fun w9 => ?_)
                  go_simp
                  try rfl
                try simp only [Act.put, List.setIfInBounds_toArray, List.set_cons_zero, List.set_cons_succ]
                refine Ps.step (i := 7) (d := some 104) (u := ?uwqt_32) rfl rfl (by kernel_rfl) (by kernel_rfl) (by kernel_rfl) (by kernel_rfl) ?ywqt_32 ?rwqt_32
                case ywqt_32 =>
                  refine StepS.pure (SeqN.pass (by decide)) (by rfl) (fun w9 => ?_)
                  go_simp
                  try rfl
                try simp only [Act.put, List.setIfInBounds_toArray, List.set_cons_zero, List.set_cons_succ]
                refine Ps.step (i := 8) (d := some 105) (u := ?uwqt_33) rfl rfl (by kernel_rfl) (by kernel_rfl) (by kernel_rfl) (by kernel_rfl) ?ywqt_33 ?rwqt_33
                case ywqt_33 =>
                  refine StepS.pure (SeqN.pass (by decide)) (by rfl) (fun w9 => ?_)
                  go_simp
                  try rfl
                try simp only [Act.put, List.setIfInBounds_toArray, List.set_cons_zero, List.set_cons_succ]
                refine Ps.step (i := 9) (d := some 106) (u := ?uwqt_34) rfl rfl (by kernel_rfl) (by kernel_rfl) (by kernel_rfl) (by kernel_rfl) ?ywqt_34 ?rwqt_34
                case ywqt_34 =>
                  refine StepS.read [] (by kernel_rfl) (SeqN.pass (by decide)) (by rfl) (fun L9 m9 w9 hSh hAt hDn hS => ?_)
                  have hT : Below w11.heap.size w11 w9 := SeqN.any (T := fun w9 => Below w11.heap.size w11 w9) (fun z _ _ h => by match z, h with | 0, h => exact h | _ + 1, h => exact h.1) hS
                  have xx : w9.cell? ⟨g9, 5, none⟩ = some (.int .i64 o2x.to) := by rw [← HC5.out]; exact (H9.out.ca hT).cell 5
                  clear hT hS
                  go_simp
                  try rfl
                try simp only [Act.put, List.setIfInBounds_toArray, List.set_cons_zero, List.set_cons_succ]
                refine Ps.step (i := 10) (d := some 107) (u := ?uwqt_35) rfl rfl (by kernel_rfl) (by kernel_rfl) (by kernel_rfl) (by kernel_rfl) ?ywqt_35 ?rwqt_35
                case ywqt_35 =>
                  refine StepS.pure (SeqN.pass (by decide)) (by rfl) (fun w9 => ?_)
                  go_simp
                  try rfl
                try simp only [Act.put, List.setIfInBounds_toArray, List.set_cons_zero, List.set_cons_succ]
                refine Ps.step (i := 11) (d := some 108) (u := ?uwqt_36) rfl rfl (by kernel_rfl) (by kernel_rfl) (by kernel_rfl) (by kernel_rfl) ?ywqt_36 ?rwqt_36
                case ywqt_36 =>
                  refine StepS.read [] (by kernel_rfl) (SeqN.pass (by decide)) (by rfl) (fun L9 m9 w9 hSh hAt hDn hS => ?_)
                  have hT : Below w11.heap.size w11 w9 := SeqN.any (T := fun w9 => Below w11.heap.size w11 w9) (fun z _ _ h => by match z, h with | 0, h => exact h | _ + 1, h => exact h.1) hS
                  have xx : w9.cell? ⟨g10, 2, none⟩ = some (.int .i64 o2x.to) := (H10.out.ca hT).cell 2
                  clear hT hS
                  go_simp
                  try rfl
                try simp only [Act.put, List.setIfInBounds_toArray, List.set_cons_zero, List.set_cons_succ]
                refine Ps.step (i := 12) (d := some 109) (u := ?uwqt_37) rfl rfl (by kernel_rfl) (by kernel_rfl) (by kernel_rfl) (by kernel_rfl) ?ywqt_37 ?rwqt_37
                case ywqt_37 =>
                  refine StepS.pure (SeqN.pass (by decide)) (by rfl) (fun w9 => ?_)
                  go_simp
                  try rfl
                try simp only [Act.put, List.setIfInBounds_toArray, List.set_cons_zero, List.set_cons_succ]
                refine Ps.step (i := 13) (d := some 110) (u := ?uwqt_38) rfl rfl (by kernel_rfl) (by kernel_rfl) (by kernel_rfl) (by kernel_rfl) ?ywqt_38 ?rwqt_38
                case ywqt_38 =>
                  refine StepS.pure (SeqN.pass (by decide)) (by rfl) (fun w9 => ?_)
                  go_simp
                  try rfl
                try simp only [Act.put, List.setIfInBounds_toArray, List.set_cons_zero, List.set_cons_succ]
                refine Ps.step (i := 14) (d := some 111) (u := ?uwqt_39) rfl rfl (by kernel_rfl) (by kernel_rfl) (by kernel_rfl) (by kernel_rfl) ?ywqt_39 ?rwqt_39
                case ywqt_39 =>
                  refine StepS.pure (SeqN.pass (by decide)) (by rfl) (fun w9 => ?_)
                  go_simp
                  try rfl
                try simp only [Act.put, List.setIfInBounds_toArray, List.set_cons_zero, List.set_cons_succ]
                refine Ps.step (i := 15) (d := some 112) (u := ?uwqt_40) rfl rfl (by kernel_rfl) (by kernel_rfl) (by kernel_rfl) (by kernel_rfl) ?ywqt_40 ?rwqt_40
                case ywqt_40 =>
                  refine StepS.pure (SeqN.pass (by decide)) (by rfl) (fun w9 => ?_)
                  go_simp
                  try rfl
                try simp only [Act.put, List.setIfInBounds_toArray, List.set_cons_zero, List.set_cons_succ]
                refine Ps.step (i := 16) (d := some 113) (u := ?uwqt_41) rfl rfl (by kernel_rfl) (by kernel_rfl) (by kernel_rfl) (by kernel_rfl) ?ywqt_41 ?rwqt_41
                case ywqt_41 =>
                  refine StepS.pure (SeqN.pass (by decide)) (by rfl) (fun w9 => ?_)
                  go_simp
                  try rfl
                try simp only [Act.put, List.setIfInBounds_toArray, List.set_cons_zero, List.set_cons_succ]
                refine Ps.step (i := 17) (d := some 114) (u := ?uwqt_42) rfl rfl (by kernel_rfl) (by kernel_rfl) (by kernel_rfl) (by kernel_rfl) ?ywqt_42 ?rwqt_42
                case ywqt_42 =>
                  refine StepS.read [] (by kernel_rfl) (SeqN.pass (by decide)) (by rfl) (fun L9 m9 w9 hSh hAt hDn hS => ?_)
                  have hT : Below w11.heap.size w11 w9 := SeqN.any (T := fun w9 => Below w11.heap.size w11 w9) (fun z _ _ h => by match z, h with | 0, h => exact h | _ + 1, h => exact h.1) hS
                  have xx : w9.cell? ⟨g9, 6, none⟩ = some (.slice D2 n2 d2) := (H9.out.ca hT).cell 6
                  clear hT hS
                  go_simp
                  try rfl
                try simp only [Act.put, List.setIfInBounds_toArray, List.set_cons_zero, List.set_cons_succ]
                refine Ps.step (i := 18) (d := some 115) (u := ?uwqt_43) rfl rfl (by kernel_rfl) (by kernel_rfl) (by kernel_rfl) (by kernel_rfl) ?ywqt_43 ?rwqt_43
                case ywqt_43 =>
                  refine StepS.read [] (by kernel_rfl) (SeqN.pass (by decide)) (by rfl) (fun L9 m9 w9 hSh hAt hDn hS => ?_)
                  have hT : Below w11.heap.size w11 w9 := SeqN.any (T := fun w9 => Below w11.heap.size w11 w9) (fun z _ _ h => by match z, h with | 0, h => exact h | _ + 1, h => exact h.1) hS
                  have x0 : w9.cell? ⟨g10, 0, none⟩ = some (.int .i64 o2x.kind) := (H10.out.ca hT).cell 0
                  have x1 : w9.cell? ⟨g10, 1, none⟩ = some (.int .i64 o2x.frm) := (H10.out.ca hT).cell 1
                  have x2 : w9.cell? ⟨g10, 2, none⟩ = some (.int .i64 o2x.to) := (H10.out.ca hT).cell 2
                  have x3 : w9.cell? ⟨g10, 3, none⟩ = some (.int .i64 o2x.at_) := (H10.out.ca hT).cell 3
                  have x4 : w9.cell? ⟨g10, 4, none⟩ = some (.int .i64 o2x.place) := (H10.out.ca hT).cell 4
                  have x5 : w9.cell? ⟨g10, 5, none⟩ = some (.bool o2x.oth) := (H10.out.ca hT).cell 5
                  have x6 : w9.cell? ⟨g10, 6, none⟩ = some (.int .u8 (o2x.by_.toNat : Int)) := (H10.out.ca hT).cell 6
                  have x7 : w9.cell? ⟨g10, 7, none⟩ = some (.slice o2A o2n o2c) := (H10.out.ca hT).cell 7
                  clear hT hS
                  go_simp
                  try rfl
                try simp only [Act.put, List.setIfInBounds_toArray, List.set_cons_zero, List.set_cons_succ]
                refine Ps.step (i := 21) (d := some 118) (u := ?uwqt_44) rfl rfl (by kernel_rfl) (by kernel_rfl) (by kernel_rfl) (by kernel_rfl) ?ywqt_44 ?rwqt_44
                case ywqt_44 =>
                  refine StepS.pure (SeqN.pass (by decide)) (by rfl) (fun w9 => ?_)
                  go_simp
                  try rfl
                try simp only [Act.put, List.setIfInBounds_toArray, List.set_cons_zero, List.set_cons_succ]
                refine Ps.one (k := 19) (d := some 116) rfl rfl (by kernel_rfl) (TurnS.call (V := fun v => ∃ bA bk bc, v = .slice bA bk bc) ?fwqt_45 ?awqt_45 [] (by kernel_rfl) (by rfl) (fun w9 => ?hwqt_45) (fun L9 m9 w9 hSh hAt hDn hS => ?cwqt_45)) (fun v19 hVv19 => ?rwqt_45)
                case hwqt_45 => go_simp; refine ⟨?_, ?_⟩ <;> rfl
                case cwqt_45 =>
                  have hT : Below w11.heap.size w11 w9 := SeqN.any (T := fun w9 => Below w11.heap.size w11 w9) (fun z _ _ h => by match z, h with | 0, h => exact h | _ + 1, h => exact h.1) hS
                  refine (bytes_any o2x o2A o2n o2c w9 (HO2C.out.below hT) ho2c1 ho2c2).mono ?_
                  rintro e w8 ⟨bA, bk, bc, rfl, hob, q8⟩
                  exact ⟨_, rfl, ⟨bA, bk, bc, rfl⟩, SeqN.set_ (m0 := m9) (m1 := m9) [] [] hSh (fun d hd => by cases hd) hDn (by kernel_rfl) (by decide) (by decide) ⟨bl_ca hT q8, bA, bk, bc, upd_same _ _ _, hob.less hT.size⟩⟩
                try simp only [Act.put, List.setIfInBounds_toArray, List.set_cons_zero, List.set_cons_succ]
                obtain ⟨bA, bk, bc, rfl⟩ := hVv19
                refine Ps.step (i := 20) (d := some 117) (u := (.int .i64 (1 : Int))) rfl rfl (by kernel_rfl) (by kernel_rfl) (by kernel_rfl) (by kernel_rfl) ?ywqt_46 ?rwqt_46
                case ywqt_46 =>
                  refine StepS.call ?fwqt_46 ?awqt_46 [19] (by kernel_rfl) (by rfl) (fun w9 => ?hwqt_46) (fun L9 m9 w9 hSh hAt hDn hS => ?cwqt_46)
                  case hwqt_46 => go_simp; refine ⟨?_, ?_⟩ <;> rfl
                  case cwqt_46 =>
                    have hT : Below w11.heap.size w11 w9 := SeqN.any (T := fun w9 => Below w11.heap.size w11 w9) (fun z _ _ h => by match z, h with | 0, h => exact h | _ + 1, h => exact h.1) hS
                    obtain ⟨_, A6, k6, c6, h6, hob⟩ := SeqN.after19 (hAt 19 (by simp)).1 hS
                    obtain ⟨rfl, rfl, rfl⟩ : bA = A6 ∧ bk = k6 ∧ bc = c6 := by have h9 : Value.slice bA bk bc = .slice A6 k6 c6 := (hAt 19 (by simp)).2.symm.trans h6; simpa using h9
                    refine (other_any D2 n2 d2 Tp.bs bA bk bc (bytesO o2x) w9 (LB_rd (Lay.rd_below HTB.out hT)) hob.rd (by omega) (by have := OwnB.rd hob; have h8 := this.len; have h7 : (bytesO o2x).length ≤ 60001 := (by unfold bytesO; rw [List.length_take]; omega); omega)).mono ?_
                    rintro e w8 ⟨rfl, q8⟩
                    rw [HB2.out]
                    exact ⟨rfl, SeqN.move9 (by decide) (fun z m h => by match z, h with | 0, h => exact bl_ca h q8 | _ + 1, ⟨h, A, n, c, e, r⟩ => exact ⟨bl_ca h q8, A, n, c, e, r.below q8⟩) hS⟩
                try simp only [Act.put, List.setIfInBounds_toArray, List.set_cons_zero, List.set_cons_succ]
                refine Ps.step (i := 22) (d := some 119) (u := ?uwqt_47) rfl rfl (by kernel_rfl) (by kernel_rfl) (by kernel_rfl) (by kernel_rfl) ?ywqt_47 ?rwqt_47
                case ywqt_47 =>
                  refine StepS.pure (SeqN.pass (by decide)) (by rfl) (fun w9 => ?_)
                  go_simp
                  try rfl
                try simp only [Act.put, List.setIfInBounds_toArray, List.set_cons_zero, List.set_cons_succ]
                refine Ps.step (i := 23) (d := some 120) (u := ?uwqt_48) rfl rfl (by kernel_rfl) (by kernel_rfl) (by kernel_rfl) (by kernel_rfl) ?ywqt_48 ?rwqt_48
                case ywqt_48 =>
                  refine StepS.pure (SeqN.pass (by decide)) (by rfl) (fun w9 => ?_)
                  go_simp
                  try rfl
                try simp only [Act.put, List.setIfInBounds_toArray, List.set_cons_zero, List.set_cons_succ]
                refine Ps.done (by kernel_rfl) (fun wqt hS => ?_) _
                have HT29 := Lib.hid (show Below w11.heap.size w11 _ from SeqN.any (T := fun w9 => Below w11.heap.size w11 w9) (fun z _ _ h => by match z, h with | 0, h => exact h | _ + 1, h => exact h.1) hS)
                clear hS
                obtain ⟨w12, rfl⟩ : ∃ x, x = wqt := ⟨_, rfl⟩
                replace H3 := Lib.hid (H3.out.ca HT29.out)
                replace H7 := Lib.hid (H7.out.ca HT29.out)
                replace H9 := Lib.hid (H9.out.ca HT29.out)
                replace HSE := Lib.hid (HSE.out.below HT29.out)
                replace HOV := Lib.hid (HOV.out.below HT29.out)
                replace HBW := Lib.hid (bl_ca HBW.out HT29.out)
                replace HTR := Lib.hid (Lay.rd_below HTR.out HT29.out)
                have hs12 := HT29.out.size
                clear HT29 H10 HTB
                go_wp2_with (at_mapUpdate; refine wpList_over rfl (.tmp 121) (.tmp 122) _ rfl (g3 + 1) N S ((j : Int) + 1) rfl rfl rfl HOV.out (by unfold maxLen; omega) (wf_u64s (by omega) (by omega)) ?_; intro w11 hov11 hg11; have HOV11 := Lib.hid hov11; have HG11 := Lib.hid hg11; clear hov11 hg11 hxs hx1)
                replace H3 := Lib.hid (H3.out.apart HG11.out (by omega))
                replace H7 := Lib.hid (H7.out.apart HG11.out (by omega))
                replace H9 := Lib.hid (H9.out.apart HG11.out (by omega))
                replace HTR := Lib.hid (Lay.rd_keep (fun b hF hb => HG11.out.block b hb (fun e => by have h9 : w6.heap.size ≤ b := hF.1; injection e with e; omega)) HTR.out)
                replace HSE := Lib.hid (HSE.out.grown HG11.out (by omega) (fun b h9 => by have h8 : b < w.heap.size := h9; omega))
                replace HOV := Lib.hid HOV11.out
                have hs11 := HG11.out.size
                replace HBW := Lib.hid (bl_gr HBW.out HG11.out (by omega))
                clear HOV11 HG11
                have HSE2 := Lib.hid HSE.out
                have HRF := Lib.hid (show ∀ (b : Nat), (w6.heap.size ≤ b ∧ b < g9) → b ≠ g3 ∧ b ≠ g3 + 1 ∧ (Value.slice (some ad2) sn sc).ownBlock ≠ some b from fun b hb => ⟨by omega, by omega, fun e => by have := HSB.out _ e; omega⟩)
                try go_wp2_with fail
                go_meet
                exact ⟨(some ad2), sn, sc, sent, (fun y => if y = (j : Int) + 1 then true else S y), (N + 1), rfl, H3.out, H7.out, H9.out, HTR.out, HSE2.out, HOV.out, HBW.out, HINV2.out, HRF.out, fun h9 => by omega, by omega, by omega, by omega⟩
            · skip
              have hst := step_lose HINV.out HKK.out.symm (by rw [← HTT.out])
              rw [← HTT.out, ← HXX.out] at hst
              dsimp only at hst
              have hrg := HINV.out.rng hst.1
              have hxs : x ≤ (sn : Int) := by have := HSL2.out; have h8 := hrg.2.1; omega
              have hx1 : 1 ≤ x := hrg.1
              have HINV2 := Lib.hid hst.2
              clear hst hrg
              go_wp2_with (at_mapUpdate; refine wpList_over rfl (.tmp 125) (.tmp 126) _ rfl (g3 + 1) N S x rfl rfl rfl HOV.out (by unfold maxLen; omega) (wf_u64s (by omega) (by omega)) ?_; intro w11 hov11 hg11; have HOV11 := Lib.hid hov11; have HG11 := Lib.hid hg11; clear hov11 hg11 hxs)
              replace H3 := Lib.hid (H3.out.apart HG11.out (by omega))
              replace H7 := Lib.hid (H7.out.apart HG11.out (by omega))
              replace H9 := Lib.hid (H9.out.apart HG11.out (by omega))
              replace HTR := Lib.hid (Lay.rd_keep (fun b hF hb => HG11.out.block b hb (fun e => by have h9 : w6.heap.size ≤ b := hF.1; injection e with e; omega)) HTR.out)
              replace HSE := Lib.hid (HSE.out.grown HG11.out (by omega) (fun b h9 => by have h8 : b < w.heap.size := h9; omega))
              replace HOV := Lib.hid HOV11.out
              have hs11 := HG11.out.size
              replace HBW := Lib.hid (bl_gr HBW.out HG11.out (by omega))
              clear HOV11 HG11
              have HSE2 := Lib.hid HSE.out
              have HRF := Lib.hid (show ∀ (b : Nat), (w6.heap.size ≤ b ∧ b < g9) → b ≠ g3 ∧ b ≠ g3 + 1 ∧ (Value.slice sA sn sc).ownBlock ≠ some b from fun b hb => ⟨by omega, by omega, fun e => by have := HSB.out _ e; omega⟩)
              try go_wp2_with fail
              go_meet
              exact ⟨sA, sn, sc, sent, (fun y => if y = x then true else S y), (N + 1), rfl, H3.out, H7.out, H9.out, HTR.out, HSE2.out, HOV.out, HBW.out, HINV2.out, HRF.out, fun h9 => by omega, by omega, by omega, by omega⟩
            · skip
              have hst := step_drop HINV.out HKK.out.symm (by rw [← HTT.out])
              rw [← HTT.out, HSL.out] at hst
              dsimp only at hst
              have HINV2 := Lib.hid hst
              clear hst
              have HOV0 := Lib.hid (show OvM w10 (g3 + 1) (markS o.frm o.to sent S 0) N from by rw [markS_zero]; exact HOV.out)
              go_wp2_with fail
              obtain ⟨gj, rfl⟩ : ∃ g, g = gk := ⟨_, rfl⟩
              obtain ⟨wo, rfl⟩ : ∃ y, y = wr := ⟨_, rfl⟩
              go_loopg [131] sn (fun gz a wr => ∃ j : Nat, j + gz = sn ∧ a = .int .i64 j ∧ Kept w10 wr (g3 + 1) w10.heap.size ∧ OvM wr (g3 + 1) (markS o.frm o.to sent S j) (N + j))
              case atStart => exact ⟨0, by omega, rfl, Kept.refl _ _ _, HOV0.out⟩
              case round =>
                clear HOV0
                obtain ⟨j, hjg, rfl, hk, hov⟩ := hrel
                have HK := Lib.hid hk
                have HOJ := Lib.hid hov
                have hsj := hk.size
                by_cases hj : j < sn
                · have hj1 : (j : Int) < (sn : Int) := by omega
                  have hse := HSE.out.same (w' := wr) (fun b e => hk.block b (HSE.out.base b e).2 (by have := HSB.out b e; omega)) (fun b h9 hb => hk.block b hb (by have h8 : b < w.heap.size := h9; omega))
                  obtain ⟨ad2, o2, o2A, o2n, o2c, rfl, ho2, so2⟩ := SentR.at_ hse hj
                  have e0 := so2.c0
                  have e1 := so2.c1
                  have e2 := so2.c2
                  have e3 := so2.c3
                  have e4 := so2.c4
                  have e5 := so2.c5
                  have e6 := so2.c6
                  have e7 := so2.c7
                  have hms := fun y => markS_succ (f := o.frm) (t := o.to) (S := S) ho2 y
                  have HMS := Lib.hid hms
                  have qb := bl_al (Below.refl wr.heap.size wr) (.cells #[.int .i64 o2.kind, .int .i64 o2.frm, .int .i64 o2.to, .int .i64 o2.at_, .int .i64 o2.place, .bool o2.oth, .int .u8 (o2.by_.toNat : Int), .slice o2A o2n o2c] 49)
                  have hb7 : Blk (wr.alloc (.cells #[.int .i64 o2.kind, .int .i64 o2.frm, .int .i64 o2.to, .int .i64 o2.at_, .int .i64 o2.place, .bool o2.oth, .int .u8 (o2.by_.toNat : Int), .slice o2A o2n o2c] 49)) g7 49 #[.int .i64 o.kind, .int .i64 o.frm, .int .i64 o.to, .int .i64 o.at_, .int .i64 o.place, .bool o.oth, .int .u8 (o.by_.toNat : Int), .slice oA on oc] := (H7.out.kp hk H7.out.lt (by omega)).ca qb
                  have y1 : (wr.alloc (.cells #[.int .i64 o2.kind, .int .i64 o2.frm, .int .i64 o2.to, .int .i64 o2.at_, .int .i64 o2.place, .bool o2.oth, .int .u8 (o2.by_.toNat : Int), .slice o2A o2n o2c] 49)).cell? ⟨g7, 1, none⟩ = some (.int .i64 o.frm) := hb7.cell 1
                  have y2 : (wr.alloc (.cells #[.int .i64 o2.kind, .int .i64 o2.frm, .int .i64 o2.to, .int .i64 o2.at_, .int .i64 o2.place, .bool o2.oth, .int .u8 (o2.by_.toNat : Int), .slice o2A o2n o2c] 49)).cell? ⟨g7, 2, none⟩ = some (.int .i64 o.to) := hb7.cell 2
                  have HOA := Lib.hid (HOJ.out.below qb)
                  have HKA := Lib.hid (hk.trans (Kept.of_below qb hk.size))
                  clear hse ho2 so2 hms qb hb7 hk hov
                  cases hf : (o2.frm == o.frm)
                  · have HF := Lib.hid hf
                    go_wp2
                    go_roundg (gk - 1)
                    · exact ⟨j + 1, by omega, by go_num, HKA.out, (ov_eq HOA.out (fun y => by rw [HMS.out, HF.out]; simp)).mono (by omega)⟩
                    · omega
                  · cases ht : (o2.to == o.to)
                    · have HF := Lib.hid hf
                      have HT2 := Lib.hid ht
                      go_wp2
                      go_roundg (gk - 1)
                      · exact ⟨j + 1, by omega, by go_num, HKA.out, (ov_eq HOA.out (fun y => by rw [HMS.out, HF.out, HT2.out]; simp)).mono (by omega)⟩
                      · omega
                    · have HF := Lib.hid hf
                      have HT2 := Lib.hid ht
                      go_wp2_with (at_mapUpdate; refine wpList_over rfl (.tmp 148) (.tmp 151) _ rfl (g3 + 1) (N + j) (markS o.frm o.to sent S j) ((j : Int) + 1) rfl rfl rfl HOA.out (by unfold maxLen; omega) (wf_u64s (by omega) (by omega)) ?_; intro w11 hov11 hg11; have HOV11 := Lib.hid hov11; have HG11 := Lib.hid hg11; clear hov11 hg11)
                      go_roundg (gk - 1)
                      · exact ⟨j + 1, by omega, by go_num, HKA.out.trans (Kept.of_grown HG11.out HKA.out.size (.inl rfl)), ov_eq HOV11.out (fun y => by rw [HMS.out, HF.out, HT2.out]; simp)⟩
                      · omega
                · obtain rfl : j = sn := by omega
                  have hj1 : (j : Int) ≤ (j : Int) := by omega
                  replace H3 := Lib.hid (H3.out.kp hk H3.out.lt (by omega))
                  replace H7 := Lib.hid (H7.out.kp hk H7.out.lt (by omega))
                  replace H9 := Lib.hid (H9.out.kp hk H9.out.lt (by omega))
                  replace HTR := Lib.hid (Lay.rd_keep (fun b hF hb => hk.block b hb (fun e => by have h9 : w6.heap.size ≤ b := hF.1; omega)) HTR.out)
                  replace HSE := Lib.hid (HSE.out.same (w' := wr) (fun b e => hk.block b (HSE.out.base b e).2 (by have := HSB.out b e; omega)) (fun b h9 hb => hk.block b hb (by have h8 : b < w.heap.size := h9; omega)))
                  replace HOV := Lib.hid HOJ.out
                  replace HBW := Lib.hid (hk.below HBW.out (by omega) HBW.out.size)
                  clear hk hov HK HOJ
                  have HSE2 := Lib.hid HSE.out
                  have HRF := Lib.hid (show ∀ (b : Nat), (w6.heap.size ≤ b ∧ b < g9) → b ≠ g3 ∧ b ≠ g3 + 1 ∧ (Value.slice sA j sc).ownBlock ≠ some b from fun b hb => ⟨by omega, by omega, fun e => by have := HSB.out _ e; omega⟩)
                  try go_wp2_with fail
                  go_meet
                  exact ⟨sA, j, sc, sent, (markS o.frm o.to sent S j), (N + j), rfl, H3.out, H7.out, H9.out, HTR.out, HSE2.out, HOV.out, HBW.out, HINV2.out, HRF.out, fun h9 => by omega, by omega, by omega, by omega⟩
            · skip
              have hst := step_twin HINV.out HKK.out.symm (by rw [← HTT.out])
              rw [← HTT.out, ← HXX.out] at hst
              dsimp only at hst
              have hrg := HINV.out.rng hst.1
              obtain ⟨_, o2, ho2, hinv2, htn⟩ := hst
              have hxs : x ≤ (sn : Int) := by have := HSL2.out; have h8 := hrg.2.1; omega
              have hx1 : 1 ≤ x := hrg.1
              have HINV2 := Lib.hid hinv2
              have HTN := Lib.hid htn
              have HO2 := Lib.hid ho2
              clear hinv2 htn hrg ho2
              obtain ⟨j, hj⟩ : ∃ j : Nat, j = (x - 1).toNat := ⟨_, rfl⟩
              have hxj : x = (j : Int) + 1 := by omega
              have hjn : j < sn := by omega
              rw [← hj] at HO2
              clear hj
              subst hxj
              obtain ⟨ad2, o2x, o2A, o2n, o2c, hsA, ho2x, so2⟩ := SentR.at_ HSE.out hjn
              obtain rfl : o2x = o2 := by have h9 := HO2.out; rw [ho2x] at h9; injection h9
              subst hsA
              have e0 := so2.c0
              have e1 := so2.c1
              have e2 := so2.c2
              have e3 := so2.c3
              have e4 := so2.c4
              have e5 := so2.c5
              have e6 := so2.c6
              have e7 := so2.c7
              have ho2c1 := so2.nc
              have ho2c2 := so2.cm
              have HO2B := Lib.hid (Lay.rd_weak (G := fun b => b < w.heap.size) (fun b hb _ => hb.1) so2.bs)
              clear ho2x so2
              have hgB : (w10.alloc (.cells #[.int .i64 o2x.kind, .int .i64 o2x.frm, .int .i64 o2x.to, .int .i64 o2x.at_, .int .i64 o2x.place, .bool o2x.oth, .int .u8 (o2x.by_.toNat : Int), .slice o2A o2n o2c] 49)).heap.size = w10.heap.size + 1 := by simp only [World.size_alloc]
              have qb := bl_al (Below.refl w10.heap.size w10) (.cells #[.int .i64 o2x.kind, .int .i64 o2x.frm, .int .i64 o2x.to, .int .i64 o2x.at_, .int .i64 o2x.place, .bool o2x.oth, .int .u8 (o2x.by_.toNat : Int), .slice o2A o2n o2c] 49)
              replace H3 := Lib.hid (H3.out.ca qb)
              replace H7 := Lib.hid (H7.out.ca qb)
              replace H9 := Lib.hid (H9.out.ca qb)
              replace HSE := Lib.hid (HSE.out.below qb)
              replace HOV := Lib.hid (HOV.out.below qb)
              replace HBW := Lib.hid (bl_ca HBW.out qb)
              replace HTR := Lib.hid (Lay.rd_below HTR.out qb)
              have HEL := Lib.hid (show LO.rep (w10.alloc (.cells #[.int .i64 o2x.kind, .int .i64 o2x.frm, .int .i64 o2x.to, .int .i64 o2x.at_, .int .i64 o2x.place, .bool o2x.oth, .int .u8 (o2x.by_.toNat : Int), .slice o2A o2n o2c] 49)) (fun b => b < w.heap.size ∧ (Value.slice (some ad2) sn sc).ownBlock ≠ some b) o2x (#[.int .i64 o2x.kind, .int .i64 o2x.frm, .int .i64 o2x.to, .int .i64 o2x.at_, .int .i64 o2x.place, .bool o2x.oth, .int .u8 (o2x.by_.toNat : Int), .slice o2A o2n o2c] : Array Value).toList from ⟨o2A, o2n, o2c, rfl, ho2c1, ho2c2, Lay.rd_weak (fun b hb _ => ⟨hb, fun e => by have h8 := HSB.out b e; have h9 : b < w.heap.size := hb; omega⟩) (Lay.rd_below HO2B.out qb)⟩)
              clear qb
              obtain ⟨n1, hn1⟩ : ∃ n1, n1 = sn + 1 := ⟨_, rfl⟩
              have hn1b : n1 ≤ 61 := by omega
              have hn1c : n1 ≤ i + 1 := by omega
              have HN1 := Lib.hid hn1
              clear hn1
              go_wp2_with (refine wpList_appO rfl (.tmp 58) (.tmp 64) rfl (g3 + 2) (fun b => b < w.heap.size) (some ad2) sn sc sent w10.heap.size 1 49 #[.int .i64 o2x.kind, .int .i64 o2x.frm, .int .i64 o2x.to, .int .i64 o2x.at_, .int .i64 o2x.place, .bool o2x.oth, .int .u8 (o2x.by_.toNat : Int), .slice o2A o2n o2c] o2x rfl rfl HSE.out (Blk.new _ _ _) HEL.out (fun b hb => by have h9 : b < w.heap.size := hb; omega) (by omega) (by omega) n1 HN1.out ?_; intro sA2 sc2 w11 hS11 hg11 hat11; have hcar : ∀ b, b < (w10.alloc (.cells #[.int .i64 o2x.kind, .int .i64 o2x.frm, .int .i64 o2x.to, .int .i64 o2x.at_, .int .i64 o2x.place, .bool o2x.oth, .int .u8 (o2x.by_.toNat : Int), .slice o2A o2n o2c] 49)).heap.size → (Value.slice (some ad2) sn sc).ownBlock ≠ some b → w11.heap[b]? = (w10.alloc (.cells #[.int .i64 o2x.kind, .int .i64 o2x.frm, .int .i64 o2x.to, .int .i64 o2x.at_, .int .i64 o2x.place, .bool o2x.oth, .int .u8 (o2x.by_.toNat : Int), .slice o2A o2n o2c] 49)).heap[b]? := fun b hb hne => hg11.block b hb (fun e => hne e.symm); have HS11 := Lib.hid hS11; have HAT := Lib.hid hat11; have HG11 := Lib.hid hg11; have HCAR := Lib.hid hcar; clear hS11 hg11 hat11 hcar e0 e1 e2 e3 e4 e5 e6 e7)
              replace H3 := Lib.hid (show Blk w11 g3 _ _ from (HCAR.out g3 H3.out.lt (fun e => by have := HSB.out _ e; omega)).trans H3.out)
              replace H7 := Lib.hid (show Blk w11 g7 _ _ from (HCAR.out g7 H7.out.lt (fun e => by have := HSB.out _ e; omega)).trans H7.out)
              replace H9 := Lib.hid (show Blk w11 g9 _ _ from (HCAR.out g9 H9.out.lt (fun e => by have := HSB.out _ e; omega)).trans H9.out)
              replace HTR := Lib.hid (Lay.rd_keep (fun b hF hb => HCAR.out b hb (fun e => by have h9 : w6.heap.size ≤ b := hF.1; have := (HSB.out _ e).2; omega)) HTR.out)
              replace HOV := Lib.hid (HOV.out.same (HCAR.out (g3 + 1) HOV.out.lt (fun e => by have := HSB.out _ e; omega)))
              have hs11 : w10.heap.size + 1 ≤ w11.heap.size := by have := HG11.out.size; omega
              replace HBW := Lib.hid (HBW.out.grown HG11.out HBW.out.size (fun k h9 => by have := HSB.out _ h9; omega))
              have HSE2 := Lib.hid HS11.out
              have HRF := Lib.hid (show ∀ (b : Nat), (w6.heap.size ≤ b ∧ b < g9) → b ≠ g3 ∧ b ≠ g3 + 1 ∧ (Value.slice sA2 n1 sc2).ownBlock ≠ some b from fun b hb => ⟨by omega, by omega, fun e => by rcases HAT.out with h8 | h8; rw [h8] at e; have := HSB.out _ e; omega; rw [h8] at e; injection e with e; omega⟩)
              try go_wp2_with fail
              go_meet
              exact ⟨sA2, n1, sc2, (sent ++ [o2x]), S, N, rfl, H3.out, H7.out, H9.out, HTR.out, HSE2.out, HOV.out, HBW.out, HINV2.out, HRF.out, fun _ => by have := HTN.out; have := HSL2.out; have := HN1.out; omega, by omega, by omega, by omega⟩
            · skip
              have hst := step_spoil HINV.out HKK.out.symm (by rw [← HTT.out])
              rw [← HTT.out] at hst
              dsimp only at hst
              have HINV2 := Lib.hid hst
              clear hst
              have HSE2 := Lib.hid HSE.out
              have HRF := Lib.hid (show ∀ (b : Nat), (w6.heap.size ≤ b ∧ b < g9) → b ≠ g3 ∧ b ≠ g3 + 1 ∧ (Value.slice sA sn sc).ownBlock ≠ some b from fun b hb => ⟨by omega, by omega, fun e => by have := HSB.out _ e; omega⟩)
              go_wp2_with fail
              go_meet
              exact ⟨sA, sn, sc, sent, S, N, rfl, H3.out, H7.out, H9.out, HTR.out, HSE2.out, HOV.out, HBW.out, HINV2.out, HRF.out, fun h9 => by omega, by omega, by omega, by omega⟩
    · obtain rfl : i = ln := by omega
      have hi1 : (i : Int) ≤ (i : Int) := by omega
      clear hm4 hinv
      go_wp2
      go_ret
      exact ⟨rfl, HM4.out.bel⟩
end Go.Proofs.Ytnbcffnhgijmcaa
