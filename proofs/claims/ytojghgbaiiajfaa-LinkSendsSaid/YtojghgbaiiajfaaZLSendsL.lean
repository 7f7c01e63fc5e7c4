/- What comes of a sender, and what it sends (LinkSends). Conditions: none. -/
import Derived.Test.YtojghgbaiiajfaaPkS26
namespace Go.Proofs.Ytojghgbaiiajfaa
open Go.RowKit
theorem act_base (a : AC) (s : SC) (h : 0 ≤ s.base) : 0 ≤ (actR a s).base := by
  unfold actR runR
  split
  · unfold kS
    split
    · exact h
    split
    · exact h
    split
    · exact h
    · unfold ackedR
      split
      · rename_i hb
        unfold ackedB at hb
        simp at hb
        show 0 ≤ (actPk a s).seq
        omega
      · exact h
  · exact Int.le_refl 0
set_option maxRecDepth 100000 in
set_option maxHeartbeats 64000000 in
theorem sends_law (x : SC) (A0 : Option Addr) (n0 c0 : Nat) (L : Option Addr) (m mc : Nat) (acts : List AC) (w : World) (hx : LB3.rd w AllB A0 n0 x.q) (hn0 : n0 ≤ c0) (hc0 : c0 ≤ 9223372036854775807) (hb0 : 0 ≤ x.base) (hl : LA10.rd w AllB L m acts) (hm : m ≤ 9223372036854775807) :
    Calls Try.prog 4 #[.agg (x.cells A0 n0 c0), .slice L m mc] w fun e w' => e = .returned (.bool true) ∧ Below w.heap.size w w' := by
  have q1 := bl_al (Below.refl w.heap.size w) (.cells (x.cells A0 n0 c0) 29)
  have HX1 := Lib.hid (Blk.new w 29 (x.cells A0 n0 c0))
  have HRX := Lib.hid (Lay.rd_below hx q1)
  have HLA := Lib.hid hl
  have HQ1 := Lib.hid q1
  have hs1 : (w.alloc (.cells (x.cells A0 n0 c0) 29)).heap.size = w.heap.size + 1 := by simp only [World.size_alloc]
  clear hx hl q1
  go_enter Try.func4, Try.ntmps4
  go_wp2_with fail
  generalize w.alloc (.cells (x.cells A0 n0 c0) 29) = w1 at *
  refine (wakes_any _).mono ?_
  rintro e w2 ⟨rfl, q2⟩
  have hs2 := q2.size
  have HX2 := Lib.hid (HX1.out.ca q2)
  have HR2 := Lib.hid (Lay.rd_below HRX.out q2)
  have HB2 := Lib.hid (bl_ca HQ1.out q2)
  clear q2 HX1 HRX HQ1
  have HC := Lib.hid (senderC_any AllB x A0 n0 c0 w2 HR2.out hn0 hc0)
  have y0 := HX2.out.cell 0
  have y1 := HX2.out.cell 1
  have y2 := HX2.out.cell 2
  have y3 := HX2.out.cell 3
  have y4 := HX2.out.cell 4
  have y5 := HX2.out.cell 5
  have y6 := HX2.out.cell 6
  go_wp2_with fail
  clear y0 y1 y2 y3 y4 y5 y6
  refine HC.out.mono ?_
  clear HC HR2 HX2
  rintro e w3 ⟨A1, n1, c1, rfl, hr3, hn1, hc1, q3⟩
  have hs3 := q3.size
  have HB3 := Lib.hid (bl_ca HB2.out q3)
  have HR3 := Lib.hid hr3
  have HN3 := Lib.hid (Blk.new w3 29 #[.int .u32 0, .int .u64 0, .slice none 0 0, .int .u64 0, .int .u64 0, .int .i64 0, .bool false])
  have HCP := Lib.hid (And.intro hn1 hc1)
  clear q3 hr3 HB2 hn1 hc1
  go_wp2_with (first | (refine wpList_store_blk rfl 29 (.tmp 5) (.tmp 19) rfl w3.heap.size 29 #[.int .u32 0, .int .u64 0, .slice none 0 0, .int .u64 0, .int .u64 0, .int .i64 0, .bool false] ((senC x).cells A1 n1 c1) rfl rfl HN3.out rfl senderI (by simp [SC.cells, Value.oneCell']) ?_; intro w4 h4 g4; have HF4 := Lib.hid h4; have HG4 := Lib.hid g4; clear h4 g4))
  have hs4 := HG4.out.size
  simp only [World.size_alloc] at hs4
  have HB4 := Lib.hid (bl_gr (bl_al HB3.out (.cells #[.int .u32 0, .int .u64 0, .slice none 0 0, .int .u64 0, .int .u64 0, .int .i64 0, .bool false] 29)) HG4.out (by omega))
  have HR4 := Lib.hid (Lay.rd_weak (G := fun k => k ≠ w3.heap.size) (fun b hb hl => by have := hb.2; omega) (rd_grown (Lay.rd_below HR3.out (bl_al (Below.refl w3.heap.size w3) (.cells #[.int .u32 0, .int .u64 0, .slice none 0 0, .int .u64 0, .int .u64 0, .int .i64 0, .bool false] 29))) HG4.out (fun b hb => by have := hb.2; omega)))
  obtain ⟨g5, hg5⟩ : ∃ g5, g5 = w3.heap.size := ⟨_, rfl⟩
  rw [← hg5] at HF4 HR4 hs4 ⊢
  have hwg : w.heap.size ≤ g5 := by omega
  obtain ⟨s0, hs0⟩ : ∃ s0, s0 = senC x := ⟨_, rfl⟩
  rw [← hs0] at HF4
  replace HR4 := Lib.hid (show LB3.rd w4 (fun k => k ≠ g5) A1 n1 s0.q from by rw [hs0]; exact HR4.out)
  have HI4 := Lib.hid (show senC s0 = s0 ∧ 0 ≤ s0.base from by rw [hs0]; exact ⟨senC_idem x, hb0⟩)
  clear HB3 HR3 HN3 HG4 hs0 hg5 hs3 hs2 hs1
  go_loopg [22] m (fun g a wr => ∃ (i : Nat) (s : SC) (A : Option Addr) (n c : Nat), i + g = m ∧ i ≤ 40 ∧ a = .int .i64 i ∧ Blk wr g5 29 (s.cells A n c) ∧ LB3.rd wr (fun k => k ≠ g5) A n s.q ∧ n ≤ c ∧ c ≤ 9223372036854775807 ∧ senC s = s ∧ 0 ≤ s.base ∧ Below w.heap.size w wr)
  case atStart => exact ⟨0, s0, A1, n1, c1, by omega, by omega, rfl, HF4.out, HR4.out, HCP.out.1, HCP.out.2, HI4.out.1, HI4.out.2, HB4.out⟩
  case round =>
    obtain ⟨i, s, A, n, c, hig, hi40, rfl, hbl, hrd, hnc, hcm, hid, hba, hbw⟩ := hrel
    have HBW := Lib.hid hbw
    have HBL := Lib.hid hbl
    have HRD := Lib.hid hrd
    have HID := Lib.hid hid
    have hlt5 := hbl.lt
    clear HF4 HR4 HCP HI4 HB4 hbl hrd hid
    by_cases hlt : i < m
    · have hi1 : (i : Int) < (m : Int) := by omega
      obtain ⟨ad, a, R, rn, rc, B, k, kc, rfl, hax, hab, sa⟩ := LA10_at (Lay.rd_below HLA.out hbw) hlt
      have e0 := sa.c0
      have e1 := sa.c1
      have e2 := sa.c2
      have e3 := sa.c3
      have e4 := sa.c4
      have e5 := sa.c5
      have e6 := sa.c6
      have e7 := sa.c7
      have e8 := sa.c8
      have e9 := sa.c9
      have HSA := Lib.hid sa
      have HN7 := Lib.hid (Blk.new wr 49 #[.int .i64 0, .slice none 0 0, .int .i64 0, .int .u32 0, .int .u64 0, .int .u64 0, .slice none 0 0, .bool false, .int .u64 0, .bool false])
      clear hax sa hbw
      by_cases hie : i = 40
      · have hi2 : ((i : Int) == 40) = true := by simp; omega
        clear hie
        go_wp2_with (first | (refine wpList_store_blk rfl 49 (.tmp 7) (.tmp 26) rfl wr.heap.size 49 #[.int .i64 0, .slice none 0 0, .int .i64 0, .int .u32 0, .int .u64 0, .int .u64 0, .slice none 0 0, .bool false, .int .u64 0, .bool false] (a.cells R rn rc B k kc) rfl rfl HN7.out rfl (by rfl) (by simp [AC.cells, Value.oneCell']) ?_; intro w7 h7 g7; have HF7 := Lib.hid h7; have HG7 := Lib.hid g7; clear h7 g7))
        go_ret
        exact ⟨rfl, bl_gr (bl_al HBW.out (.cells #[.int .i64 0, .slice none 0 0, .int .i64 0, .int .u32 0, .int .u64 0, .int .u64 0, .slice none 0 0, .bool false, .int .u64 0, .bool false] 49)) HG7.out (by have := HBW.out.size; omega)⟩
      · have hi2 : ((i : Int) == 40) = false := by simp; omega
        have hi3 : i < 40 := by omega
        clear hie hi40
        have hl5 := HBL.out.cell
        go_upto_region 8 with (first | (refine wpList_store_blk rfl 49 (.tmp 7) (.tmp 26) rfl wr.heap.size 49 #[.int .i64 0, .slice none 0 0, .int .i64 0, .int .u32 0, .int .u64 0, .int .u64 0, .slice none 0 0, .bool false, .int .u64 0, .bool false] (a.cells R rn rc B k kc) rfl rfl HN7.out rfl (by rfl) (by simp [AC.cells, Value.oneCell']) ?_; intro w7 h7 g7; have HF7 := Lib.hid h7; have HG7 := Lib.hid g7; clear h7 g7))
        have HBR := Lib.hid (bl_gr (bl_al (Below.refl wr.heap.size wr) (.cells #[.int .i64 0, .slice none 0 0, .int .i64 0, .int .u32 0, .int .u64 0, .int .u64 0, .slice none 0 0, .bool false, .int .u64 0, .bool false] 49)) HG7.out (Nat.le_refl _))
        have hs7 := HG7.out.size
        simp only [World.size_alloc] at hs7
        have HBL7 := Lib.hid (HBL.out.ca HBR.out)
        have HRD7 := Lib.hid (Lay.rd_below HRD.out HBR.out)
        have HB7 := Lib.hid (bl_ca HBW.out HBR.out)
        have HAR := Lib.hid (Lay.rd_below HSA.out.rd HBR.out)
        have HAP := Lib.hid (Lay.rd_below HSA.out.rd2 HBR.out)
        have HCAP := Lib.hid (And.intro (And.intro HSA.out.nc HSA.out.cm) (And.intro HSA.out.nc2 HSA.out.cm2))
        have HC := Lib.hid (senderC_any _ s A n c w7 HRD7.out hnc hcm)
        have HBQ := Lib.hid (show batsC s.q = s.q from congrArg SC.q HID.out)
        rw [HID.out, HBQ.out] at HC
        have y0 := HBL7.out.cell 0
        have y1 := HBL7.out.cell 1
        have y2 := HBL7.out.cell 2
        have y3 := HBL7.out.cell 3
        have y4 := HBL7.out.cell 4
        have y5 := HBL7.out.cell 5
        have y6 := HBL7.out.cell 6
        clear HSA HG7 HBR HBL HRD HBW HN7 e0 e1 e2 e3 e4 e5 e6 e7 e8 e9 hl5
        go_wp2_with fail
        clear y0 y1 y2 y3 y4 y5 y6
        refine HC.out.mono ?_
        clear HC
        rintro e w8 ⟨A2, n2, c2, rfl, hr8, hn2, hc2, q8⟩
        have hs8 := q8.size
        have HN8 := Lib.hid (Blk.new w8 29 #[.int .u32 0, .int .u64 0, .slice none 0 0, .int .u64 0, .int .u64 0, .int .i64 0, .bool false])
        have HB78 := Lib.hid (bl_al q8 (.cells #[.int .u32 0, .int .u64 0, .slice none 0 0, .int .u64 0, .int .u64 0, .int .i64 0, .bool false] 29))
        have HR8 := Lib.hid (Lay.rd_below hr8 (bl_al (Below.refl w8.heap.size w8) (.cells #[.int .u32 0, .int .u64 0, .slice none 0 0, .int .u64 0, .int .u64 0, .int .i64 0, .bool false] 29)))
        have HCP2 := Lib.hid (And.intro hn2 hc2)
        clear hr8 q8 hn2 hc2
        go_upto_region 9 with (first | (refine wpList_store_blk rfl 29 (.tmp 8) (.tmp 30) rfl w8.heap.size 29 #[.int .u32 0, .int .u64 0, .slice none 0 0, .int .u64 0, .int .u64 0, .int .i64 0, .bool false] (s.cells A2 n2 c2) rfl rfl HN8.out rfl senderI (by simp [SC.cells, Value.oneCell']) ?_; intro wq h9 g9; have HF9 := Lib.hid h9; have HG9 := Lib.hid g9; clear h9 g9))
        have hs9 := HG9.out.size
        simp only [World.size_alloc] at hs9
        have HB79 := Lib.hid (bl_gr HB78.out HG9.out hs8)
        have HA9 := Lib.hid (HF7.out.ca HB79.out)
        have HS9 := Lib.hid (HBL7.out.ca HB79.out)
        have HRS9 := Lib.hid (Lay.rd_weak (G := fun k => k ≠ g5 ∧ k < wq.heap.size) (fun b hb hl => ⟨hb, hl⟩) (Lay.rd_below HRD7.out HB79.out))
        have HRW9 := Lib.hid (Lay.rd_weak (G := fun k => w7.heap.size ≤ k ∧ k < w8.heap.size) (fun b hb _ => hb) (rd_grown HR8.out HG9.out (fun b hb => by have := hb.2; omega)))
        have HB9 := Lib.hid (bl_ca HB7.out HB79.out)
        have HAR9 := Lib.hid (Lay.rd_weak (G := fun k => k < wq.heap.size) (fun b _ hl => hl) (Lay.rd_below HAR.out HB79.out))
        have HAP9 := Lib.hid (Lay.rd_weak (G := fun k => k < wq.heap.size) (fun b _ hl => hl) (Lay.rd_below HAP.out HB79.out))
        have HRUN := Lib.hid (run_any (fun k => k < wq.heap.size) a s R rn rc B k kc A n c wq (fun k hk => hk) (Lay.rd_weak (fun b _ hl => hl) HRS9.out) (by omega) hba (Lay.rd_weak (fun b _ hl => hl) HAR9.out) HCAP.out.1.1 HCAP.out.1.2 (Lay.rd_weak (fun b _ hl => hl) HAP9.out) HCAP.out.2.1 HCAP.out.2.2)
        obtain ⟨ns, hns⟩ : ∃ ns, ns = actR a s := ⟨_, rfl⟩
        obtain ⟨er, her⟩ : ∃ er, er = actE a s := ⟨_, rfl⟩
        obtain ⟨pk, hpk⟩ : ∃ pk, pk = kP a s := ⟨_, rfl⟩
        rw [← hns, ← her, ← hpk] at HRUN
        have HNS := Lib.hid hns
        have HER := Lib.hid her
        have HPK := Lib.hid hpk
        clear hns her hpk
        clear HBL7 HRD7 HB7 HAR HAP HN8 HB78 HR8 HG9 HB79 HF7
        have y0 := HS9.out.cell 0
        have y1 := HS9.out.cell 1
        have y2 := HS9.out.cell 2
        have y3 := HS9.out.cell 3
        have y4 := HS9.out.cell 4
        have y5 := HS9.out.cell 5
        have y6 := HS9.out.cell 6
        have z0 : wq.cell? ⟨wr.heap.size, 0, none⟩ = some (.int .i64 a.kind) := HA9.out.cell 0
        have z1 : wq.cell? ⟨wr.heap.size, 1, none⟩ = some (.slice R rn rc) := HA9.out.cell 1
        have z2 : wq.cell? ⟨wr.heap.size, 2, none⟩ = some (.int .i64 a.pk.kind) := HA9.out.cell 2
        have z3 : wq.cell? ⟨wr.heap.size, 3, none⟩ = some (.int .u32 a.pk.ses) := HA9.out.cell 3
        have z4 : wq.cell? ⟨wr.heap.size, 4, none⟩ = some (.int .u64 a.pk.seq) := HA9.out.cell 4
        have z5 : wq.cell? ⟨wr.heap.size, 5, none⟩ = some (.int .u64 a.pk.lim) := HA9.out.cell 5
        have z6 : wq.cell? ⟨wr.heap.size, 6, none⟩ = some (.slice B k kc) := HA9.out.cell 6
        have z7 : wq.cell? ⟨wr.heap.size, 7, none⟩ = some (.bool a.pk.b.fin) := HA9.out.cell 7
        have z8 : wq.cell? ⟨wr.heap.size, 8, none⟩ = some (.int .u64 a.pk.b.cnt) := HA9.out.cell 8
        have z9 : wq.cell? ⟨wr.heap.size, 9, none⟩ = some (.bool a.near) := HA9.out.cell 9
        go_wp2_with fail
        clear y0 y1 y2 y3 y4 y5 y6 z0 z1 z2 z3 z4 z5 z6 z7 z8 z9
        refine HRUN.out.mono ?_
        clear HRUN
        rintro e w10 ⟨A3, n3, c3, PA, pn, pc, rfl, q10, ho10, hp10, hpn⟩
        have hs10 := q10.size
        have HN10 := Lib.hid (Blk.new w10 29 #[.int .u32 0, .int .u64 0, .slice none 0 0, .int .u64 0, .int .u64 0, .int .i64 0, .bool false])
        have HQ10 := Lib.hid q10
        have HG10 := Lib.hid (Lay.own_base ho10)
        have HO10 := Lib.hid (Lay.own_weak (G' := fun k => k < w10.heap.size) (fun b _ hl => hl) ho10)
        have HP10 := Lib.hid (Lay.rd_weak (G := fun k => k < w10.heap.size) (fun b _ hl => hl) hp10)
        clear q10 ho10 hp10
        go_wp2_with (first | (refine wpList_store_blk rfl 29 (.tmp 9) (.tmp 35) rfl w10.heap.size 29 #[.int .u32 0, .int .u64 0, .slice none 0 0, .int .u64 0, .int .u64 0, .int .i64 0, .bool false] (ns.cells A3 n3 c3) rfl rfl HN10.out rfl senderI (by simp [SC.cells, Value.oneCell']) ?_; intro w11 h11 g11; have HF11 := Lib.hid h11; have HG11 := Lib.hid g11; clear h11 g11))
        have hs11 := HG11.out.size
        simp only [World.size_alloc] at hs11
        have HB1011 := Lib.hid (bl_gr (bl_al (Below.refl w10.heap.size w10) (.cells #[.int .u32 0, .int .u64 0, .slice none 0 0, .int .u64 0, .int .u64 0, .int .i64 0, .bool false] 29)) HG11.out (Nat.le_refl _))
        have HB911 := Lib.hid (bl_ca HQ10.out HB1011.out)
        have hqw : wq.heap.size ≤ w11.heap.size := HB911.out.size
        have hq10 : wq.heap.size ≤ w10.heap.size := HQ10.out.size
        have hlq : g5 < wq.heap.size ∧ w8.heap.size < wq.heap.size := ⟨HS9.out.lt, HF9.out.lt⟩
        have HA11 := Lib.hid (HA9.out.ca HB911.out)
        have HS11 := Lib.hid (HS9.out.ca HB911.out)
        have HW11 := Lib.hid (HF9.out.ca HB911.out)
        have HRS11 := Lib.hid (Lay.rd_below HRS9.out HB911.out)
        have HRW11 := Lib.hid (Lay.rd_below HRW9.out HB911.out)
        have HB11 := Lib.hid (bl_ca HB9.out HB911.out)
        have HAR11 := Lib.hid (Lay.rd_below HAR9.out HB911.out)
        have HAP11 := Lib.hid (Lay.rd_below HAP9.out HB911.out)
        have HO11 := Lib.hid (Lay.own_below HO10.out HB1011.out)
        have HP11 := Lib.hid (Lay.rd_below HP10.out HB1011.out)
        clear HA9 HS9 HF9 HRS9 HRW9 HB9 HAR9 HAP9 HN10 HQ10 HO10 HP10 HG11 HB1011 HB911
        refine wp_region_psF (F := fun a1 a' w' => ∃ g8 A6 n6 c6 PB pm pd, (∃ v39 v40 v41 v42 v38 v43 v44 v45, a' = (((((((((((a1.put (some 39) v39).put (some 40) v40).put (some 41) v41).put (some 42) v42).put (some 38) v38).put (some 43) v43).put (some 44) v44).put (some 45) v45).put (some 12) (.pointer (some ⟨g8, 0, none⟩))).put (some 13) (.slice PB pm pd)).put (some 14) (.int .i64 er))) ∧ Below w11.heap.size w11 w' ∧ Blk w' g8 29 (ns.cells A6 n6 c6) ∧ w11.heap.size ≤ g8 ∧ n6 ≤ c6 ∧ c6 ≤ 9223372036854775807 ∧ LB3.rd w' (fun k => (k < wq.heap.size ∨ w11.heap.size ≤ k) ∧ some g8 ≠ some k) A6 n6 ns.q ∧ LP7.rd w' (fun k => some g8 ≠ some k) PB pm pk ∧ pm ≤ 9223372036854775807) (S := WtS (fun al z m w' => Below w11.heap.size w11 w' ∧ (match z with | 0 => (∀ g, al = some g → w11.heap.size ≤ g ∧ Blk w' g 29 #[.int .u32 0, .int .u64 0, .slice none 0 0, .int .u64 0, .int .u64 0, .int .i64 0, .bool false]) | 1 => (∀ g, al = some g → w11.heap.size ≤ g ∧ Blk w' g 29 #[.int .u32 0, .int .u64 0, .slice none 0 0, .int .u64 0, .int .u64 0, .int .i64 0, .bool false]) ∧ ∃ A5 n5 c5, m 2 = .agg (s.cells A5 n5 c5) ∧ LB3.rd w' (fun k => w11.heap.size ≤ k ∧ al ≠ some k) A5 n5 s.q ∧ n5 ≤ c5 ∧ c5 ≤ 9223372036854775807 | 2 => (∀ g, al = some g → w11.heap.size ≤ g ∧ Blk w' g 29 #[.int .u32 0, .int .u64 0, .slice none 0 0, .int .u64 0, .int .u64 0, .int .i64 0, .bool false]) ∧ ∃ A6 n6 c6 PB pm pd, m 3 = .tuple #[.agg (ns.cells A6 n6 c6), .slice PB pm pd, .int .i64 er] ∧ LB3.rd w' (fun k => (k < wq.heap.size ∨ w11.heap.size ≤ k) ∧ al ≠ some k) A6 n6 ns.q ∧ n6 ≤ c6 ∧ c6 ≤ 9223372036854775807 ∧ LP7.rd w' (fun k => al ≠ some k) PB pm pk ∧ pm ≤ 9223372036854775807 | _ => ∃ g A6 n6 c6 PB pm pd, al = some g ∧ w11.heap.size ≤ g ∧ Blk w' g 29 (ns.cells A6 n6 c6) ∧ m 3 = .tuple #[.agg (ns.cells A6 n6 c6), .slice PB pm pd, .int .i64 er] ∧ LB3.rd w' (fun k => (k < wq.heap.size ∨ w11.heap.size ≤ k) ∧ al ≠ some k) A6 n6 ns.q ∧ n6 ≤ c6 ∧ c6 ≤ 9223372036854775807 ∧ LP7.rd w' (fun k => al ≠ some k) PB pm pk ∧ pm ≤ 9223372036854775807))) (by kernel_rfl) ?spswg28 ?ppswg28 ?kpswg28
        case spswg28 =>
          exact WtS.start (by decide) ⟨(Below.refl w11.heap.size w11).drew, fun g e => by cases e⟩
        case ppswg28 =>
          refine Ps.st (i := 0) (d := some 39) (u := (.agg #[.int .i64 (a.kind), .slice R rn rc, .int .i64 (a.pk.kind), .int .u32 (a.pk.ses), .int .u64 (a.pk.seq), .int .u64 (a.pk.lim), .slice B k kc, .bool (a.pk.b.fin), .int .u64 (a.pk.b.cnt), .bool (a.near)])) rfl rfl ?ywg28_29 ?rwg28_29
          case ywg28_29 =>
            refine StepS.read [] (by kernel_rfl) (WtS.pass (by decide) (by decide)) (by rfl) (fun L9 m9 w9 hSh hAt hDn hS => ?_)
            have hT : Below w11.heap.size w11 w9 := WtS.any (T := fun w9 => Below w11.heap.size w11 w9) (fun _ _ _ _ h => h.1) hS
            have x0 : w9.cell? ⟨wr.heap.size, 0, none⟩ = some (.int .i64 (a.kind)) := (HA11.out.ca hT).cell 0
            have x1 : w9.cell? ⟨wr.heap.size, 1, none⟩ = some (.slice R rn rc) := (HA11.out.ca hT).cell 1
            have x2 : w9.cell? ⟨wr.heap.size, 2, none⟩ = some (.int .i64 (a.pk.kind)) := (HA11.out.ca hT).cell 2
            have x3 : w9.cell? ⟨wr.heap.size, 3, none⟩ = some (.int .u32 (a.pk.ses)) := (HA11.out.ca hT).cell 3
            have x4 : w9.cell? ⟨wr.heap.size, 4, none⟩ = some (.int .u64 (a.pk.seq)) := (HA11.out.ca hT).cell 4
            have x5 : w9.cell? ⟨wr.heap.size, 5, none⟩ = some (.int .u64 (a.pk.lim)) := (HA11.out.ca hT).cell 5
            have x6 : w9.cell? ⟨wr.heap.size, 6, none⟩ = some (.slice B k kc) := (HA11.out.ca hT).cell 6
            have x7 : w9.cell? ⟨wr.heap.size, 7, none⟩ = some (.bool (a.pk.b.fin)) := (HA11.out.ca hT).cell 7
            have x8 : w9.cell? ⟨wr.heap.size, 8, none⟩ = some (.int .u64 (a.pk.b.cnt)) := (HA11.out.ca hT).cell 8
            have x9 : w9.cell? ⟨wr.heap.size, 9, none⟩ = some (.bool (a.near)) := (HA11.out.ca hT).cell 9
            clear hT hS
            go_simp
            try rfl
          try simp only [Act.put, sA, sZ, sS]
          refine Ps.st (i := 1) (d := some 40) (u := (.agg #[.int .u32 (s.ses), .int .u64 (s.base), .slice A2 n2 c2, .int .u64 (s.sent), .int .u64 (s.lim), .int .i64 (s.timer), .bool (s.ended)])) rfl rfl ?ywg28_30 ?rwg28_30
          case ywg28_30 =>
            refine StepS.read [] (by kernel_rfl) (WtS.pass (by decide) (by decide)) (by rfl) (fun L9 m9 w9 hSh hAt hDn hS => ?_)
            have hT : Below w11.heap.size w11 w9 := WtS.any (T := fun w9 => Below w11.heap.size w11 w9) (fun _ _ _ _ h => h.1) hS
            have x0 : w9.cell? ⟨w8.heap.size, 0, none⟩ = some (.int .u32 (s.ses)) := (HW11.out.ca hT).cell 0
            have x1 : w9.cell? ⟨w8.heap.size, 1, none⟩ = some (.int .u64 (s.base)) := (HW11.out.ca hT).cell 1
            have x2 : w9.cell? ⟨w8.heap.size, 2, none⟩ = some (.slice A2 n2 c2) := (HW11.out.ca hT).cell 2
            have x3 : w9.cell? ⟨w8.heap.size, 3, none⟩ = some (.int .u64 (s.sent)) := (HW11.out.ca hT).cell 3
            have x4 : w9.cell? ⟨w8.heap.size, 4, none⟩ = some (.int .u64 (s.lim)) := (HW11.out.ca hT).cell 4
            have x5 : w9.cell? ⟨w8.heap.size, 5, none⟩ = some (.int .i64 (s.timer)) := (HW11.out.ca hT).cell 5
            have x6 : w9.cell? ⟨w8.heap.size, 6, none⟩ = some (.bool (s.ended)) := (HW11.out.ca hT).cell 6
            clear hT hS
            go_simp
            try rfl
          try simp only [Act.put, sA, sZ, sS]
          refine Ps.some2 (i := 2) (j := 8) (by kernel_rfl) ?bwg28_31_2 ?bwg28_31_8
          case bwg28_31_2 =>
            refine Turns.mk (i := 2) (d := some 41) rfl rfl (TurnS.call (V := fun v => ∃ A5 n5 c5, v = .agg (s.cells A5 n5 c5)) ?fwg28_32 ?awg28_32 [] (by kernel_rfl) (by rfl) (fun w9 => ?hwg28_32) (fun L9 m9 w9 hSh hAt hDn hS => ?cwg28_32)) (fun v2 hVv2 => ?rwg28_32)
            case hwg28_32 => go_simp; refine ⟨?_, ?_⟩ <;> rfl
            case cwg28_32 =>
              obtain ⟨al, hB, hset⟩ := WtS.on2 hDn (reach_no hSh (f := 12) (j := 3) (by kernel_rfl) hDn) (reach_no hSh (f := 12) (j := 9) (by kernel_rfl) hDn) hS
              obtain ⟨hT, hal⟩ := hB
              have hsz := hT.size
              refine (senderC_any _ s A2 n2 c2 w9 (Lay.rd_below HRW11.out hT) HCP2.out.1 HCP2.out.2).mono ?_
              rw [HID.out, HBQ.out]
              rintro e w6 ⟨A5, n5, c5, rfl, hr5, h5a, h5b, q6⟩
              exact ⟨_, rfl, ⟨A5, n5, c5, rfl⟩, hset _ _ ⟨bl_ca hT q6, (fun g e => ⟨(hal g e).1, (hal g e).2.ca q6⟩), A5, n5, c5, upd_same _ _ _, Lay.rd_weak (fun b hb _ => ⟨by have := hb.1; omega, fun e => by have h1 := (hal b e).2.lt; have h2 := hb.1; omega⟩) hr5, h5a, h5b⟩⟩
            try simp only [Act.put, sA, sZ, sS]
            obtain ⟨A5, n5, c5, rfl⟩ := hVv2
            refine Ps.some2 (i := 3) (j := 8) (by kernel_rfl) ?bwg28_33_3 ?bwg28_33_8
            case bwg28_33_3 =>
              refine Turns.mk (i := 3) (d := some 42) rfl rfl (TurnS.call (V := fun v => ∃ A6 n6 c6 PB pm pd, v = .tuple #[.agg (ns.cells A6 n6 c6), .slice PB pm pd, .int .i64 er]) ?fwg28_34 ?awg28_34 [2] (by kernel_rfl) (by rfl) (fun w9 => ?hwg28_34) (fun L9 m9 w9 hSh hAt hDn hS => ?cwg28_34)) (fun v3 hVv3 => ?rwg28_34)
              case hwg28_34 => go_simp; refine ⟨?_, ?_⟩ <;> rfl
              case cwg28_34 =>
                obtain ⟨al, hB, hset⟩ := WtS.on3 (hAt 2 (by simp)).1 hDn (reach_no hSh (f := 12) (j := 9) (by kernel_rfl) hDn) hS
                obtain ⟨hT, hal, A7, n7, c7, hv, hr7, h7a, h7b⟩ := hB
                obtain ⟨rfl, rfl, rfl⟩ : A5 = A7 ∧ n5 = n7 ∧ c5 = c7 := by have h9 : Value.agg (s.cells A5 n5 c5) = .agg (s.cells A7 n7 c7) := (hAt 2 (by simp)).2.symm.trans hv; simpa [SC.cells] using h9
                have hsz := hT.size
                refine (want_any (fun k => (k < wq.heap.size ∨ w11.heap.size ≤ k) ∧ k < w9.heap.size ∧ al ≠ some k) a s R rn rc B k kc A5 n5 c5 w9 (fun k hk => hk.2.1) (Lay.rd_weak (fun b hb hl => ⟨Or.inr hb.1, hl, hb.2⟩) hr7) h7a h7b (Lay.rd_weak (fun b hb hl => ⟨Or.inl hb, hl, fun e => by have := (hal b e).1; omega⟩) (Lay.rd_below HAR11.out hT)) HCAP.out.1.1 HCAP.out.1.2 (Lay.rd_weak (fun b hb hl => ⟨Or.inl hb, hl, fun e => by have := (hal b e).1; omega⟩) (Lay.rd_below HAP11.out hT)) HCAP.out.2.1 HCAP.out.2.2).mono ?_
                rw [← HNS.out, ← HER.out, ← HPK.out]
                rintro e w6 ⟨A6, n6, c6, PB, pm, pd, rfl, q6, hr6, h6a, h6b, hp6, hpm6⟩
                exact ⟨_, rfl, ⟨A6, n6, c6, PB, pm, pd, rfl⟩, hset _ _ ⟨bl_ca hT q6, (fun g e => ⟨(hal g e).1, (hal g e).2.ca q6⟩), A6, n6, c6, PB, pm, pd, upd_same _ _ _, Lay.rd_weak (fun b hb _ => hb.elim (fun h => ⟨h.1, h.2.2⟩) (fun h => ⟨Or.inr (by have h1 : w9.heap.size + 3 ≤ b := h; omega), fun e => by have h1 := (hal b e).2.lt; omega⟩)) hr6, h6a, h6b, Lay.rd_weak (fun b hb _ => hb.elim (fun h => h.2.2) (fun h e => by have h1 := (hal b e).2.lt; omega)) hp6, hpm6⟩⟩
              try simp only [Act.put, sA, sZ, sS]
              obtain ⟨A6, n6, c6, PB, pm, pd, rfl⟩ := hVv3
              refine Ps.st (i := 4) (d := some 38) (u := (.tuple #[.agg (ns.cells A6 n6 c6), .slice PB pm pd, .int .i64 (er)])) rfl rfl (by exact StepS.pure (WtS.pass (by decide) (by decide)) rfl fun _ => rfl) ?_
              try simp only [Act.put, sA, sZ, sS]
              refine Ps.st (i := 5) (d := some 43) (u := (.agg (ns.cells A6 n6 c6))) rfl rfl (by exact StepS.pure (WtS.pass (by decide) (by decide)) rfl fun _ => rfl) ?_
              try simp only [Act.put, sA, sZ, sS]
              refine Ps.st (i := 6) (d := some 44) (u := (.slice PB pm pd)) rfl rfl (by exact StepS.pure (WtS.pass (by decide) (by decide)) rfl fun _ => rfl) ?_
              try simp only [Act.put, sA, sZ, sS]
              refine Ps.st (i := 7) (d := some 45) (u := (.int .i64 (er))) rfl rfl (by exact StepS.pure (WtS.pass (by decide) (by decide)) rfl fun _ => rfl) ?_
              try simp only [Act.put, sA, sZ, sS]
              refine Ps.one (k := 8) (d := some 12) rfl rfl (by kernel_rfl) (TurnS.value (V := fun v => ∃ g, v = .pointer (some ⟨g, 0, none⟩)) [] (by kernel_rfl) (by rfl) (fun L9 m9 w9 hSh hAt hDn hS => ?cwg28_39)) (fun v8 hVv8 => ?rwg28_39)
              case cwg28_39 =>
                refine ⟨.pointer (some ⟨w9.heap.size, 0, none⟩), w9.alloc (.cells #[.int .u32 0, .int .u64 0, .slice none 0 0, .int .u64 0, .int .u64 0, .int .i64 0, .bool false] 29), ?_, ⟨_, rfl⟩, WtS.made hDn (reach_no hSh (f := 12) (j := 9) (by kernel_rfl) hDn) rfl (fun j hj hB => ?_) hS⟩
                · clear hS
                  go_simp
                · obtain ⟨hT2, hB⟩ := hB
                  refine ⟨bl_al hT2 _, ?_⟩
                  match j, hj, hB with
                  | 0, _, _ => exact (fun g e => by injection e with e; subst e; exact ⟨hT2.size, Blk.new w9 29 #[.int .u32 0, .int .u64 0, .slice none 0 0, .int .u64 0, .int .u64 0, .int .i64 0, .bool false]⟩)
                  | 1, _, ⟨_, A5, n5, c5, hv, hr, h1, h2⟩ => exact ⟨(fun g e => by injection e with e; subst e; exact ⟨hT2.size, Blk.new w9 29 #[.int .u32 0, .int .u64 0, .slice none 0 0, .int .u64 0, .int .u64 0, .int .i64 0, .bool false]⟩), A5, n5, c5, (upd_ne (by decide)).trans hv, Lay.rd_below (Lay.rd_weak (fun b hb hl => ⟨hb.1, (fun e => by injection e with e; omega)⟩) hr) (bl_al (Below.refl w9.heap.size w9) (.cells #[.int .u32 0, .int .u64 0, .slice none 0 0, .int .u64 0, .int .u64 0, .int .i64 0, .bool false] 29)), h1, h2⟩
                  | 2, _, ⟨_, A6, n6, c6, PB, pm, pd, hv, hr, h1, h2, hp, h3⟩ => exact ⟨(fun g e => by injection e with e; subst e; exact ⟨hT2.size, Blk.new w9 29 #[.int .u32 0, .int .u64 0, .slice none 0 0, .int .u64 0, .int .u64 0, .int .i64 0, .bool false]⟩), A6, n6, c6, PB, pm, pd, (upd_ne (by decide)).trans hv, Lay.rd_below (Lay.rd_weak (fun b hb hl => ⟨hb.1, (fun e => by injection e with e; omega)⟩) hr) (bl_al (Below.refl w9.heap.size w9) (.cells #[.int .u32 0, .int .u64 0, .slice none 0 0, .int .u64 0, .int .u64 0, .int .i64 0, .bool false] 29)), h1, h2, Lay.rd_below (Lay.rd_weak (fun b hb hl => (fun e => by injection e with e; omega)) hp) (bl_al (Below.refl w9.heap.size w9) (.cells #[.int .u32 0, .int .u64 0, .slice none 0 0, .int .u64 0, .int .u64 0, .int .i64 0, .bool false] 29)), h3⟩
                  | _ + 3, hj, _ => exact absurd hj (by omega)
              try simp only [Act.put, sA, sZ, sS]
              obtain ⟨g8, rfl⟩ := hVv8
              refine Ps.st (i := 9) (d := none) (u := undef) rfl rfl ?ywg28_40 ?rwg28_40
              case ywg28_40 =>
                refine StepS.store [2, 3, 8] (by kernel_rfl) (by rfl) (fun L9 m9 w9 hSh hAt hDn hS => ?_)
                obtain ⟨g, hm, hB, hset⟩ := WtS.on9 (hAt 2 (by simp)).1 (hAt 3 (by simp)).1 (hAt 8 (by simp)).1 hDn hS
                obtain rfl : g8 = g := by have h9 : Value.pointer (some ⟨g8, 0, none⟩) = .pointer (some ⟨g, 0, none⟩) := (hAt 8 (by simp)).2.symm.trans hm; simpa using h9
                obtain ⟨hT, hal, A7, n7, c7, PC, p7, d7, hv, hr7, h7a, h7b, hp7, h7c⟩ := hB
                obtain ⟨⟨rfl, rfl, rfl⟩, rfl, rfl, rfl⟩ : (A6 = A7 ∧ n6 = n7 ∧ c6 = c7) ∧ PB = PC ∧ pm = p7 ∧ pd = d7 := by have h9 : (.tuple #[.agg (ns.cells A6 n6 c6), .slice PB pm pd, .int .i64 er] : Value) = .tuple #[.agg (ns.cells A7 n7 c7), .slice PC p7 d7, .int .i64 er] := (hAt 3 (by simp)).2.symm.trans hv; simpa [SC.cells] using h9
                refine (exec_store_blk (w := w9) 29 (.tmp 12) (.tmp 43) (by rfl) g8 29 #[.int .u32 0, .int .u64 0, .slice none 0 0, .int .u64 0, .int .u64 0, .int .i64 0, .bool false] (ns.cells A6 n6 c6) (by rfl) (by rfl) (hal g8 rfl).2 rfl senderI (by simp [SC.cells, Value.oneCell'])).imp fun w7 hx => ⟨hx.1, hset _ ⟨bl_gr hT hx.2.2 (hal g8 rfl).1, g8, A6, n6, c6, PB, pm, pd, rfl, (hal g8 rfl).1, hx.2.1, hv, rd_grown hr7 hx.2.2 (fun b hb e => hb.2 (by rw [e])), h7a, h7b, rd_grown hp7 hx.2.2 (fun b hb e => hb (by rw [e])), h7c⟩⟩
              try simp only [Act.put]
              refine Ps.st (i := 10) (d := some 13) (u := (.slice PB pm pd)) rfl rfl (by exact StepS.pure (WtS.pass (by decide) (by decide)) rfl fun _ => rfl) ?_
              try simp only [Act.put, sA, sZ, sS]
              refine Ps.st (i := 11) (d := some 14) (u := (.int .i64 (er))) rfl rfl (by exact StepS.pure (WtS.pass (by decide) (by decide)) rfl fun _ => rfl) ?_
              try simp only [Act.put, sA, sZ, sS]
              refine Ps.done (by kernel_rfl) (fun wg28 hS => ?_) _
              obtain ⟨g, hm, hT, g1, A7, n7, c7, PC, p7, d7, hg1, hg2, hbk, hv, hr7, h7a, h7b, hp7, h7c⟩ := WtS.fin (by rfl) (by rfl) hS
              clear hS
              injection hg1 with hg1
              subst hg1
              obtain rfl : g8 = g := by have h9 : Value.pointer (some ⟨g8, 0, none⟩) = .pointer (some ⟨g, 0, none⟩) := hm; simpa using h9
              obtain ⟨⟨rfl, rfl, rfl⟩, rfl, rfl, rfl⟩ : (A6 = A7 ∧ n6 = n7 ∧ c6 = c7) ∧ PB = PC ∧ pm = p7 ∧ pd = d7 := by have h9 : (.tuple #[.agg (ns.cells A6 n6 c6), .slice PB pm pd, .int .i64 er] : Value) = .tuple #[.agg (ns.cells A7 n7 c7), .slice PC p7 d7, .int .i64 er] := hv; simpa [SC.cells] using h9
              refine ⟨g8, A6, n6, c6, PB, pm, pd, ⟨.agg (a.cells R rn rc B k kc), .agg (s.cells A2 n2 c2), .agg (s.cells A5 n5 c5), .tuple #[.agg (ns.cells A6 n6 c6), .slice PB pm pd, .int .i64 er], .tuple #[.agg (ns.cells A6 n6 c6), .slice PB pm pd, .int .i64 er], .agg (ns.cells A6 n6 c6), .slice PB pm pd, .int .i64 er, ?_⟩, hT, hbk, hg2, h7a, h7b, hr7, hp7, h7c⟩
              clear hT hbk hr7 hp7 h7a h7b h7c hv hm hg2
              try simp only [Act.put, sA, sZ, sS]
              try rfl
            case bwg28_33_8 =>
              refine Turns.mk (i := 8) (d := some 12) rfl rfl (TurnS.value (V := fun v => ∃ g, v = .pointer (some ⟨g, 0, none⟩)) [] (by kernel_rfl) (by rfl) (fun L9 m9 w9 hSh hAt hDn hS => ?cwg28_43)) (fun v8 hVv8 => ?rwg28_43)
              case cwg28_43 =>
                refine ⟨.pointer (some ⟨w9.heap.size, 0, none⟩), w9.alloc (.cells #[.int .u32 0, .int .u64 0, .slice none 0 0, .int .u64 0, .int .u64 0, .int .i64 0, .bool false] 29), ?_, ⟨_, rfl⟩, WtS.made hDn (reach_no hSh (f := 12) (j := 9) (by kernel_rfl) hDn) rfl (fun j hj hB => ?_) hS⟩
                · clear hS
                  go_simp
                · obtain ⟨hT2, hB⟩ := hB
                  refine ⟨bl_al hT2 _, ?_⟩
                  match j, hj, hB with
                  | 0, _, _ => exact (fun g e => by injection e with e; subst e; exact ⟨hT2.size, Blk.new w9 29 #[.int .u32 0, .int .u64 0, .slice none 0 0, .int .u64 0, .int .u64 0, .int .i64 0, .bool false]⟩)
                  | 1, _, ⟨_, A5, n5, c5, hv, hr, h1, h2⟩ => exact ⟨(fun g e => by injection e with e; subst e; exact ⟨hT2.size, Blk.new w9 29 #[.int .u32 0, .int .u64 0, .slice none 0 0, .int .u64 0, .int .u64 0, .int .i64 0, .bool false]⟩), A5, n5, c5, (upd_ne (by decide)).trans hv, Lay.rd_below (Lay.rd_weak (fun b hb hl => ⟨hb.1, (fun e => by injection e with e; omega)⟩) hr) (bl_al (Below.refl w9.heap.size w9) (.cells #[.int .u32 0, .int .u64 0, .slice none 0 0, .int .u64 0, .int .u64 0, .int .i64 0, .bool false] 29)), h1, h2⟩
                  | 2, _, ⟨_, A6, n6, c6, PB, pm, pd, hv, hr, h1, h2, hp, h3⟩ => exact ⟨(fun g e => by injection e with e; subst e; exact ⟨hT2.size, Blk.new w9 29 #[.int .u32 0, .int .u64 0, .slice none 0 0, .int .u64 0, .int .u64 0, .int .i64 0, .bool false]⟩), A6, n6, c6, PB, pm, pd, (upd_ne (by decide)).trans hv, Lay.rd_below (Lay.rd_weak (fun b hb hl => ⟨hb.1, (fun e => by injection e with e; omega)⟩) hr) (bl_al (Below.refl w9.heap.size w9) (.cells #[.int .u32 0, .int .u64 0, .slice none 0 0, .int .u64 0, .int .u64 0, .int .i64 0, .bool false] 29)), h1, h2, Lay.rd_below (Lay.rd_weak (fun b hb hl => (fun e => by injection e with e; omega)) hp) (bl_al (Below.refl w9.heap.size w9) (.cells #[.int .u32 0, .int .u64 0, .slice none 0 0, .int .u64 0, .int .u64 0, .int .i64 0, .bool false] 29)), h3⟩
                  | _ + 3, hj, _ => exact absurd hj (by omega)
              try simp only [Act.put, sA, sZ, sS]
              obtain ⟨g8, rfl⟩ := hVv8
              refine Ps.one (k := 3) (d := some 42) rfl rfl (by kernel_rfl) (TurnS.call (V := fun v => ∃ A6 n6 c6 PB pm pd, v = .tuple #[.agg (ns.cells A6 n6 c6), .slice PB pm pd, .int .i64 er]) ?fwg28_44 ?awg28_44 [2] (by kernel_rfl) (by rfl) (fun w9 => ?hwg28_44) (fun L9 m9 w9 hSh hAt hDn hS => ?cwg28_44)) (fun v3 hVv3 => ?rwg28_44)
              case hwg28_44 => go_simp; refine ⟨?_, ?_⟩ <;> rfl
              case cwg28_44 =>
                obtain ⟨al, hB, hset⟩ := WtS.on3 (hAt 2 (by simp)).1 hDn (reach_no hSh (f := 12) (j := 9) (by kernel_rfl) hDn) hS
                obtain ⟨hT, hal, A7, n7, c7, hv, hr7, h7a, h7b⟩ := hB
                obtain ⟨rfl, rfl, rfl⟩ : A5 = A7 ∧ n5 = n7 ∧ c5 = c7 := by have h9 : Value.agg (s.cells A5 n5 c5) = .agg (s.cells A7 n7 c7) := (hAt 2 (by simp)).2.symm.trans hv; simpa [SC.cells] using h9
                have hsz := hT.size
                refine (want_any (fun k => (k < wq.heap.size ∨ w11.heap.size ≤ k) ∧ k < w9.heap.size ∧ al ≠ some k) a s R rn rc B k kc A5 n5 c5 w9 (fun k hk => hk.2.1) (Lay.rd_weak (fun b hb hl => ⟨Or.inr hb.1, hl, hb.2⟩) hr7) h7a h7b (Lay.rd_weak (fun b hb hl => ⟨Or.inl hb, hl, fun e => by have := (hal b e).1; omega⟩) (Lay.rd_below HAR11.out hT)) HCAP.out.1.1 HCAP.out.1.2 (Lay.rd_weak (fun b hb hl => ⟨Or.inl hb, hl, fun e => by have := (hal b e).1; omega⟩) (Lay.rd_below HAP11.out hT)) HCAP.out.2.1 HCAP.out.2.2).mono ?_
                rw [← HNS.out, ← HER.out, ← HPK.out]
                rintro e w6 ⟨A6, n6, c6, PB, pm, pd, rfl, q6, hr6, h6a, h6b, hp6, hpm6⟩
                exact ⟨_, rfl, ⟨A6, n6, c6, PB, pm, pd, rfl⟩, hset _ _ ⟨bl_ca hT q6, (fun g e => ⟨(hal g e).1, (hal g e).2.ca q6⟩), A6, n6, c6, PB, pm, pd, upd_same _ _ _, Lay.rd_weak (fun b hb _ => hb.elim (fun h => ⟨h.1, h.2.2⟩) (fun h => ⟨Or.inr (by have h1 : w9.heap.size + 3 ≤ b := h; omega), fun e => by have h1 := (hal b e).2.lt; omega⟩)) hr6, h6a, h6b, Lay.rd_weak (fun b hb _ => hb.elim (fun h => h.2.2) (fun h e => by have h1 := (hal b e).2.lt; omega)) hp6, hpm6⟩⟩
              try simp only [Act.put, sA, sZ, sS]
              obtain ⟨A6, n6, c6, PB, pm, pd, rfl⟩ := hVv3
              refine Ps.st (i := 4) (d := some 38) (u := (.tuple #[.agg (ns.cells A6 n6 c6), .slice PB pm pd, .int .i64 (er)])) rfl rfl (by exact StepS.pure (WtS.pass (by decide) (by decide)) rfl fun _ => rfl) ?_
              try simp only [Act.put, sA, sZ, sS]
              refine Ps.st (i := 5) (d := some 43) (u := (.agg (ns.cells A6 n6 c6))) rfl rfl (by exact StepS.pure (WtS.pass (by decide) (by decide)) rfl fun _ => rfl) ?_
              try simp only [Act.put, sA, sZ, sS]
              refine Ps.st (i := 6) (d := some 44) (u := (.slice PB pm pd)) rfl rfl (by exact StepS.pure (WtS.pass (by decide) (by decide)) rfl fun _ => rfl) ?_
              try simp only [Act.put, sA, sZ, sS]
              refine Ps.st (i := 7) (d := some 45) (u := (.int .i64 (er))) rfl rfl (by exact StepS.pure (WtS.pass (by decide) (by decide)) rfl fun _ => rfl) ?_
              try simp only [Act.put, sA, sZ, sS]
              refine Ps.st (i := 9) (d := none) (u := undef) rfl rfl ?ywg28_49 ?rwg28_49
              case ywg28_49 =>
                refine StepS.store [2, 3, 8] (by kernel_rfl) (by rfl) (fun L9 m9 w9 hSh hAt hDn hS => ?_)
                obtain ⟨g, hm, hB, hset⟩ := WtS.on9 (hAt 2 (by simp)).1 (hAt 3 (by simp)).1 (hAt 8 (by simp)).1 hDn hS
                obtain rfl : g8 = g := by have h9 : Value.pointer (some ⟨g8, 0, none⟩) = .pointer (some ⟨g, 0, none⟩) := (hAt 8 (by simp)).2.symm.trans hm; simpa using h9
                obtain ⟨hT, hal, A7, n7, c7, PC, p7, d7, hv, hr7, h7a, h7b, hp7, h7c⟩ := hB
                obtain ⟨⟨rfl, rfl, rfl⟩, rfl, rfl, rfl⟩ : (A6 = A7 ∧ n6 = n7 ∧ c6 = c7) ∧ PB = PC ∧ pm = p7 ∧ pd = d7 := by have h9 : (.tuple #[.agg (ns.cells A6 n6 c6), .slice PB pm pd, .int .i64 er] : Value) = .tuple #[.agg (ns.cells A7 n7 c7), .slice PC p7 d7, .int .i64 er] := (hAt 3 (by simp)).2.symm.trans hv; simpa [SC.cells] using h9
                refine (exec_store_blk (w := w9) 29 (.tmp 12) (.tmp 43) (by rfl) g8 29 #[.int .u32 0, .int .u64 0, .slice none 0 0, .int .u64 0, .int .u64 0, .int .i64 0, .bool false] (ns.cells A6 n6 c6) (by rfl) (by rfl) (hal g8 rfl).2 rfl senderI (by simp [SC.cells, Value.oneCell'])).imp fun w7 hx => ⟨hx.1, hset _ ⟨bl_gr hT hx.2.2 (hal g8 rfl).1, g8, A6, n6, c6, PB, pm, pd, rfl, (hal g8 rfl).1, hx.2.1, hv, rd_grown hr7 hx.2.2 (fun b hb e => hb.2 (by rw [e])), h7a, h7b, rd_grown hp7 hx.2.2 (fun b hb e => hb (by rw [e])), h7c⟩⟩
              try simp only [Act.put]
              refine Ps.st (i := 10) (d := some 13) (u := (.slice PB pm pd)) rfl rfl (by exact StepS.pure (WtS.pass (by decide) (by decide)) rfl fun _ => rfl) ?_
              try simp only [Act.put, sA, sZ, sS]
              refine Ps.st (i := 11) (d := some 14) (u := (.int .i64 (er))) rfl rfl (by exact StepS.pure (WtS.pass (by decide) (by decide)) rfl fun _ => rfl) ?_
              try simp only [Act.put, sA, sZ, sS]
              refine Ps.done (by kernel_rfl) (fun wg28 hS => ?_) _
              obtain ⟨g, hm, hT, g1, A7, n7, c7, PC, p7, d7, hg1, hg2, hbk, hv, hr7, h7a, h7b, hp7, h7c⟩ := WtS.fin (by rfl) (by rfl) hS
              clear hS
              injection hg1 with hg1
              subst hg1
              obtain rfl : g8 = g := by have h9 : Value.pointer (some ⟨g8, 0, none⟩) = .pointer (some ⟨g, 0, none⟩) := hm; simpa using h9
              obtain ⟨⟨rfl, rfl, rfl⟩, rfl, rfl, rfl⟩ : (A6 = A7 ∧ n6 = n7 ∧ c6 = c7) ∧ PB = PC ∧ pm = p7 ∧ pd = d7 := by have h9 : (.tuple #[.agg (ns.cells A6 n6 c6), .slice PB pm pd, .int .i64 er] : Value) = .tuple #[.agg (ns.cells A7 n7 c7), .slice PC p7 d7, .int .i64 er] := hv; simpa [SC.cells] using h9
              refine ⟨g8, A6, n6, c6, PB, pm, pd, ⟨.agg (a.cells R rn rc B k kc), .agg (s.cells A2 n2 c2), .agg (s.cells A5 n5 c5), .tuple #[.agg (ns.cells A6 n6 c6), .slice PB pm pd, .int .i64 er], .tuple #[.agg (ns.cells A6 n6 c6), .slice PB pm pd, .int .i64 er], .agg (ns.cells A6 n6 c6), .slice PB pm pd, .int .i64 er, ?_⟩, hT, hbk, hg2, h7a, h7b, hr7, hp7, h7c⟩
              clear hT hbk hr7 hp7 h7a h7b h7c hv hm hg2
              try simp only [Act.put, sA, sZ, sS]
              try rfl
          case bwg28_31_8 =>
            refine Turns.mk (i := 8) (d := some 12) rfl rfl (TurnS.value (V := fun v => ∃ g, v = .pointer (some ⟨g, 0, none⟩)) [] (by kernel_rfl) (by rfl) (fun L9 m9 w9 hSh hAt hDn hS => ?cwg28_52)) (fun v8 hVv8 => ?rwg28_52)
            case cwg28_52 =>
              refine ⟨.pointer (some ⟨w9.heap.size, 0, none⟩), w9.alloc (.cells #[.int .u32 0, .int .u64 0, .slice none 0 0, .int .u64 0, .int .u64 0, .int .i64 0, .bool false] 29), ?_, ⟨_, rfl⟩, WtS.made hDn (reach_no hSh (f := 12) (j := 9) (by kernel_rfl) hDn) rfl (fun j hj hB => ?_) hS⟩
              · clear hS
                go_simp
              · obtain ⟨hT2, hB⟩ := hB
                refine ⟨bl_al hT2 _, ?_⟩
                match j, hj, hB with
                | 0, _, _ => exact (fun g e => by injection e with e; subst e; exact ⟨hT2.size, Blk.new w9 29 #[.int .u32 0, .int .u64 0, .slice none 0 0, .int .u64 0, .int .u64 0, .int .i64 0, .bool false]⟩)
                | 1, _, ⟨_, A5, n5, c5, hv, hr, h1, h2⟩ => exact ⟨(fun g e => by injection e with e; subst e; exact ⟨hT2.size, Blk.new w9 29 #[.int .u32 0, .int .u64 0, .slice none 0 0, .int .u64 0, .int .u64 0, .int .i64 0, .bool false]⟩), A5, n5, c5, (upd_ne (by decide)).trans hv, Lay.rd_below (Lay.rd_weak (fun b hb hl => ⟨hb.1, (fun e => by injection e with e; omega)⟩) hr) (bl_al (Below.refl w9.heap.size w9) (.cells #[.int .u32 0, .int .u64 0, .slice none 0 0, .int .u64 0, .int .u64 0, .int .i64 0, .bool false] 29)), h1, h2⟩
                | 2, _, ⟨_, A6, n6, c6, PB, pm, pd, hv, hr, h1, h2, hp, h3⟩ => exact ⟨(fun g e => by injection e with e; subst e; exact ⟨hT2.size, Blk.new w9 29 #[.int .u32 0, .int .u64 0, .slice none 0 0, .int .u64 0, .int .u64 0, .int .i64 0, .bool false]⟩), A6, n6, c6, PB, pm, pd, (upd_ne (by decide)).trans hv, Lay.rd_below (Lay.rd_weak (fun b hb hl => ⟨hb.1, (fun e => by injection e with e; omega)⟩) hr) (bl_al (Below.refl w9.heap.size w9) (.cells #[.int .u32 0, .int .u64 0, .slice none 0 0, .int .u64 0, .int .u64 0, .int .i64 0, .bool false] 29)), h1, h2, Lay.rd_below (Lay.rd_weak (fun b hb hl => (fun e => by injection e with e; omega)) hp) (bl_al (Below.refl w9.heap.size w9) (.cells #[.int .u32 0, .int .u64 0, .slice none 0 0, .int .u64 0, .int .u64 0, .int .i64 0, .bool false] 29)), h3⟩
                | _ + 3, hj, _ => exact absurd hj (by omega)
            try simp only [Act.put, sA, sZ, sS]
            obtain ⟨g8, rfl⟩ := hVv8
            refine Ps.one (k := 2) (d := some 41) rfl rfl (by kernel_rfl) (TurnS.call (V := fun v => ∃ A5 n5 c5, v = .agg (s.cells A5 n5 c5)) ?fwg28_53 ?awg28_53 [] (by kernel_rfl) (by rfl) (fun w9 => ?hwg28_53) (fun L9 m9 w9 hSh hAt hDn hS => ?cwg28_53)) (fun v2 hVv2 => ?rwg28_53)
            case hwg28_53 => go_simp; refine ⟨?_, ?_⟩ <;> rfl
            case cwg28_53 =>
              obtain ⟨al, hB, hset⟩ := WtS.on2 hDn (reach_no hSh (f := 12) (j := 3) (by kernel_rfl) hDn) (reach_no hSh (f := 12) (j := 9) (by kernel_rfl) hDn) hS
              obtain ⟨hT, hal⟩ := hB
              have hsz := hT.size
              refine (senderC_any _ s A2 n2 c2 w9 (Lay.rd_below HRW11.out hT) HCP2.out.1 HCP2.out.2).mono ?_
              rw [HID.out, HBQ.out]
              rintro e w6 ⟨A5, n5, c5, rfl, hr5, h5a, h5b, q6⟩
              exact ⟨_, rfl, ⟨A5, n5, c5, rfl⟩, hset _ _ ⟨bl_ca hT q6, (fun g e => ⟨(hal g e).1, (hal g e).2.ca q6⟩), A5, n5, c5, upd_same _ _ _, Lay.rd_weak (fun b hb _ => ⟨by have := hb.1; omega, fun e => by have h1 := (hal b e).2.lt; have h2 := hb.1; omega⟩) hr5, h5a, h5b⟩⟩
            try simp only [Act.put, sA, sZ, sS]
            obtain ⟨A5, n5, c5, rfl⟩ := hVv2
            refine Ps.one (k := 3) (d := some 42) rfl rfl (by kernel_rfl) (TurnS.call (V := fun v => ∃ A6 n6 c6 PB pm pd, v = .tuple #[.agg (ns.cells A6 n6 c6), .slice PB pm pd, .int .i64 er]) ?fwg28_54 ?awg28_54 [2] (by kernel_rfl) (by rfl) (fun w9 => ?hwg28_54) (fun L9 m9 w9 hSh hAt hDn hS => ?cwg28_54)) (fun v3 hVv3 => ?rwg28_54)
            case hwg28_54 => go_simp; refine ⟨?_, ?_⟩ <;> rfl
            case cwg28_54 =>
              obtain ⟨al, hB, hset⟩ := WtS.on3 (hAt 2 (by simp)).1 hDn (reach_no hSh (f := 12) (j := 9) (by kernel_rfl) hDn) hS
              obtain ⟨hT, hal, A7, n7, c7, hv, hr7, h7a, h7b⟩ := hB
              obtain ⟨rfl, rfl, rfl⟩ : A5 = A7 ∧ n5 = n7 ∧ c5 = c7 := by have h9 : Value.agg (s.cells A5 n5 c5) = .agg (s.cells A7 n7 c7) := (hAt 2 (by simp)).2.symm.trans hv; simpa [SC.cells] using h9
              have hsz := hT.size
              refine (want_any (fun k => (k < wq.heap.size ∨ w11.heap.size ≤ k) ∧ k < w9.heap.size ∧ al ≠ some k) a s R rn rc B k kc A5 n5 c5 w9 (fun k hk => hk.2.1) (Lay.rd_weak (fun b hb hl => ⟨Or.inr hb.1, hl, hb.2⟩) hr7) h7a h7b (Lay.rd_weak (fun b hb hl => ⟨Or.inl hb, hl, fun e => by have := (hal b e).1; omega⟩) (Lay.rd_below HAR11.out hT)) HCAP.out.1.1 HCAP.out.1.2 (Lay.rd_weak (fun b hb hl => ⟨Or.inl hb, hl, fun e => by have := (hal b e).1; omega⟩) (Lay.rd_below HAP11.out hT)) HCAP.out.2.1 HCAP.out.2.2).mono ?_
              rw [← HNS.out, ← HER.out, ← HPK.out]
              rintro e w6 ⟨A6, n6, c6, PB, pm, pd, rfl, q6, hr6, h6a, h6b, hp6, hpm6⟩
              exact ⟨_, rfl, ⟨A6, n6, c6, PB, pm, pd, rfl⟩, hset _ _ ⟨bl_ca hT q6, (fun g e => ⟨(hal g e).1, (hal g e).2.ca q6⟩), A6, n6, c6, PB, pm, pd, upd_same _ _ _, Lay.rd_weak (fun b hb _ => hb.elim (fun h => ⟨h.1, h.2.2⟩) (fun h => ⟨Or.inr (by have h1 : w9.heap.size + 3 ≤ b := h; omega), fun e => by have h1 := (hal b e).2.lt; omega⟩)) hr6, h6a, h6b, Lay.rd_weak (fun b hb _ => hb.elim (fun h => h.2.2) (fun h e => by have h1 := (hal b e).2.lt; omega)) hp6, hpm6⟩⟩
            try simp only [Act.put, sA, sZ, sS]
            obtain ⟨A6, n6, c6, PB, pm, pd, rfl⟩ := hVv3
            refine Ps.st (i := 4) (d := some 38) (u := (.tuple #[.agg (ns.cells A6 n6 c6), .slice PB pm pd, .int .i64 (er)])) rfl rfl (by exact StepS.pure (WtS.pass (by decide) (by decide)) rfl fun _ => rfl) ?_
            try simp only [Act.put, sA, sZ, sS]
            refine Ps.st (i := 5) (d := some 43) (u := (.agg (ns.cells A6 n6 c6))) rfl rfl (by exact StepS.pure (WtS.pass (by decide) (by decide)) rfl fun _ => rfl) ?_
            try simp only [Act.put, sA, sZ, sS]
            refine Ps.st (i := 6) (d := some 44) (u := (.slice PB pm pd)) rfl rfl (by exact StepS.pure (WtS.pass (by decide) (by decide)) rfl fun _ => rfl) ?_
            try simp only [Act.put, sA, sZ, sS]
            refine Ps.st (i := 7) (d := some 45) (u := (.int .i64 (er))) rfl rfl (by exact StepS.pure (WtS.pass (by decide) (by decide)) rfl fun _ => rfl) ?_
            try simp only [Act.put, sA, sZ, sS]
            refine Ps.st (i := 9) (d := none) (u := undef) rfl rfl ?ywg28_59 ?rwg28_59
            case ywg28_59 =>
              refine StepS.store [2, 3, 8] (by kernel_rfl) (by rfl) (fun L9 m9 w9 hSh hAt hDn hS => ?_)
              obtain ⟨g, hm, hB, hset⟩ := WtS.on9 (hAt 2 (by simp)).1 (hAt 3 (by simp)).1 (hAt 8 (by simp)).1 hDn hS
              obtain rfl : g8 = g := by have h9 : Value.pointer (some ⟨g8, 0, none⟩) = .pointer (some ⟨g, 0, none⟩) := (hAt 8 (by simp)).2.symm.trans hm; simpa using h9
              obtain ⟨hT, hal, A7, n7, c7, PC, p7, d7, hv, hr7, h7a, h7b, hp7, h7c⟩ := hB
              obtain ⟨⟨rfl, rfl, rfl⟩, rfl, rfl, rfl⟩ : (A6 = A7 ∧ n6 = n7 ∧ c6 = c7) ∧ PB = PC ∧ pm = p7 ∧ pd = d7 := by have h9 : (.tuple #[.agg (ns.cells A6 n6 c6), .slice PB pm pd, .int .i64 er] : Value) = .tuple #[.agg (ns.cells A7 n7 c7), .slice PC p7 d7, .int .i64 er] := (hAt 3 (by simp)).2.symm.trans hv; simpa [SC.cells] using h9
              refine (exec_store_blk (w := w9) 29 (.tmp 12) (.tmp 43) (by rfl) g8 29 #[.int .u32 0, .int .u64 0, .slice none 0 0, .int .u64 0, .int .u64 0, .int .i64 0, .bool false] (ns.cells A6 n6 c6) (by rfl) (by rfl) (hal g8 rfl).2 rfl senderI (by simp [SC.cells, Value.oneCell'])).imp fun w7 hx => ⟨hx.1, hset _ ⟨bl_gr hT hx.2.2 (hal g8 rfl).1, g8, A6, n6, c6, PB, pm, pd, rfl, (hal g8 rfl).1, hx.2.1, hv, rd_grown hr7 hx.2.2 (fun b hb e => hb.2 (by rw [e])), h7a, h7b, rd_grown hp7 hx.2.2 (fun b hb e => hb (by rw [e])), h7c⟩⟩
            try simp only [Act.put]
            refine Ps.st (i := 10) (d := some 13) (u := (.slice PB pm pd)) rfl rfl (by exact StepS.pure (WtS.pass (by decide) (by decide)) rfl fun _ => rfl) ?_
            try simp only [Act.put, sA, sZ, sS]
            refine Ps.st (i := 11) (d := some 14) (u := (.int .i64 (er))) rfl rfl (by exact StepS.pure (WtS.pass (by decide) (by decide)) rfl fun _ => rfl) ?_
            try simp only [Act.put, sA, sZ, sS]
            refine Ps.done (by kernel_rfl) (fun wg28 hS => ?_) _
            obtain ⟨g, hm, hT, g1, A7, n7, c7, PC, p7, d7, hg1, hg2, hbk, hv, hr7, h7a, h7b, hp7, h7c⟩ := WtS.fin (by rfl) (by rfl) hS
            clear hS
            injection hg1 with hg1
            subst hg1
            obtain rfl : g8 = g := by have h9 : Value.pointer (some ⟨g8, 0, none⟩) = .pointer (some ⟨g, 0, none⟩) := hm; simpa using h9
            obtain ⟨⟨rfl, rfl, rfl⟩, rfl, rfl, rfl⟩ : (A6 = A7 ∧ n6 = n7 ∧ c6 = c7) ∧ PB = PC ∧ pm = p7 ∧ pd = d7 := by have h9 : (.tuple #[.agg (ns.cells A6 n6 c6), .slice PB pm pd, .int .i64 er] : Value) = .tuple #[.agg (ns.cells A7 n7 c7), .slice PC p7 d7, .int .i64 er] := hv; simpa [SC.cells] using h9
            refine ⟨g8, A6, n6, c6, PB, pm, pd, ⟨.agg (a.cells R rn rc B k kc), .agg (s.cells A2 n2 c2), .agg (s.cells A5 n5 c5), .tuple #[.agg (ns.cells A6 n6 c6), .slice PB pm pd, .int .i64 er], .tuple #[.agg (ns.cells A6 n6 c6), .slice PB pm pd, .int .i64 er], .agg (ns.cells A6 n6 c6), .slice PB pm pd, .int .i64 er, ?_⟩, hT, hbk, hg2, h7a, h7b, hr7, hp7, h7c⟩
            clear hT hbk hr7 hp7 h7a h7b h7c hv hm hg2
            try simp only [Act.put, sA, sZ, sS]
            try rfl
        case kpswg28 =>
          intro a' w12 hF
          obtain ⟨g8, A6, n6, c6, PB, pm, pd, ⟨v39, v40, v41, v42, v38, v43, v44, v45, rfl⟩, hT, hbk, hg2, h7a, h7b, hr7, hp7, h7c⟩ := hF
          have HT12 := Lib.hid hT
          have HV12 := Lib.hid hbk
          have HRV := Lib.hid hr7
          have HPV := Lib.hid hp7
          have HCV := Lib.hid (And.intro hg2 (And.intro (And.intro h7a h7b) h7c))
          clear hT hbk hr7 hp7 h7a h7b h7c hg2
          simp only [Act.put, List.setIfInBounds_toArray, List.set_cons_zero, List.set_cons_succ]
          have HF12 := Lib.hid (HF11.out.ca HT12.out)
          have HS12 := Lib.hid (HS11.out.ca HT12.out)
          have HW12 := Lib.hid (HW11.out.ca HT12.out)
          have HO12 := Lib.hid (Lay.own_below HO11.out HT12.out)
          have HP12 := Lib.hid (Lay.rd_below HP11.out HT12.out)
          have HRS12 := Lib.hid (Lay.rd_below HRS11.out HT12.out)
          have HRW12 := Lib.hid (Lay.rd_below HRW11.out HT12.out)
          have HRN12 := Lib.hid (Lay.own_rd (F := fun _ => True) HO12.out (fun _ _ _ => trivial) (fun _ _ _ => trivial))
          have hcn := (Lay.own_caps HO12.out)
          have hs12 := HT12.out.size
          have HB12 := Lib.hid (bl_ca HB11.out HT12.out)
          clear HF11 HS11 HW11 HO11 HP11 HRS11 HRW11 HA11 HB11 HAR11 HAP11
          go_upto_region 11 with fail
          refine wp_region_ps0 .text (S := fun _ _ w' => Below w12.heap.size w12 w') (by kernel_rfl) ?spswg1 ?ppswg1
          case spswg1 =>
            exact (Below.refl w12.heap.size w12)
          refine Ps.st (i := 0) (d := some 46) (u := (.int .i64 (er))) rfl rfl (by exact StepS.pure nP rfl fun _ => rfl) ?_
          try simp only [Act.put, sA, sZ, sS]
          refine Ps.st (i := 1) (d := some 47) (u := (.int .i64 (er))) rfl rfl (by exact StepS.pure nP rfl fun _ => rfl) ?_
          try simp only [Act.put, sA, sZ, sS]
          refine Ps.st (i := 2) (d := some 48) (u := (.bool (false))) rfl rfl ?ywg1_4 ?rwg1_4
          case ywg1_4 =>
            refine StepS.pure nP (by rfl) (fun w9 => ?_)
            have e9 : (!decide (er = er)) = false := by simp
            rw [← e9]
            rfl
          try simp only [Act.put, sA, sZ, sS]
          refine Ps.st (i := 3) (d := some 49) (u := (.bool (false))) rfl rfl (by exact StepS.pure nP rfl fun _ => rfl) ?_
          try simp only [Act.put, sA, sZ, sS]
          refine Ps.st (i := 4) (d := some 50) (u := (.agg #[.int .u32 (ns.ses), .int .u64 (ns.base), .slice A3 n3 c3, .int .u64 (ns.sent), .int .u64 (ns.lim), .int .i64 (ns.timer), .bool (ns.ended)])) rfl rfl ?ywg1_6 ?rwg1_6
          case ywg1_6 =>
            refine StepS.read [] (by kernel_rfl) nP (by rfl) (fun L9 m9 w9 hSh hAt hDn hS => ?_)
            have hT : Below _ _ w9 := hS
            have x0 : w9.cell? ⟨w10.heap.size, 0, none⟩ = some (.int .u32 (ns.ses)) := (HF12.out.ca hT).cell 0
            have x1 : w9.cell? ⟨w10.heap.size, 1, none⟩ = some (.int .u64 (ns.base)) := (HF12.out.ca hT).cell 1
            have x2 : w9.cell? ⟨w10.heap.size, 2, none⟩ = some (.slice A3 n3 c3) := (HF12.out.ca hT).cell 2
            have x3 : w9.cell? ⟨w10.heap.size, 3, none⟩ = some (.int .u64 (ns.sent)) := (HF12.out.ca hT).cell 3
            have x4 : w9.cell? ⟨w10.heap.size, 4, none⟩ = some (.int .u64 (ns.lim)) := (HF12.out.ca hT).cell 4
            have x5 : w9.cell? ⟨w10.heap.size, 5, none⟩ = some (.int .i64 (ns.timer)) := (HF12.out.ca hT).cell 5
            have x6 : w9.cell? ⟨w10.heap.size, 6, none⟩ = some (.bool (ns.ended)) := (HF12.out.ca hT).cell 6
            clear hT hS
            go_simp
            try rfl
          try simp only [Act.put, sA, sZ, sS]
          refine Ps.st (i := 5) (d := some 51) (u := (.agg #[.int .u32 (ns.ses), .int .u64 (ns.base), .slice A6 n6 c6, .int .u64 (ns.sent), .int .u64 (ns.lim), .int .i64 (ns.timer), .bool (ns.ended)])) rfl rfl ?ywg1_7 ?rwg1_7
          case ywg1_7 =>
            refine StepS.read [] (by kernel_rfl) nP (by rfl) (fun L9 m9 w9 hSh hAt hDn hS => ?_)
            have hT : Below _ _ w9 := hS
            have x0 : w9.cell? ⟨g8, 0, none⟩ = some (.int .u32 (ns.ses)) := (HV12.out.ca hT).cell 0
            have x1 : w9.cell? ⟨g8, 1, none⟩ = some (.int .u64 (ns.base)) := (HV12.out.ca hT).cell 1
            have x2 : w9.cell? ⟨g8, 2, none⟩ = some (.slice A6 n6 c6) := (HV12.out.ca hT).cell 2
            have x3 : w9.cell? ⟨g8, 3, none⟩ = some (.int .u64 (ns.sent)) := (HV12.out.ca hT).cell 3
            have x4 : w9.cell? ⟨g8, 4, none⟩ = some (.int .u64 (ns.lim)) := (HV12.out.ca hT).cell 4
            have x5 : w9.cell? ⟨g8, 5, none⟩ = some (.int .i64 (ns.timer)) := (HV12.out.ca hT).cell 5
            have x6 : w9.cell? ⟨g8, 6, none⟩ = some (.bool (ns.ended)) := (HV12.out.ca hT).cell 6
            clear hT hS
            go_simp
            try rfl
          try simp only [Act.put, sA, sZ, sS]
          refine Ps.st (i := 6) (d := some 52) (u := (.bool (true))) rfl rfl ?ywg1_8 ?rwg1_8
          case ywg1_8 =>
            refine StepS.call ?fwg1_8 ?awg1_8 [] (by kernel_rfl) (by rfl) (fun w9 => ?hwg1_8) (fun L9 m9 w9 hSh hAt hDn hS => ?cwg1_8)
            case hwg1_8 => go_simp; refine ⟨?_, ?_⟩ <;> rfl
            case cwg1_8 =>
              have hT : Below _ _ w9 := hS
              refine (rsameS_any _ _ ns ns A3 A6 n3 c3 n6 c6 w9 (Lay.rd_below HRN12.out hT) (Lay.rd_below HRV.out hT) (by omega)).mono ?_
              rintro e w8 ⟨rfl, q8⟩
              exact ⟨by rw [eqSC_refl], bl_ca hT q8⟩
          try simp only [Act.put, sA, sZ, sS]
          refine Ps.st (i := 7) (d := some 53) (u := (.bool (false))) rfl rfl (by exact StepS.pure nP rfl fun _ => rfl) ?_
          try simp only [Act.put, sA, sZ, sS]
          refine Ps.st (i := 8) (d := some 54) (u := (.bool (false))) rfl rfl (by exact StepS.pure nP rfl fun _ => rfl) ?_
          try simp only [Act.put, sA, sZ, sS]
          refine Ps.st (i := 9) (d := some 55) (u := (.bool (false))) rfl rfl (by exact StepS.pure nP rfl fun _ => rfl) ?_
          try simp only [Act.put, sA, sZ, sS]
          refine Ps.st (i := 10) (d := some 56) (u := (.slice PA pn pc)) rfl rfl (by exact StepS.pure nP rfl fun _ => rfl) ?_
          try simp only [Act.put, sA, sZ, sS]
          refine Ps.st (i := 11) (d := some 57) (u := (.slice PB pm pd)) rfl rfl (by exact StepS.pure nP rfl fun _ => rfl) ?_
          try simp only [Act.put, sA, sZ, sS]
          refine Ps.st (i := 12) (d := some 58) (u := (.bool (true))) rfl rfl ?ywg1_14 ?rwg1_14
          case ywg1_14 =>
            refine StepS.call ?fwg1_14 ?awg1_14 [] (by kernel_rfl) (by rfl) (fun w9 => ?hwg1_14) (fun L9 m9 w9 hSh hAt hDn hS => ?cwg1_14)
            case hwg1_14 => go_simp; refine ⟨?_, ?_⟩ <;> rfl
            case cwg1_14 =>
              have hT : Below _ _ w9 := hS
              refine (rsamePs_any _ _ PA PB pn pc pm pd pk pk w9 (Lay.rd_below HP12.out hT) (Lay.rd_below HPV.out hT) (by omega)).mono ?_
              rintro e w8 ⟨rfl, q8⟩
              exact ⟨by rw [decide_eq_true rfl], bl_ca hT q8⟩
          try simp only [Act.put, sA, sZ, sS]
          refine Ps.st (i := 13) (d := some 59) (u := (.bool (false))) rfl rfl (by exact StepS.pure nP rfl fun _ => rfl) ?_
          try simp only [Act.put, sA, sZ, sS]
          refine Ps.st (i := 14) (d := some 60) (u := (.bool (false))) rfl rfl (by exact StepS.pure nP rfl fun _ => rfl) ?_
          try simp only [Act.put, sA, sZ, sS]
          refine Ps.st (i := 15) (d := some 61) (u := (.bool (false))) rfl rfl (by exact StepS.pure nP rfl fun _ => rfl) ?_
          try simp only [Act.put, sA, sZ, sS]
          refine Ps.st (i := 16) (d := some 62) (u := (.agg #[.int .u32 (s.ses), .int .u64 (s.base), .slice A n c, .int .u64 (s.sent), .int .u64 (s.lim), .int .i64 (s.timer), .bool (s.ended)])) rfl rfl ?ywg1_18 ?rwg1_18
          case ywg1_18 =>
            refine StepS.read [] (by kernel_rfl) nP (by rfl) (fun L9 m9 w9 hSh hAt hDn hS => ?_)
            have hT : Below _ _ w9 := hS
            have x0 : w9.cell? ⟨g5, 0, none⟩ = some (.int .u32 (s.ses)) := (HS12.out.ca hT).cell 0
            have x1 : w9.cell? ⟨g5, 1, none⟩ = some (.int .u64 (s.base)) := (HS12.out.ca hT).cell 1
            have x2 : w9.cell? ⟨g5, 2, none⟩ = some (.slice A n c) := (HS12.out.ca hT).cell 2
            have x3 : w9.cell? ⟨g5, 3, none⟩ = some (.int .u64 (s.sent)) := (HS12.out.ca hT).cell 3
            have x4 : w9.cell? ⟨g5, 4, none⟩ = some (.int .u64 (s.lim)) := (HS12.out.ca hT).cell 4
            have x5 : w9.cell? ⟨g5, 5, none⟩ = some (.int .i64 (s.timer)) := (HS12.out.ca hT).cell 5
            have x6 : w9.cell? ⟨g5, 6, none⟩ = some (.bool (s.ended)) := (HS12.out.ca hT).cell 6
            clear hT hS
            go_simp
            try rfl
          try simp only [Act.put, sA, sZ, sS]
          refine Ps.st (i := 17) (d := some 63) (u := (.agg #[.int .u32 (s.ses), .int .u64 (s.base), .slice A2 n2 c2, .int .u64 (s.sent), .int .u64 (s.lim), .int .i64 (s.timer), .bool (s.ended)])) rfl rfl ?ywg1_19 ?rwg1_19
          case ywg1_19 =>
            refine StepS.read [] (by kernel_rfl) nP (by rfl) (fun L9 m9 w9 hSh hAt hDn hS => ?_)
            have hT : Below _ _ w9 := hS
            have x0 : w9.cell? ⟨w8.heap.size, 0, none⟩ = some (.int .u32 (s.ses)) := (HW12.out.ca hT).cell 0
            have x1 : w9.cell? ⟨w8.heap.size, 1, none⟩ = some (.int .u64 (s.base)) := (HW12.out.ca hT).cell 1
            have x2 : w9.cell? ⟨w8.heap.size, 2, none⟩ = some (.slice A2 n2 c2) := (HW12.out.ca hT).cell 2
            have x3 : w9.cell? ⟨w8.heap.size, 3, none⟩ = some (.int .u64 (s.sent)) := (HW12.out.ca hT).cell 3
            have x4 : w9.cell? ⟨w8.heap.size, 4, none⟩ = some (.int .u64 (s.lim)) := (HW12.out.ca hT).cell 4
            have x5 : w9.cell? ⟨w8.heap.size, 5, none⟩ = some (.int .i64 (s.timer)) := (HW12.out.ca hT).cell 5
            have x6 : w9.cell? ⟨w8.heap.size, 6, none⟩ = some (.bool (s.ended)) := (HW12.out.ca hT).cell 6
            clear hT hS
            go_simp
            try rfl
          try simp only [Act.put, sA, sZ, sS]
          refine Ps.st (i := 18) (d := some 64) (u := (.bool (true))) rfl rfl ?ywg1_20 ?rwg1_20
          case ywg1_20 =>
            refine StepS.call ?fwg1_20 ?awg1_20 [] (by kernel_rfl) (by rfl) (fun w9 => ?hwg1_20) (fun L9 m9 w9 hSh hAt hDn hS => ?cwg1_20)
            case hwg1_20 => go_simp; refine ⟨?_, ?_⟩ <;> rfl
            case cwg1_20 =>
              have hT : Below _ _ w9 := hS
              refine (rsameS_any _ _ s s A A2 n c n2 c2 w9 (Lay.rd_below HRS12.out hT) (Lay.rd_below HRW12.out hT) (by omega)).mono ?_
              rintro e w8 ⟨rfl, q8⟩
              exact ⟨by rw [eqSC_refl], bl_ca hT q8⟩
          try simp only [Act.put, sA, sZ, sS]
          refine Ps.st (i := 19) (d := some 65) (u := (.bool (false))) rfl rfl (by exact StepS.pure nP rfl fun _ => rfl) ?_
          try simp only [Act.put, sA, sZ, sS]
          refine Ps.st (i := 20) (d := some 66) (u := (.bool (false))) rfl rfl (by exact StepS.pure nP rfl fun _ => rfl) ?_
          try simp only [Act.put, sA, sZ, sS]
          refine Ps.done (by kernel_rfl) (fun wg1 hS => ?_) _
          have HT13 := Lib.hid (show Below w12.heap.size w12 wg1 from hS)
          clear hS
          obtain ⟨w13, rfl⟩ : ∃ x, x = wg1 := ⟨_, rfl⟩
          have HF13 := Lib.hid (HF12.out.ca HT13.out)
          have HS13 := Lib.hid (HS12.out.ca HT13.out)
          have HW13 := Lib.hid (HW12.out.ca HT13.out)
          have HV13 := Lib.hid (HV12.out.ca HT13.out)
          have HO13 := Lib.hid (Lay.own_below HO12.out HT13.out)
          have HRS13 := Lib.hid (Lay.rd_below HRS12.out HT13.out)
          have HRW13 := Lib.hid (Lay.rd_below HRW12.out HT13.out)
          have HRV13 := Lib.hid (Lay.rd_below HRV.out HT13.out)
          have HB13 := Lib.hid (bl_ca HB12.out HT13.out)
          have hs13 := HT13.out.size
          have hg8 := HCV.out.1
          clear HF12 HS12 HW12 HV12 HO12 HRS12 HRW12 HRV HB12 HP12 HPV HRN12 HT12 HT13 HCAP
          have ya2 := HF13.out.cell 2
          go_wp2_with fail
          clear ya2
          obtain ⟨gi, rfl⟩ : ∃ g, g = gk := ⟨_, rfl⟩
          obtain ⟨wo, rfl⟩ : ∃ x, x = wr := ⟨_, rfl⟩
          go_loopg [70] n3 (fun g a wr => ∃ j : Nat, j + g = n3 ∧ a = .int .i64 j ∧ w13.grownBy wr (Value.slice A3 n3 c3).ownBlock ∧ (∀ g, A3 = some ⟨g, 0, none⟩ → wr.there g 0 (n3 * 3)))
          case atStart => exact ⟨0, by omega, rfl, World.grownBy.refl _ _, own_cells HO13.out⟩
          case round =>
            obtain ⟨j, hjg, rfl, hgr, hth⟩ := hrel
            by_cases hj : j < n3
            · have hj1 : (j : Int) < (n3 : Int) := by omega
              obtain ⟨g, rfl, hgb, _⟩ := own_some HO13.out (by omega)
              have hgl := HG10.out g (by simp [Value.ownBlock])
              have hc := hth g rfl (j * 3 + 2) (by omega)
              rw [Nat.zero_add] at hc
              obtain ⟨v9, e3⟩ := Option.isSome_iff_exists.1 hc.1
              have f3 := hc.2
              have hgr2 : w13.grownBy wr (some g) := by simpa [Value.ownBlock] using hgr
              have y2 : wr.cell? ⟨w10.heap.size, 2, none⟩ = some (.slice (some ⟨g, 0, none⟩) n3 c3) := (HF13.out.grown hgr2 (fun e => by injection e with e; omega)).cell 2
              go_wp2_with fail
              go_roundg (gk - 1)
              · exact ⟨j + 1, by omega, by go_num, by simpa [Value.ownBlock] using only_setCell hgr2 (p := ⟨g, j * 3 + 2, none⟩) (.inl rfl) (.int .u64 99), fun g' e => World.there_setCells (hth g' e) g (j * 3 + 2) [.int .u64 99]⟩
              · omega
            · obtain rfl : j = n3 := by omega
              have hj1 : (j : Int) ≤ (j : Int) := by omega
              have hsg := hgr.size
              have HS14 := Lib.hid (HS13.out.grown hgr (fun e => by have h9 := HG10.out _ e.symm; omega))
              have HW14 := Lib.hid (HW13.out.grown hgr (fun e => by have h9 := HG10.out _ e.symm; omega))
              have HV14 := Lib.hid (HV13.out.grown hgr (fun e => by have h9 := HG10.out _ e.symm; omega))
              have HRS14 := Lib.hid (Lay.rd_keep (fun b hb hl => hgr.block b hl (fun e => by have h9 := HG10.out _ e.symm; omega)) HRS13.out)
              have HRW14 := Lib.hid (Lay.rd_keep (fun b hb hl => hgr.block b hl (fun e => by have h9 := HG10.out _ e.symm; omega)) HRW13.out)
              have HRV14 := Lib.hid (Lay.rd_keep (fun b hb hl => hgr.block b hl (fun e => by have h9 := HG10.out _ e.symm; omega)) HRV13.out)
              have HB14 := Lib.hid (HB13.out.grown hgr HB13.out.size (fun k e => by have h9 := HG10.out _ e; omega))
              clear HS13 HW13 HV13 HRS13 HRW13 HRV13 HB13 HF13 HO13 hth hgr
              go_upto_region 18 with fail
              refine wp_region_ps0 .text (S := fun _ _ w' => Below wr.heap.size wr w') (by kernel_rfl) ?spswg23 ?ppswg23
              case spswg23 =>
                exact (Below.refl wr.heap.size wr)
              refine Ps.st (i := 0) (d := some 79) (u := (.agg #[.int .u32 (s.ses), .int .u64 (s.base), .slice A n c, .int .u64 (s.sent), .int .u64 (s.lim), .int .i64 (s.timer), .bool (s.ended)])) rfl rfl ?ywg23_24 ?rwg23_24
              case ywg23_24 =>
                refine StepS.read [] (by kernel_rfl) nP (by rfl) (fun L9 m9 w9 hSh hAt hDn hS => ?_)
                have hT : Below _ _ w9 := hS
                have x0 : w9.cell? ⟨g5, 0, none⟩ = some (.int .u32 (s.ses)) := (HS14.out.ca hT).cell 0
                have x1 : w9.cell? ⟨g5, 1, none⟩ = some (.int .u64 (s.base)) := (HS14.out.ca hT).cell 1
                have x2 : w9.cell? ⟨g5, 2, none⟩ = some (.slice A n c) := (HS14.out.ca hT).cell 2
                have x3 : w9.cell? ⟨g5, 3, none⟩ = some (.int .u64 (s.sent)) := (HS14.out.ca hT).cell 3
                have x4 : w9.cell? ⟨g5, 4, none⟩ = some (.int .u64 (s.lim)) := (HS14.out.ca hT).cell 4
                have x5 : w9.cell? ⟨g5, 5, none⟩ = some (.int .i64 (s.timer)) := (HS14.out.ca hT).cell 5
                have x6 : w9.cell? ⟨g5, 6, none⟩ = some (.bool (s.ended)) := (HS14.out.ca hT).cell 6
                clear hT hS
                go_simp
                try rfl
              try simp only [Act.put, sA, sZ, sS]
              refine Ps.st (i := 1) (d := some 80) (u := (.agg #[.int .u32 (s.ses), .int .u64 (s.base), .slice A2 n2 c2, .int .u64 (s.sent), .int .u64 (s.lim), .int .i64 (s.timer), .bool (s.ended)])) rfl rfl ?ywg23_25 ?rwg23_25
              case ywg23_25 =>
                refine StepS.read [] (by kernel_rfl) nP (by rfl) (fun L9 m9 w9 hSh hAt hDn hS => ?_)
                have hT : Below _ _ w9 := hS
                have x0 : w9.cell? ⟨w8.heap.size, 0, none⟩ = some (.int .u32 (s.ses)) := (HW14.out.ca hT).cell 0
                have x1 : w9.cell? ⟨w8.heap.size, 1, none⟩ = some (.int .u64 (s.base)) := (HW14.out.ca hT).cell 1
                have x2 : w9.cell? ⟨w8.heap.size, 2, none⟩ = some (.slice A2 n2 c2) := (HW14.out.ca hT).cell 2
                have x3 : w9.cell? ⟨w8.heap.size, 3, none⟩ = some (.int .u64 (s.sent)) := (HW14.out.ca hT).cell 3
                have x4 : w9.cell? ⟨w8.heap.size, 4, none⟩ = some (.int .u64 (s.lim)) := (HW14.out.ca hT).cell 4
                have x5 : w9.cell? ⟨w8.heap.size, 5, none⟩ = some (.int .i64 (s.timer)) := (HW14.out.ca hT).cell 5
                have x6 : w9.cell? ⟨w8.heap.size, 6, none⟩ = some (.bool (s.ended)) := (HW14.out.ca hT).cell 6
                clear hT hS
                go_simp
                try rfl
              try simp only [Act.put, sA, sZ, sS]
              refine Ps.st (i := 2) (d := some 81) (u := (.bool (true))) rfl rfl ?ywg23_26 ?rwg23_26
              case ywg23_26 =>
                refine StepS.call ?fwg23_26 ?awg23_26 [] (by kernel_rfl) (by rfl) (fun w9 => ?hwg23_26) (fun L9 m9 w9 hSh hAt hDn hS => ?cwg23_26)
                case hwg23_26 => go_simp; refine ⟨?_, ?_⟩ <;> rfl
                case cwg23_26 =>
                  have hT : Below _ _ w9 := hS
                  refine (rsameS_any _ _ s s A A2 n c n2 c2 w9 (Lay.rd_below HRS14.out hT) (Lay.rd_below HRW14.out hT) (by omega)).mono ?_
                  rintro e w8 ⟨rfl, q8⟩
                  exact ⟨by rw [eqSC_refl], bl_ca hT q8⟩
              try simp only [Act.put, sA, sZ, sS]
              refine Ps.st (i := 3) (d := some 82) (u := (.bool (false))) rfl rfl (by exact StepS.pure nP rfl fun _ => rfl) ?_
              try simp only [Act.put, sA, sZ, sS]
              refine Ps.done (by kernel_rfl) (fun wg23 hS => ?_) _
              have HT15 := Lib.hid (show Below wr.heap.size wr wg23 from hS)
              clear hS
              obtain ⟨w15, rfl⟩ : ∃ x, x = wg23 := ⟨_, rfl⟩
              have HS15 := Lib.hid (HS14.out.ca HT15.out)
              have HV15 := Lib.hid (HV14.out.ca HT15.out)
              have HRS15 := Lib.hid (Lay.rd_below HRS14.out HT15.out)
              have HRV15 := Lib.hid (Lay.rd_below HRV14.out HT15.out)
              have HB15 := Lib.hid (bl_ca HB14.out HT15.out)
              have hs15 := HT15.out.size
              clear HS14 HW14 HV14 HRS14 HRW14 HRV14 HB14 HT15
              by_cases h0 : er = 0
              · subst h0
                have yb0 := HV15.out.cell 0
                have yb1 := HV15.out.cell 1
                have yb2 := HV15.out.cell 2
                have yb3 := HV15.out.cell 3
                have yb4 := HV15.out.cell 4
                have yb5 := HV15.out.cell 5
                have yb6 := HV15.out.cell 6
                have HC := Lib.hid (senderC_any _ ns A6 n6 c6 w15 HRV15.out HCV.out.2.1.1 HCV.out.2.1.2)
                go_wp2_with fail
                clear yb0 yb1 yb2 yb3 yb4 yb5 yb6
                refine HC.out.mono ?_
                clear HC
                rintro e w16 ⟨A9, n9, c9, rfl, hr9, hn9, hc9, q9⟩
                have HS16 := Lib.hid (HS15.out.ca q9)
                have HR9 := Lib.hid hr9
                have HC9 := Lib.hid (And.intro hn9 hc9)
                have HB16 := Lib.hid (bl_ca HB15.out q9)
                have hs16 := q9.size
                have hl9 := HS15.out.lt
                clear HS15 HV15 HRS15 HRV15 HB15 hr9 q9 hn9 hc9
                go_wp2_with (first | (refine wpList_store_blk rfl 29 (.tmp 5) (.tmp 86) rfl g5 29 _ ((senC ns).cells A9 n9 c9) rfl rfl HS16.out rfl senderI (by simp [SC.cells, Value.oneCell']) ?_; intro w17 h17 g17; have HS17 := Lib.hid h17; have HG17 := Lib.hid g17; clear h17 g17))
                go_roundg (gi - 1)
                · exact ⟨i + 1, senC ns, A9, n9, c9, by omega, by omega, by go_num, HS17.out, Lay.rd_weak (fun b hb _ => hb.2) (rd_grown (Lay.rd_weak (G := fun k => w15.heap.size ≤ k ∧ k ≠ g5) (fun b hb _ => ⟨hb.1, by have := hb.1; omega⟩) HR9.out) HG17.out (fun b hb => hb.2)), HC9.out.1, HC9.out.2, senC_idem ns, by show 0 ≤ ns.base; rw [HNS.out]; exact act_base a s hba, bl_gr HB16.out HG17.out hwg⟩
                · omega
              · have he1 : (er == 0) = false := by simpa using h0
                go_wp2_with fail
                go_roundg (gi - 1)
                · exact ⟨i + 1, s, A, n, c, by omega, by omega, by go_num, HS15.out, Lay.rd_weak (fun b hb _ => hb.1) HRS15.out, hnc, hcm, HID.out, hba, HB15.out⟩
                · omega
    · obtain rfl : i = m := by omega
      have hi1 : (i : Int) ≤ (i : Int) := by omega
      go_wp2
      go_ret
      exact ⟨rfl, HBW.out⟩
theorem sends_lawF (x : SC) (A0 : Option Addr) (n0 c0 : Nat) (L : Option Addr) (m mc : Nat) (acts : List AC) (w : World) (hx : LB3.rd w AllB A0 n0 x.q) (hn0 : n0 ≤ c0) (hc0 : c0 ≤ 9223372036854775807) (hb0 : SC.rng x) (hl : LA10.rd w AllB L m acts) (hm : m ≤ 9223372036854775807) (_h : ∀ a ∈ acts, True) :
    Calls Try.prog 4 #[.agg (x.cells A0 n0 c0), .slice L m mc] w fun e w' => e = .returned (.bool true) ∧ Below w.heap.size w w' := sends_law x A0 n0 c0 L m mc acts w hx hn0 hc0 hb0.1 hl hm
end Go.Proofs.Ytojghgbaiiajfaa
