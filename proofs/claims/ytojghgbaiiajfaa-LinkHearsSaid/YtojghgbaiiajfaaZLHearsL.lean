/- What comes of a receiver, and what it says (LinkHears). Conditions: none. -/
import Derived.Test.YtojghgbaiiajfaaPkH27
namespace Go.Proofs.Ytojghgbaiiajfaa
open Go.RowKit
/-- what both ways have brought: the layer's answer and the document's -/
structure CutH (w17 : World) (g5 gn gw : Nat) (e1 e2 : Value) (tt : RC) (uu : BC) (nn : Int) (A3 : Option Addr) (n3 c3 : Nat) (B3 : Option Addr) (m3 d3 : Nat) (X1 : Option Addr) (x1 y1 : Nat) (A4 : Option Addr) (n4 c4 : Nat) (B4 : Option Addr) (m4 d4 : Nat) (X2 : Option Addr) (x2 y2 : Nat) (N0 N1 : Nat) (wx : World) : Prop where
 h1 : e1 = .int .i64 nn
 h2 : e2 = .int .i64 nn
 bn : Blk wx gn 36 (tt.cells A3 n3 c3 B3 m3 d3)
 bb : Blk wx (gn + 1) 45 #[.slice X1 x1 y1, .bool uu.fin, .int .u64 uu.cnt]
 bw : Blk wx gw 36 (tt.cells A4 n4 c4 B4 m4 d4)
 bt : Blk wx (gw + 1) 45 #[.slice X2 x2 y2, .bool uu.fin, .int .u64 uu.cnt]
 ra3 : LH4.rd wx AllB A3 n3 tt.ahead
 rb3 : LB3.rd wx AllB B3 m3 tt.buf
 c3' : n3 ≤ 9223372036854775807 ∧ m3 ≤ 9223372036854775807
 rx1 : LR.rd wx AllB X1 x1 uu.rows
 cx1 : x1 ≤ 9223372036854775807
 ra4 : LH4.rd wx (fun b => (b < N0 ∨ N1 ≤ b) ∧ b ≠ gw ∧ b ≠ g5) A4 n4 tt.ahead
 rb4 : LB3.rd wx (fun b => (b < N0 ∨ N1 ≤ b) ∧ b ≠ gw ∧ b ≠ g5) B4 m4 tt.buf
 c4' : (n4 ≤ c4 ∧ c4 ≤ 9223372036854775807) ∧ (m4 ≤ d4 ∧ d4 ≤ 9223372036854775807)
 rx2 : LR.rd wx AllB X2 x2 uu.rows
 ma : Mine wx N0 A3 (n3 * 4)
 mb : Mine wx N0 B3 (m3 * 3)
 la : ∀ ad, A3 = some ad → ad.block < N1
 lb : ∀ ad, B3 = some ad → ad.block < N1
 l0 : w17.heap.size ≤ N0
 l1 : N0 ≤ N1 ∧ N1 ≤ wx.heap.size
 ch : Chg (fun k => k = gn ∨ k = gn + 1 ∨ k = gw ∨ k = gw + 1) w17 wx
theorem SeqN.lt3h {k1 k3 k5 k8 : Nat} {B : Nat → (Nat → Value) → World → Prop} {L : Array Bool} {m : Nat → Value} {w : World} {T : World → Prop} (h8 : Dn L k8 = false) (t : ∀ z m w, z < 4 → B z m w → T w) (hS : SeqN [k1, k3, k5, k8] B L m w) : T w := SeqN.lt (ks := [k1, k3, k5, k8]) (k := k8) (by simp) h8 t hS
theorem Mine.lt {w : World} {B k : Nat} {A : Option Addr} (h : Mine w B A k) : ∀ ad, A = some ad → ad.block < w.heap.size := fun ad e => by
 obtain ⟨g, o, e1, _, h2, _⟩ := h ad e
 rw [e1]
 exact h2
theorem Mine.ca {w w' : World} {B k : Nat} {A : Option Addr} (h : Mine w B A k) (q : Below w.heap.size w w') : Mine w' B A k := fun ad e => by
 obtain ⟨g', o, e1, h1, h2, h3⟩ := h ad e
 exact ⟨g', o, e1, h1, Nat.lt_of_lt_of_le h2 q.size, there_heap h3 (q.block g' h2)⟩
theorem Mine.set {w : World} {B k : Nat} {A : Option Addr} (h : Mine w B A k) (b o : Nat) (v : Value) : Mine (w.setCell ⟨b, o, none⟩ v) B A k := fun ad e => by
 obtain ⟨g', o', e1, h1, h2, h3⟩ := h ad e
 exact ⟨g', o', e1, h1, Nat.lt_of_lt_of_le h2 (only_setCell (World.grownBy.refl w (some b)) (p := ⟨b, o, none⟩) (.inl rfl) v).size, World.there_setCells h3 b o [v]⟩
theorem Chg.set {X : Nat → Prop} {w w1 : World} (h : Chg X w w1) (b o : Nat) (v : Value) (hb : X b) : Chg X w (w1.setCell ⟨b, o, none⟩ v) := h.grown (only_setCell (World.grownBy.refl w1 (some b)) (p := ⟨b, o, none⟩) (.inl rfl) v) (fun k e => .inl (by injection e with e; exact e ▸ hb))
theorem eqRC_same (r : RC) : eqRC r r = true := (eqRC_iff r r).2 rfl
set_option maxRecDepth 100000 in
set_option maxHeartbeats 64000000 in
theorem hears_law (x : RC) (A0 : Option Addr) (n0 c0 : Nat) (B0 : Option Addr) (m0 d0 : Nat) (L : Option Addr) (m mc : Nat) (hs : List HD) (w : World) (hx : LH4.rd w AllB A0 n0 x.ahead) (hn0 : n0 ≤ c0) (hc0 : c0 ≤ 9223372036854775807) (hx2 : LB3.rd w AllB B0 m0 x.buf) (hm0 : m0 ≤ d0) (hd0 : d0 ≤ 9223372036854775807) (hl : LHD.rd w AllB L m hs) (hm : m ≤ 9223372036854775807) :
 Calls Try.prog 7 #[.agg (x.cells A0 n0 c0 B0 m0 d0), .slice L m mc] w fun e w' => e = .returned (.bool true) ∧ Below w.heap.size w w' := by
 have q1 := bl_al (Below.refl w.heap.size w) (.cells (x.cells A0 n0 c0 B0 m0 d0) 36)
 have HX1 := Lib.hid (Blk.new w 36 (x.cells A0 n0 c0 B0 m0 d0))
 have HRA := Lib.hid (Lay.rd_below hx q1)
 have HRB := Lib.hid (Lay.rd_below hx2 q1)
 have HLA := Lib.hid hl
 have HQ1 := Lib.hid q1
 have HIDEM := Lib.hid recC_idem
 have hs1 : (w.alloc (.cells (x.cells A0 n0 c0 B0 m0 d0) 36)).heap.size = w.heap.size + 1 := by simp only [World.size_alloc]
 clear hx hx2 hl q1
 go_enter Try.func7, Try.ntmps7
 go_wp2_with fail
 generalize w.alloc (.cells (x.cells A0 n0 c0 B0 m0 d0) 36) = w1 at *
 refine (wakes_any _).mono ?_
 rintro e w2 ⟨rfl, q2⟩
 have hs2 := q2.size
 have HX2 := Lib.hid (HX1.out.ca q2)
 have HRA2 := Lib.hid (Lay.rd_below HRA.out q2)
 have HRB2 := Lib.hid (Lay.rd_below HRB.out q2)
 have HB2 := Lib.hid (bl_ca HQ1.out q2)
 clear q2 HX1 HRA HRB HQ1
 have HC := Lib.hid (recvC_any (fun _ => True) (fun _ => True) x A0 n0 c0 B0 m0 d0 w2 HRA2.out HRB2.out hn0 hc0 hm0 hd0)
 have y0 : w2.cell? ⟨w.heap.size, 0, none⟩ = some (.int .u32 (x.ses)) := HX2.out.cell 0
 have y1 : w2.cell? ⟨w.heap.size, 1, none⟩ = some (.int .u64 (x.next)) := HX2.out.cell 1
 have y2 : w2.cell? ⟨w.heap.size, 2, none⟩ = some (.slice A0 n0 c0) := HX2.out.cell 2
 have y3 : w2.cell? ⟨w.heap.size, 3, none⟩ = some (.slice B0 m0 d0) := HX2.out.cell 3
 have y4 : w2.cell? ⟨w.heap.size, 4, none⟩ = some (.int .i64 (x.room)) := HX2.out.cell 4
 have y5 : w2.cell? ⟨w.heap.size, 5, none⟩ = some (.bool (x.over)) := HX2.out.cell 5
 go_wp2_with fail
 clear y0 y1 y2 y3 y4 y5
 refine HC.out.mono ?_
 clear HC HRA2 HRB2 HX2
 rintro e w3 ⟨A1, n1, c1, B1, m1, d1, rfl, hr3, hr4, hn1, hc1, hm1, hd1, q3⟩
 have hs3 := q3.size
 have HB3 := Lib.hid (bl_ca HB2.out q3)
 have HR3 := Lib.hid (And.intro hr3 hr4)
 have HN3 := Lib.hid (Blk.new w3 36 #[.int .u32 0, .int .u64 0, .slice none 0 0, .slice none 0 0, .int .i64 0, .bool false])
 have HCP := Lib.hid (And.intro (And.intro hn1 hc1) (And.intro hm1 hd1))
 clear q3 hr3 hr4 HB2 hn1 hc1 hm1 hd1
 go_wp2_with (first | (refine wpList_store_blk rfl 36 (.tmp 5) (.tmp 22) rfl w3.heap.size 36 #[.int .u32 0, .int .u64 0, .slice none 0 0, .slice none 0 0, .int .i64 0, .bool false] ((recC x).cells A1 n1 c1 B1 m1 d1) rfl rfl HN3.out rfl receiverI (by simp [RC.cells, Value.oneCell']) ?_; intro w4 h4 g4; have HF4 := Lib.hid h4; have HG4 := Lib.hid g4; clear h4 g4))
 have hs4 := HG4.out.size
 simp only [World.size_alloc] at hs4
 have HB4 := Lib.hid (bl_gr (bl_al HB3.out (.cells #[.int .u32 0, .int .u64 0, .slice none 0 0, .slice none 0 0, .int .i64 0, .bool false] 36)) HG4.out (by omega))
 have HAL := Lib.hid (bl_al (Below.refl w3.heap.size w3) (.cells #[.int .u32 0, .int .u64 0, .slice none 0 0, .slice none 0 0, .int .i64 0, .bool false] 36))
 have HRA4 := Lib.hid (Lay.rd_weak (G := fun k => k ≠ w3.heap.size) (fun b hb _ => by have := hb.2; omega) (rd_grownH (Lay.rd_below (Lay.rd_weak (G := fun k => True ∧ k < w3.heap.size) (fun _ _ h => ⟨trivial, h⟩) HR3.out.1) HAL.out) HG4.out (fun b hb => by have := hb.2; omega)))
 have HRB4 := Lib.hid (Lay.rd_weak (G := fun k => k ≠ w3.heap.size) (fun b hb _ => by have := hb.2; omega) (rd_grownH (Lay.rd_below (Lay.rd_weak (G := fun k => True ∧ k < w3.heap.size) (fun _ _ h => ⟨trivial, h⟩) HR3.out.2) HAL.out) HG4.out (fun b hb => by have := hb.2; omega)))
 obtain ⟨g5, hg5⟩ : ∃ g5, g5 = w3.heap.size := ⟨_, rfl⟩
 rw [← hg5] at HF4 HRA4 HRB4 hs4 ⊢
 have hwg : w.heap.size ≤ g5 := by omega
 obtain ⟨r0, hr0⟩ : ∃ r0, r0 = recC x := ⟨_, rfl⟩
 rw [← hr0] at HF4
 replace HRA4 := Lib.hid (show LH4.rd w4 (fun k => k ≠ g5) A1 n1 r0.ahead from by rw [hr0]; exact HRA4.out)
 replace HRB4 := Lib.hid (show LB3.rd w4 (fun k => k ≠ g5) B1 m1 r0.buf from by rw [hr0]; exact HRB4.out)
 have HI4 := Lib.hid (show recC r0 = r0 from by rw [hr0]; exact HIDEM.out x)
 clear HB3 HR3 HN3 HG4 HAL hr0 hg5 hs3 hs2 hs1
 go_loopg [25] m (fun g a wr => ∃ (i : Nat) (r : RC) (A : Option Addr) (n c : Nat) (B : Option Addr) (k d : Nat), i + g = m ∧ i ≤ 40 ∧ a = .int .i64 i ∧ Blk wr g5 36 (r.cells A n c B k d) ∧ LH4.rd wr (fun b => b ≠ g5) A n r.ahead ∧ LB3.rd wr (fun b => b ≠ g5) B k r.buf ∧ n ≤ c ∧ c ≤ 9223372036854775807 ∧ k ≤ d ∧ d ≤ 9223372036854775807 ∧ recC r = r ∧ Below w.heap.size w wr)
 case atStart => exact ⟨0, r0, A1, n1, c1, B1, m1, d1, by omega, by omega, rfl, HF4.out, HRA4.out, HRB4.out, HCP.out.1.1, HCP.out.1.2, HCP.out.2.1, HCP.out.2.2, HI4.out, HB4.out⟩
 case round =>
  obtain ⟨i, r, A, n, c, B, k, d, hig, hi40, rfl, hbl, hra, hrb, hnc, hcm, hkd, hdm, hid, hbw⟩ := hrel
  have HBW := Lib.hid hbw
  have HBL := Lib.hid hbl
  have HRA := Lib.hid (Lay.rd_weak (G := fun b => b ≠ g5 ∧ b < wr.heap.size) (fun b hb hl => ⟨hb, hl⟩) hra)
  have HRB := Lib.hid (Lay.rd_weak (G := fun b => b ≠ g5 ∧ b < wr.heap.size) (fun b hb hl => ⟨hb, hl⟩) hrb)
  have HID := Lib.hid hid
  have hlt5 := hbl.lt
  clear HF4 HRA4 HRB4 HCP HI4 HB4 hbl hra hrb hid
  by_cases hlt : i < m
  · have hi1 : (i : Int) < (m : Int) := by omega
    obtain ⟨ad, h, R, rn, rc, rfl, hax, hab, sh⟩ := LHD_at (Lay.rd_below HLA.out hbw) hlt
    have e0 := sh.c0
    have e1 := sh.c1
    have e2 := sh.c2
    have e3 := sh.c3
    have e4 := sh.c4
    have e5 := sh.c5
    have e6 := sh.c6
    have e7 := sh.c7
    have e8 := sh.c8
    have HSH := Lib.hid sh
    have HN7 := Lib.hid (Blk.new wr 71 #[.bool false, .bool false, .int .i64 0, .int .u32 0, .int .u64 0, .int .u64 0, .slice none 0 0, .bool false, .int .u64 0])
    clear hax sh hbw
    by_cases hie : i = 40
    · have hi2 : ((i : Int) == 40) = true := by simp; omega
      clear hie
      go_wp2_with (first | (refine wpList_store_blk rfl 71 (.tmp 7) (.tmp 29) rfl wr.heap.size 71 #[.bool false, .bool false, .int .i64 0, .int .u32 0, .int .u64 0, .int .u64 0, .slice none 0 0, .bool false, .int .u64 0] (h.cells R rn rc) rfl rfl HN7.out rfl (by rfl) (by simp [HD.cells, Value.oneCell']) ?_; intro w7 h7 g7; have HF7 := Lib.hid h7; have HG7 := Lib.hid g7; clear h7 g7))
      go_ret
      exact ⟨rfl, bl_gr (bl_al HBW.out (.cells #[.bool false, .bool false, .int .i64 0, .int .u32 0, .int .u64 0, .int .u64 0, .slice none 0 0, .bool false, .int .u64 0] 71)) HG7.out (by have := HBW.out.size; omega)⟩
    · have hi2 : ((i : Int) == 40) = false := by simp; omega
      have hi3 : i < 40 := by omega
      clear hie hi40
      go_upto_region 8 with (first | (refine wpList_store_blk rfl 71 (.tmp 7) (.tmp 29) rfl wr.heap.size 71 #[.bool false, .bool false, .int .i64 0, .int .u32 0, .int .u64 0, .int .u64 0, .slice none 0 0, .bool false, .int .u64 0] (h.cells R rn rc) rfl rfl HN7.out rfl (by rfl) (by simp [HD.cells, Value.oneCell']) ?_; intro w7 h7 g7; have HF7 := Lib.hid h7; have HG7 := Lib.hid g7; clear h7 g7))
      have HBR := Lib.hid (bl_gr (bl_al (Below.refl wr.heap.size wr) (.cells #[.bool false, .bool false, .int .i64 0, .int .u32 0, .int .u64 0, .int .u64 0, .slice none 0 0, .bool false, .int .u64 0] 71)) HG7.out (Nat.le_refl _))
      have hs7 := HG7.out.size
      simp only [World.size_alloc] at hs7
      have HBL7 := Lib.hid (HBL.out.ca HBR.out)
      have HRA7 := Lib.hid (Lay.rd_below HRA.out HBR.out)
      have HRB7 := Lib.hid (Lay.rd_below HRB.out HBR.out)
      have HB7 := Lib.hid (bl_ca HBW.out HBR.out)
      have HHR := Lib.hid (Lay.rd_weak (G := fun k => k < wr.heap.size) (fun _ _ h => h) HSH.out.rd)
      have HHR7 := Lib.hid (Lay.rd_below HHR.out HBR.out)
      have hrcp := And.intro HSH.out.nc HSH.out.cm
      have HC := Lib.hid (recvC_any _ _ r A n c B k d w7 HRA7.out HRB7.out hnc hcm hkd hdm)
      rw [HID.out] at HC
      have y0 : w7.cell? ⟨g5, 0, none⟩ = some (.int .u32 (r.ses)) := HBL7.out.cell 0
      have y1 : w7.cell? ⟨g5, 1, none⟩ = some (.int .u64 (r.next)) := HBL7.out.cell 1
      have y2 : w7.cell? ⟨g5, 2, none⟩ = some (.slice A n c) := HBL7.out.cell 2
      have y3 : w7.cell? ⟨g5, 3, none⟩ = some (.slice B k d) := HBL7.out.cell 3
      have y4 : w7.cell? ⟨g5, 4, none⟩ = some (.int .i64 (r.room)) := HBL7.out.cell 4
      have y5 : w7.cell? ⟨g5, 5, none⟩ = some (.bool (r.over)) := HBL7.out.cell 5
      clear HSH HG7 HBR HBL HRA HRB HBW HN7 HHR e0 e1 e2 e3 e4 e5 e6 e7 e8
      go_wp2_with fail
      clear y0 y1 y2 y3 y4 y5
      refine HC.out.mono ?_
      clear HC
      rintro e w8 ⟨A2, n2, c2, B2, k2, d2, rfl, hr8, hrb8, hn2, hc2, hk2, hd2, q8⟩
      have hs8 := q8.size
      have HN8 := Lib.hid (Blk.new w8 36 #[.int .u32 0, .int .u64 0, .slice none 0 0, .slice none 0 0, .int .i64 0, .bool false])
      have HB78 := Lib.hid (bl_al q8 (.cells #[.int .u32 0, .int .u64 0, .slice none 0 0, .slice none 0 0, .int .i64 0, .bool false] 36))
      have HWA8 := Lib.hid (Lay.rd_below (Lay.rd_weak (G := fun b => b < w8.heap.size ∧ b ≠ g5) (fun b hb hl => ⟨hl, by simp only [FX] at hb; omega⟩) hr8) (bl_al (Below.refl w8.heap.size w8) (.cells #[.int .u32 0, .int .u64 0, .slice none 0 0, .slice none 0 0, .int .i64 0, .bool false] 36)))
      have HWB8 := Lib.hid (Lay.rd_below (Lay.rd_weak (G := fun b => b < w8.heap.size ∧ b ≠ g5) (fun b hb hl => ⟨hl, by simp only [FX] at hb; omega⟩) hrb8) (bl_al (Below.refl w8.heap.size w8) (.cells #[.int .u32 0, .int .u64 0, .slice none 0 0, .slice none 0 0, .int .i64 0, .bool false] 36)))
      have HCW := Lib.hid (And.intro (And.intro hn2 hc2) (And.intro hk2 hd2))
      clear hr8 hrb8 q8 hn2 hc2 hk2 hd2
      go_upto_region 9 with (first | (refine wpList_store_blk rfl 36 (.tmp 8) (.tmp 33) rfl w8.heap.size 36 #[.int .u32 0, .int .u64 0, .slice none 0 0, .slice none 0 0, .int .i64 0, .bool false] (r.cells A2 n2 c2 B2 k2 d2) rfl rfl HN8.out rfl receiverI (by simp [RC.cells, Value.oneCell']) ?_; intro w9x h9 g9; have HF9 := Lib.hid h9; have HG9 := Lib.hid g9; clear h9 g9))
      have hs9 := HG9.out.size
      simp only [World.size_alloc] at hs9
      have HB79 := Lib.hid (bl_gr HB78.out HG9.out hs8)
      have HH9 := Lib.hid (HF7.out.ca HB79.out)
      have HS9 := Lib.hid (HBL7.out.ca HB79.out)
      have HRA9 := Lib.hid (Lay.rd_below HRA7.out HB79.out)
      have HRB9 := Lib.hid (Lay.rd_below HRB7.out HB79.out)
      have HWA9 := Lib.hid (rd_grownH HWA8.out HG9.out (fun b hb => by omega))
      have HWB9 := Lib.hid (rd_grownH HWB8.out HG9.out (fun b hb => by omega))
      have HHR9 := Lib.hid (Lay.rd_below HHR7.out HB79.out)
      have HB9 := Lib.hid (bl_ca HB7.out HB79.out)
      obtain ⟨rt, hrt⟩ : ∃ rt, rt = recB r := ⟨_, rfl⟩
      have HRT := Lib.hid hrt
      have HC := Lib.hid (rrecv_any _ _ r A2 n2 c2 B2 k2 d2 w9x HWA9.out HWB9.out (by have := HCW.out.1; omega) (by have := HCW.out.2; omega))
      rw [← hrt] at HC
      clear hrt HBL7 HRA7 HRB7 HB7 HHR7 HN8 HB78 HWA8 HWB8 HG9 HB79 HF7
      have y0 : w9x.cell? ⟨w8.heap.size, 0, none⟩ = some (.int .u32 (r.ses)) := HF9.out.cell 0
      have y1 : w9x.cell? ⟨w8.heap.size, 1, none⟩ = some (.int .u64 (r.next)) := HF9.out.cell 1
      have y2 : w9x.cell? ⟨w8.heap.size, 2, none⟩ = some (.slice A2 n2 c2) := HF9.out.cell 2
      have y3 : w9x.cell? ⟨w8.heap.size, 3, none⟩ = some (.slice B2 k2 d2) := HF9.out.cell 3
      have y4 : w9x.cell? ⟨w8.heap.size, 4, none⟩ = some (.int .i64 (r.room)) := HF9.out.cell 4
      have y5 : w9x.cell? ⟨w8.heap.size, 5, none⟩ = some (.bool (r.over)) := HF9.out.cell 5
      go_wp2_with fail
      clear y0 y1 y2 y3 y4 y5
      refine HC.out.mono ?_
      clear HC
      rintro e w10 ⟨rfl, q10⟩
      have HF10 := Lib.hid (HF9.out.ca q10)
      have HH10 := Lib.hid (HH9.out.ca q10)
      have HS10 := Lib.hid (HS9.out.ca q10)
      have HRA10 := Lib.hid (Lay.rd_below HRA9.out q10)
      have HRB10 := Lib.hid (Lay.rd_below HRB9.out q10)
      have HWA10 := Lib.hid (Lay.rd_below HWA9.out q10)
      have HWB10 := Lib.hid (Lay.rd_below HWB9.out q10)
      have HHR10 := Lib.hid (Lay.rd_below HHR9.out q10)
      have HB10 := Lib.hid (bl_ca HB9.out q10)
      have hs10 := q10.size
      have HC := Lib.hid (ack_any _ _ r A n c B k d w10 HRA10.out HRB10.out (by omega) (by omega))
      clear q10 HF9 HH9 HS9 HRA9 HRB9 HWA9 HWB9 HHR9 HB9
      have y0 : w10.cell? ⟨g5, 0, none⟩ = some (.int .u32 (r.ses)) := HS10.out.cell 0
      have y1 : w10.cell? ⟨g5, 1, none⟩ = some (.int .u64 (r.next)) := HS10.out.cell 1
      have y2 : w10.cell? ⟨g5, 2, none⟩ = some (.slice A n c) := HS10.out.cell 2
      have y3 : w10.cell? ⟨g5, 3, none⟩ = some (.slice B k d) := HS10.out.cell 3
      have y4 : w10.cell? ⟨g5, 4, none⟩ = some (.int .i64 (r.room)) := HS10.out.cell 4
      have y5 : w10.cell? ⟨g5, 5, none⟩ = some (.bool (r.over)) := HS10.out.cell 5
      go_wp2_with fail
      clear y0 y1 y2 y3 y4 y5
      refine HC.out.mono ?_
      clear HC
      rintro e w11 ⟨rfl, q11⟩
      obtain ⟨pa, hpa⟩ : ∃ pa, pa = ackR r := ⟨_, rfl⟩
      obtain ⟨EA, hEA⟩ : ∃ EA : Int, EA = (if recB r then 0 else 320) := ⟨_, rfl⟩
      rw [← hpa, ← hEA]
      have HPA := Lib.hid hpa
      have HEA := Lib.hid hEA
      have HN11 := Lib.hid (Blk.new w11 47 #[.int .i64 0, .int .u32 0, .int .u64 0, .int .u64 0, .slice none 0 0, .bool false, .int .u64 0])
      have hs11 := q11.size
      have HQ11 := Lib.hid q11
      clear q11 hpa hEA
      go_upto_region 11 with (first | (refine wpList_store_blk rfl 47 (.tmp 10) (.tmp 39) rfl w11.heap.size 47 #[.int .i64 0, .int .u32 0, .int .u64 0, .int .u64 0, .slice none 0 0, .bool false, .int .u64 0] (pa.cells none 0 0) rfl rfl HN11.out rfl packetI3 (by simp [PK.cells, Value.oneCell']) ?_; intro w12 h12 g12; have HP12 := Lib.hid h12; have HG12 := Lib.hid g12; clear h12 g12))
      have HQ12 := Lib.hid (bl_ca HQ11.out (bl_gr (bl_al (Below.refl w11.heap.size w11) (.cells #[.int .i64 0, .int .u32 0, .int .u64 0, .int .u64 0, .slice none 0 0, .bool false, .int .u64 0] 47)) HG12.out (Nat.le_refl _)))
      have hs12 := HQ12.out.size
      have HF12 := Lib.hid (HF10.out.ca HQ12.out)
      have HH12 := Lib.hid (HH10.out.ca HQ12.out)
      have HS12 := Lib.hid (HS10.out.ca HQ12.out)
      have HRA12 := Lib.hid (Lay.rd_below HRA10.out HQ12.out)
      have HRB12 := Lib.hid (Lay.rd_below HRB10.out HQ12.out)
      have HWA12 := Lib.hid (Lay.rd_below HWA10.out HQ12.out)
      have HWB12 := Lib.hid (Lay.rd_below HWB10.out HQ12.out)
      have HHR12 := Lib.hid (Lay.rd_below HHR10.out HQ12.out)
      have HB12 := Lib.hid (bl_ca HB10.out HQ12.out)
      have HWL := Lib.hid (Lay.rd_len HWB12.out)
      have HPR := Lib.hid (show pa.b.rows = [] from by rw [HPA.out]; unfold ackR; split <;> rfl)
      have HK1 := Lib.hid (show recB r = true → EA = 0 ∧ eqPK pa (ackP r) = true from fun h => ⟨by rw [HEA.out, if_pos h], by rw [HPA.out]; unfold ackR; rw [if_pos h]; exact (eqPK_iff _ _).2 rfl⟩)
      have HK2 := Lib.hid (show recB r = false → EA = 320 ∧ eqPK pa zeroP = true from fun h => ⟨by rw [HEA.out, h]; rfl, by rw [HPA.out]; unfold ackR; rw [h]; exact (eqPK_iff _ _).2 rfl⟩)
      clear HF10 HH10 HS10 HRA10 HRB10 HWA10 HWB10 HHR10 HB10 HQ11 HQ12 HG12 HN11 HEA HPA
      refine wp_region_ps (S := fun _ _ w' => Below w12.heap.size w12 w') (by kernel_rfl) ?spswg1 ?ppswg1
      case spswg1 =>
       exact (Below.refl w12.heap.size w12).drew
      refine Pz 0 (some 41) (.bool (rt)) rfl rfl (by exact StepS.pure nP rfl fun _ => rfl) ?_
      try simp only [Act.put, sA, sZ, sS]
      obtain ⟨bQ, hb9⟩ : ∃ zb : Bool, zb = (rt) := ⟨_, rfl⟩
      have HEbQ := Lib.hid hb9
      clear hb9
      refine Pz 1 (some 42) (.bool (bQ)) rfl rfl ?ywg1_3 ?rwg1_3
      case ywg1_3 =>
       refine StepS.pure nP (by rfl) (fun w9 => ?_)
       have e9 : (rt) = bQ := by rw [HEbQ.out]
       rw [← e9]
       clear e9
       first | rfl | (go_simp; done) | (go_simp; rfl)
      try simp only [Act.put, sA, sZ, sS]
      refine Pz 2 (some 43) (cond bQ (.int .i64 (EA)) (undef)) rfl rfl (by cases bQ; exact StepS.skip nP rfl; exact StepS.pure nP rfl fun _ => rfl) ?_
      try simp only [Act.put, sA, sZ, sS]
      refine Pz 3 (some 44) (cond bQ (.bool (false)) (undef)) rfl rfl ?ywg1_5 ?rwg1_5
      case ywg1_5 =>
       cases bQ
       · exact StepS.skip nP (by rfl)
       · skip
         refine StepS.pure nP (by rfl) (fun w9 => ?_)
         have e9 : (!decide (EA = 0)) = false := by rw [(HK1.out (HRT.out.symm.trans HEbQ.out.symm)).1]; rfl
         refine Eq.trans ?_ (congrArg (fun b => Result.ok (Next.value (Value.bool b)) w9) e9)
         first | rfl | (go_simp; done) | (go_simp; rfl)
      try simp only [Act.put, sA, sZ, sS]
      refine Pz 4 (some 45) (cond bQ (.bool (false)) (undef)) rfl rfl (by cases bQ; exact StepS.skip nP rfl; exact StepS.pure nP rfl fun _ => rfl) ?_
      try simp only [Act.put, sA, sZ, sS]
      refine Pz 5 (some 46) (cond bQ (.agg #[.int .i64 (pa.kind), .int .u32 (pa.ses), .int .u64 (pa.seq), .int .u64 (pa.lim), .slice none 0 0, .bool (pa.b.fin), .int .u64 (pa.b.cnt)]) (undef)) rfl rfl ?ywg1_7 ?rwg1_7
      case ywg1_7 =>
       cases bQ
       · exact StepS.skip nP (by rfl)
       · skip
         refine StepS.read [] (by kernel_rfl) nP (by rfl) (fun L9 m9 w9 hSh hAt hDn hS => ?_)
         have hT : Below _ _ w9 := hS
         have x0 : w9.cell? ⟨w11.heap.size, 0, none⟩ = some (.int .i64 (pa.kind)) := (HP12.out.ca hT).cell 0
         have x1 : w9.cell? ⟨w11.heap.size, 1, none⟩ = some (.int .u32 (pa.ses)) := (HP12.out.ca hT).cell 1
         have x2 : w9.cell? ⟨w11.heap.size, 2, none⟩ = some (.int .u64 (pa.seq)) := (HP12.out.ca hT).cell 2
         have x3 : w9.cell? ⟨w11.heap.size, 3, none⟩ = some (.int .u64 (pa.lim)) := (HP12.out.ca hT).cell 3
         have x4 : w9.cell? ⟨w11.heap.size, 4, none⟩ = some (.slice none 0 0) := (HP12.out.ca hT).cell 4
         have x5 : w9.cell? ⟨w11.heap.size, 5, none⟩ = some (.bool (pa.b.fin)) := (HP12.out.ca hT).cell 5
         have x6 : w9.cell? ⟨w11.heap.size, 6, none⟩ = some (.int .u64 (pa.b.cnt)) := (HP12.out.ca hT).cell 6
         clear hT hS
         go_simp
         try rfl
      try simp only [Act.put, sA, sZ, sS]
      refine Pz 6 (some 47) (cond bQ (.agg #[.int .u32 (r.ses), .int .u64 (r.next), .slice A2 n2 c2, .slice B2 k2 d2, .int .i64 (r.room), .bool (r.over)]) (undef)) rfl rfl ?ywg1_8 ?rwg1_8
      case ywg1_8 =>
       cases bQ
       · exact StepS.skip nP (by rfl)
       · skip
         refine StepS.read [] (by kernel_rfl) nP (by rfl) (fun L9 m9 w9 hSh hAt hDn hS => ?_)
         have hT : Below _ _ w9 := hS
         have x0 : w9.cell? ⟨w8.heap.size, 0, none⟩ = some (.int .u32 (r.ses)) := (HF12.out.ca hT).cell 0
         have x1 : w9.cell? ⟨w8.heap.size, 1, none⟩ = some (.int .u64 (r.next)) := (HF12.out.ca hT).cell 1
         have x2 : w9.cell? ⟨w8.heap.size, 2, none⟩ = some (.slice A2 n2 c2) := (HF12.out.ca hT).cell 2
         have x3 : w9.cell? ⟨w8.heap.size, 3, none⟩ = some (.slice B2 k2 d2) := (HF12.out.ca hT).cell 3
         have x4 : w9.cell? ⟨w8.heap.size, 4, none⟩ = some (.int .i64 (r.room)) := (HF12.out.ca hT).cell 4
         have x5 : w9.cell? ⟨w8.heap.size, 5, none⟩ = some (.bool (r.over)) := (HF12.out.ca hT).cell 5
         clear hT hS
         go_simp
         try rfl
      try simp only [Act.put, sA, sZ, sS]
      refine Pz 7 (some 48) (cond bQ (.agg #[.int .i64 (2), .int .u32 (r.ses), .int .u64 (r.next), .int .u64 (limR r), .slice none 0 0, .bool (false), .int .u64 (0)]) (undef)) rfl rfl ?ywg1_9 ?rwg1_9
      case ywg1_9 =>
       cases bQ
       · exact StepS.skip nP (by rfl)
       · skip
         refine StepS.call ?fwg1_9 ?awg1_9 [] (by kernel_rfl) (by rfl) (fun w9 => ?hwg1_9) (fun L9 m9 w9 hSh hAt hDn hS => ?cwg1_9)
         case hwg1_9 => go_simp; refine ⟨?_, ?_⟩ <;> rfl
         case cwg1_9 =>
          have hT : Below _ _ w9 := hS
          refine (rack_any r A2 n2 c2 B2 k2 d2 w9 HWL.out (HRT.out.symm.trans HEbQ.out.symm)).mono ?_
          rintro e w8 ⟨rfl, q8⟩
          exact ⟨rfl, bl_ca hT q8⟩
      try simp only [Act.put, sA, sZ, sS]
      refine Pz 8 (some 49) (cond bQ (.bool (true)) (undef)) rfl rfl ?ywg1_10 ?rwg1_10
      case ywg1_10 =>
       cases bQ
       · exact StepS.skip nP (by rfl)
       · skip
         refine StepS.call ?fwg1_10 ?awg1_10 [] (by kernel_rfl) (by rfl) (fun w9 => ?hwg1_10) (fun L9 m9 w9 hSh hAt hDn hS => ?cwg1_10)
         case hwg1_10 => go_simp; refine ⟨?_, ?_⟩ <;> rfl
         case cwg1_10 =>
          have hT : Below _ _ w9 := hS
          refine (rsameP_any AllB AllB pa (ackP r) none none 0 0 0 0 w9 (by rw [HPR.out]; exact Lay.rd_nil _) (Lay.rd_nil _) (by omega)).mono ?_
          rintro e w8 ⟨rfl, q8⟩
          exact ⟨congrArg (fun b => Ending.returned (Value.bool b)) (HK1.out (HRT.out.symm.trans HEbQ.out.symm)).2, bl_ca hT q8⟩
      try simp only [Act.put, sA, sZ, sS]
      refine Pz 9 (some 50) (cond bQ (.bool (false)) (undef)) rfl rfl (by cases bQ; exact StepS.skip nP rfl; exact StepS.pure nP rfl fun _ => rfl) ?_
      try simp only [Act.put, sA, sZ, sS]
      refine Pz 10 (some 51) (cond bQ (.bool (false)) (undef)) rfl rfl (by cases bQ; exact StepS.skip nP rfl; exact StepS.pure nP rfl fun _ => rfl) ?_
      try simp only [Act.put, sA, sZ, sS]
      refine Pz 11 (some 52) (.bool (false)) rfl rfl ?ywg1_13 ?rwg1_13
      case ywg1_13 =>
       refine StepS.pure nP (by rfl) (fun w9 => ?_)
       cases bQ <;> rfl
      try simp only [Act.put, sA, sZ, sS]
      refine Pz 12 (some 53) (.bool (false)) rfl rfl (by exact StepS.pure nP rfl fun _ => rfl) ?_
      try simp only [Act.put, sA, sZ, sS]
      refine Pz 13 (some 54) (.bool (rt)) rfl rfl (by exact StepS.pure nP rfl fun _ => rfl) ?_
      try simp only [Act.put, sA, sZ, sS]
      refine Pz 14 (some 55) (.bool (!rt)) rfl rfl (by exact StepS.pure nP rfl fun _ => rfl) ?_
      try simp only [Act.put, sA, sZ, sS]
      obtain ⟨bG, hb9⟩ : ∃ zb : Bool, zb = (!rt) := ⟨_, rfl⟩
      have HEbG := Lib.hid hb9
      clear hb9
      refine Pz 15 (some 56) (.bool (bG)) rfl rfl ?ywg1_17 ?rwg1_17
      case ywg1_17 =>
       refine StepS.pure nP (by rfl) (fun w9 => ?_)
       have e9 : (!rt) = bG := by rw [HEbG.out]
       rw [← e9]
       clear e9
       first | rfl | (go_simp; done) | (go_simp; rfl)
      try simp only [Act.put, sA, sZ, sS]
      refine Pz 16 (some 57) (cond bG (.int .i64 (EA)) (undef)) rfl rfl (by cases bG; exact StepS.skip nP rfl; exact StepS.pure nP rfl fun _ => rfl) ?_
      try simp only [Act.put, sA, sZ, sS]
      refine Pz 17 (some 58) (cond bG (.bool (false)) (undef)) rfl rfl ?ywg1_19 ?rwg1_19
      case ywg1_19 =>
       cases bG
       · exact StepS.skip nP (by rfl)
       · skip
         refine StepS.pure nP (by rfl) (fun w9 => ?_)
         have e9 : (!decide (EA = 320)) = false := by rw [(HK2.out (by rw [← HRT.out]; simpa using HEbG.out.symm)).1]; rfl
         refine Eq.trans ?_ (congrArg (fun b => Result.ok (Next.value (Value.bool b)) w9) e9)
         first | rfl | (go_simp; done) | (go_simp; rfl)
      try simp only [Act.put, sA, sZ, sS]
      refine Pz 18 (some 59) (cond bG (.bool (false)) (undef)) rfl rfl (by cases bG; exact StepS.skip nP rfl; exact StepS.pure nP rfl fun _ => rfl) ?_
      try simp only [Act.put, sA, sZ, sS]
      refine Pz 19 (some 60) (cond bG (.agg #[.int .i64 (pa.kind), .int .u32 (pa.ses), .int .u64 (pa.seq), .int .u64 (pa.lim), .slice none 0 0, .bool (pa.b.fin), .int .u64 (pa.b.cnt)]) (undef)) rfl rfl ?ywg1_21 ?rwg1_21
      case ywg1_21 =>
       cases bG
       · exact StepS.skip nP (by rfl)
       · skip
         refine StepS.read [] (by kernel_rfl) nP (by rfl) (fun L9 m9 w9 hSh hAt hDn hS => ?_)
         have hT : Below _ _ w9 := hS
         have x0 : w9.cell? ⟨w11.heap.size, 0, none⟩ = some (.int .i64 (pa.kind)) := (HP12.out.ca hT).cell 0
         have x1 : w9.cell? ⟨w11.heap.size, 1, none⟩ = some (.int .u32 (pa.ses)) := (HP12.out.ca hT).cell 1
         have x2 : w9.cell? ⟨w11.heap.size, 2, none⟩ = some (.int .u64 (pa.seq)) := (HP12.out.ca hT).cell 2
         have x3 : w9.cell? ⟨w11.heap.size, 3, none⟩ = some (.int .u64 (pa.lim)) := (HP12.out.ca hT).cell 3
         have x4 : w9.cell? ⟨w11.heap.size, 4, none⟩ = some (.slice none 0 0) := (HP12.out.ca hT).cell 4
         have x5 : w9.cell? ⟨w11.heap.size, 5, none⟩ = some (.bool (pa.b.fin)) := (HP12.out.ca hT).cell 5
         have x6 : w9.cell? ⟨w11.heap.size, 6, none⟩ = some (.int .u64 (pa.b.cnt)) := (HP12.out.ca hT).cell 6
         clear hT hS
         go_simp
         try rfl
      try simp only [Act.put, sA, sZ, sS]
      refine Pz 20 (some 61) (cond bG (.agg #[.int .i64 (0), .int .u32 (0), .int .u64 (0), .int .u64 (0), .slice none 0 0, .bool (false), .int .u64 (0)]) (undef)) rfl rfl (by cases bG; exact StepS.skip nP rfl; exact StepS.pure nP rfl fun _ => by first | rfl | (go_simp; done) | (go_simp; rfl)) ?_
      try simp only [Act.put, sA, sZ, sS]
      refine Pz 21 (some 62) (cond bG (.bool (true)) (undef)) rfl rfl ?ywg1_23 ?rwg1_23
      case ywg1_23 =>
       cases bG
       · exact StepS.skip nP (by rfl)
       · skip
         refine StepS.call ?fwg1_23 ?awg1_23 [] (by kernel_rfl) (by rfl) (fun w9 => ?hwg1_23) (fun L9 m9 w9 hSh hAt hDn hS => ?cwg1_23)
         case hwg1_23 => go_simp; refine ⟨?_, ?_⟩ <;> rfl
         case cwg1_23 =>
          have hT : Below _ _ w9 := hS
          refine (rsameP_any AllB AllB pa zeroP none none 0 0 0 0 w9 (by rw [HPR.out]; exact Lay.rd_nil _) (Lay.rd_nil _) (by omega)).mono ?_
          rintro e w8 ⟨rfl, q8⟩
          exact ⟨congrArg (fun b => Ending.returned (Value.bool b)) (HK2.out (by rw [← HRT.out]; simpa using HEbG.out.symm)).2, bl_ca hT q8⟩
      try simp only [Act.put, sA, sZ, sS]
      refine Pz 22 (some 63) (cond bG (.bool (false)) (undef)) rfl rfl (by cases bG; exact StepS.skip nP rfl; exact StepS.pure nP rfl fun _ => rfl) ?_
      try simp only [Act.put, sA, sZ, sS]
      refine Pz 23 (some 64) (cond bG (.bool (false)) (undef)) rfl rfl (by cases bG; exact StepS.skip nP rfl; exact StepS.pure nP rfl fun _ => rfl) ?_
      try simp only [Act.put, sA, sZ, sS]
      refine Pz 24 (some 65) (.bool (false)) rfl rfl ?ywg1_26 ?rwg1_26
      case ywg1_26 =>
       refine StepS.pure nP (by rfl) (fun w9 => ?_)
       cases bG <;> rfl
      try simp only [Act.put, sA, sZ, sS]
      refine Pz 25 (some 66) (.bool (false)) rfl rfl (by exact StepS.pure nP rfl fun _ => rfl) ?_
      try simp only [Act.put, sA, sZ, sS]
      refine Ps.done (by kernel_rfl) (fun wg1 hS => ?_) _
      try generalize (cond bG (.agg #[.int .i64 (pa.kind), .int .u32 (pa.ses), .int .u64 (pa.seq), .int .u64 (pa.lim), .slice none 0 0, .bool (pa.b.fin), .int .u64 (pa.b.cnt)]) (undef) : Value) = zz28
      try generalize (cond bQ (.agg #[.int .i64 (pa.kind), .int .u32 (pa.ses), .int .u64 (pa.seq), .int .u64 (pa.lim), .slice none 0 0, .bool (pa.b.fin), .int .u64 (pa.b.cnt)]) (undef) : Value) = zz29
      try generalize (cond bQ (.agg #[.int .i64 (2), .int .u32 (r.ses), .int .u64 (r.next), .int .u64 (limR r), .slice none 0 0, .bool (false), .int .u64 (0)]) (undef) : Value) = zz30
      try generalize (cond bQ (.agg #[.int .u32 (r.ses), .int .u64 (r.next), .slice A2 n2 c2, .slice B2 k2 d2, .int .i64 (r.room), .bool (r.over)]) (undef) : Value) = zz31
      try generalize (cond bG (.agg #[.int .i64 (0), .int .u32 (0), .int .u64 (0), .int .u64 (0), .slice none 0 0, .bool (false), .int .u64 (0)]) (undef) : Value) = zz32
      try generalize (cond bG (.int .i64 (EA)) (undef) : Value) = zz33
      try generalize (cond bQ (.int .i64 (EA)) (undef) : Value) = zz34
      try generalize (cond bQ (.bool (false)) (undef) : Value) = zz35
      try generalize (cond bG (.bool (false)) (undef) : Value) = zz36
      try generalize (cond bG (.bool (true)) (undef) : Value) = zz37
      try generalize (cond bQ (.bool (true)) (undef) : Value) = zz38
      have HT13 := Lib.hid (show Below w12.heap.size w12 wg1 from hS)
      clear hS
      obtain ⟨w13, rfl⟩ : ∃ x, x = wg1 := ⟨_, rfl⟩
      have HF13 := Lib.hid (HF12.out.ca HT13.out)
      have HH13 := Lib.hid (HH12.out.ca HT13.out)
      have HS13 := Lib.hid (HS12.out.ca HT13.out)
      have HRA13 := Lib.hid (Lay.rd_below HRA12.out HT13.out)
      have HRB13 := Lib.hid (Lay.rd_below HRB12.out HT13.out)
      have HWA13 := Lib.hid (Lay.rd_below HWA12.out HT13.out)
      have HWB13 := Lib.hid (Lay.rd_below HWB12.out HT13.out)
      have HHR13 := Lib.hid (Lay.rd_below HHR12.out HT13.out)
      have HB13 := Lib.hid (bl_ca HB12.out HT13.out)
      have hs13 := HT13.out.size
      clear HF12 HH12 HS12 HRA12 HRB12 HWA12 HWB12 HHR12 HB12 HT13 HP12 HK1 HK2 HPR
      have HNa := Lib.hid (show Blk ((w13.alloc (.cells #[.int .u32 0, .int .u64 0, .slice none 0 0, .slice none 0 0, .int .i64 0, .bool false] 36)).alloc (.cells #[.slice none 0 0, .bool false, .int .u64 0] 45)) w13.heap.size 36 #[.int .u32 0, .int .u64 0, .slice none 0 0, .slice none 0 0, .int .i64 0, .bool false] from (Blk.new w13 36 #[.int .u32 0, .int .u64 0, .slice none 0 0, .slice none 0 0, .int .i64 0, .bool false]).alloc (.cells #[.slice none 0 0, .bool false, .int .u64 0] 45))
      have HNb := Lib.hid (show Blk ((w13.alloc (.cells #[.int .u32 0, .int .u64 0, .slice none 0 0, .slice none 0 0, .int .i64 0, .bool false] 36)).alloc (.cells #[.slice none 0 0, .bool false, .int .u64 0] 45)) (w13.heap.size + 1) 45 #[.slice none 0 0, .bool false, .int .u64 0] from Blk.mk' (by simp only [World.size_alloc]))
      go_upto_region 15 with (first
       | (refine wpList_store_blk rfl 36 (.tmp 12) (.tmp 67) rfl w13.heap.size 36 #[.int .u32 0, .int .u64 0, .slice none 0 0, .slice none 0 0, .int .i64 0, .bool false] #[.int .u32 0, .int .u64 0, .slice none 0 0, .slice none 0 0, .int .i64 0, .bool false] rfl rfl HNa.out rfl receiverI (by simp [Value.oneCell']) ?_; intro w14 h g; have HA1 := Lib.hid h; have HGa := Lib.hid g; have HNb1 := Lib.hid (HNb.out.apart g (by omega)); clear h g)
       | (refine wpList_store_blk rfl 45 (.tmp 13) (.tmp 68) rfl (w13.heap.size + 1) 45 #[.slice none 0 0, .bool false, .int .u64 0] #[.slice none 0 0, .bool false, .int .u64 0] rfl rfl HNb1.out rfl batchI2 (by simp [Value.oneCell']) ?_; intro w15 h g; have HB1 := Lib.hid h; have HGb := Lib.hid g; have HA2 := Lib.hid (HA1.out.apart g (by omega)); have HNc := Lib.hid (show Blk ((w15.alloc (.cells #[.int .u32 0, .int .u64 0, .slice none 0 0, .slice none 0 0, .int .i64 0, .bool false] 36)).alloc (.cells #[.slice none 0 0, .bool false, .int .u64 0] 45)) w15.heap.size 36 #[.int .u32 0, .int .u64 0, .slice none 0 0, .slice none 0 0, .int .i64 0, .bool false] from (Blk.new w15 36 #[.int .u32 0, .int .u64 0, .slice none 0 0, .slice none 0 0, .int .i64 0, .bool false]).alloc (.cells #[.slice none 0 0, .bool false, .int .u64 0] 45)); have HNd := Lib.hid (show Blk ((w15.alloc (.cells #[.int .u32 0, .int .u64 0, .slice none 0 0, .slice none 0 0, .int .i64 0, .bool false] 36)).alloc (.cells #[.slice none 0 0, .bool false, .int .u64 0] 45)) (w15.heap.size + 1) 45 #[.slice none 0 0, .bool false, .int .u64 0] from Blk.mk' (by simp only [World.size_alloc])); clear h g)
       | (refine wpList_store_blk rfl 36 (.tmp 14) (.tmp 69) rfl w15.heap.size 36 #[.int .u32 0, .int .u64 0, .slice none 0 0, .slice none 0 0, .int .i64 0, .bool false] #[.int .u32 0, .int .u64 0, .slice none 0 0, .slice none 0 0, .int .i64 0, .bool false] rfl rfl HNc.out rfl receiverI (by simp [Value.oneCell']) ?_; intro w16 h g; have HC1 := Lib.hid h; have HGc := Lib.hid g; have HNd1 := Lib.hid (HNd.out.apart g (by omega)); clear h g)
       | (refine wpList_store_blk rfl 45 (.tmp 15) (.tmp 70) rfl (w15.heap.size + 1) 45 #[.slice none 0 0, .bool false, .int .u64 0] #[.slice none 0 0, .bool false, .int .u64 0] rfl rfl HNd1.out rfl batchI2 (by simp [Value.oneCell']) ?_; intro w17 h g; have HD1 := Lib.hid h; have HGd := Lib.hid g; have HC2 := Lib.hid (HC1.out.apart g (by omega)); clear h g))
      have hsa := HGa.out.size
      have hsb := HGb.out.size
      have hsc := HGc.out.size
      have hsd := HGd.out.size
      simp only [World.size_alloc] at hsa hsc
      have HQ1315 := Lib.hid (bl_gr (bl_gr (bl_al (bl_al (Below.refl w13.heap.size w13) (.cells #[.int .u32 0, .int .u64 0, .slice none 0 0, .slice none 0 0, .int .i64 0, .bool false] 36)) (.cells #[.slice none 0 0, .bool false, .int .u64 0] 45)) HGa.out (Nat.le_refl _)) HGb.out (by omega))
      have HQ1517 := Lib.hid (bl_gr (bl_gr (bl_al (bl_al (Below.refl w15.heap.size w15) (.cells #[.int .u32 0, .int .u64 0, .slice none 0 0, .slice none 0 0, .int .i64 0, .bool false] 36)) (.cells #[.slice none 0 0, .bool false, .int .u64 0] 45)) HGc.out (Nat.le_refl _)) HGd.out (by omega))
      have HQ17 := Lib.hid (bl_ca HQ1315.out HQ1517.out)
      have HA := Lib.hid (HA2.out.ca HQ1517.out)
      have HBb := Lib.hid (HB1.out.ca HQ1517.out)
      clear HNa HNb HNb1 HNc HNd HNd1 HA1 HA2 HB1 HC1 HGa HGb HGc HGd HQ1315 HQ1517
      obtain ⟨gn, hgn⟩ : ∃ g, g = w13.heap.size := ⟨_, rfl⟩
      obtain ⟨gw, hgw⟩ : ∃ g, g = w15.heap.size := ⟨_, rfl⟩
      rw [← hgn] at HA HBb ⊢
      rw [← hgw] at HC2 HD1 ⊢
      have hgs : w13.heap.size ≤ gn ∧ gn + 2 ≤ gw ∧ gw + 2 ≤ w17.heap.size := by omega
      have hlt8 : w8.heap.size < w13.heap.size := HF13.out.lt
      have hlt7 : wr.heap.size < w13.heap.size := HH13.out.lt
      have HF17 := Lib.hid (HF13.out.ca HQ17.out)
      have HH17 := Lib.hid (HH13.out.ca HQ17.out)
      have HS17 := Lib.hid (HS13.out.ca HQ17.out)
      have HRA17 := Lib.hid (Lay.rd_below HRA13.out HQ17.out)
      have HRB17 := Lib.hid (Lay.rd_below HRB13.out HQ17.out)
      have HWA17 := Lib.hid (Lay.rd_below HWA13.out HQ17.out)
      have HWB17 := Lib.hid (Lay.rd_below HWB13.out HQ17.out)
      have HHR17 := Lib.hid (Lay.rd_below HHR13.out HQ17.out)
      have HB17 := Lib.hid (bl_ca HB13.out HQ17.out)
      clear hgn hgw hsa hsb hsc hsd HF13 HH13 HS13 HRA13 HRB13 HWA13 HWB13 HHR13 HB13 HQ17
      obtain ⟨tb, htb⟩ : ∃ tb, tb = h.take := ⟨_, rfl⟩
      have z0 : w17.cell? ⟨wr.heap.size, 0, none⟩ = some (.bool tb) := by rw [htb]; exact HH17.out.cell 0
      have HTB := Lib.hid htb
      clear htb
      go_upto_if 72 with fail
      clear z0
      have hg9 : g5 ≠ gn ∧ g5 ≠ gn + 1 ∧ g5 ≠ gw ∧ g5 ≠ gw + 1 ∧ w8.heap.size ≠ gn ∧ w8.heap.size ≠ gn + 1 ∧ w8.heap.size ≠ gw ∧ w8.heap.size ≠ gw + 1 := by omega
      go_cut [9, 11, 16, 35, 41, 54, 72] (fun _ e1 e2 _ _ _ _ wx => ∃ tt uu nn A3 n3 c3 B3 m3 d3 X1 x1 y1 A4 n4 c4 B4 m4 d4 X2 x2 y2 N0 N1, CutH w17 g5 gn gw e1 e2 tt uu nn A3 n3 c3 B3 m3 d3 X1 x1 y1 A4 n4 c4 B4 m4 d4 X2 x2 y2 N0 N1 wx)
      case first =>
       cases tb
       · obtain ⟨pk, hpk⟩ : ∃ pk, pk = hePk h r := ⟨_, rfl⟩
         obtain ⟨tt, htt⟩ : ∃ tt, tt = heaT r pk := ⟨_, rfl⟩
         obtain ⟨nn, hnn⟩ : ∃ nn : Int, nn = (if recB r then 0 else 320) := ⟨_, rfl⟩
         have HPK := Lib.hid hpk
         have HTT := Lib.hid htt
         have HNN := Lib.hid hnn
         clear hpk htt hnn
         go_upto_region 19 with fail
         refine wp_region_ps (S := SeqN [3, 4, 8] (fun z mm w' => match z with | 0 => Below w17.heap.size w17 w' | 1 => Below w17.heap.size w17 w' ∧ ∃ P5 k5 c5, mm 3 = .agg (pk.cells P5 k5 c5) ∧ LR.rd w' (fun b => w17.heap.size ≤ b) P5 k5 pk.b.rows ∧ k5 ≤ c5 ∧ c5 ≤ 9223372036854775807 | 2 => Below w17.heap.size w17 w' ∧ ∃ A4 n4 c4 B4 m4 d4, mm 4 = .tuple #[.agg (tt.cells A4 n4 c4 B4 m4 d4), .int .i64 nn] ∧ RecO w' w17.heap.size (fun b => b < wr.heap.size ∨ w17.heap.size ≤ b) A4 n4 c4 B4 m4 d4 tt | _ => Chg (fun b => b = gn) w17 w' ∧ ∃ A4 n4 c4 B4 m4 d4, mm 4 = .tuple #[.agg (tt.cells A4 n4 c4 B4 m4 d4), .int .i64 nn] ∧ RecO w' w17.heap.size (fun b => b < wr.heap.size ∨ w17.heap.size ≤ b) A4 n4 c4 B4 m4 d4 tt ∧ Blk w' gn 36 (tt.cells A4 n4 c4 B4 m4 d4))) (by kernel_rfl) ?spswg39 ?ppswg39
         case spswg39 =>
          exact SeqN.start (by decide) (Below.refl _ _).drew
         refine Pz 0 (some 88) (.agg #[.int .u32 (r.ses), .int .u64 (r.next), .slice A n c, .slice B k d, .int .i64 (r.room), .bool (r.over)]) rfl rfl ?ywg39_40 ?rwg39_40
         case ywg39_40 =>
          refine StepS.read [] (by kernel_rfl) (SeqN.pass (by decide)) (by rfl) (fun L9 m9 w9 hSh hAt hDn hS => ?_)
          have hT : Below w17.heap.size w17 w9 := SeqN.z01 hSh (reach_no hSh (f := 12) (j := 4) (by kernel_rfl) hDn) (by kernel_rfl) (fun _ _ h => h) (fun _ _ h => h.1) hS
          have x0 : w9.cell? ⟨g5, 0, none⟩ = some (.int .u32 (r.ses)) := (HS17.out.ca hT).cell 0
          have x1 : w9.cell? ⟨g5, 1, none⟩ = some (.int .u64 (r.next)) := (HS17.out.ca hT).cell 1
          have x2 : w9.cell? ⟨g5, 2, none⟩ = some (.slice A n c) := (HS17.out.ca hT).cell 2
          have x3 : w9.cell? ⟨g5, 3, none⟩ = some (.slice B k d) := (HS17.out.ca hT).cell 3
          have x4 : w9.cell? ⟨g5, 4, none⟩ = some (.int .i64 (r.room)) := (HS17.out.ca hT).cell 4
          have x5 : w9.cell? ⟨g5, 5, none⟩ = some (.bool (r.over)) := (HS17.out.ca hT).cell 5
          clear hT hS
          go_simp
          try rfl
         try simp only [Act.put, sA, sZ, sS]
         refine Pz 1 (some 89) (.agg #[.bool (h.take), .bool (h.near), .int .i64 (h.pk.kind), .int .u32 (h.pk.ses), .int .u64 (h.pk.seq), .int .u64 (h.pk.lim), .slice R rn rc, .bool (h.pk.b.fin), .int .u64 (h.pk.b.cnt)]) rfl rfl ?ywg39_41 ?rwg39_41
         case ywg39_41 =>
          refine StepS.read [] (by kernel_rfl) (SeqN.pass (by decide)) (by rfl) (fun L9 m9 w9 hSh hAt hDn hS => ?_)
          have hT : Below w17.heap.size w17 w9 := SeqN.z01 hSh (reach_no hSh (f := 12) (j := 4) (by kernel_rfl) hDn) (by kernel_rfl) (fun _ _ h => h) (fun _ _ h => h.1) hS
          have x0 : w9.cell? ⟨wr.heap.size, 0, none⟩ = some (.bool (h.take)) := (HH17.out.ca hT).cell 0
          have x1 : w9.cell? ⟨wr.heap.size, 1, none⟩ = some (.bool (h.near)) := (HH17.out.ca hT).cell 1
          have x2 : w9.cell? ⟨wr.heap.size, 2, none⟩ = some (.int .i64 (h.pk.kind)) := (HH17.out.ca hT).cell 2
          have x3 : w9.cell? ⟨wr.heap.size, 3, none⟩ = some (.int .u32 (h.pk.ses)) := (HH17.out.ca hT).cell 3
          have x4 : w9.cell? ⟨wr.heap.size, 4, none⟩ = some (.int .u64 (h.pk.seq)) := (HH17.out.ca hT).cell 4
          have x5 : w9.cell? ⟨wr.heap.size, 5, none⟩ = some (.int .u64 (h.pk.lim)) := (HH17.out.ca hT).cell 5
          have x6 : w9.cell? ⟨wr.heap.size, 6, none⟩ = some (.slice R rn rc) := (HH17.out.ca hT).cell 6
          have x7 : w9.cell? ⟨wr.heap.size, 7, none⟩ = some (.bool (h.pk.b.fin)) := (HH17.out.ca hT).cell 7
          have x8 : w9.cell? ⟨wr.heap.size, 8, none⟩ = some (.int .u64 (h.pk.b.cnt)) := (HH17.out.ca hT).cell 8
          clear hT hS
          go_simp
          try rfl
         try simp only [Act.put, sA, sZ, sS]
         refine Pz 2 (some 90) (.agg #[.int .u32 (r.ses), .int .u64 (r.next), .slice A n c, .slice B k d, .int .i64 (r.room), .bool (r.over)]) rfl rfl ?ywg39_42 ?rwg39_42
         case ywg39_42 =>
          refine StepS.read [] (by kernel_rfl) (SeqN.pass (by decide)) (by rfl) (fun L9 m9 w9 hSh hAt hDn hS => ?_)
          have hT : Below w17.heap.size w17 w9 := SeqN.z01 hSh (reach_no hSh (f := 12) (j := 4) (by kernel_rfl) hDn) (by kernel_rfl) (fun _ _ h => h) (fun _ _ h => h.1) hS
          have x0 : w9.cell? ⟨g5, 0, none⟩ = some (.int .u32 (r.ses)) := (HS17.out.ca hT).cell 0
          have x1 : w9.cell? ⟨g5, 1, none⟩ = some (.int .u64 (r.next)) := (HS17.out.ca hT).cell 1
          have x2 : w9.cell? ⟨g5, 2, none⟩ = some (.slice A n c) := (HS17.out.ca hT).cell 2
          have x3 : w9.cell? ⟨g5, 3, none⟩ = some (.slice B k d) := (HS17.out.ca hT).cell 3
          have x4 : w9.cell? ⟨g5, 4, none⟩ = some (.int .i64 (r.room)) := (HS17.out.ca hT).cell 4
          have x5 : w9.cell? ⟨g5, 5, none⟩ = some (.bool (r.over)) := (HS17.out.ca hT).cell 5
          clear hT hS
          go_simp
          try rfl
         try simp only [Act.put, sA, sZ, sS]
         refine Ps.one (k := 3) (d := some 91) rfl rfl (by kernel_rfl) (TurnS.call (V := fun v => ∃ P5 k5 c5, v = .agg (pk.cells P5 k5 c5)) ?fwg39_43 ?awg39_43 [] (by kernel_rfl) (by rfl) (fun w9 => ?hwg39_43) (fun L9 m9 w9 hSh hAt hDn hS => ?cwg39_43)) (fun v3 hVv3 => ?rwg39_43)
         case hwg39_43 => go_simp; refine ⟨?_, ?_⟩ <;> rfl
         case cwg39_43 =>
          have hT := SeqN.at_ (m0 := m9) (m1 := m9) [] [4, 8] hSh (fun d hd => by cases hd) hDn (by kernel_rfl) hS
          refine (hepk_any (fun b => b < wr.heap.size) h r R rn rc A n c B k d w9 (Lay.rd_below HHR17.out hT) hrcp.1 hrcp.2).mono ?_
          rw [← HPK.out]
          rintro e w8x ⟨P5, k5, c5, rfl, hr, h1, h2, q8⟩
          exact ⟨_, rfl, ⟨P5, k5, c5, rfl⟩, SeqN.set_ (m0 := m9) (m1 := m9) [] [4, 8] hSh (fun d hd => by cases hd) hDn (by kernel_rfl) (by decide) (by decide) ⟨bl_ca hT q8, P5, k5, c5, upd_same _ _ _, Lay.rd_weak (fun b hb _ => Nat.le_trans hT.size hb.1) hr, h1, h2⟩⟩
         try simp only [Act.put, sA, sZ, sS]
         obtain ⟨P, kp, cp, rfl⟩ := hVv3
         refine Ps.one (k := 4) (d := some 92) rfl rfl (by kernel_rfl) (TurnS.call (V := fun v => ∃ A4 n4 c4 B4 m4 d4, v = .tuple #[.agg (tt.cells A4 n4 c4 B4 m4 d4), .int .i64 nn]) ?fwg39_44 ?awg39_44 [3] (by kernel_rfl) (by rfl) (fun w9 => ?hwg39_44) (fun L9 m9 w9 hSh hAt hDn hS => ?cwg39_44)) (fun v4 hVv4 => ?rwg39_44)
         case hwg39_44 => go_simp; refine ⟨?_, ?_⟩ <;> rfl
         case cwg39_44 =>
          obtain ⟨hT, P5, k5, c5, hv, hrp, hp1, hp2⟩ := SeqN.at_ [3] [8] hSh hAt hDn (by kernel_rfl) hS
          obtain ⟨rfl, rfl, rfl⟩ : P = P5 ∧ kp = k5 ∧ cp = c5 := by have h9 : Value.agg (pk.cells P kp cp) = .agg (pk.cells P5 k5 c5) := (hAt 3 (by simp)).2.symm.trans hv; simpa [PK.cells] using h9
          have hsz := hT.size
          refine (hear_law_any (fun b => b < w9.heap.size ∧ (b < wr.heap.size ∨ w17.heap.size ≤ b)) r A n c B k d pk P kp cp w9 (fun b h => h.1) (Lay.rd_weak (fun b hb hl => ⟨hl, .inl hb.2⟩) (Lay.rd_below HRA17.out hT)) (Lay.rd_weak (fun b hb hl => ⟨hl, .inl hb.2⟩) (Lay.rd_below HRB17.out hT)) (Lay.rd_weak (fun b hb hl => ⟨hl, .inr hb⟩) hrp) (by omega) (by omega) hp1 hp2).mono ?_
          rw [← HTT.out, ← HNN.out]
          rintro e w6 ⟨A4, n4, c4, B4, m4, d4, rfl, q6, hrec⟩
          exact ⟨_, rfl, ⟨A4, n4, c4, B4, m4, d4, rfl⟩, SeqN.set_ [3] [8] hSh hAt hDn (by kernel_rfl) (by decide) (by decide) ⟨bl_ca hT q6, A4, n4, c4, B4, m4, d4, upd_same _ _ _, hrec.chg (X := fun _ => False) (Chg.refl _ _) hsz (fun _ h => h.elim) (fun b hb => ⟨fun h => h, hb.2.elim (fun h => h.2) (fun h => .inr (by omega))⟩)⟩⟩
         try simp only [Act.put, sA, sZ, sS]
         obtain ⟨A3, n3, c3, B3, m3, d3, rfl⟩ := hVv4
         refine Pz 5 (some 87) (.tuple #[.agg (tt.cells A3 n3 c3 B3 m3 d3), .int .i64 (nn)]) rfl rfl (by exact StepS.pure (SeqN.pass (by decide)) rfl fun _ => rfl) ?_
         try simp only [Act.put, sA, sZ, sS]
         refine Pz 6 (some 93) (.agg (tt.cells A3 n3 c3 B3 m3 d3)) rfl rfl (by exact StepS.pure (SeqN.pass (by decide)) rfl fun _ => rfl) ?_
         try simp only [Act.put, sA, sZ, sS]
         refine Pz 7 (some 94) (.int .i64 (nn)) rfl rfl (by exact StepS.pure (SeqN.pass (by decide)) rfl fun _ => rfl) ?_
         try simp only [Act.put, sA, sZ, sS]
         refine Pz 8 none undef rfl rfl ?ywg39_48 ?rwg39_48
         case ywg39_48 =>
          refine StepS.store [3, 4] (by kernel_rfl) (by rfl) (fun L9 m9 w9 hSh hAt hDn hS => ?_)
          obtain ⟨hT, A4, n4, c4, B4, m4, d4, hv, hrec⟩ := SeqN.at_ [3, 4] [] hSh hAt hDn (by kernel_rfl) hS
          obtain ⟨rfl, rfl, rfl, rfl, rfl, rfl⟩ : A3 = A4 ∧ n3 = n4 ∧ c3 = c4 ∧ B3 = B4 ∧ m3 = m4 ∧ d3 = d4 := by have h9 : (.tuple #[.agg (tt.cells A3 n3 c3 B3 m3 d3), .int .i64 nn] : Value) = .tuple #[.agg (tt.cells A4 n4 c4 B4 m4 d4), .int .i64 nn] := (hAt 4 (by simp)).2.symm.trans hv; simpa [RC.cells, and_assoc] using h9
          refine (exec_store_blk (w := w9) 36 (.tmp 12) (.tmp 93) (by rfl) gn 36 #[.int .u32 0, .int .u64 0, .slice none 0 0, .slice none 0 0, .int .i64 0, .bool false] (tt.cells A3 n3 c3 B3 m3 d3) (by rfl) (by rfl) (HA.out.ca hT) rfl receiverI (by obtain ⟨s1, s2, s3, s4, s5, s6⟩ := tt; simp [Value.oneCell', RC.cells])).imp fun w7 hx => ⟨hx.1, SeqN.set_ [3, 4] [] hSh hAt hDn (by kernel_rfl) (by decide) (by decide) ⟨(Chg.of_below hT).grown hx.2.2 (fun b e => .inl (by injection e with e; exact e.symm)), A3, n3, c3, B3, m3, d3, hv, hrec.chg (X := fun b => b = gn) ((Chg.refl _ _).grown hx.2.2 (fun b e => .inl (by injection e with e; exact e.symm))) (Nat.le_refl _) (fun b h => by omega) (fun b hb => ⟨fun h => by omega, hb⟩), hx.2.1⟩⟩
         try simp only [Act.put]
         refine Pz 9 (some 11) (.int .i64 (nn)) rfl rfl (by exact StepS.pure (SeqN.pass (by decide)) rfl fun _ => rfl) ?_
         try simp only [Act.put, sA, sZ, sS]
         refine Ps.done (by kernel_rfl) (fun wg39 hS => ?_) _
         obtain ⟨hch, A4, n4, c4, B4, m4, d4, hv, hrec, hba⟩ := SeqN.fin (by rfl) hS
         clear hS
         obtain ⟨rfl, rfl, rfl, rfl, rfl, rfl⟩ : A3 = A4 ∧ n3 = n4 ∧ c3 = c4 ∧ B3 = B4 ∧ m3 = m4 ∧ d3 = d4 := by have h9 : (.tuple #[.agg (tt.cells A3 n3 c3 B3 m3 d3), .int .i64 nn] : Value) = .tuple #[.agg (tt.cells A4 n4 c4 B4 m4 d4), .int .i64 nn] := hv; simpa [RC.cells, and_assoc] using h9
         clear hv
         obtain ⟨w20, rfl⟩ : ∃ x, x = wg39 := ⟨_, rfl⟩
         have HA20 := Lib.hid hba
         have HREC := Lib.hid hrec
         have HCH20 := Lib.hid hch
         have hs20 := hch.size
         have HB20 := Lib.hid (HBb.out.chg hch (by omega))
         have HC20 := Lib.hid (HC2.out.chg hch (by omega))
         have HD20 := Lib.hid (HD1.out.chg hch (by omega))
         have HF20 := Lib.hid (HF17.out.chg hch (by omega))
         have HH20 := Lib.hid (HH17.out.chg hch (by omega))
         have HS20 := Lib.hid (HS17.out.chg hch (by omega))
         have HWA20 := Lib.hid (rd_chg HWA17.out hch (fun b hb _ h => by omega))
         have HWB20 := Lib.hid (rd_chg HWB17.out hch (fun b hb _ h => by omega))
         have HCH17 := Lib.hid (hch.weak (Y := fun k => k = gn ∨ k = gn + 1 ∨ k = gw ∨ k = gw + 1) (fun _ _ h => .inl h))
         clear hba hrec hch
         cases rt
         · have hz : tt = zeroR ∧ nn = 320 := by
            rw [HTT.out, HNN.out]
            unfold heaT
            rw [← HRT.out]
            exact ⟨rfl, rfl⟩
           have HZ := Lib.hid hz
           clear hz
           go_wp2_with fail
           go_meet
           refine ⟨tt, zeroB, nn, A3, n3, c3, B3, m3, d3, none, 0, 0, none, 0, 0, none, 0, 0, none, 0, 0, w17.heap.size, w20.heap.size, ?_⟩
           exact { h1 := rfl, h2 := (by rw [HZ.out.2]), bn := HA20.out, bb := HB20.out, bw := (by rw [HZ.out.1]; exact HC20.out), bt := HD20.out, ra3 := Lay.rd_weak (fun _ _ _ => trivial) HREC.out.ra, rb3 := Lay.rd_weak (fun _ _ _ => trivial) HREC.out.rb, c3' := ⟨Nat.le_trans HREC.out.ca.1 HREC.out.ca.2, Nat.le_trans HREC.out.cb.1 HREC.out.cb.2⟩, rx1 := Lay.rd_nil _, cx1 := (by omega), ra4 := (by rw [HZ.out.1]; exact Lay.rd_nil _), rb4 := (by rw [HZ.out.1]; exact Lay.rd_nil _), c4' := (by omega), rx2 := Lay.rd_nil _, ma := HREC.out.ma, mb := HREC.out.mb, la := HREC.out.ma.lt, lb := HREC.out.mb.lt, l0 := Nat.le_refl _, l1 := ⟨hs20, Nat.le_refl _⟩, ch := HCH17.out }
         · have hrb := HRT.out.symm
           have HT2 := Lib.hid (show tt = hearR r pk ∧ nn = 0 from by
            rw [HTT.out, HNN.out]
            unfold heaT
            rw [hrb]
            exact ⟨rfl, rfl⟩)
           have HHR20 := Lib.hid (rd_chg (Lay.rd_weak (G := fun b => b < wr.heap.size) (fun _ h _ => h) HHR17.out) HCH20.out (fun b hb _ h => by omega))
           go_upto_region 21 with fail
           refine wp_region_ps (S := SeqN [1, 4, 5, 6] (fun z mm w' => match z with | 0 => Below w20.heap.size w20 w' | 1 => Below w20.heap.size w20 w' ∧ ∃ A7 n7 c7 B7 m7 d7, mm 1 = .agg (r.cells A7 n7 c7 B7 m7 d7) ∧ LH4.rd w' (fun b => (b < w8.heap.size ∧ b ≠ g5) ∨ w20.heap.size ≤ b) A7 n7 r.ahead ∧ LB3.rd w' (fun b => (b < w8.heap.size ∧ b ≠ g5) ∨ w20.heap.size ≤ b) B7 m7 r.buf ∧ (n7 ≤ c7 ∧ c7 ≤ 9223372036854775807) ∧ (m7 ≤ d7 ∧ d7 ≤ 9223372036854775807) | 2 => Below w20.heap.size w20 w' ∧ (∃ A7 n7 c7 B7 m7 d7, mm 1 = .agg (r.cells A7 n7 c7 B7 m7 d7) ∧ LH4.rd w' (fun b => (b < w8.heap.size ∧ b ≠ g5) ∨ w20.heap.size ≤ b) A7 n7 r.ahead ∧ LB3.rd w' (fun b => (b < w8.heap.size ∧ b ≠ g5) ∨ w20.heap.size ≤ b) B7 m7 r.buf ∧ (n7 ≤ c7 ∧ c7 ≤ 9223372036854775807) ∧ (m7 ≤ d7 ∧ d7 ≤ 9223372036854775807)) ∧ ∃ P5 k5 c5, mm 4 = .agg (pk.cells P5 k5 c5) ∧ LR.rd w' (fun b => w20.heap.size ≤ b) P5 k5 pk.b.rows ∧ k5 ≤ c5 ∧ c5 ≤ 9223372036854775807 | 3 => Below w20.heap.size w20 w' ∧ ∃ A7 n7 c7 B7 m7 d7, mm 5 = .agg (tt.cells A7 n7 c7 B7 m7 d7) ∧ LH4.rd w' (fun b => (b < w8.heap.size ∧ b ≠ g5) ∨ w20.heap.size ≤ b) A7 n7 tt.ahead ∧ LB3.rd w' (fun b => (b < w8.heap.size ∧ b ≠ g5) ∨ w20.heap.size ≤ b) B7 m7 tt.buf ∧ (n7 ≤ c7 ∧ c7 ≤ 9223372036854775807) ∧ (m7 ≤ d7 ∧ d7 ≤ 9223372036854775807) | _ => Chg (fun b => b = gw) w20 w' ∧ (∃ A7 n7 c7 B7 m7 d7, mm 5 = .agg (tt.cells A7 n7 c7 B7 m7 d7) ∧ LH4.rd w' (fun b => (b < w8.heap.size ∧ b ≠ g5) ∨ w20.heap.size ≤ b) A7 n7 tt.ahead ∧ LB3.rd w' (fun b => (b < w8.heap.size ∧ b ≠ g5) ∨ w20.heap.size ≤ b) B7 m7 tt.buf ∧ (n7 ≤ c7 ∧ c7 ≤ 9223372036854775807) ∧ (m7 ≤ d7 ∧ d7 ≤ 9223372036854775807)) ∧ ∃ A7 n7 c7 B7 m7 d7, mm 5 = .agg (tt.cells A7 n7 c7 B7 m7 d7) ∧ Blk w' gw 36 (tt.cells A7 n7 c7 B7 m7 d7))) (by kernel_rfl) ?spswg50 ?ppswg50
           case spswg50 =>
            exact SeqN.start (by decide) (Below.refl _ _).drew
           refine Pz 0 (some 96) (.agg #[.int .u32 (r.ses), .int .u64 (r.next), .slice A2 n2 c2, .slice B2 k2 d2, .int .i64 (r.room), .bool (r.over)]) rfl rfl ?ywg50_51 ?rwg50_51
           case ywg50_51 =>
            refine StepS.read [] (by kernel_rfl) (SeqN.pass (by decide)) (by rfl) (fun L9 m9 w9 hSh hAt hDn hS => ?_)
            have hT : Below w20.heap.size w20 w9 := SeqN.lt3h (T := fun w9 => Below w20.heap.size w20 w9) (reach_no hSh (f := 12) (j := 6) (by kernel_rfl) hDn) (fun z _ _ hz h => by match z, hz, h with | 0, _, h => exact h | 1, _, h => exact h.1 | 2, _, h => exact h.1 | 3, _, h => exact h.1 | _ + 4, hz, _ => exact absurd hz (by omega)) hS
            have x0 : w9.cell? ⟨w8.heap.size, 0, none⟩ = some (.int .u32 (r.ses)) := (HF20.out.ca hT).cell 0
            have x1 : w9.cell? ⟨w8.heap.size, 1, none⟩ = some (.int .u64 (r.next)) := (HF20.out.ca hT).cell 1
            have x2 : w9.cell? ⟨w8.heap.size, 2, none⟩ = some (.slice A2 n2 c2) := (HF20.out.ca hT).cell 2
            have x3 : w9.cell? ⟨w8.heap.size, 3, none⟩ = some (.slice B2 k2 d2) := (HF20.out.ca hT).cell 3
            have x4 : w9.cell? ⟨w8.heap.size, 4, none⟩ = some (.int .i64 (r.room)) := (HF20.out.ca hT).cell 4
            have x5 : w9.cell? ⟨w8.heap.size, 5, none⟩ = some (.bool (r.over)) := (HF20.out.ca hT).cell 5
            clear hT hS
            go_simp
            try rfl
           try simp only [Act.put, sA, sZ, sS]
           refine Pz 2 (some 98) (.agg #[.bool (h.take), .bool (h.near), .int .i64 (h.pk.kind), .int .u32 (h.pk.ses), .int .u64 (h.pk.seq), .int .u64 (h.pk.lim), .slice R rn rc, .bool (h.pk.b.fin), .int .u64 (h.pk.b.cnt)]) rfl rfl ?ywg50_52 ?rwg50_52
           case ywg50_52 =>
            refine StepS.read [] (by kernel_rfl) (SeqN.pass (by decide)) (by rfl) (fun L9 m9 w9 hSh hAt hDn hS => ?_)
            have hT : Below w20.heap.size w20 w9 := SeqN.lt3h (T := fun w9 => Below w20.heap.size w20 w9) (reach_no hSh (f := 12) (j := 6) (by kernel_rfl) hDn) (fun z _ _ hz h => by match z, hz, h with | 0, _, h => exact h | 1, _, h => exact h.1 | 2, _, h => exact h.1 | 3, _, h => exact h.1 | _ + 4, hz, _ => exact absurd hz (by omega)) hS
            have x0 : w9.cell? ⟨wr.heap.size, 0, none⟩ = some (.bool (h.take)) := (HH20.out.ca hT).cell 0
            have x1 : w9.cell? ⟨wr.heap.size, 1, none⟩ = some (.bool (h.near)) := (HH20.out.ca hT).cell 1
            have x2 : w9.cell? ⟨wr.heap.size, 2, none⟩ = some (.int .i64 (h.pk.kind)) := (HH20.out.ca hT).cell 2
            have x3 : w9.cell? ⟨wr.heap.size, 3, none⟩ = some (.int .u32 (h.pk.ses)) := (HH20.out.ca hT).cell 3
            have x4 : w9.cell? ⟨wr.heap.size, 4, none⟩ = some (.int .u64 (h.pk.seq)) := (HH20.out.ca hT).cell 4
            have x5 : w9.cell? ⟨wr.heap.size, 5, none⟩ = some (.int .u64 (h.pk.lim)) := (HH20.out.ca hT).cell 5
            have x6 : w9.cell? ⟨wr.heap.size, 6, none⟩ = some (.slice R rn rc) := (HH20.out.ca hT).cell 6
            have x7 : w9.cell? ⟨wr.heap.size, 7, none⟩ = some (.bool (h.pk.b.fin)) := (HH20.out.ca hT).cell 7
            have x8 : w9.cell? ⟨wr.heap.size, 8, none⟩ = some (.int .u64 (h.pk.b.cnt)) := (HH20.out.ca hT).cell 8
            clear hT hS
            go_simp
            try rfl
           try simp only [Act.put, sA, sZ, sS]
           refine Pz 3 (some 99) (.agg #[.int .u32 (r.ses), .int .u64 (r.next), .slice A n c, .slice B k d, .int .i64 (r.room), .bool (r.over)]) rfl rfl ?ywg50_53 ?rwg50_53
           case ywg50_53 =>
            refine StepS.read [] (by kernel_rfl) (SeqN.pass (by decide)) (by rfl) (fun L9 m9 w9 hSh hAt hDn hS => ?_)
            have hT : Below w20.heap.size w20 w9 := SeqN.lt3h (T := fun w9 => Below w20.heap.size w20 w9) (reach_no hSh (f := 12) (j := 6) (by kernel_rfl) hDn) (fun z _ _ hz h => by match z, hz, h with | 0, _, h => exact h | 1, _, h => exact h.1 | 2, _, h => exact h.1 | 3, _, h => exact h.1 | _ + 4, hz, _ => exact absurd hz (by omega)) hS
            have x0 : w9.cell? ⟨g5, 0, none⟩ = some (.int .u32 (r.ses)) := (HS20.out.ca hT).cell 0
            have x1 : w9.cell? ⟨g5, 1, none⟩ = some (.int .u64 (r.next)) := (HS20.out.ca hT).cell 1
            have x2 : w9.cell? ⟨g5, 2, none⟩ = some (.slice A n c) := (HS20.out.ca hT).cell 2
            have x3 : w9.cell? ⟨g5, 3, none⟩ = some (.slice B k d) := (HS20.out.ca hT).cell 3
            have x4 : w9.cell? ⟨g5, 4, none⟩ = some (.int .i64 (r.room)) := (HS20.out.ca hT).cell 4
            have x5 : w9.cell? ⟨g5, 5, none⟩ = some (.bool (r.over)) := (HS20.out.ca hT).cell 5
            clear hT hS
            go_simp
            try rfl
           try simp only [Act.put, sA, sZ, sS]
           refine Ps.one (k := 1) (d := some 97) rfl rfl (by kernel_rfl) (TurnS.call (V := fun v => ∃ A7 n7 c7 B7 m7 d7, v = .agg (r.cells A7 n7 c7 B7 m7 d7)) ?fwg50_54 ?awg50_54 [] (by kernel_rfl) (by rfl) (fun w9 => ?hwg50_54) (fun L9 m9 w9 hSh hAt hDn hS => ?cwg50_54)) (fun v1 hVv1 => ?rwg50_54)
           case hwg50_54 => go_simp; refine ⟨?_, ?_⟩ <;> rfl
           case cwg50_54 =>
            have hT := SeqN.at_ (m0 := m9) (m1 := m9) [] [4, 5, 6] hSh (fun d hd => by cases hd) hDn (by kernel_rfl) hS
            have hsz := hT.size
            refine (recvC_any _ _ r A2 n2 c2 B2 k2 d2 w9 (Lay.rd_below HWA20.out hT) (Lay.rd_below HWB20.out hT) HCW.out.1.1 HCW.out.1.2 HCW.out.2.1 HCW.out.2.2).mono ?_
            rw [HID.out]
            rintro e w8x ⟨A7, n7, c7, B7, m7, d7, rfl, hr, hb, h1, h2, h3, h4, q8⟩
            exact ⟨_, rfl, ⟨A7, n7, c7, B7, m7, d7, rfl⟩, SeqN.set_ (m0 := m9) (m1 := m9) [] [4, 5, 6] hSh (fun d hd => by cases hd) hDn (by kernel_rfl) (by decide) (by decide) ⟨bl_ca hT q8, A7, n7, c7, B7, m7, d7, upd_same _ _ _, Lay.rd_weak (fun b hb _ => hb.elim (fun h => .inl h.1) (fun h => .inr (by omega))) hr, Lay.rd_weak (fun b hb _ => hb.elim (fun h => .inl h.1) (fun h => .inr (by omega))) hb, ⟨h1, h2⟩, ⟨h3, h4⟩⟩⟩
           try simp only [Act.put, sA, sZ, sS]
           obtain ⟨A5, n5, c5, B5, m5, d5, rfl⟩ := hVv1
           refine Ps.one (k := 4) (d := some 100) rfl rfl (by kernel_rfl) (TurnS.call (V := fun v => ∃ P5 k5 c5, v = .agg (pk.cells P5 k5 c5)) ?fwg50_55 ?awg50_55 [1] (by kernel_rfl) (by rfl) (fun w9 => ?hwg50_55) (fun L9 m9 w9 hSh hAt hDn hS => ?cwg50_55)) (fun v4 hVv4 => ?rwg50_55)
           case hwg50_55 => go_simp; refine ⟨?_, ?_⟩ <;> rfl
           case cwg50_55 =>
            obtain ⟨hT, A7, n7, c7, B7, m7, d7, hv, ha7, hb7, hc7, hd7⟩ := SeqN.at_ [1] [5, 6] hSh hAt hDn (by kernel_rfl) hS
            refine (hepk_any (fun b => b < wr.heap.size) h r R rn rc A n c B k d w9 (Lay.rd_below HHR20.out hT) hrcp.1 hrcp.2).mono ?_
            rw [← HPK.out]
            rintro e w8x ⟨P5, k5, c5, rfl, hr, h1, h2, q8⟩
            exact ⟨_, rfl, ⟨P5, k5, c5, rfl⟩, SeqN.set_ [1] [5, 6] hSh hAt hDn (by kernel_rfl) (by decide) (by decide) ⟨bl_ca hT q8, ⟨A7, n7, c7, B7, m7, d7, (upd_ne (by decide)).trans hv, Lay.rd_below ha7 q8, Lay.rd_below hb7 q8, hc7, hd7⟩, P5, k5, c5, upd_same _ _ _, Lay.rd_weak (fun b hb _ => Nat.le_trans hT.size hb.1) hr, h1, h2⟩⟩
           try simp only [Act.put, sA, sZ, sS]
           obtain ⟨P, kp, cp, rfl⟩ := hVv4
           refine Ps.one (k := 5) (d := some 101) rfl rfl (by kernel_rfl) (TurnS.call (V := fun v => ∃ A7 n7 c7 B7 m7 d7, v = .agg (tt.cells A7 n7 c7 B7 m7 d7)) ?fwg50_56 ?awg50_56 [1, 4] (by kernel_rfl) (by rfl) (fun w9 => ?hwg50_56) (fun L9 m9 w9 hSh hAt hDn hS => ?cwg50_56)) (fun v5 hVv5 => ?rwg50_56)
           case hwg50_56 => go_simp; refine ⟨?_, ?_⟩ <;> rfl
           case cwg50_56 =>
            obtain ⟨hT, ⟨A7, n7, c7, B7, m7, d7, hv, ha7, hb7, hc7, hd7⟩, P5, k5, c9, hv2, hrp, hp1, hp2⟩ := SeqN.at_ [1, 4] [6] hSh hAt hDn (by kernel_rfl) hS
            obtain ⟨rfl, rfl, rfl, rfl, rfl, rfl⟩ : A5 = A7 ∧ n5 = n7 ∧ c5 = c7 ∧ B5 = B7 ∧ m5 = m7 ∧ d5 = d7 := by have h9 : Value.agg (r.cells A5 n5 c5 B5 m5 d5) = .agg (r.cells A7 n7 c7 B7 m7 d7) := (hAt 1 (by simp)).2.symm.trans hv; simpa [RC.cells, and_assoc] using h9
            obtain ⟨rfl, rfl, rfl⟩ : P = P5 ∧ kp = k5 ∧ cp = c9 := by have h9 : Value.agg (pk.cells P kp cp) = .agg (pk.cells P5 k5 c9) := (hAt 4 (by simp)).2.symm.trans hv2; simpa [PK.cells] using h9
            have hsz := hT.size
            refine (rhear_any (fun b => b < w9.heap.size ∧ ((b < w8.heap.size ∧ b ≠ g5) ∨ w20.heap.size ≤ b)) r A5 n5 c5 B5 m5 d5 pk P kp cp w9 (fun b h => h.1) (Lay.rd_weak (fun b hb hl => ⟨hl, hb⟩) ha7) (Lay.rd_weak (fun b hb hl => ⟨hl, hb⟩) hb7) (Lay.rd_weak (fun b hb hl => ⟨hl, .inr hb⟩) hrp) hc7.1 hc7.2 hd7.1 hd7.2 hp1 hp2 hrb).mono ?_
            rw [← HT2.out.1]
            rintro e w6 ⟨A7, n7, c7, B7, m7, d7, rfl, hr, h1, h2, hb, h3, h4, q6⟩
            exact ⟨_, rfl, ⟨A7, n7, c7, B7, m7, d7, rfl⟩, SeqN.set_ [1, 4] [6] hSh hAt hDn (by kernel_rfl) (by decide) (by decide) ⟨bl_ca hT q6, A7, n7, c7, B7, m7, d7, upd_same _ _ _, Lay.rd_weak (fun b hb _ => hb.elim (fun h => h.2) (fun h => .inr (by omega))) hr, Lay.rd_weak (fun b hb _ => hb.elim (fun h => h.2) (fun h => .inr (by omega))) hb, ⟨h1, h2⟩, ⟨h3, h4⟩⟩⟩
           try simp only [Act.put, sA, sZ, sS]
           obtain ⟨A6, n6, c6, B6, m6, d6, rfl⟩ := hVv5
           refine Pz 6 none undef rfl rfl ?ywg50_57 ?rwg50_57
           case ywg50_57 =>
            refine StepS.store [1, 4, 5] (by kernel_rfl) (by rfl) (fun L9 m9 w9 hSh hAt hDn hS => ?_)
            obtain ⟨hT, A7, n7, c7, B7, m7, d7, hv, ha7, hb7, hc7, hd7⟩ := SeqN.at_ [1, 4, 5] [] hSh hAt hDn (by kernel_rfl) hS
            obtain ⟨rfl, rfl, rfl, rfl, rfl, rfl⟩ : A6 = A7 ∧ n6 = n7 ∧ c6 = c7 ∧ B6 = B7 ∧ m6 = m7 ∧ d6 = d7 := by have h9 : Value.agg (tt.cells A6 n6 c6 B6 m6 d6) = .agg (tt.cells A7 n7 c7 B7 m7 d7) := (hAt 5 (by simp)).2.symm.trans hv; simpa [RC.cells, and_assoc] using h9
            refine (exec_store_blk (w := w9) 36 (.tmp 14) (.tmp 101) (by rfl) gw 36 #[.int .u32 0, .int .u64 0, .slice none 0 0, .slice none 0 0, .int .i64 0, .bool false] (tt.cells A6 n6 c6 B6 m6 d6) (by rfl) (by rfl) (HC20.out.ca hT) rfl receiverI (by obtain ⟨s1, s2, s3, s4, s5, s6⟩ := tt; simp [Value.oneCell', RC.cells])).imp fun w7 hx => ⟨hx.1, SeqN.set_ [1, 4, 5] [] hSh hAt hDn (by kernel_rfl) (by decide) (by decide) ⟨(Chg.of_below hT).grown hx.2.2 (fun b e => .inl (by injection e with e; exact e.symm)), ⟨A6, n6, c6, B6, m6, d6, hv, rd_grownH ha7 hx.2.2 (fun b hb => by omega), rd_grownH hb7 hx.2.2 (fun b hb => by omega), hc7, hd7⟩, A6, n6, c6, B6, m6, d6, hv, hx.2.1⟩⟩
           try simp only [Act.put]
           refine Pz 7 (some 16) (.int .i64 (0)) rfl rfl (by exact StepS.pure (SeqN.pass (by decide)) rfl fun _ => rfl) ?_
           try simp only [Act.put, sA, sZ, sS]
           refine Ps.done (by kernel_rfl) (fun wg50 hS => ?_) _
           obtain ⟨hch, ⟨A7, n7, c7, B7, m7, d7, hv, ha7, hb7, hc7, hd7⟩, A8, n8, c8, B8, m8, d8, hv2, hbw2⟩ := SeqN.fin (by rfl) hS
           clear hS
           obtain ⟨rfl, rfl, rfl, rfl, rfl, rfl⟩ : A6 = A7 ∧ n6 = n7 ∧ c6 = c7 ∧ B6 = B7 ∧ m6 = m7 ∧ d6 = d7 := by have h9 : Value.agg (tt.cells A6 n6 c6 B6 m6 d6) = .agg (tt.cells A7 n7 c7 B7 m7 d7) := hv; simpa [RC.cells, and_assoc] using h9
           obtain ⟨rfl, rfl, rfl, rfl, rfl, rfl⟩ : A6 = A8 ∧ n6 = n8 ∧ c6 = c8 ∧ B6 = B8 ∧ m6 = m8 ∧ d6 = d8 := by have h9 : Value.agg (tt.cells A6 n6 c6 B6 m6 d6) = .agg (tt.cells A8 n8 c8 B8 m8 d8) := hv2; simpa [RC.cells, and_assoc] using h9
           clear hv hv2
           have HCH21 := Lib.hid hch
           have HRA21 := Lib.hid ha7
           have HRB21 := Lib.hid hb7
           have HCP21 := Lib.hid (And.intro hc7 hd7)
           have HC21 := Lib.hid hbw2
           clear hch ha7 hb7 hc7 hd7 hbw2
           obtain ⟨w21, rfl⟩ : ∃ x, x = wg50 := ⟨_, rfl⟩
           have hcw := HCH21.out
           have hs21 := hcw.size
           have hrec := HREC.out.chg (X := fun b => b = gw) (G' := AllB) hcw (Nat.le_refl _) (fun b h => by omega) (fun b hb => ⟨fun h => by omega, trivial⟩)
           go_wp2_with fail
           go_meet
           refine ⟨tt, zeroB, nn, A3, n3, c3, B3, m3, d3, none, 0, 0, A6, n6, c6, B6, m6, d6, none, 0, 0, w17.heap.size, w20.heap.size, ?_⟩
           exact { h1 := rfl, h2 := (by rw [HT2.out.2]), bn := HA20.out.chg hcw (by omega), bb := HB20.out.chg hcw (by omega), bw := HC21.out, bt := HD20.out.chg hcw (by omega), ra3 := hrec.ra, rb3 := hrec.rb, c3' := ⟨Nat.le_trans hrec.ca.1 hrec.ca.2, Nat.le_trans hrec.cb.1 hrec.cb.2⟩, rx1 := Lay.rd_nil _, cx1 := (by omega), ra4 := Lay.rd_weak (fun b hb _ => by omega) HRA21.out, rb4 := Lay.rd_weak (fun b hb _ => by omega) HRB21.out, c4' := HCP21.out, rx2 := Lay.rd_nil _, ma := hrec.ma, mb := hrec.mb, la := HREC.out.ma.lt, lb := HREC.out.mb.lt, l0 := Nat.le_refl _, l1 := ⟨hs20, hs21⟩, ch := HCH17.out.trans' hcw (fun b _ h => .inr (.inr (.inl h))) }
       · have HC := Lib.hid (take_any (fun b => b < wr.heap.size) r A n c B k d w17 (fun _ h => by omega) (Lay.rd_weak (fun _ hb _ => hb.2) HRA17.out) (Lay.rd_weak (fun _ hb _ => hb.2) HRB17.out) (by omega) (by omega))
         have y0 : w17.cell? ⟨g5, 0, none⟩ = some (.int .u32 (r.ses)) := HS17.out.cell 0
         have y1 : w17.cell? ⟨g5, 1, none⟩ = some (.int .u64 (r.next)) := HS17.out.cell 1
         have y2 : w17.cell? ⟨g5, 2, none⟩ = some (.slice A n c) := HS17.out.cell 2
         have y3 : w17.cell? ⟨g5, 3, none⟩ = some (.slice B k d) := HS17.out.cell 3
         have y4 : w17.cell? ⟨g5, 4, none⟩ = some (.int .i64 (r.room)) := HS17.out.cell 4
         have y5 : w17.cell? ⟨g5, 5, none⟩ = some (.bool (r.over)) := HS17.out.cell 5
         go_wp2_with fail
         clear y0 y1 y2 y3 y4 y5
         refine HC.out.mono ?_
         clear HC
         rintro e w20 ⟨A3, n3, c3, B3, m3, d3, X1, x1, y1, rfl, q20, hrec, hrx, hx1, hx2⟩
         have hs20 := q20.size
         have HA20 := Lib.hid (HA.out.ca q20)
         have HB20 := Lib.hid (HBb.out.ca q20)
         have HC20 := Lib.hid (HC2.out.ca q20)
         have HD20 := Lib.hid (HD1.out.ca q20)
         have HF20 := Lib.hid (HF17.out.ca q20)
         have HREC := Lib.hid hrec
         have HRX := Lib.hid hrx
         have HQ20 := Lib.hid q20
         clear q20 hrec hrx
         obtain ⟨tt, htt⟩ : ∃ tt, tt = takT r := ⟨_, rfl⟩
         obtain ⟨uu, huu⟩ : ∃ uu, uu = takU r := ⟨_, rfl⟩
         obtain ⟨nn, hnn⟩ : ∃ nn, nn = takN r := ⟨_, rfl⟩
         rw [← htt] at HREC
         rw [← huu] at HRX
         rw [← htt, ← huu, ← hnn]
         have HTT := Lib.hid (And.intro htt (And.intro huu hnn))
         clear htt huu hnn
         go_upto_region 17 with (first
          | (refine wpList_store_blk rfl 36 (.tmp 12) (.tmp 76) rfl gn 36 #[.int .u32 0, .int .u64 0, .slice none 0 0, .slice none 0 0, .int .i64 0, .bool false] (tt.cells A3 n3 c3 B3 m3 d3) rfl rfl HA20.out rfl receiverI (by obtain ⟨s1, s2, s3, s4, s5, s6⟩ := tt; simp [Value.oneCell', RC.cells]) ?_; intro w21 h g; have HA21 := Lib.hid h; have HG21 := Lib.hid g; have HB21 := Lib.hid (HB20.out.apart g (by omega)); clear h g)
          | (refine wpList_store_blk rfl 45 (.tmp 13) (.tmp 77) rfl (gn + 1) 45 #[.slice none 0 0, .bool false, .int .u64 0] #[.slice X1 x1 y1, .bool uu.fin, .int .u64 uu.cnt] rfl rfl HB21.out rfl batchI2 (by simp [Value.oneCell']) ?_; intro w22 h g; have HB22 := Lib.hid h; have HG22 := Lib.hid g; have HA22 := Lib.hid (HA21.out.apart g (by omega)); clear h g))
         have hs21 := HG21.out.size
         have hs22 := HG22.out.size
         have HCH22 := Lib.hid (show Chg (fun k => k = gn ∨ k = gn + 1 ∨ k = gw ∨ k = gw + 1) w20 w22 from ((Chg.refl _ _).grown HG21.out (fun k e => .inl (.inl (by injection e with e; exact e.symm)))).grown HG22.out (fun k e => .inl (.inr (.inl (by injection e with e; exact e.symm)))))
         have HC22 := Lib.hid ((HC20.out.apart HG21.out (by omega)).apart HG22.out (by omega))
         have HD22 := Lib.hid ((HD20.out.apart HG21.out (by omega)).apart HG22.out (by omega))
         have HF22 := Lib.hid ((HF20.out.apart HG21.out (by omega)).apart HG22.out (by omega))
         have HREC22 := Lib.hid (HREC.out.chg (G' := fun k => k < wr.heap.size ∨ w17.heap.size ≤ k) HCH22.out (Nat.le_refl _) (fun b h => by omega) (fun k hk => ⟨fun h => by omega, hk.2⟩))
         have HRX22 := Lib.hid (rd_chg HRX.out HCH22.out (fun b hb _ h => by omega))
         have HLA22 := Lib.hid (And.intro (fun ad (e : A3 = some ad) => Nat.lt_of_lt_of_le (HREC.out.ma.lt ad e) (Nat.le_trans hs21 hs22)) (fun ad (e : B3 = some ad) => Nat.lt_of_lt_of_le (HREC.out.mb.lt ad e) (Nat.le_trans hs21 hs22)))
         have HCH17 := Lib.hid ((Chg.of_below (X := fun k => k = gn ∨ k = gn + 1 ∨ k = gw ∨ k = gw + 1) HQ20.out).trans' HCH22.out (fun _ _ h => h))
         have HWA22 := Lib.hid (rd_chg (Lay.rd_below HWA17.out HQ20.out) HCH22.out (fun b hb _ h => by omega))
         have HWB22 := Lib.hid (rd_chg (Lay.rd_below HWB17.out HQ20.out) HCH22.out (fun b hb _ h => by omega))
         clear HA20 HB20 HC20 HD20 HF20 HG21 HG22 HA21 HB21 HREC HRX HCH22 HQ20
         cases rt
         · have hz : tt = zeroR ∧ uu = zeroB ∧ nn = 320 := by
            rw [HTT.out.1, HTT.out.2.1, HTT.out.2.2]
            unfold takT takU takN
            rw [← HRT.out]
            exact ⟨rfl, rfl, rfl⟩
           have HZ := Lib.hid hz
           clear hz
           go_wp2_with fail
           go_meet
           refine ⟨tt, uu, nn, A3, n3, c3, B3, m3, d3, X1, x1, y1, none, 0, 0, none, 0, 0, none, 0, 0, w17.heap.size, w22.heap.size, ?_⟩
           exact { h1 := rfl, h2 := (by rw [HZ.out.2.2]), bn := HA22.out, bb := HB22.out, bw := (by rw [HZ.out.1]; exact HC22.out), bt := (by rw [HZ.out.2.1]; exact HD22.out), ra3 := Lay.rd_weak (fun _ _ _ => trivial) HREC22.out.ra, rb3 := Lay.rd_weak (fun _ _ _ => trivial) HREC22.out.rb, c3' := ⟨Nat.le_trans HREC22.out.ca.1 HREC22.out.ca.2, Nat.le_trans HREC22.out.cb.1 HREC22.out.cb.2⟩, rx1 := Lay.rd_weak (fun _ _ _ => trivial) HRX22.out, cx1 := Nat.le_trans hx1 hx2, ra4 := (by rw [HZ.out.1]; exact Lay.rd_nil _), rb4 := (by rw [HZ.out.1]; exact Lay.rd_nil _), c4' := (by omega), rx2 := (by rw [HZ.out.2.1]; exact Lay.rd_nil _), ma := HREC22.out.ma, mb := HREC22.out.mb, la := HLA22.out.1, lb := HLA22.out.2, l0 := Nat.le_refl _, l1 := ⟨by omega, Nat.le_refl _⟩, ch := HCH17.out }
         · have hrb := HRT.out.symm
           have HC3 := Lib.hid (recvC_any _ _ r A2 n2 c2 B2 k2 d2 w22 HWA22.out HWB22.out HCW.out.1.1 HCW.out.1.2 HCW.out.2.1 HCW.out.2.2)
           rw [HID.out] at HC3
           have HT2 := Lib.hid (show tt = takR r ∧ uu = takB r ∧ nn = takE r from by
            rw [HTT.out.1, HTT.out.2.1, HTT.out.2.2]
            unfold takT takU takN
            rw [hrb]
            exact ⟨rfl, rfl, rfl⟩)
           have y0 : w22.cell? ⟨w8.heap.size, 0, none⟩ = some (.int .u32 (r.ses)) := HF22.out.cell 0
           have y1 : w22.cell? ⟨w8.heap.size, 1, none⟩ = some (.int .u64 (r.next)) := HF22.out.cell 1
           have y2 : w22.cell? ⟨w8.heap.size, 2, none⟩ = some (.slice A2 n2 c2) := HF22.out.cell 2
           have y3 : w22.cell? ⟨w8.heap.size, 3, none⟩ = some (.slice B2 k2 d2) := HF22.out.cell 3
           have y4 : w22.cell? ⟨w8.heap.size, 4, none⟩ = some (.int .i64 (r.room)) := HF22.out.cell 4
           have y5 : w22.cell? ⟨w8.heap.size, 5, none⟩ = some (.bool (r.over)) := HF22.out.cell 5
           go_wp2_with fail
           clear y0 y1 y2 y3 y4 y5
           refine HC3.out.mono ?_
           clear HC3
           rintro e w23 ⟨A5, n5, c5, B5, m5, d5, rfl, hr5, hb5, hn5, hc5, hm5, hd5, q23⟩
           have hs23 := q23.size
           have HC4 := Lib.hid (rtake_any (fun b => (b < w8.heap.size ∧ b ≠ g5) ∨ (w22.heap.size ≤ b ∧ b < w23.heap.size)) r A5 n5 c5 B5 m5 d5 w23 (fun b hb => by omega) (Lay.rd_weak (fun b hb _ => hb.elim (fun h => .inl h.1) (fun h => .inr ⟨by omega, h.2⟩)) hr5) (Lay.rd_weak (fun b hb _ => hb.elim (fun h => .inl h.1) (fun h => .inr ⟨by omega, h.2⟩)) hb5) hn5 hc5 hm5 hd5 hrb)
           have HQ23 := Lib.hid q23
           clear hr5 hb5 q23
           go_wp2_with fail
           refine HC4.out.mono ?_
           clear HC4
           rintro e w24 ⟨A4, n4, c4, B4, m4, d4, X2, x2, y2, rfl, q24, hra4, hn4, hc4, hrb4, hm4, hd4, hrx4, hx4, hy4⟩
           have hs24 := q24.size
           have HQ24 := Lib.hid (bl_ca HQ23.out q24)
           have HRA4 := Lib.hid hra4
           have HRB4 := Lib.hid hrb4
           have HRX4 := Lib.hid hrx4
           clear q24 hra4 hrb4 hrx4 HQ23
           rw [← HT2.out.1] at HRA4 HRB4
           rw [← HT2.out.2.1] at HRX4
           rw [← HT2.out.1, ← HT2.out.2.1, ← HT2.out.2.2]
           have HC24 := Lib.hid (HC22.out.ca HQ24.out)
           have HD24 := Lib.hid (HD22.out.ca HQ24.out)
           have HA24 := Lib.hid (HA22.out.ca HQ24.out)
           have HB24 := Lib.hid (HB22.out.ca HQ24.out)
           go_wp2_with (first
            | (refine wpList_store_blk rfl 36 (.tmp 14) (.tmp 84) rfl gw 36 #[.int .u32 0, .int .u64 0, .slice none 0 0, .slice none 0 0, .int .i64 0, .bool false] (tt.cells A4 n4 c4 B4 m4 d4) rfl rfl HC24.out rfl receiverI (by obtain ⟨s1, s2, s3, s4, s5, s6⟩ := tt; simp [Value.oneCell', RC.cells]) ?_; intro w25 h g; have HC25 := Lib.hid h; have HG25 := Lib.hid g; have HD25 := Lib.hid (HD24.out.apart g (by omega)); clear h g)
            | (refine wpList_store_blk rfl 45 (.tmp 15) (.tmp 85) rfl (gw + 1) 45 #[.slice none 0 0, .bool false, .int .u64 0] #[.slice X2 x2 y2, .bool uu.fin, .int .u64 uu.cnt] rfl rfl HD25.out rfl batchI2 (by simp [Value.oneCell']) ?_; intro w26 h g; have HD26 := Lib.hid h; have HG26 := Lib.hid g; have HC26 := Lib.hid (HC25.out.apart g (by omega)); clear h g))
           have hs25 := HG25.out.size
           have hs26 := HG26.out.size
           have hch := (((Chg.refl (fun k => k = gn ∨ k = gn + 1 ∨ k = gw ∨ k = gw + 1) w24).grown HG25.out (fun k e => .inl (.inr (.inr (.inl (by injection e with e; exact e.symm)))))).grown HG26.out (fun k e => .inl (.inr (.inr (.inr (by injection e with e; exact e.symm))))))
           have hcw := (Chg.of_below (X := fun k => k = gn ∨ k = gn + 1 ∨ k = gw ∨ k = gw + 1) HQ24.out).trans' hch (fun _ _ h => h)
           have hrec := HREC22.out.chg (G' := AllB) hcw (Nat.le_refl _) (fun b h => by omega) (fun k hk => ⟨fun h => by omega, trivial⟩)
           go_meet
           refine ⟨tt, uu, nn, A3, n3, c3, B3, m3, d3, X1, x1, y1, A4, n4, c4, B4, m4, d4, X2, x2, y2, w17.heap.size, w22.heap.size, ?_⟩
           exact { h1 := rfl, h2 := rfl, bn := (HA24.out.apart HG25.out (by omega)).apart HG26.out (by omega), bb := (HB24.out.apart HG25.out (by omega)).apart HG26.out (by omega), bw := HC26.out, bt := HD26.out, ra3 := hrec.ra, rb3 := hrec.rb, c3' := ⟨Nat.le_trans hrec.ca.1 hrec.ca.2, Nat.le_trans hrec.cb.1 hrec.cb.2⟩, rx1 := Lay.rd_weak (fun _ _ _ => trivial) (rd_chg HRX22.out hcw (fun b hb _ h => by omega)), cx1 := Nat.le_trans hx1 hx2, ra4 := Lay.rd_weak (fun b hb _ => by omega) (rd_chg HRA4.out hch (fun b hb _ h => by omega)), rb4 := Lay.rd_weak (fun b hb _ => by omega) (rd_chg HRB4.out hch (fun b hb _ h => by omega)), c4' := ⟨⟨hn4, hc4⟩, hm4, hd4⟩, rx2 := Lay.rd_weak (fun _ _ _ => trivial) (rd_chg HRX4.out hch (fun b hb _ h => by omega)), ma := hrec.ma, mb := hrec.mb, la := fun ad e => HLA22.out.1 ad e, lb := fun ad e => HLA22.out.2 ad e, l0 := Nat.le_refl _, l1 := ⟨by omega, by omega⟩, ch := HCH17.out.trans' hcw (fun _ _ h => h) }
      case rest =>
       obtain ⟨tt, uu, nn, A3, n3, c3, B3, m3, d3, X1, x1, y1, A4, n4, c4, B4, m4, d4, X2, x2, y2, N0, N1, ⟨rfl, rfl, bn, bb, bw, bt, ra3, rb3, hc3, rx1, cx1, ra4, rb4, hc4, rx2, ma, mb, la, lb, l0, l1, ch⟩⟩ := hcut
       have hsc := ch.size
       have HBN := Lib.hid bn
       have HBB := Lib.hid bb
       have HBW := Lib.hid bw
       have HBT := Lib.hid bt
       have HRA3 := Lib.hid ra3
       have HRB3 := Lib.hid rb3
       have HRX1 := Lib.hid rx1
       have HRA4 := Lib.hid ra4
       have HRB4 := Lib.hid rb4
       have HRX2 := Lib.hid rx2
       have HMA := Lib.hid (And.intro ma mb)
       have HLA3 := Lib.hid (And.intro la lb)
       have HSc := Lib.hid (HS17.out.chg ch (by omega))
       have HFc := Lib.hid (HF17.out.chg ch (by omega))
       have HRAc := Lib.hid (rd_chg HRA17.out ch (fun b hb _ h => by omega))
       have HRBc := Lib.hid (rd_chg HRB17.out ch (fun b hb _ h => by omega))
       have HWAc := Lib.hid (rd_chg HWA17.out ch (fun b hb _ h => by omega))
       have HWBc := Lib.hid (rd_chg HWB17.out ch (fun b hb _ h => by omega))
       have HBc := Lib.hid (Chg.bel HB17.out ch (fun b hb h => by omega) HB17.out.size)
       clear bn bb bw bt ra3 rb3 rx1 ra4 rb4 rx2 ma mb la lb ch HS17 HF17 HRA17 HRB17 HWA17 HWB17 HB17 HA HBb HC2 HD1 HH17 HHR17
       go_upto_region 22 with fail
       refine wp_region_ps0 .text (S := fun _ _ w' => Below wc.heap.size wc w') (by kernel_rfl) ?spswg59 ?ppswg59
       case spswg59 =>
        exact (Below.refl wc.heap.size wc)
       refine Pz 0 (some 102) (.int .i64 (nn)) rfl rfl (by exact StepS.pure nP rfl fun _ => rfl) ?_
       try simp only [Act.put, sA, sZ, sS]
       refine Pz 1 (some 103) (.int .i64 (nn)) rfl rfl (by exact StepS.pure nP rfl fun _ => rfl) ?_
       try simp only [Act.put, sA, sZ, sS]
       refine Pz 2 (some 104) (.bool (false)) rfl rfl ?ywg59_62 ?rwg59_62
       case ywg59_62 =>
        refine StepS.pure nP (by rfl) (fun w9 => ?_)
        have e9 : (!decide (nn = nn)) = false := by simp
        rw [← e9]
        rfl
       try simp only [Act.put, sA, sZ, sS]
       refine Pz 3 (some 105) (.bool (false)) rfl rfl (by exact StepS.pure nP rfl fun _ => rfl) ?_
       try simp only [Act.put, sA, sZ, sS]
       refine Pz 4 (some 106) (.agg #[.int .u32 (tt.ses), .int .u64 (tt.next), .slice A3 n3 c3, .slice B3 m3 d3, .int .i64 (tt.room), .bool (tt.over)]) rfl rfl ?ywg59_64 ?rwg59_64
       case ywg59_64 =>
        refine StepS.read [] (by kernel_rfl) nP (by rfl) (fun L9 m9 w9 hSh hAt hDn hS => ?_)
        have hT : Below _ _ w9 := hS
        have x0 : w9.cell? ⟨gn, 0, none⟩ = some (.int .u32 (tt.ses)) := (HBN.out.ca hT).cell 0
        have x1 : w9.cell? ⟨gn, 1, none⟩ = some (.int .u64 (tt.next)) := (HBN.out.ca hT).cell 1
        have x2 : w9.cell? ⟨gn, 2, none⟩ = some (.slice A3 n3 c3) := (HBN.out.ca hT).cell 2
        have x3 : w9.cell? ⟨gn, 3, none⟩ = some (.slice B3 m3 d3) := (HBN.out.ca hT).cell 3
        have x4 : w9.cell? ⟨gn, 4, none⟩ = some (.int .i64 (tt.room)) := (HBN.out.ca hT).cell 4
        have x5 : w9.cell? ⟨gn, 5, none⟩ = some (.bool (tt.over)) := (HBN.out.ca hT).cell 5
        clear hT hS
        go_simp
        try rfl
       try simp only [Act.put, sA, sZ, sS]
       refine Pz 5 (some 107) (.agg #[.int .u32 (tt.ses), .int .u64 (tt.next), .slice A4 n4 c4, .slice B4 m4 d4, .int .i64 (tt.room), .bool (tt.over)]) rfl rfl ?ywg59_65 ?rwg59_65
       case ywg59_65 =>
        refine StepS.read [] (by kernel_rfl) nP (by rfl) (fun L9 m9 w9 hSh hAt hDn hS => ?_)
        have hT : Below _ _ w9 := hS
        have x0 : w9.cell? ⟨gw, 0, none⟩ = some (.int .u32 (tt.ses)) := (HBW.out.ca hT).cell 0
        have x1 : w9.cell? ⟨gw, 1, none⟩ = some (.int .u64 (tt.next)) := (HBW.out.ca hT).cell 1
        have x2 : w9.cell? ⟨gw, 2, none⟩ = some (.slice A4 n4 c4) := (HBW.out.ca hT).cell 2
        have x3 : w9.cell? ⟨gw, 3, none⟩ = some (.slice B4 m4 d4) := (HBW.out.ca hT).cell 3
        have x4 : w9.cell? ⟨gw, 4, none⟩ = some (.int .i64 (tt.room)) := (HBW.out.ca hT).cell 4
        have x5 : w9.cell? ⟨gw, 5, none⟩ = some (.bool (tt.over)) := (HBW.out.ca hT).cell 5
        clear hT hS
        go_simp
        try rfl
       try simp only [Act.put, sA, sZ, sS]
       refine Pz 6 (some 108) (.bool (true)) rfl rfl ?ywg59_66 ?rwg59_66
       case ywg59_66 =>
        refine StepS.call ?fwg59_66 ?awg59_66 [] (by kernel_rfl) (by rfl) (fun w9 => ?hwg59_66) (fun L9 m9 w9 hSh hAt hDn hS => ?cwg59_66)
        case hwg59_66 => go_simp; refine ⟨?_, ?_⟩ <;> rfl
        case cwg59_66 =>
         have hT : Below _ _ w9 := hS
         refine (rsameR_any AllB _ tt tt A3 n3 c3 B3 m3 d3 A4 n4 c4 B4 m4 d4 w9 (Lay.rd_below HRA3.out hT) (Lay.rd_below HRB3.out hT) (Lay.rd_below HRA4.out hT) (Lay.rd_below HRB4.out hT) hc3.1 hc3.2).mono ?_
         rintro e w8 ⟨rfl, q8⟩
         exact ⟨by rw [eqRC_same], bl_ca hT q8⟩
       try simp only [Act.put, sA, sZ, sS]
       refine Pz 7 (some 109) (.bool (false)) rfl rfl (by exact StepS.pure nP rfl fun _ => rfl) ?_
       try simp only [Act.put, sA, sZ, sS]
       refine Pz 8 (some 110) (.bool (false)) rfl rfl (by exact StepS.pure nP rfl fun _ => rfl) ?_
       try simp only [Act.put, sA, sZ, sS]
       refine Pz 9 (some 111) (.bool (false)) rfl rfl (by exact StepS.pure nP rfl fun _ => rfl) ?_
       try simp only [Act.put, sA, sZ, sS]
       refine Pz 10 (some 112) (.agg #[.slice X1 x1 y1, .bool (uu.fin), .int .u64 (uu.cnt)]) rfl rfl ?ywg59_70 ?rwg59_70
       case ywg59_70 =>
        refine StepS.read [] (by kernel_rfl) nP (by rfl) (fun L9 m9 w9 hSh hAt hDn hS => ?_)
        have hT : Below _ _ w9 := hS
        have x0 : w9.cell? ⟨gn + 1, 0, none⟩ = some (.slice X1 x1 y1) := (HBB.out.ca hT).cell 0
        have x1 : w9.cell? ⟨gn + 1, 1, none⟩ = some (.bool (uu.fin)) := (HBB.out.ca hT).cell 1
        have x2 : w9.cell? ⟨gn + 1, 2, none⟩ = some (.int .u64 (uu.cnt)) := (HBB.out.ca hT).cell 2
        clear hT hS
        go_simp
        try rfl
       try simp only [Act.put, sA, sZ, sS]
       refine Pz 11 (some 113) (.agg #[.slice X2 x2 y2, .bool (uu.fin), .int .u64 (uu.cnt)]) rfl rfl ?ywg59_71 ?rwg59_71
       case ywg59_71 =>
        refine StepS.read [] (by kernel_rfl) nP (by rfl) (fun L9 m9 w9 hSh hAt hDn hS => ?_)
        have hT : Below _ _ w9 := hS
        have x0 : w9.cell? ⟨gw + 1, 0, none⟩ = some (.slice X2 x2 y2) := (HBT.out.ca hT).cell 0
        have x1 : w9.cell? ⟨gw + 1, 1, none⟩ = some (.bool (uu.fin)) := (HBT.out.ca hT).cell 1
        have x2 : w9.cell? ⟨gw + 1, 2, none⟩ = some (.int .u64 (uu.cnt)) := (HBT.out.ca hT).cell 2
        clear hT hS
        go_simp
        try rfl
       try simp only [Act.put, sA, sZ, sS]
       refine Pz 12 (some 114) (.bool (true)) rfl rfl ?ywg59_72 ?rwg59_72
       case ywg59_72 =>
        refine StepS.call ?fwg59_72 ?awg59_72 [] (by kernel_rfl) (by rfl) (fun w9 => ?hwg59_72) (fun L9 m9 w9 hSh hAt hDn hS => ?cwg59_72)
        case hwg59_72 => go_simp; refine ⟨?_, ?_⟩ <;> rfl
        case cwg59_72 =>
         have hT : Below _ _ w9 := hS
         refine (rsameB_any AllB AllB uu uu X1 X2 x1 y1 x2 y2 w9 (Lay.rd_below HRX1.out hT) (Lay.rd_below HRX2.out hT) cx1).mono ?_
         rintro e w8 ⟨rfl, q8⟩
         exact ⟨congrArg (fun b => Ending.returned (Value.bool b)) ((eqBC_iff uu uu).2 rfl), bl_ca hT q8⟩
       try simp only [Act.put, sA, sZ, sS]
       refine Pz 13 (some 115) (.bool (false)) rfl rfl (by exact StepS.pure nP rfl fun _ => rfl) ?_
       try simp only [Act.put, sA, sZ, sS]
       refine Pz 14 (some 116) (.bool (false)) rfl rfl (by exact StepS.pure nP rfl fun _ => rfl) ?_
       try simp only [Act.put, sA, sZ, sS]
       refine Pz 15 (some 117) (.bool (false)) rfl rfl (by exact StepS.pure nP rfl fun _ => rfl) ?_
       try simp only [Act.put, sA, sZ, sS]
       refine Pz 16 (some 118) (.agg #[.int .u32 (r.ses), .int .u64 (r.next), .slice A n c, .slice B k d, .int .i64 (r.room), .bool (r.over)]) rfl rfl ?ywg59_76 ?rwg59_76
       case ywg59_76 =>
        refine StepS.read [] (by kernel_rfl) nP (by rfl) (fun L9 m9 w9 hSh hAt hDn hS => ?_)
        have hT : Below _ _ w9 := hS
        have x0 : w9.cell? ⟨g5, 0, none⟩ = some (.int .u32 (r.ses)) := (HSc.out.ca hT).cell 0
        have x1 : w9.cell? ⟨g5, 1, none⟩ = some (.int .u64 (r.next)) := (HSc.out.ca hT).cell 1
        have x2 : w9.cell? ⟨g5, 2, none⟩ = some (.slice A n c) := (HSc.out.ca hT).cell 2
        have x3 : w9.cell? ⟨g5, 3, none⟩ = some (.slice B k d) := (HSc.out.ca hT).cell 3
        have x4 : w9.cell? ⟨g5, 4, none⟩ = some (.int .i64 (r.room)) := (HSc.out.ca hT).cell 4
        have x5 : w9.cell? ⟨g5, 5, none⟩ = some (.bool (r.over)) := (HSc.out.ca hT).cell 5
        clear hT hS
        go_simp
        try rfl
       try simp only [Act.put, sA, sZ, sS]
       refine Pz 17 (some 119) (.agg #[.int .u32 (r.ses), .int .u64 (r.next), .slice A2 n2 c2, .slice B2 k2 d2, .int .i64 (r.room), .bool (r.over)]) rfl rfl ?ywg59_77 ?rwg59_77
       case ywg59_77 =>
        refine StepS.read [] (by kernel_rfl) nP (by rfl) (fun L9 m9 w9 hSh hAt hDn hS => ?_)
        have hT : Below _ _ w9 := hS
        have x0 : w9.cell? ⟨w8.heap.size, 0, none⟩ = some (.int .u32 (r.ses)) := (HFc.out.ca hT).cell 0
        have x1 : w9.cell? ⟨w8.heap.size, 1, none⟩ = some (.int .u64 (r.next)) := (HFc.out.ca hT).cell 1
        have x2 : w9.cell? ⟨w8.heap.size, 2, none⟩ = some (.slice A2 n2 c2) := (HFc.out.ca hT).cell 2
        have x3 : w9.cell? ⟨w8.heap.size, 3, none⟩ = some (.slice B2 k2 d2) := (HFc.out.ca hT).cell 3
        have x4 : w9.cell? ⟨w8.heap.size, 4, none⟩ = some (.int .i64 (r.room)) := (HFc.out.ca hT).cell 4
        have x5 : w9.cell? ⟨w8.heap.size, 5, none⟩ = some (.bool (r.over)) := (HFc.out.ca hT).cell 5
        clear hT hS
        go_simp
        try rfl
       try simp only [Act.put, sA, sZ, sS]
       refine Pz 18 (some 120) (.bool (true)) rfl rfl ?ywg59_78 ?rwg59_78
       case ywg59_78 =>
        refine StepS.call ?fwg59_78 ?awg59_78 [] (by kernel_rfl) (by rfl) (fun w9 => ?hwg59_78) (fun L9 m9 w9 hSh hAt hDn hS => ?cwg59_78)
        case hwg59_78 => go_simp; refine ⟨?_, ?_⟩ <;> rfl
        case cwg59_78 =>
         have hT : Below _ _ w9 := hS
         refine (rsameR_any _ _ r r A n c B k d A2 n2 c2 B2 k2 d2 w9 (Lay.rd_below HRAc.out hT) (Lay.rd_below HRBc.out hT) (Lay.rd_below HWAc.out hT) (Lay.rd_below HWBc.out hT) (by omega) (by omega)).mono ?_
         rintro e w8 ⟨rfl, q8⟩
         exact ⟨by rw [eqRC_same], bl_ca hT q8⟩
       try simp only [Act.put, sA, sZ, sS]
       refine Pz 19 (some 121) (.bool (false)) rfl rfl (by exact StepS.pure nP rfl fun _ => rfl) ?_
       try simp only [Act.put, sA, sZ, sS]
       refine Pz 20 (some 122) (.bool (false)) rfl rfl (by exact StepS.pure nP rfl fun _ => rfl) ?_
       try simp only [Act.put, sA, sZ, sS]
       refine Ps.done (by kernel_rfl) (fun wg59 hS => ?_) _
       have HT23 := Lib.hid (show Below wc.heap.size wc wg59 from hS)
       clear hS
       obtain ⟨w23, rfl⟩ : ∃ x, x = wg59 := ⟨_, rfl⟩
       have HSd := Lib.hid (HSc.out.ca HT23.out)
       have HFd := Lib.hid (HFc.out.ca HT23.out)
       have HWd := Lib.hid (HBW.out.ca HT23.out)
       have HNd := Lib.hid (HBN.out.ca HT23.out)
       have HRAd := Lib.hid (Lay.rd_below HRAc.out HT23.out)
       have HRBd := Lib.hid (Lay.rd_below HRBc.out HT23.out)
       have HWAd := Lib.hid (Lay.rd_below HWAc.out HT23.out)
       have HWBd := Lib.hid (Lay.rd_below HWBc.out HT23.out)
       have HRA5 := Lib.hid (Lay.rd_below HRA4.out HT23.out)
       have HRB5 := Lib.hid (Lay.rd_below HRB4.out HT23.out)
       have HL3 := Lib.hid (And.intro (Lay.rd_below HRA3.out HT23.out) (Lay.rd_below HRB3.out HT23.out))
       have HMD := Lib.hid (And.intro (HMA.out.1.ca HT23.out) (HMA.out.2.ca HT23.out))
       have HBd := Lib.hid (bl_ca HBc.out HT23.out)
       have hsd := HT23.out.size
       have HC := Lib.hid (recvC_any _ _ tt A4 n4 c4 B4 m4 d4 w23 HRA5.out HRB5.out hc4.1.1 hc4.1.2 hc4.2.1 hc4.2.2)
       clear HSc HFc HBW HBN HRAc HRBc HWAc HWBc HRA3 HRB3 HRA4 HRB4 HRX1 HRX2 HBB HBT HMA HBc HT23
       have y0 : w23.cell? ⟨gw, 0, none⟩ = some (.int .u32 (tt.ses)) := HWd.out.cell 0
       have y1 : w23.cell? ⟨gw, 1, none⟩ = some (.int .u64 (tt.next)) := HWd.out.cell 1
       have y2 : w23.cell? ⟨gw, 2, none⟩ = some (.slice A4 n4 c4) := HWd.out.cell 2
       have y3 : w23.cell? ⟨gw, 3, none⟩ = some (.slice B4 m4 d4) := HWd.out.cell 3
       have y4 : w23.cell? ⟨gw, 4, none⟩ = some (.int .i64 (tt.room)) := HWd.out.cell 4
       have y5 : w23.cell? ⟨gw, 5, none⟩ = some (.bool (tt.over)) := HWd.out.cell 5
       go_upto_region 24 with fail
       go_wp2_with fail
       clear y0 y1 y2 y3 y4 y5
       refine HC.out.mono ?_
       clear HC
       rintro e w24 ⟨A9, n9, c9, B9, m9, d9, rfl, hr9, hrb9, hn9, hc9, hm9, hd9, q9⟩
       have hs24 := q9.size
       have HW24 := Lib.hid (HWd.out.ca q9)
       have HQ24 := Lib.hid q9
       have HR9 := Lib.hid (And.intro hr9 hrb9)
       have HC9 := Lib.hid (And.intro (And.intro hn9 hc9) (And.intro hm9 hd9))
       clear q9 hr9 hrb9 hn9 hc9 hm9 hd9 HWd HRA5 HRB5
       go_upto_region 25 with (first | (refine wpList_store_blk rfl 36 (.tmp 14) (.tmp 124) rfl gw 36 _ ((recC tt).cells A9 n9 c9 B9 m9 d9) rfl rfl HW24.out rfl receiverI (by simp [RC.cells, Value.oneCell']) ?_; intro w25 h25 g25; have HW25 := Lib.hid h25; have HG25 := Lib.hid g25; clear h25 g25))
       have hs25 := HG25.out.size
       have HCH := Lib.hid ((Chg.of_below (X := fun k => k = gw) HQ24.out).grown HG25.out (fun k e => .inl (by injection e with e; exact e.symm)))
       have HS25 := Lib.hid (HSd.out.chg HCH.out (by omega))
       have HF25 := Lib.hid (HFd.out.chg HCH.out (by omega))
       have HN25 := Lib.hid (HNd.out.chg HCH.out (by omega))
       have HRA25 := Lib.hid (rd_chg HRAd.out HCH.out (fun b hb _ h => by omega))
       have HRB25 := Lib.hid (rd_chg HRBd.out HCH.out (fun b hb _ h => by omega))
       have HWA25 := Lib.hid (rd_chg HWAd.out HCH.out (fun b hb _ h => by omega))
       have HWB25 := Lib.hid (rd_chg HWBd.out HCH.out (fun b hb _ h => by omega))
       have HRA6 := Lib.hid (rd_grownH (Lay.rd_weak (G := fun k => k ≠ gw ∧ k ≠ g5 ∧ (k < N0 ∨ N1 ≤ k)) (fun b hb _ => by simp only [FX] at hb; omega) HR9.out.1) HG25.out (fun b hb => hb.1))
       have HRB6 := Lib.hid (rd_grownH (Lay.rd_weak (G := fun k => k ≠ gw ∧ k ≠ g5 ∧ (k < N0 ∨ N1 ≤ k)) (fun b hb _ => by simp only [FX] at hb; omega) HR9.out.2) HG25.out (fun b hb => hb.1))
       have HMD5 := Lib.hid (And.intro ((HMD.out.1.ca HQ24.out).grown HG25.out (by omega)) ((HMD.out.2.ca HQ24.out).grown HG25.out (by omega)))
       have HB25 := Lib.hid (Chg.bel HBd.out HCH.out (fun b hb h => by omega) HBd.out.size)
       clear HSd HFd HNd HRAd HRBd HWAd HWBd HR9 HMD HBd HG25 HQ24 HCH HW24
       have ya3 := HN25.out.cell 3
       go_wp2_with fail
       clear ya3
       obtain ⟨gi, rfl⟩ : ∃ g, g = gk := ⟨_, rfl⟩
       obtain ⟨wo, rfl⟩ : ∃ x, x = wr := ⟨_, rfl⟩
       go_loopg [128] m3 (fun g a wr => ∃ j : Nat, j + g = m3 ∧ a = .int .i64 j ∧ Chg (fun k => N0 ≤ k ∧ k < N1) w25 wr ∧ Mine wr N0 A3 (n3 * 4) ∧ Mine wr N0 B3 (m3 * 3))
       case atStart => exact ⟨0, by omega, rfl, Chg.refl _ _, HMD5.out.1, HMD5.out.2⟩
       case round =>
        obtain ⟨j, hjg, rfl, hch, hma, hmb⟩ := hrel
        have HMM := Lib.hid (And.intro hma hmb)
        have HCC := Lib.hid hch
        clear hma hmb hch
        by_cases hj : j < m3
        · have hj1 : (j : Int) < (m3 : Int) := by omega
          obtain ⟨ad, _, _, hb3, _⟩ := Lay.rd_at HL3.out.2 hj
          obtain ⟨g, o, had, hgn0, hgl, hth⟩ := HMM.out.2 ad hb3
          have hgn1 := HLA3.out.2 ad hb3
          subst had
          have hc := hth (j * 3 + 2) (by omega)
          rw [← Nat.add_assoc] at hc
          obtain ⟨v9, e3⟩ := Option.isSome_iff_exists.1 hc.1
          have f3 := hc.2
          clear hth hc
          have HB3 := Lib.hid hb3
          have y2 : wr.cell? ⟨gn, 3, none⟩ = some (.slice (some ⟨g, o, none⟩) m3 d3) := by rw [← HB3.out]; exact (HN25.out.chg HCC.out (by omega)).cell 3
          clear hb3
          go_wp2_with fail
          go_roundg (gk - 1)
          · exact ⟨j + 1, by omega, by go_num, HCC.out.set g (o + j * 3 + 2) (.int .u64 99) ⟨hgn0, hgn1⟩, HMM.out.1.set _ _ _, HMM.out.2.set _ _ _⟩
          · omega
        · obtain rfl : j = m3 := by omega
          have hj1 : (j : Int) ≤ (j : Int) := by omega
          have HN26 := Lib.hid (HN25.out.chg HCC.out (by omega))
          have ya2 := HN26.out.cell 2
          go_wp2_with fail
          clear ya2 hj hjg
          obtain ⟨w26, rfl⟩ : ∃ x, x = wr := ⟨_, rfl⟩
          go_loopg [140] n3 (fun g a wr => ∃ j : Nat, j + g = n3 ∧ a = .int .i64 j ∧ Chg (fun k => N0 ≤ k ∧ k < N1) w25 wr ∧ Mine wr N0 A3 (n3 * 4))
          case atStart => exact ⟨0, by omega, rfl, HCC.out, HMM.out.1⟩
          case round =>
           obtain ⟨p, hpg, rfl, hch, hma⟩ := hrel
           have HMX := Lib.hid hma
           have HCX := Lib.hid hch
           clear hma hch
           by_cases hp : p < n3
           · have hp1 : (p : Int) < (n3 : Int) := by omega
             obtain ⟨ad, _, _, hb3, _⟩ := Lay.rd_at HL3.out.1 hp
             obtain ⟨g, o, had, hgn0, hgl, hth⟩ := HMX.out ad hb3
             have hgn1 := HLA3.out.1 ad hb3
             subst had
             have hc := hth (p * 4) (by omega)
             obtain ⟨v9, e3⟩ := Option.isSome_iff_exists.1 hc.1
             have f3 := hc.2
             clear hth hc
             have HB3 := Lib.hid hb3
             have y2 : wr.cell? ⟨gn, 2, none⟩ = some (.slice (some ⟨g, o, none⟩) n3 c3) := by rw [← HB3.out]; exact (HN25.out.chg HCX.out (by omega)).cell 2
             clear hb3
             go_wp2_with fail
             go_roundg (gk - 1)
             · exact ⟨p + 1, by omega, by go_num, HCX.out.set g (o + p * 4) (.int .u64 99) ⟨hgn0, hgn1⟩, HMX.out.set _ _ _⟩
             · omega
           · obtain rfl : p = n3 := by omega
             have hp1 : (p : Int) ≤ (p : Int) := by omega
             have hs27 := HCX.out.size
             have HS27 := Lib.hid (HS25.out.chg HCX.out (by omega))
             have HF27 := Lib.hid (HF25.out.chg HCX.out (by omega))
             have HW27 := Lib.hid (HW25.out.chg HCX.out (by omega))
             have HRA27 := Lib.hid (rd_chg HRA25.out HCX.out (fun b hb _ h => by omega))
             have HRB27 := Lib.hid (rd_chg HRB25.out HCX.out (fun b hb _ h => by omega))
             have HWA27 := Lib.hid (rd_chg HWA25.out HCX.out (fun b hb _ h => by omega))
             have HWB27 := Lib.hid (rd_chg HWB25.out HCX.out (fun b hb _ h => by omega))
             have HRA7 := Lib.hid (rd_chg HRA6.out HCX.out (fun b hb _ h => by omega))
             have HRB7 := Lib.hid (rd_chg HRB6.out HCX.out (fun b hb _ h => by omega))
             have HB27 := Lib.hid (Chg.bel HB25.out HCX.out (fun b hb h => by omega) HB25.out.size)
             clear HS25 HF25 HW25 HN25 HN26 HRA25 HRB25 HWA25 HWB25 HRA6 HRB6 HB25 HCX HCC HMM HMX HMD5 HL3 HLA3 hpg hp
             go_upto_region 35 with fail
             refine wp_region_ps0 .text (S := fun _ _ w' => Below wr.heap.size wr w') (by kernel_rfl) ?spswg81 ?ppswg81
             case spswg81 =>
              exact (Below.refl wr.heap.size wr)
             refine Pz 0 (some 149) (.agg #[.int .u32 (r.ses), .int .u64 (r.next), .slice A n c, .slice B k d, .int .i64 (r.room), .bool (r.over)]) rfl rfl ?ywg81_82 ?rwg81_82
             case ywg81_82 =>
              refine StepS.read [] (by kernel_rfl) nP (by rfl) (fun L9 m9 w9 hSh hAt hDn hS => ?_)
              have hT : Below _ _ w9 := hS
              have x0 : w9.cell? ⟨g5, 0, none⟩ = some (.int .u32 (r.ses)) := (HS27.out.ca hT).cell 0
              have x1 : w9.cell? ⟨g5, 1, none⟩ = some (.int .u64 (r.next)) := (HS27.out.ca hT).cell 1
              have x2 : w9.cell? ⟨g5, 2, none⟩ = some (.slice A n c) := (HS27.out.ca hT).cell 2
              have x3 : w9.cell? ⟨g5, 3, none⟩ = some (.slice B k d) := (HS27.out.ca hT).cell 3
              have x4 : w9.cell? ⟨g5, 4, none⟩ = some (.int .i64 (r.room)) := (HS27.out.ca hT).cell 4
              have x5 : w9.cell? ⟨g5, 5, none⟩ = some (.bool (r.over)) := (HS27.out.ca hT).cell 5
              clear hT hS
              go_simp
              try rfl
             try simp only [Act.put, sA, sZ, sS]
             refine Pz 1 (some 150) (.agg #[.int .u32 (r.ses), .int .u64 (r.next), .slice A2 n2 c2, .slice B2 k2 d2, .int .i64 (r.room), .bool (r.over)]) rfl rfl ?ywg81_83 ?rwg81_83
             case ywg81_83 =>
              refine StepS.read [] (by kernel_rfl) nP (by rfl) (fun L9 m9 w9 hSh hAt hDn hS => ?_)
              have hT : Below _ _ w9 := hS
              have x0 : w9.cell? ⟨w8.heap.size, 0, none⟩ = some (.int .u32 (r.ses)) := (HF27.out.ca hT).cell 0
              have x1 : w9.cell? ⟨w8.heap.size, 1, none⟩ = some (.int .u64 (r.next)) := (HF27.out.ca hT).cell 1
              have x2 : w9.cell? ⟨w8.heap.size, 2, none⟩ = some (.slice A2 n2 c2) := (HF27.out.ca hT).cell 2
              have x3 : w9.cell? ⟨w8.heap.size, 3, none⟩ = some (.slice B2 k2 d2) := (HF27.out.ca hT).cell 3
              have x4 : w9.cell? ⟨w8.heap.size, 4, none⟩ = some (.int .i64 (r.room)) := (HF27.out.ca hT).cell 4
              have x5 : w9.cell? ⟨w8.heap.size, 5, none⟩ = some (.bool (r.over)) := (HF27.out.ca hT).cell 5
              clear hT hS
              go_simp
              try rfl
             try simp only [Act.put, sA, sZ, sS]
             refine Pz 2 (some 151) (.bool (true)) rfl rfl ?ywg81_84 ?rwg81_84
             case ywg81_84 =>
              refine StepS.call ?fwg81_84 ?awg81_84 [] (by kernel_rfl) (by rfl) (fun w9 => ?hwg81_84) (fun L9 m9 w9 hSh hAt hDn hS => ?cwg81_84)
              case hwg81_84 => go_simp; refine ⟨?_, ?_⟩ <;> rfl
              case cwg81_84 =>
               have hT : Below _ _ w9 := hS
               refine (rsameR_any _ _ r r A n c B k d A2 n2 c2 B2 k2 d2 w9 (Lay.rd_below HRA27.out hT) (Lay.rd_below HRB27.out hT) (Lay.rd_below HWA27.out hT) (Lay.rd_below HWB27.out hT) (by omega) (by omega)).mono ?_
               rintro e w8 ⟨rfl, q8⟩
               exact ⟨by rw [eqRC_same], bl_ca hT q8⟩
             try simp only [Act.put, sA, sZ, sS]
             refine Pz 3 (some 152) (.bool (false)) rfl rfl (by exact StepS.pure nP rfl fun _ => rfl) ?_
             try simp only [Act.put, sA, sZ, sS]
             refine Ps.done (by kernel_rfl) (fun wg81 hS => ?_) _
             have HT28 := Lib.hid (show Below wr.heap.size wr wg81 from hS)
             clear hS
             obtain ⟨w28, rfl⟩ : ∃ x, x = wg81 := ⟨_, rfl⟩
             have HS28 := Lib.hid (HS27.out.ca HT28.out)
             have HW28 := Lib.hid (HW27.out.ca HT28.out)
             have HRA28 := Lib.hid (Lay.rd_below HRA27.out HT28.out)
             have HRB28 := Lib.hid (Lay.rd_below HRB27.out HT28.out)
             have HRA8 := Lib.hid (Lay.rd_below HRA7.out HT28.out)
             have HRB8 := Lib.hid (Lay.rd_below HRB7.out HT28.out)
             have HB28 := Lib.hid (bl_ca HB27.out HT28.out)
             have hs28 := HT28.out.size
             clear HS27 HF27 HW27 HRA27 HRB27 HWA27 HWB27 HRA7 HRB7 HB27 HT28
             by_cases h0 : nn = 0
             · subst h0
               have y0 : w28.cell? ⟨gw, 0, none⟩ = some (.int .u32 ((recC tt).ses)) := HW28.out.cell 0
               have y1 : w28.cell? ⟨gw, 1, none⟩ = some (.int .u64 ((recC tt).next)) := HW28.out.cell 1
               have y2 : w28.cell? ⟨gw, 2, none⟩ = some (.slice A9 n9 c9) := HW28.out.cell 2
               have y3 : w28.cell? ⟨gw, 3, none⟩ = some (.slice B9 m9 d9) := HW28.out.cell 3
               have y4 : w28.cell? ⟨gw, 4, none⟩ = some (.int .i64 ((recC tt).room)) := HW28.out.cell 4
               have y5 : w28.cell? ⟨gw, 5, none⟩ = some (.bool ((recC tt).over)) := HW28.out.cell 5
               go_wp2_with (first | (refine wpList_store_blk rfl 36 (.tmp 5) (.tmp 155) rfl g5 36 _ ((recC tt).cells A9 n9 c9 B9 m9 d9) rfl rfl HS28.out rfl receiverI (by simp [RC.cells, Value.oneCell']) ?_; intro w29 h29 g29; have HS29 := Lib.hid h29; have HG29 := Lib.hid g29; clear h29 g29))
               go_roundg (gi - 1)
               · exact ⟨i + 1, recC tt, A9, n9, c9, B9, m9, d9, by omega, by omega, by go_num, HS29.out, Lay.rd_weak (fun b hb _ => hb.2.1) (rd_grownH HRA8.out HG29.out (fun b hb => hb.2.1)), Lay.rd_weak (fun b hb _ => hb.2.1) (rd_grownH HRB8.out HG29.out (fun b hb => hb.2.1)), HC9.out.1.1, HC9.out.1.2, HC9.out.2.1, HC9.out.2.2, HIDEM.out tt, bl_gr HB28.out HG29.out hwg⟩
               · omega
             · have he1 : (nn == 0) = false := by simpa using h0
               go_wp2_with fail
               go_roundg (gi - 1)
               · exact ⟨i + 1, r, A, n, c, B, k, d, by omega, by omega, by go_num, HS28.out, Lay.rd_weak (fun b hb _ => hb.1) HRA28.out, Lay.rd_weak (fun b hb _ => hb.1) HRB28.out, hnc, hcm, hkd, hdm, HID.out, HB28.out⟩
               · omega
  · obtain rfl : i = m := by omega
    have hi1 : (i : Int) ≤ (i : Int) := by omega
    go_wp2
    go_ret
    exact ⟨rfl, HBW.out⟩
end Go.Proofs.Ytojghgbaiiajfaa
