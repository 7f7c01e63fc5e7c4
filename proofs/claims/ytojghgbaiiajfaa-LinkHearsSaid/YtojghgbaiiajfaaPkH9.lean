/- bowspritlaw22.batch, packet, sender, batches. Conditions: the slices read so. -/
import Derived.Test.YtojghgbaiiajfaaPkH8
import Derived.Deep.Cut
namespace Go.Proofs.Ytojghgbaiiajfaa
open Go.RowKit
theorem batchI : (Try.prog.info? 45).map (·.size) = some 3 := by kernel_rfl
theorem packetI : (Try.prog.info? 47).map (·.size) = some 7 := by kernel_rfl
def batC (b : BC) : BC := ⟨rowsC b.rows, b.fin, b.cnt⟩
def batsC (l : List BC) : List BC := (l.take 9).map batC
def pakC (p : PK) : PK := ⟨p.kind, p.ses, p.seq, p.lim, batC p.b⟩
def senC (s : SC) : SC := ⟨s.ses, s.base, batsC s.q, s.sent, s.lim, s.timer, s.ended⟩

set_option maxRecDepth 100000 in
set_option maxHeartbeats 8000000 in
theorem batchC_any (F : Nat → Prop) (b : BC) (A : Option Addr) (n c : Nat) (w : World) (h : LR.rd w F A n b.rows) (hnc : n ≤ c) (hc : c ≤ 9223372036854775807) :
  Calls Try.prog 67 #[.agg (b.cells A n c)] w fun e w' => ∃ A2 k2 c2, e = .returned (.agg ((batC b).cells A2 k2 c2)) ∧ LR.rd w' (Since w w') A2 k2 (rowsC b.rows) ∧ k2 ≤ c2 ∧ c2 ≤ 9223372036854775807 ∧ Below w.heap.size w w' := by
 obtain ⟨rows, fin, cnt⟩ := b
 dsimp only at h
 have q1 := bl_al (Below.refl w.heap.size w) (.cells #[.slice A n c, .bool fin, .int .u64 cnt] 45)
 have q2 := bl_al q1 (.cells #[.slice none 0 0, .bool false, .int .u64 0] 45)
 have HC := Lib.hid (rowsC_any F A n c rows ((w.alloc (.cells #[.slice A n c, .bool fin, .int .u64 cnt] 45)).alloc (.cells #[.slice none 0 0, .bool false, .int .u64 0] 45)) (Lay.rd_below h q2) hnc hc)
 have HB1 := Lib.hid ((Blk.new w 45 #[.slice A n c, .bool fin, .int .u64 cnt]).alloc (.cells #[.slice none 0 0, .bool false, .int .u64 0] 45))
 have HB2 := Lib.hid (show Blk ((w.alloc (.cells #[.slice A n c, .bool fin, .int .u64 cnt] 45)).alloc (.cells #[.slice none 0 0, .bool false, .int .u64 0] 45)) (w.heap.size + 1) 45 #[.slice none 0 0, .bool false, .int .u64 0] from by have := Blk.new (w.alloc (.cells #[.slice A n c, .bool fin, .int .u64 cnt] 45)) 45 #[.slice none 0 0, .bool false, .int .u64 0]; simp only [World.size_alloc] at this; exact this)
 have HQ2 := Lib.hid q2
 have hs2 : ((w.alloc (.cells #[.slice A n c, .bool fin, .int .u64 cnt] 45)).alloc (.cells #[.slice none 0 0, .bool false, .int .u64 0] 45)).heap.size = w.heap.size + 2 := by simp only [World.size_alloc]
 have x0 := HB1.out.cell 0
 clear h q1 q2
 go_enter Try.func67, Try.ntmps67
 go_wp2_with fail
 clear x0
 generalize ((w.alloc (.cells #[.slice A n c, .bool fin, .int .u64 cnt] 45)).alloc (.cells #[.slice none 0 0, .bool false, .int .u64 0] 45)) = w2 at *
 refine HC.out.mono ?_
 rintro e w3 ⟨A2, k2, c2, rfl, ho, q3⟩
 have hcap := Lay.own_caps ho
 have b1 := HB1.out.ca q3
 have b2 := HB2.out.ca q3
 have hs3 := q3.size
 have hrd := Lay.rd_weak (fun b hb _ => (show w.heap.size + 2 ≤ b ∧ b < w3.heap.size from ⟨by have := hb.1; omega, hb.2⟩)) (Lay.own_rd (F := Since w2 w3) ho (fun b h1 h2 => ⟨h1, h2⟩) (fun b hb _ => hb))
 have z0 := b1.frozen 0
 have y0 := b1.cell 0
 have f1 : Blk (w3.setCell ⟨w.heap.size, 0, none⟩ (.slice A2 k2 c2)) w.heap.size 45 #[.slice A2 k2 c2, .bool fin, .int .u64 cnt] := b1.set_ 0 _
 have f2 := b2.far (p := ⟨w.heap.size, 0, none⟩) (by show w.heap.size + 1 ≠ w.heap.size; omega) (.slice A2 k2 c2)
 have hq := bl_ca HQ2.out q3
 have hsz : (w3.setCell ⟨w.heap.size, 0, none⟩ (.slice A2 k2 c2)).heap.size = w3.heap.size := by simp
 have hq2 := hq.setCell (p := ⟨w.heap.size, 0, none⟩) (Nat.le_refl _) (.slice A2 k2 c2)
 have hrd2 : LR.rd (w3.setCell ⟨w.heap.size, 0, none⟩ (.slice A2 k2 c2)) (fun b => w.heap.size + 2 ≤ b ∧ b < w3.heap.size) A2 k2 (rowsC rows) := Lay.rd_keep (fun b hb _ => Below.heap_setCell w3 ⟨w.heap.size, 0, none⟩ _ b (by show b ≠ w.heap.size; omega)) hrd
 have HF1 := Lib.hid f1
 have HF2 := Lib.hid f2
 have HQ4 := Lib.hid hq2
 have HR4 := Lib.hid hrd2
 have HSZ := Lib.hid hsz
 have HCP := Lib.hid hcap
 clear ho q3 b1 b2 hrd f1 f2 hq hq2 hrd2 hsz HC hcap
 go_upto_region 2 with fail
 clear z0 y0
 generalize w3.setCell ⟨w.heap.size, 0, none⟩ (.slice A2 k2 c2) = w4 at *
 go_wp2_with (first | (refine wpList_load_blk rfl 45 (.tmp 1) rfl w.heap.size rfl 45 _ _ HF1.out Try.underlying45 rfl batchI ?_) | (refine wpList_store_blk rfl 45 (.tmp 2) (.tmp 7) rfl (w.heap.size + 1) 45 _ #[.slice A2 k2 c2, .bool fin, .int .u64 cnt] rfl rfl HF2.out rfl batchI (by simp [Value.oneCell']) ?_; intro w5 h5 g5))
 have hs5 := g5.size
 refine bodyPost_ret (res1 Try.results67 rfl h5 Try.underlying45 rfl batchI) rfl ⟨A2, k2, c2, rfl, Lay.rd_weak (fun b hb _ => ⟨by omega, ?_⟩) (Lay.rd_keep (fun b hb hl => g5.block b hl (fun e => by injection e with e; omega)) HR4.out), HCP.out.1, HCP.out.2, bl_gr HQ4.out g5 (by omega)⟩
 rw [HSZ.out] at hs5
 omega

set_option maxRecDepth 100000 in
set_option maxHeartbeats 8000000 in
theorem batsC_any (F : Nat → Prop) (A : Option Addr) (m c : Nat) (l : List BC) (w : World) (h : LB3.rd w F A m l) (hmc : m ≤ c) (hc : c ≤ 9223372036854775807) :
  Calls Try.prog 51 #[.slice A m c] w fun e w' => ∃ A2 k2 c2, e = .returned (.slice A2 k2 c2) ∧ LB3.rd w' (Since w w') A2 k2 (batsC l) ∧ k2 ≤ c2 ∧ c2 ≤ 9223372036854775807 ∧ Below w.heap.size w w' := by
 have HC := Lib.hid (cutB F A m c 9 l w h hmc hc (by omega))
 rw [show ((9 : Nat) : Int) = 9 from rfl] at HC
 obtain ⟨kk, hkk⟩ : ∃ kk, kk = min m 9 := ⟨_, rfl⟩
 rw [← hkk] at HC
 have hkk9 : kk ≤ 9 := by omega
 obtain ⟨l5, hl5⟩ : ∃ l5, l5 = l.take 9 := ⟨_, rfl⟩
 rw [← hl5] at HC
 rw [show batsC l = l5.map batC from by rw [hl5]; rfl]
 clear h hmc hc hkk hl5
 go_enter Try.func51, Try.ntmps51
 go_wp2_with fail
 refine HC.out.mono ?_
 clear HC
 rintro e w1 ⟨A1, c1, rfl, ho1, q1⟩
 have HLN := Lib.hid (Lay.own_len ho1)
 have hcp := (Lay.own_caps ho1).1
 have HR1 := Lib.hid (Lay.own_rd (F := fun _ => True) ho1 (fun _ _ _ => trivial) (fun _ _ _ => trivial))
 have HQ1 := Lib.hid q1
 have hs1 := q1.size
 clear ho1 q1
 go_wp2_with fail
 go_loopg [3, 9] kk (fun g o s wr => ∃ (i c' : Nat) (A' : Option Addr), i + g = kk ∧ s = .int .i64 i ∧ o = .slice A' i c' ∧ LB3.own 45 wr w1.heap.size (Since w1 wr) A' i c' ((l5.map batC).take i) ∧ Below w1.heap.size w1 wr)
 case atStart => exact ⟨0, 0, none, by omega, rfl, rfl, by simpa using Lay.own_nil w1 w1.heap.size, Below.refl _ _⟩
 case round =>
  obtain ⟨i, c', A', hig, rfl, rfl, ho, bb⟩ := hrel
  have HO := Lib.hid ho
  have HBB := Lib.hid bb
  have hsr := bb.size
  by_cases hi : i < kk
  · have hi1 : (i : Int) < (kk : Int) := by omega
   obtain ⟨ad, ⟨rows, fin, cnt⟩, Ar, nr, cr, rfl, hri, sb⟩ := LB3_at (Lay.rd_below HR1.out bb) hi
   have e0 := sb.c0
   have e1 := sb.c1
   have e2 := sb.c2
   dsimp only at e0 e1 e2
   have HS := Lib.hid (show (l5.map batC).take (i + 1) = (l5.map batC).take i ++ [batC ⟨rows, fin, cnt⟩] from by rw [List.take_add_one, List.getElem?_map, hri]; rfl)
   have q5 := bl_al (Below.refl wr.heap.size wr) (.cells #[.slice Ar nr cr, .bool fin, .int .u64 cnt] 45)
   have HCV := Lib.hid (batchC_any _ ⟨rows, fin, cnt⟩ Ar nr cr _ (Lay.rd_below sb.rd q5) sb.nc sb.cm)
   have HQ5 := Lib.hid q5
   have HN := Lib.hid (Blk.new wr 45 #[.slice Ar nr cr, .bool fin, .int .u64 cnt])
   have x0 := HN.out.cell 0
   have x1 := HN.out.cell 1
   have x2 := HN.out.cell 2
   have hw5 : (wr.alloc (.cells #[.slice Ar nr cr, .bool fin, .int .u64 cnt] 45)).heap.size = wr.heap.size + 1 := by simp only [World.size_alloc]
   clear hri sb q5 ho bb
   go_upto_region 5 with fail
   clear e0 e1 e2
   go_wp2_with fail
   clear x0 x1 x2
   generalize wr.alloc (.cells #[.slice Ar nr cr, .bool fin, .int .u64 cnt] 45) = w5 at *
   refine HCV.out.mono ?_
   clear HCV
   rintro e w2 ⟨A2, k2, c2, rfl, hrd, hk2, hkc2, q2⟩
   have q52 := bl_ca HQ5.out q2
   have hs2 := q52.size
   have hs25 := q2.size
   have hob := fun b (e : (Value.slice A' i c').ownBlock = some b) => (by obtain ⟨_, _, _, hrow⟩ := HO.out; exact own_base' hrow b e : w1.heap.size ≤ b ∧ b < wr.heap.size)
   have hrep : LB3.rep w2 (fun b => Since w1 w2 b ∧ (Value.slice A' i c').ownBlock ≠ some b) (batC ⟨rows, fin, cnt⟩) #[.slice A2 k2 c2, .bool fin, .int .u64 cnt].toList := ⟨A2, k2, c2, rfl, hk2, hkc2, Lay.rd_weak (fun b hb _ => ⟨⟨by have := hb.1; omega, hb.2⟩, fun e => by have := (hob b e).2; have := hb.1; omega⟩) hrd⟩
   have ho2 := Lay.own_weak (G' := Since w1 w2) (fun b hb _ => ⟨hb.1, Nat.lt_of_lt_of_le hb.2 hs2⟩) (own_below2 HO.out q52)
   have ho3 := Lay.own_alloc ho2 (.cells #[.slice A2 k2 c2, .bool fin, .int .u64 cnt] 45)
   have hb2 := Blk.new w2 45 #[.slice A2 k2 c2, .bool fin, .int .u64 cnt]
   have hrep3 := LB3.keep (fun b hb hlt => Below.heap_alloc w2 (.cells #[.slice A2 k2 c2, .bool fin, .int .u64 cnt] 45) b hlt) hrep
   have b3 := bl_al (HBB.out.trans (q52.mono hsr)) (.cells #[.slice A2 k2 c2, .bool fin, .int .u64 cnt] 45)
   have hszz := b3.size
   have hGG : ∀ b, Since w1 w2 b → b < (w2.alloc (.cells #[.slice A2 k2 c2, .bool fin, .int .u64 cnt] 45)).heap.size := fun b hb => by have := hb.2; simp only [World.size_alloc]; omega
   clear hrep ho2 hrd hob
   go_wp2_with (at_builtin; refine wpList_appL (L := LB3) rfl (.tmp 13) (.tmp 16) 27 rfl (.agg #[.slice none 0 0, .bool false, .int .u64 0]) 3 40 Try.underlying27 infoB rfl rfl (by omega) w1.heap.size (Since w1 w2) A' i c' ((l5.map batC).take i) w2.heap.size 1 45 #[.slice A2 k2 c2, .bool fin, .int .u64 cnt] (batC ⟨rows, fin, cnt⟩) rfl rfl ho3 hb2 hrep3 hGG (by omega) (by simp only [maxLen]; omega) hszz ?_; intro A4 c4 w4 ho4 b4)
   have ho5 := Lay.own_weak (G' := Since w1 w4) (fun b hb hlt => ⟨hb.1, hlt⟩) ho4
   go_roundg (gk - 1)
   · exact ⟨i + 1, c4, A4, by omega, by go_num, rfl, by rw [HS.out]; exact ho5, b3.trans b4⟩
   · omega
  · obtain rfl : i = kk := by omega
   have hi1 : (i : Int) ≤ (i : Int) := by omega
   have e : (l5.map batC).take i = l5.map batC := List.take_of_length_le (by rw [List.length_map, HLN.out]; exact Nat.le_refl _)
   rw [e] at ho
   have hcap := Lay.own_caps ho
   have HF := Lib.hid (Lay.own_rd (F := Since w wr) ho (fun b h1 h2 => ⟨by omega, h2⟩) (fun b hb hl => ⟨by have := hb.1; omega, hl⟩))
   have HBF := Lib.hid (bl_ca HQ1.out bb)
   have HCAP := Lib.hid hcap
   clear e ho bb hcap
   go_wp2
   go_ret
   exact ⟨A', i, c', rfl, HF.out, HCAP.out.1, HCAP.out.2, HBF.out⟩

set_option maxRecDepth 100000 in
set_option maxHeartbeats 8000000 in
theorem senderC_any (F : Nat → Prop) (s : SC) (A : Option Addr) (n c : Nat) (w : World) (h : LB3.rd w F A n s.q) (hnc : n ≤ c) (hc : c ≤ 9223372036854775807) :
  Calls Try.prog 15 #[.agg (s.cells A n c)] w fun e w' => ∃ A2 k2 c2, e = .returned (.agg ((senC s).cells A2 k2 c2)) ∧ LB3.rd w' (Since w w') A2 k2 (batsC s.q) ∧ k2 ≤ c2 ∧ c2 ≤ 9223372036854775807 ∧ Below w.heap.size w w' := by
 obtain ⟨ses, base, q, sent, lim, timer, ended⟩ := s
 dsimp only at h
 have q1 := bl_al (Below.refl w.heap.size w) (.cells #[.int .u32 ses, .int .u64 base, .slice A n c, .int .u64 sent, .int .u64 lim, .int .i64 timer, .bool ended] 29)
 have q2 := bl_al q1 (.cells #[.int .u32 0, .int .u64 0, .slice none 0 0, .int .u64 0, .int .u64 0, .int .i64 0, .bool false] 29)
 have HC := Lib.hid (batsC_any F A n c q ((w.alloc (.cells #[.int .u32 ses, .int .u64 base, .slice A n c, .int .u64 sent, .int .u64 lim, .int .i64 timer, .bool ended] 29)).alloc (.cells #[.int .u32 0, .int .u64 0, .slice none 0 0, .int .u64 0, .int .u64 0, .int .i64 0, .bool false] 29)) (Lay.rd_below h q2) hnc hc)
 have HB1 := Lib.hid ((Blk.new w 29 #[.int .u32 ses, .int .u64 base, .slice A n c, .int .u64 sent, .int .u64 lim, .int .i64 timer, .bool ended]).alloc (.cells #[.int .u32 0, .int .u64 0, .slice none 0 0, .int .u64 0, .int .u64 0, .int .i64 0, .bool false] 29))
 have HB2 := Lib.hid (show Blk ((w.alloc (.cells #[.int .u32 ses, .int .u64 base, .slice A n c, .int .u64 sent, .int .u64 lim, .int .i64 timer, .bool ended] 29)).alloc (.cells #[.int .u32 0, .int .u64 0, .slice none 0 0, .int .u64 0, .int .u64 0, .int .i64 0, .bool false] 29)) (w.heap.size + 1) 29 #[.int .u32 0, .int .u64 0, .slice none 0 0, .int .u64 0, .int .u64 0, .int .i64 0, .bool false] from by have := Blk.new (w.alloc (.cells #[.int .u32 ses, .int .u64 base, .slice A n c, .int .u64 sent, .int .u64 lim, .int .i64 timer, .bool ended] 29)) 29 #[.int .u32 0, .int .u64 0, .slice none 0 0, .int .u64 0, .int .u64 0, .int .i64 0, .bool false]; simp only [World.size_alloc] at this; exact this)
 have HQ2 := Lib.hid q2
 have hs2 : ((w.alloc (.cells #[.int .u32 ses, .int .u64 base, .slice A n c, .int .u64 sent, .int .u64 lim, .int .i64 timer, .bool ended] 29)).alloc (.cells #[.int .u32 0, .int .u64 0, .slice none 0 0, .int .u64 0, .int .u64 0, .int .i64 0, .bool false] 29)).heap.size = w.heap.size + 2 := by simp only [World.size_alloc]
 have x2 := HB1.out.cell 2
 clear h q1 q2
 go_enter Try.func15, Try.ntmps15
 go_wp2_with fail
 clear x2
 generalize ((w.alloc (.cells #[.int .u32 ses, .int .u64 base, .slice A n c, .int .u64 sent, .int .u64 lim, .int .i64 timer, .bool ended] 29)).alloc (.cells #[.int .u32 0, .int .u64 0, .slice none 0 0, .int .u64 0, .int .u64 0, .int .i64 0, .bool false] 29)) = w2 at *
 refine HC.out.mono ?_
 rintro e w3 ⟨A2, k2, c2, rfl, ho1, ho2, ho3, q3⟩
 have ho := And.intro ho1 (And.intro ho2 ho3)
 have hcap := (And.intro ho.2.1 ho.2.2)
 have b1 := HB1.out.ca q3
 have b2 := HB2.out.ca q3
 have hs3 := q3.size
 have hrd := Lay.rd_weak (fun b hb _ => (show w.heap.size + 2 ≤ b ∧ b < w3.heap.size from ⟨by have := hb.1; omega, hb.2⟩)) ho.1
 have z0 := b1.frozen 2
 have y0 := b1.cell 2
 have f1 : Blk (w3.setCell ⟨w.heap.size, 2, none⟩ (.slice A2 k2 c2)) w.heap.size 29 #[.int .u32 ses, .int .u64 base, .slice A2 k2 c2, .int .u64 sent, .int .u64 lim, .int .i64 timer, .bool ended] := b1.set_ 2 _
 have f2 := b2.far (p := ⟨w.heap.size, 2, none⟩) (by show w.heap.size + 1 ≠ w.heap.size; omega) (.slice A2 k2 c2)
 have hq := bl_ca HQ2.out q3
 have hsz : (w3.setCell ⟨w.heap.size, 2, none⟩ (.slice A2 k2 c2)).heap.size = w3.heap.size := by simp
 have hq2 := hq.setCell (p := ⟨w.heap.size, 2, none⟩) (Nat.le_refl _) (.slice A2 k2 c2)
 have hrd2 : LB3.rd (w3.setCell ⟨w.heap.size, 2, none⟩ (.slice A2 k2 c2)) (fun b => w.heap.size + 2 ≤ b ∧ b < w3.heap.size) A2 k2 (batsC q) := Lay.rd_keep (fun b hb _ => Below.heap_setCell w3 ⟨w.heap.size, 2, none⟩ _ b (by show b ≠ w.heap.size; omega)) hrd
 have HF1 := Lib.hid f1
 have HF2 := Lib.hid f2
 have HQ4 := Lib.hid hq2
 have HR4 := Lib.hid hrd2
 have HSZ := Lib.hid hsz
 have HCP := Lib.hid hcap
 clear ho ho1 ho2 ho3 q3 b1 b2 hrd f1 f2 hq hq2 hrd2 hsz HC hcap
 go_upto_region 2 with fail
 clear z0 y0
 generalize w3.setCell ⟨w.heap.size, 2, none⟩ (.slice A2 k2 c2) = w4 at *
 go_wp2_with (first | (refine wpList_load_blk rfl 29 (.tmp 1) rfl w.heap.size rfl 29 _ _ HF1.out Try.underlying29 rfl senderI ?_) | (refine wpList_store_blk rfl 29 (.tmp 2) (.tmp 7) rfl (w.heap.size + 1) 29 _ #[.int .u32 ses, .int .u64 base, .slice A2 k2 c2, .int .u64 sent, .int .u64 lim, .int .i64 timer, .bool ended] rfl rfl HF2.out rfl senderI (by simp [Value.oneCell']) ?_; intro w5 h5 g5))
 have hs5 := g5.size
 refine bodyPost_ret (res1 Try.results15 rfl h5 Try.underlying29 rfl senderI) rfl ⟨A2, k2, c2, rfl, Lay.rd_weak (fun b hb _ => ⟨by omega, ?_⟩) (Lay.rd_keep (fun b hb hl => g5.block b hl (fun e => by injection e with e; omega)) HR4.out), HCP.out.1, HCP.out.2, bl_gr HQ4.out g5 (by omega)⟩
 rw [HSZ.out] at hs5
 omega

set_option maxRecDepth 100000 in
set_option maxHeartbeats 8000000 in
theorem packetC_any (F : Nat → Prop) (p : PK) (A : Option Addr) (n c : Nat) (w : World) (h : LR.rd w F A n p.b.rows) (hnc : n ≤ c) (hc : c ≤ 9223372036854775807) :
  Calls Try.prog 26 #[.agg (p.cells A n c)] w fun e w' => ∃ A2 k2 c2, e = .returned (.agg ((pakC p).cells A2 k2 c2)) ∧ LR.rd w' (Since w w') A2 k2 (rowsC p.b.rows) ∧ k2 ≤ c2 ∧ c2 ≤ 9223372036854775807 ∧ Below w.heap.size w w' := by
 obtain ⟨kind, ses, seq, lim, rows, fin, cnt⟩ := p
 dsimp only at h
 have q1 := bl_al (Below.refl w.heap.size w) (.cells #[.int .i64 kind, .int .u32 ses, .int .u64 seq, .int .u64 lim, .slice A n c, .bool fin, .int .u64 cnt] 47)
 have q2 := bl_al q1 (.cells #[.int .i64 0, .int .u32 0, .int .u64 0, .int .u64 0, .slice none 0 0, .bool false, .int .u64 0] 47)
 have HC := Lib.hid (batchC_any F ⟨rows, fin, cnt⟩ A n c ((w.alloc (.cells #[.int .i64 kind, .int .u32 ses, .int .u64 seq, .int .u64 lim, .slice A n c, .bool fin, .int .u64 cnt] 47)).alloc (.cells #[.int .i64 0, .int .u32 0, .int .u64 0, .int .u64 0, .slice none 0 0, .bool false, .int .u64 0] 47)) (Lay.rd_below h q2) hnc hc)
 have HB1 := Lib.hid ((Blk.new w 47 #[.int .i64 kind, .int .u32 ses, .int .u64 seq, .int .u64 lim, .slice A n c, .bool fin, .int .u64 cnt]).alloc (.cells #[.int .i64 0, .int .u32 0, .int .u64 0, .int .u64 0, .slice none 0 0, .bool false, .int .u64 0] 47))
 have HB2 := Lib.hid (show Blk ((w.alloc (.cells #[.int .i64 kind, .int .u32 ses, .int .u64 seq, .int .u64 lim, .slice A n c, .bool fin, .int .u64 cnt] 47)).alloc (.cells #[.int .i64 0, .int .u32 0, .int .u64 0, .int .u64 0, .slice none 0 0, .bool false, .int .u64 0] 47)) (w.heap.size + 1) 47 #[.int .i64 0, .int .u32 0, .int .u64 0, .int .u64 0, .slice none 0 0, .bool false, .int .u64 0] from by have := Blk.new (w.alloc (.cells #[.int .i64 kind, .int .u32 ses, .int .u64 seq, .int .u64 lim, .slice A n c, .bool fin, .int .u64 cnt] 47)) 47 #[.int .i64 0, .int .u32 0, .int .u64 0, .int .u64 0, .slice none 0 0, .bool false, .int .u64 0]; simp only [World.size_alloc] at this; exact this)
 have HQ2 := Lib.hid q2
 have hs2 : ((w.alloc (.cells #[.int .i64 kind, .int .u32 ses, .int .u64 seq, .int .u64 lim, .slice A n c, .bool fin, .int .u64 cnt] 47)).alloc (.cells #[.int .i64 0, .int .u32 0, .int .u64 0, .int .u64 0, .slice none 0 0, .bool false, .int .u64 0] 47)).heap.size = w.heap.size + 2 := by simp only [World.size_alloc]
 have x4 := HB1.out.cell 4
 have x5 := HB1.out.cell 5
 have x6 := HB1.out.cell 6
 clear h q1 q2
 go_enter Try.func26, Try.ntmps26
 go_wp2_with fail
 clear x4 x5 x6
 generalize ((w.alloc (.cells #[.int .i64 kind, .int .u32 ses, .int .u64 seq, .int .u64 lim, .slice A n c, .bool fin, .int .u64 cnt] 47)).alloc (.cells #[.int .i64 0, .int .u32 0, .int .u64 0, .int .u64 0, .slice none 0 0, .bool false, .int .u64 0] 47)) = w2 at *
 refine HC.out.mono ?_
 rintro e w3 ⟨A2, k2, c2, rfl, hr, hk2, hkc2, q3⟩
 have hs3 := q3.size
 have HK1 := Lib.hid (HB1.out.ca q3)
 have HK2 := Lib.hid (HB2.out.ca q3)
 have HQ3 := Lib.hid (bl_ca HQ2.out q3)
 have HR3 := Lib.hid hr
 clear hr q3 HC
 go_wp2_with (first | (refine wpList_store_part rfl 45 (.tmp 6) (.tmp 5) rfl w.heap.size 4 47 #[.int .i64 kind, .int .u32 ses, .int .u64 seq, .int .u64 lim, .slice A n c, .bool fin, .int .u64 cnt] #[.slice A2 k2 c2, .bool fin, .int .u64 cnt] #[.int .i64 kind, .int .u32 ses, .int .u64 seq, .int .u64 lim, .slice A2 k2 c2, .bool fin, .int .u64 cnt] rfl rfl HK1.out (by simp) batchI (by simp [Value.oneCell']) rfl ?_; intro w4 f1 g4; have HF1 := Lib.hid f1; have HF2 := Lib.hid (HK2.out.grown g4 (by simp)); have HG4 := Lib.hid g4; clear f1 g4) | (refine wpList_load_blk rfl 47 (.tmp 1) rfl w.heap.size rfl 47 _ _ HF1.out Try.underlying47 rfl packetI ?_) | (refine wpList_store_blk rfl 47 (.tmp 2) (.tmp 7) rfl (w.heap.size + 1) 47 _ #[.int .i64 kind, .int .u32 ses, .int .u64 seq, .int .u64 lim, .slice A2 k2 c2, .bool fin, .int .u64 cnt] rfl rfl HF2.out rfl packetI (by simp [Value.oneCell']) ?_; intro w5 h5 g5))
 have hs5 := g5.size
 have hs4 := HG4.out.size
 have hrr := Lay.rd_keep (fun b hb hl => HG4.out.block b hl (fun e => by injection e with e; have := hb.1; omega)) HR3.out
 have hrr2 := Lay.rd_keep (fun b hb hl => g5.block b hl (fun e => by injection e with e; have := hb.1; omega)) hrr
 exact bodyPost_ret (res1 Try.results26 rfl h5 Try.underlying47 rfl packetI) rfl ⟨A2, k2, c2, rfl, Lay.rd_weak (fun b hb _ => ⟨by have := hb.1; omega, by have := hb.2; omega⟩) hrr2, hk2, hkc2, bl_gr (bl_gr HQ3.out HG4.out (by omega)) g5 (by omega)⟩

end Go.Proofs.Ytojghgbaiiajfaa
/- (Heard).packet of bowspritlaw22: what a receiver hears. Conditions: the rows read so. -/
namespace Go.Proofs.Ytojghgbaiiajfaa
open Go.RowKit
theorem SeqN.one0L {k1 : Nat} {B : Nat → (Nat → Value) → World → Prop} {L : Array Bool} {m : Nat → Value} {w : World} (h1 : Dn L k1 = false) (hS : SeqN [k1] B L m w) : B 0 m w := by
 unfold SeqN cntD cntD at hS
 rw [h1] at hS
 exact hS
structure HD where
 take : Bool
 near : Bool
 pk : PK
def HD.cells (a : HD) (pA : Option Addr) (pn pc : Nat) : Array Value := #[.bool a.take, .bool a.near, .int .i64 a.pk.kind, .int .u32 a.pk.ses, .int .u64 a.pk.seq, .int .u64 a.pk.lim, .slice pA pn pc, .bool a.pk.b.fin, .int .u64 a.pk.b.cnt]
def nearH (r : RC) (p : PK) : PK := ⟨1, r.ses, IntKind.u64.wrap (r.next + Int.tmod p.seq 10), 0, if p.b.fin then ⟨[], true, IntKind.u64.wrap (IntKind.u64.wrap (r.next + Int.tmod p.seq 10) - 1)⟩ else p.b⟩
def hePk (a : HD) (r : RC) : PK := if a.near then nearH r (pakC a.pk) else pakC a.pk
set_option maxRecDepth 100000 in
set_option maxHeartbeats 16000000 in
theorem hepk_any (Fr : Nat → Prop) (a : HD) (r : RC) (pA : Option Addr) (pn pc : Nat) (A : Option Addr) (n c : Nat) (B : Option Addr) (m d : Nat) (w : World) (hr : LR.rd w Fr pA pn a.pk.b.rows) (hpc : pn ≤ pc) (hpm : pc ≤ 9223372036854775807) :
  Calls Try.prog 36 #[.agg (a.cells pA pn pc), .agg (r.cells A n c B m d)] w fun e w' => ∃ A2 k2 c2, e = .returned (.agg ((hePk a r).cells A2 k2 c2)) ∧ LR.rd w' (Since w w') A2 k2 (hePk a r).b.rows ∧ k2 ≤ c2 ∧ c2 ≤ 9223372036854775807 ∧ Below w.heap.size w w' := by
 obtain ⟨take, near, ⟨kind, ses, seq, lim, ⟨prows, fin, cnt⟩⟩⟩ := a
 obtain ⟨rses, rnext, rahead, rbuf, rroom, rover⟩ := r
 dsimp only at hr
 have q1 := bl_al (Below.refl w.heap.size w) (.cells #[.bool take, .bool near, .int .i64 kind, .int .u32 ses, .int .u64 seq, .int .u64 lim, .slice pA pn pc, .bool fin, .int .u64 cnt] 71)
 have q2 := bl_al q1 (.cells #[.int .u32 rses, .int .u64 rnext, .slice A n c, .slice B m d, .int .i64 rroom, .bool rover] 36)
 have q3 := bl_al q2 (.cells #[.int .i64 0, .int .u32 0, .int .u64 0, .int .u64 0, .slice none 0 0, .bool false, .int .u64 0] 47)
 have HC := Lib.hid (packetC_any Fr ⟨kind, ses, seq, lim, ⟨prows, fin, cnt⟩⟩ pA pn pc (((w.alloc (.cells #[.bool take, .bool near, .int .i64 kind, .int .u32 ses, .int .u64 seq, .int .u64 lim, .slice pA pn pc, .bool fin, .int .u64 cnt] 71)).alloc (.cells #[.int .u32 rses, .int .u64 rnext, .slice A n c, .slice B m d, .int .i64 rroom, .bool rover] 36)).alloc (.cells #[.int .i64 0, .int .u32 0, .int .u64 0, .int .u64 0, .slice none 0 0, .bool false, .int .u64 0] 47)) (Lay.rd_below hr q3) hpc hpm)
 have HB1 := Lib.hid (((Blk.new w 71 #[.bool take, .bool near, .int .i64 kind, .int .u32 ses, .int .u64 seq, .int .u64 lim, .slice pA pn pc, .bool fin, .int .u64 cnt]).alloc (.cells #[.int .u32 rses, .int .u64 rnext, .slice A n c, .slice B m d, .int .i64 rroom, .bool rover] 36)).alloc (.cells #[.int .i64 0, .int .u32 0, .int .u64 0, .int .u64 0, .slice none 0 0, .bool false, .int .u64 0] 47))
 have HB2 := Lib.hid (show Blk (((w.alloc (.cells #[.bool take, .bool near, .int .i64 kind, .int .u32 ses, .int .u64 seq, .int .u64 lim, .slice pA pn pc, .bool fin, .int .u64 cnt] 71)).alloc (.cells #[.int .u32 rses, .int .u64 rnext, .slice A n c, .slice B m d, .int .i64 rroom, .bool rover] 36)).alloc (.cells #[.int .i64 0, .int .u32 0, .int .u64 0, .int .u64 0, .slice none 0 0, .bool false, .int .u64 0] 47)) (w.heap.size + 1) 36 #[.int .u32 rses, .int .u64 rnext, .slice A n c, .slice B m d, .int .i64 rroom, .bool rover] from by have := (Blk.new (w.alloc (.cells #[.bool take, .bool near, .int .i64 kind, .int .u32 ses, .int .u64 seq, .int .u64 lim, .slice pA pn pc, .bool fin, .int .u64 cnt] 71)) 36 #[.int .u32 rses, .int .u64 rnext, .slice A n c, .slice B m d, .int .i64 rroom, .bool rover]).alloc (.cells #[.int .i64 0, .int .u32 0, .int .u64 0, .int .u64 0, .slice none 0 0, .bool false, .int .u64 0] 47); simp only [World.size_alloc] at this; exact this)
 have HB3 := Lib.hid (show Blk (((w.alloc (.cells #[.bool take, .bool near, .int .i64 kind, .int .u32 ses, .int .u64 seq, .int .u64 lim, .slice pA pn pc, .bool fin, .int .u64 cnt] 71)).alloc (.cells #[.int .u32 rses, .int .u64 rnext, .slice A n c, .slice B m d, .int .i64 rroom, .bool rover] 36)).alloc (.cells #[.int .i64 0, .int .u32 0, .int .u64 0, .int .u64 0, .slice none 0 0, .bool false, .int .u64 0] 47)) (w.heap.size + 2) 47 #[.int .i64 0, .int .u32 0, .int .u64 0, .int .u64 0, .slice none 0 0, .bool false, .int .u64 0] from by have := Blk.new ((w.alloc (.cells #[.bool take, .bool near, .int .i64 kind, .int .u32 ses, .int .u64 seq, .int .u64 lim, .slice pA pn pc, .bool fin, .int .u64 cnt] 71)).alloc (.cells #[.int .u32 rses, .int .u64 rnext, .slice A n c, .slice B m d, .int .i64 rroom, .bool rover] 36)) 47 #[.int .i64 0, .int .u32 0, .int .u64 0, .int .u64 0, .slice none 0 0, .bool false, .int .u64 0]; simp only [World.size_alloc] at this; exact this)
 have HQ3 := Lib.hid q3
 have hs3 : (((w.alloc (.cells #[.bool take, .bool near, .int .i64 kind, .int .u32 ses, .int .u64 seq, .int .u64 lim, .slice pA pn pc, .bool fin, .int .u64 cnt] 71)).alloc (.cells #[.int .u32 rses, .int .u64 rnext, .slice A n c, .slice B m d, .int .i64 rroom, .bool rover] 36)).alloc (.cells #[.int .i64 0, .int .u32 0, .int .u64 0, .int .u64 0, .slice none 0 0, .bool false, .int .u64 0] 47)).heap.size = w.heap.size + 3 := by simp only [World.size_alloc]
 have x2 := HB1.out.cell 2
 have x3 := HB1.out.cell 3
 have x4 := HB1.out.cell 4
 have x5 := HB1.out.cell 5
 have x6 := HB1.out.cell 6
 have x7 := HB1.out.cell 7
 have x8 := HB1.out.cell 8
 clear hr q1 q2 q3
 show Calls Try.prog 36 #[.agg #[.bool take, .bool near, .int .i64 kind, .int .u32 ses, .int .u64 seq, .int .u64 lim, .slice pA pn pc, .bool fin, .int .u64 cnt], .agg #[.int .u32 rses, .int .u64 rnext, .slice A n c, .slice B m d, .int .i64 rroom, .bool rover]] w _
 go_enter Try.func36, Try.ntmps36
 go_wp2_with fail
 clear x2 x3 x4 x5 x6 x7 x8
 generalize (((w.alloc (.cells #[.bool take, .bool near, .int .i64 kind, .int .u32 ses, .int .u64 seq, .int .u64 lim, .slice pA pn pc, .bool fin, .int .u64 cnt] 71)).alloc (.cells #[.int .u32 rses, .int .u64 rnext, .slice A n c, .slice B m d, .int .i64 rroom, .bool rover] 36)).alloc (.cells #[.int .i64 0, .int .u32 0, .int .u64 0, .int .u64 0, .slice none 0 0, .bool false, .int .u64 0] 47)) = w3 at *
 refine HC.out.mono ?_
 rintro e w4 ⟨A2, k2, c2, rfl, hr4, hk2, hkc2, q4⟩
 have hs4 := q4.size
 have HK1 := Lib.hid (HB1.out.ca q4)
 have HK2 := Lib.hid (HB2.out.ca q4)
 have HK3 := Lib.hid (HB3.out.ca q4)
 have HQ4 := Lib.hid (bl_ca HQ3.out q4)
 have HR4 := Lib.hid hr4
 have HCP := Lib.hid (And.intro hk2 hkc2)
 clear hr4 q4 HC hk2 hkc2
 have hl1 := HK1.out.lt
 have hl3 := HK3.out.lt
 have HN := Lib.hid (Blk.new w4 47 #[.int .i64 0, .int .u32 0, .int .u64 0, .int .u64 0, .slice none 0 0, .bool false, .int .u64 0])
 have HL1 := Lib.hid (HK1.out.alloc (.cells #[.int .i64 0, .int .u32 0, .int .u64 0, .int .u64 0, .slice none 0 0, .bool false, .int .u64 0] 47))
 have HBN := Lib.hid (bl_al (Below.refl w4.heap.size w4) (.cells #[.int .i64 0, .int .u32 0, .int .u64 0, .int .u64 0, .slice none 0 0, .bool false, .int .u64 0] 47))
 cases near
 · go_wp2_with (first | (refine wpList_store_blk rfl 47 (.tmp 5) (.tmp 8) rfl w4.heap.size 47 #[.int .i64 0, .int .u32 0, .int .u64 0, .int .u64 0, .slice none 0 0, .bool false, .int .u64 0] #[.int .i64 kind, .int .u32 ses, .int .u64 seq, .int .u64 lim, .slice A2 k2 c2, .bool fin, .int .u64 cnt] rfl rfl HN.out rfl packetI (by simp [Value.oneCell']) ?_; intro w5 h5 g5; have HF5 := Lib.hid h5; have x9 := (HL1.out.apart g5 (by omega)).cell 1; have HB5 := Lib.hid (bl_gr HBN.out g5 (Nat.le_refl _)); clear h5 g5) | (refine wpList_load_blk rfl 47 (.tmp 5) rfl w4.heap.size rfl 47 _ _ HF5.out Try.underlying47 rfl packetI ?_) | (refine wpList_store_blk rfl 47 (.tmp 4) (.tmp 31) rfl (w.heap.size + 2) 47 _ #[.int .i64 kind, .int .u32 ses, .int .u64 seq, .int .u64 lim, .slice A2 k2 c2, .bool fin, .int .u64 cnt] rfl rfl (HK3.out.ca HB5.out) rfl packetI (by simp [Value.oneCell']) ?_; intro w6 h6 g6))
  have hs6 := g6.size
  have hs5 := HB5.out.size
  exact bodyPost_ret (res1 Try.results36 rfl h6 Try.underlying47 rfl packetI) rfl ⟨A2, k2, c2, rfl, Lay.rd_weak (fun b hb _ => ⟨by have := hb.1; omega, by have := hb.2; omega⟩) (Lay.rd_keep (fun b hb hl => g6.block b hl (fun e => by injection e with e; have := hb.1; omega)) (Lay.rd_below HR4.out HB5.out)), HCP.out.1, HCP.out.2, bl_gr (bl_ca HQ4.out HB5.out) g6 (by omega)⟩
 · go_wp2_with (first | (refine wpList_store_blk rfl 47 (.tmp 5) (.tmp 8) rfl w4.heap.size 47 #[.int .i64 0, .int .u32 0, .int .u64 0, .int .u64 0, .slice none 0 0, .bool false, .int .u64 0] #[.int .i64 kind, .int .u32 ses, .int .u64 seq, .int .u64 lim, .slice A2 k2 c2, .bool fin, .int .u64 cnt] rfl rfl HN.out rfl packetI (by simp [Value.oneCell']) ?_; intro w5 h5 g5; have HF5 := Lib.hid h5; have x9 := (HL1.out.apart g5 (by omega)).cell 1; have HB5 := Lib.hid (bl_gr HBN.out g5 (Nat.le_refl _)); clear h5 g5))
  clear x9
  refine wp_region_ps (S := SeqN [3, 5, 7] (fun z _ w' => Below w4.heap.size w4 w' ∧ Blk w' w4.heap.size 47 (match z with | 0 => #[.int .i64 kind, .int .u32 ses, .int .u64 seq, .int .u64 lim, .slice A2 k2 c2, .bool fin, .int .u64 cnt] | 1 => #[.int .i64 1, .int .u32 ses, .int .u64 seq, .int .u64 lim, .slice A2 k2 c2, .bool fin, .int .u64 cnt] | 2 => #[.int .i64 1, .int .u32 rses, .int .u64 seq, .int .u64 lim, .slice A2 k2 c2, .bool fin, .int .u64 cnt] | _ => #[.int .i64 1, .int .u32 rses, .int .u64 seq, .int .u64 0, .slice A2 k2 c2, .bool fin, .int .u64 cnt]))) (by kernel_rfl) ?spswg1 ?ppswg1
  case spswg1 =>
   exact SeqN.start (by decide) ⟨HB5.out.drew, HF5.out.ca (Below.refl _ _).drew⟩
  refine Pz 0 (some 11) (.pointer (some ⟨(w.heap.size + 1), 0, none⟩)) rfl rfl (by exact StepS.pure (SeqN.pass (by decide)) rfl fun _ => rfl) ?_
  try simp only [Act.put, sA, sZ, sS]
  refine Pz 1 (some 12) (.int .u32 (rses)) rfl rfl ?ywg1_3 ?rwg1_3
  case ywg1_3 =>
   refine StepS.read [] (by kernel_rfl) (SeqN.pass (by decide)) (by rfl) (fun L9 m9 w9 hSh hAt hDn hS => ?_)
   have hT : Below w4.heap.size w4 w9 := SeqN.any (T := fun w9 => Below w4.heap.size w4 w9) (fun z _ _ h => h.1) hS
   have x0 : w9.cell? ⟨(w.heap.size + 1), 0, none⟩ = some (.int .u32 (rses)) := (HK2.out.ca hT).cell 0
   clear hT hS
   go_simp
   try rfl
  try simp only [Act.put, sA, sZ, sS]
  refine Pz 2 (some 13) (.pointer (some ⟨w4.heap.size, 0, none⟩)) rfl rfl (by exact StepS.pure (SeqN.pass (by decide)) rfl fun _ => rfl) ?_
  try simp only [Act.put, sA, sZ, sS]
  refine Pz 3 none undef rfl rfl ?ywg1_5 ?rwg1_5
  case ywg1_5 =>
   refine StepS.store [] (by kernel_rfl) (by rfl) (fun L9 m9 w9 hSh hAt hDn hS => ?_)
   obtain ⟨hT, hN⟩ := SeqN.at_ (m0 := m9) (m1 := m9) [] [5, 7] hSh (fun d hd => by cases hd) hDn (by kernel_rfl) hS
   have hN2 : Blk (w9.setCell ⟨w4.heap.size, 0, none⟩ (.int .i64 1)) w4.heap.size 47 #[.int .i64 1, .int .u32 ses, .int .u64 seq, .int .u64 lim, .slice A2 k2 c2, .bool fin, .int .u64 cnt] := by simpa using hN.set_ 0 (.int .i64 1)
   have x2 := hN.cell 0
   have fx := hN.frozen 0
   refine ⟨w9.setCell ⟨w4.heap.size, 0, none⟩ (.int .i64 1), ?_, SeqN.set_ (m0 := m9) (m1 := m9) [] [5, 7] hSh (fun d hd => by cases hd) hDn (by kernel_rfl) (by decide) (by decide) ⟨bl_set hT (Nat.le_refl _) _, hN2⟩⟩
   clear hT hN hN2 hS
   go_simp
  try simp only [Act.put]
  refine Pz 4 (some 14) (.pointer (some ⟨w4.heap.size, 1, none⟩)) rfl rfl (by exact StepS.pure (SeqN.pass (by decide)) rfl fun _ => rfl) ?_
  try simp only [Act.put, sA, sZ, sS]
  refine Pz 5 none undef rfl rfl ?ywg1_7 ?rwg1_7
  case ywg1_7 =>
   refine StepS.store [3] (by kernel_rfl) (by rfl) (fun L9 m9 w9 hSh hAt hDn hS => ?_)
   obtain ⟨hT, hN⟩ := SeqN.at_ [3] [7] hSh hAt hDn (by kernel_rfl) hS
   have hN2 : Blk (w9.setCell ⟨w4.heap.size, 1, none⟩ (.int .u32 rses)) w4.heap.size 47 #[.int .i64 1, .int .u32 rses, .int .u64 seq, .int .u64 lim, .slice A2 k2 c2, .bool fin, .int .u64 cnt] := by simpa using hN.set_ 1 (.int .u32 rses)
   have x2 := hN.cell 1
   have fx := hN.frozen 1
   refine ⟨w9.setCell ⟨w4.heap.size, 1, none⟩ (.int .u32 rses), ?_, SeqN.set_ [3] [7] hSh hAt hDn (by kernel_rfl) (by decide) (by decide) ⟨bl_set hT (Nat.le_refl _) _, hN2⟩⟩
   clear hT hN hN2 hS
   go_simp
  try simp only [Act.put]
  refine Pz 6 (some 15) (.pointer (some ⟨w4.heap.size, 3, none⟩)) rfl rfl (by exact StepS.pure (SeqN.pass (by decide)) rfl fun _ => rfl) ?_
  try simp only [Act.put, sA, sZ, sS]
  refine Pz 7 none undef rfl rfl ?ywg1_9 ?rwg1_9
  case ywg1_9 =>
   refine StepS.store [3, 5] (by kernel_rfl) (by rfl) (fun L9 m9 w9 hSh hAt hDn hS => ?_)
   obtain ⟨hT, hN⟩ := SeqN.at_ [3, 5] [] hSh hAt hDn (by kernel_rfl) hS
   have hN2 : Blk (w9.setCell ⟨w4.heap.size, 3, none⟩ (.int .u64 0)) w4.heap.size 47 #[.int .i64 1, .int .u32 rses, .int .u64 seq, .int .u64 0, .slice A2 k2 c2, .bool fin, .int .u64 cnt] := by simpa using hN.set_ 3 (.int .u64 0)
   have x2 := hN.cell 3
   have fx := hN.frozen 3
   refine ⟨w9.setCell ⟨w4.heap.size, 3, none⟩ (.int .u64 0), ?_, SeqN.set_ [3, 5] [] hSh hAt hDn (by kernel_rfl) (by decide) (by decide) ⟨bl_set hT (Nat.le_refl _) _, hN2⟩⟩
   clear hT hN hN2 hS
   go_simp
  try simp only [Act.put]
  refine Ps.done (by kernel_rfl) (fun wg1 hS => ?_) _
  obtain ⟨hT, hb⟩ := SeqN.fin (by rfl) hS
  clear hS HF5 HB5
  have HF6 := Lib.hid (show Blk wg1 w4.heap.size 47 #[.int .i64 1, .int .u32 rses, .int .u64 seq, .int .u64 0, .slice A2 k2 c2, .bool fin, .int .u64 cnt] from hb)
  have HB6 := Lib.hid hT
  clear hT hb
  obtain ⟨w6, rfl⟩ : ∃ x, x = wg1 := ⟨_, rfl⟩
  go_upto_region 4 with fail
  refine wp_region_ps0 .text (S := SeqN [7] (fun z _ w' => Below w4.heap.size w4 w' ∧ Blk w' w4.heap.size 47 (match z with | 0 => #[.int .i64 1, .int .u32 rses, .int .u64 seq, .int .u64 0, .slice A2 k2 c2, .bool fin, .int .u64 cnt] | _ => #[.int .i64 1, .int .u32 rses, .int .u64 (IntKind.u64.wrap (rnext + Int.tmod seq 10)), .int .u64 0, .slice A2 k2 c2, .bool fin, .int .u64 cnt]))) (by kernel_rfl) ?spswg10 ?ppswg10
  case spswg10 =>
   exact SeqN.start (by decide) ⟨HB6.out, HF6.out⟩
  refine Pz 0 (some 16) (.pointer (some ⟨(w.heap.size + 1), 1, none⟩)) rfl rfl (by exact StepS.pure (SeqN.pass (by decide)) rfl fun _ => rfl) ?_
  try simp only [Act.put, sA, sZ, sS]
  refine Pz 1 (some 17) (.int .u64 (rnext)) rfl rfl ?ywg10_12 ?rwg10_12
  case ywg10_12 =>
   refine StepS.read [] (by kernel_rfl) (SeqN.pass (by decide)) (by rfl) (fun L9 m9 w9 hSh hAt hDn hS => ?_)
   have hT : Below w4.heap.size w4 w9 := SeqN.any (T := fun w9 => Below w4.heap.size w4 w9) (fun z _ _ h => h.1) hS
   have x0 : w9.cell? ⟨(w.heap.size + 1), 1, none⟩ = some (.int .u64 (rnext)) := (HK2.out.ca hT).cell 1
   clear hT hS
   go_simp
   try rfl
  try simp only [Act.put, sA, sZ, sS]
  refine Pz 2 (some 18) (.pointer (some ⟨w4.heap.size, 2, none⟩)) rfl rfl (by exact StepS.pure (SeqN.pass (by decide)) rfl fun _ => rfl) ?_
  try simp only [Act.put, sA, sZ, sS]
  refine Pz 3 (some 19) (.int .u64 (seq)) rfl rfl ?ywg10_14 ?rwg10_14
  case ywg10_14 =>
   refine StepS.read [] (by kernel_rfl) (SeqN.pass (by decide)) (by rfl) (fun L9 m9 w9 hSh hAt hDn hS => ?_)
   have h0 := SeqN.one0L (reach_no hSh (f := 12) (j := 7) (by kernel_rfl) hDn) hS
   have x2 := h0.2.cell 2
   clear h0 hS
   go_simp
   try rfl
  try simp only [Act.put, sA, sZ, sS]
  refine Pz 4 (some 20) (.int .u64 (Int.tmod seq 10)) rfl rfl (by exact StepS.pure (SeqN.pass (by decide)) rfl fun _ => by first | rfl | (go_simp; done) | (go_simp; rfl)) ?_
  try simp only [Act.put, sA, sZ, sS]
  refine Pz 5 (some 21) (.int .u64 (IntKind.u64.wrap (rnext + (Int.tmod seq 10)))) rfl rfl (by exact StepS.pure (SeqN.pass (by decide)) rfl fun _ => rfl) ?_
  try simp only [Act.put, sA, sZ, sS]
  refine Pz 6 (some 22) (.pointer (some ⟨w4.heap.size, 2, none⟩)) rfl rfl (by exact StepS.pure (SeqN.pass (by decide)) rfl fun _ => rfl) ?_
  try simp only [Act.put, sA, sZ, sS]
  refine Pz 7 none undef rfl rfl ?ywg10_18 ?rwg10_18
  case ywg10_18 =>
   refine StepS.store [] (by kernel_rfl) (by rfl) (fun L9 m9 w9 hSh hAt hDn hS => ?_)
   obtain ⟨hT, hN⟩ := SeqN.at_ (m0 := m9) (m1 := m9) [] [] hSh (fun d hd => by cases hd) hDn (by kernel_rfl) hS
   have hN2 : Blk (w9.setCell ⟨w4.heap.size, 2, none⟩ (.int .u64 (IntKind.u64.wrap (rnext + Int.tmod seq 10)))) w4.heap.size 47 #[.int .i64 1, .int .u32 rses, .int .u64 (IntKind.u64.wrap (rnext + Int.tmod seq 10)), .int .u64 0, .slice A2 k2 c2, .bool fin, .int .u64 cnt] := by simpa using hN.set_ 2 (.int .u64 (IntKind.u64.wrap (rnext + Int.tmod seq 10)))
   have x2 := hN.cell 2
   have fx := hN.frozen 2
   refine ⟨w9.setCell ⟨w4.heap.size, 2, none⟩ (.int .u64 (IntKind.u64.wrap (rnext + Int.tmod seq 10))), ?_, SeqN.set_ (m0 := m9) (m1 := m9) [] [] hSh (fun d hd => by cases hd) hDn (by kernel_rfl) (by decide) (by decide) ⟨bl_set hT (Nat.le_refl _) _, hN2⟩⟩
   clear hT hN hN2 hS
   go_simp
  try simp only [Act.put]
  refine Ps.done (by kernel_rfl) (fun wg10 hS => ?_) _
  obtain ⟨hT, hb⟩ := SeqN.fin (by rfl) hS
  clear hS HF6 HB6
  have HF7 := Lib.hid (show Blk wg10 w4.heap.size 47 #[.int .i64 1, .int .u32 rses, .int .u64 (IntKind.u64.wrap (rnext + Int.tmod seq 10)), .int .u64 0, .slice A2 k2 c2, .bool fin, .int .u64 cnt] from hb)
  have HB7 := Lib.hid hT
  clear hT hb
  obtain ⟨w7, rfl⟩ : ∃ x, x = wg10 := ⟨_, rfl⟩
  have x2 := HF7.out.cell 2
  have x5 := HF7.out.cell 5
  have hs7 := HB7.out.size
  cases fin
  · go_wp2_with (first | (refine wpList_load_blk rfl 47 (.tmp 5) rfl w4.heap.size rfl 47 _ _ HF7.out Try.underlying47 rfl packetI ?_) | (refine wpList_store_blk rfl 47 (.tmp 4) (.tmp 31) rfl (w.heap.size + 2) 47 _ #[.int .i64 1, .int .u32 rses, .int .u64 (IntKind.u64.wrap (rnext + Int.tmod seq 10)), .int .u64 0, .slice A2 k2 c2, .bool false, .int .u64 cnt] rfl rfl (HK3.out.ca HB7.out) rfl packetI (by simp [Value.oneCell']) ?_; intro w8 h8 g8))
   have hs8 := g8.size
   exact bodyPost_ret (res1 Try.results36 rfl h8 Try.underlying47 rfl packetI) rfl ⟨A2, k2, c2, rfl, Lay.rd_weak (fun b hb _ => ⟨by have := hb.1; omega, by have := hb.2; omega⟩) (Lay.rd_keep (fun b hb hl => g8.block b hl (fun e => by injection e with e; have := hb.1; omega)) (Lay.rd_below HR4.out HB7.out)), HCP.out.1, HCP.out.2, bl_gr (bl_ca HQ4.out HB7.out) g8 (by omega)⟩
  · go_wp2_with (first | (refine wpList_store_part rfl 45 (.tmp 30) (.tmp 29) rfl w4.heap.size 4 47 #[.int .i64 1, .int .u32 rses, .int .u64 (IntKind.u64.wrap (rnext + Int.tmod seq 10)), .int .u64 0, .slice A2 k2 c2, .bool true, .int .u64 cnt] #[.slice none 0 0, .bool true, .int .u64 (IntKind.u64.wrap ((IntKind.u64.wrap (rnext + Int.tmod seq 10)) - 1))] #[.int .i64 1, .int .u32 rses, .int .u64 (IntKind.u64.wrap (rnext + Int.tmod seq 10)), .int .u64 0, .slice none 0 0, .bool true, .int .u64 (IntKind.u64.wrap ((IntKind.u64.wrap (rnext + Int.tmod seq 10)) - 1))] rfl rfl HF7.out (by simp) batchI (by simp [Value.oneCell']) rfl ?_; intro w9 h9 g9; have HF9 := Lib.hid h9; have HB9 := Lib.hid (bl_gr HB7.out g9 (Nat.le_refl _)); clear h9 g9) | (refine wpList_load_blk rfl 47 (.tmp 5) rfl w4.heap.size rfl 47 _ _ HF9.out Try.underlying47 rfl packetI ?_) | (refine wpList_store_blk rfl 47 (.tmp 4) (.tmp 31) rfl (w.heap.size + 2) 47 _ #[.int .i64 1, .int .u32 rses, .int .u64 (IntKind.u64.wrap (rnext + Int.tmod seq 10)), .int .u64 0, .slice none 0 0, .bool true, .int .u64 (IntKind.u64.wrap ((IntKind.u64.wrap (rnext + Int.tmod seq 10)) - 1))] rfl rfl (HK3.out.ca HB9.out) rfl packetI (by simp [Value.oneCell']) ?_; intro w8 h8 g8))
   exact bodyPost_ret (res1 Try.results36 rfl h8 Try.underlying47 rfl packetI) rfl ⟨none, 0, 0, rfl, Lay.rd_nil _, Nat.le_refl _, by omega, bl_gr (bl_ca HQ4.out HB9.out) g8 (by omega)⟩
end Go.Proofs.Ytojghgbaiiajfaa
/- A region whose order Go leaves open, with several operations of unknown yield side by side; what follows is said once. Conditions: none. -/
namespace Go.Proofs.Ytojghgbaiiajfaa
open Go.RowKit
section
variable {P : Program} {ops : Array Oper} {Q Q' : Exit → Act → World → Prop} {md : Region.Mode} {S : Array Bool → (Nat → Value) → World → Prop}
theorem Ps.weak (h : ∀ a w, Q' .normal a w → Q .normal a w) : ∀ (f : Nat) (m : Nat → Value) (L : Array Bool) (a : Act), Ps P md ops Q' S f m L a → Ps P md ops Q S f m L a
 | 0, _, _, _, k => ⟨k.1, fun w hS => h _ _ (k.2 w hS)⟩
 | f + 1, m, L, a, k => ⟨fun e w hS => h _ _ (k.1 e w hS), fun i hi => by
  obtain ⟨o, ho, ⟨u, hs, hg⟩ | ⟨V, hs, hg⟩⟩ := k.2 i hi
  · exact ⟨o, ho, .inl ⟨u, hs, Ps.weak h f _ _ _ hg⟩⟩
  · exact ⟨o, ho, .inr ⟨V, hs, fun v hV => Ps.weak h f _ _ _ (hg v hV)⟩⟩⟩
/-- one of several that come next -/
def Turns (P : Program) (md : Region.Mode) (ops : Array Oper) (Q : Exit → Act → World → Prop) (S : Array Bool → (Nat → Value) → World → Prop) (f : Nat) (m : Nat → Value) (L : Array Bool) (a : Act) (i : Nat) : Prop :=
 ∃ o, ops[i]? = some o ∧ ∃ V, TurnS P md ops S m i o V a ∧ ∀ v, V v → Ps P md ops Q S f (upd m i v) (L.setIfInBounds i true) (a.put o.dst v)
theorem Turns.mk {f : Nat} {m : Nat → Value} {L : Array Bool} {a : Act} {i : Nat} {o : Oper} {d : Option Tmp} (ho : ops[i]? = some o) (hd : o.dst = d) {V : Value → Prop} (ht : TurnS P md ops S m i o V a)
  (h : ∀ v, V v → Ps P md ops Q S f (upd m i v) (L.setIfInBounds i true) (a.put d v)) : Turns P md ops Q S f m L a i := by subst hd; exact ⟨o, ho, V, ht, h⟩
theorem Ps.some1 {f : Nat} {m : Nat → Value} {L : Array Bool} {a : Act} {i : Nat} (hr : Region.ready md ops L = [i]) (h1 : Turns P md ops Q S f m L a i) : Ps P md ops Q S (f + 1) m L a := by
 refine ⟨fun e => (by rw [hr] at e; cases e), fun x hx => ?_⟩
 rw [hr] at hx
 rcases List.mem_cons.1 hx with rfl | hx
 · obtain ⟨o, ho, V, ht, h⟩ := h1; exact ⟨o, ho, .inr ⟨V, ht, h⟩⟩
 · cases hx
theorem Ps.some2 {f : Nat} {m : Nat → Value} {L : Array Bool} {a : Act} {i j : Nat} (hr : Region.ready md ops L = [i, j]) (h1 : Turns P md ops Q S f m L a i) (h2 : Turns P md ops Q S f m L a j) : Ps P md ops Q S (f + 1) m L a := by
 refine ⟨fun e => (by rw [hr] at e; cases e), fun x hx => ?_⟩
 rw [hr] at hx
 rcases List.mem_cons.1 hx with rfl | hx
 · obtain ⟨o, ho, V, ht, h⟩ := h1; exact ⟨o, ho, .inr ⟨V, ht, h⟩⟩
 rcases List.mem_cons.1 hx with rfl | hx
 · obtain ⟨o, ho, V, ht, h⟩ := h2; exact ⟨o, ho, .inr ⟨V, ht, h⟩⟩
 · cases hx
theorem Ps.some3 {f : Nat} {m : Nat → Value} {L : Array Bool} {a : Act} {i j k : Nat} (hr : Region.ready md ops L = [i, j, k]) (h1 : Turns P md ops Q S f m L a i) (h2 : Turns P md ops Q S f m L a j) (h3 : Turns P md ops Q S f m L a k) : Ps P md ops Q S (f + 1) m L a := by
 refine ⟨fun e => (by rw [hr] at e; cases e), fun x hx => ?_⟩
 rw [hr] at hx
 rcases List.mem_cons.1 hx with rfl | hx
 · obtain ⟨o, ho, V, ht, h⟩ := h1; exact ⟨o, ho, .inr ⟨V, ht, h⟩⟩
 rcases List.mem_cons.1 hx with rfl | hx
 · obtain ⟨o, ho, V, ht, h⟩ := h2; exact ⟨o, ho, .inr ⟨V, ht, h⟩⟩
 rcases List.mem_cons.1 hx with rfl | hx
 · obtain ⟨o, ho, V, ht, h⟩ := h3; exact ⟨o, ho, .inr ⟨V, ht, h⟩⟩
 · cases hx
/-- what follows is said once: F tells how the region ends, of the act at its start -/
theorem wp_region_psF {id : Nat} {a : Act} {w : World} (F : Act → Act → World → Prop) (S : Array Bool → (Nat → Value) → World → Prop) (hm : P.follows .mixedOrders = true) (hS : S (Array.replicate ops.size false) (fun _ => undef) w.drew)
  (h : Ps P .any ops (fun _ a' w' => F a a' w') S ops.size (fun _ => undef) (Array.replicate ops.size false) a) (hk : ∀ a' w', F a a' w' → Q .normal a' w') : (Code.region id ops true).wp P Q a w :=
 wp_region_ps S hm hS (Ps.weak hk _ _ _ _ h)
end
end Go.Proofs.Ytojghgbaiiajfaa
