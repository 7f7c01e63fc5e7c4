/- bowspritlaw22.batch, packet, sender, batches. Conditions: the slices read so. -/
import Derived.Test.YtojghgbaiiajfaaPkH8
import Derived.Deep.Cut
import Derived.ProofKit
import Derived.OpenShut
import Derived.ShutString
import Derived.ChangeOld
import Derived.Deep.Slices
import Derived.Deep.Fields
import Derived.ChangeSame
namespace Go.Proofs.Ytojghgbaiiajfaa
open Go.RowKit
theorem batchI : (Try.prog.info? 45).map (·.size) = some 3 := by kernel_rfl
theorem packetI : (Try.prog.info? 47).map (·.size) = some 7 := by kernel_rfl
def batC (b : BC) : BC := ⟨rowsC b.rows, b.fin, b.cnt⟩
def batsC (l : List BC) : List BC := (l.take 9).map batC
def pakC (p : PK) : PK := ⟨p.kind, p.ses, p.seq, p.lim, batC p.b⟩
set_option maxRecDepth 100000 in
set_option maxHeartbeats 8000000 in
theorem batchC_any (F : Nat → Prop) (b : BC) (A : Option Addr) (n c : Nat) (w : World) (h : LR.rd w F A n b.rows) (hnc : n ≤ c) (hc : c ≤ 9223372036854775807) :
 Calls Try.prog 67 #[.agg (b.cells A n c)] w fun e w' => ∃ A2 k2 c2, e = .returned (.agg ((batC b).cells A2 k2 c2)) ∧ LR.rd w' (Since w w') A2 k2 (rowsC b.rows) ∧ k2 ≤ c2 ∧ c2 ≤ 9223372036854775807 ∧ Below w.heap.size w w' := by
 obtain ⟨rows, fin, cnt⟩ := b
 dsimp only at h
 have q1 := bl_al (Below.refl w.heap.size w) (.cells #[.slice A n c, .bool fin, .int .u64 cnt] 45)
 have q2 := bl_al q1 (.cells #[.slice none 0 0, .bool false, .int .u64 0] 45)
 have HC := Lib.hid (rowsC_any F A n c rows ((w.alloc (.cells #[.slice A n c, .bool fin, .int .u64 cnt] 45)).alloc (.cells #[.slice none 0 0, .bool false, .int .u64 0] 45)) (Lay.rd_below h q2) hnc hc)
 have HB1 := Lib.hid ((Blk.new w 45 #[.slice A n c, .bool fin, .int .u64 cnt]).alloc (.cells #[.slice none 0 0, .bool false, .int .u64 0] 45))
 have HB2 := Lib.hid (show Blk ((w.alloc (.cells #[.slice A n c, .bool fin, .int .u64 cnt] 45)).alloc (.cells #[.slice none 0 0, .bool false, .int .u64 0] 45)) (w.heap.size + 1) 45 #[.slice none 0 0, .bool false, .int .u64 0] from by have := Blk.new (w.alloc (.cells #[.slice A n c, .bool fin, .int .u64 cnt] 45)) 45 #[.slice none 0 0, .bool false, .int .u64 0]; simp only [World.size_alloc] at this; exact this)
 have HQ2 := Lib.hid q2
 have hs2 : ((w.alloc (.cells #[.slice A n c, .bool fin, .int .u64 cnt] 45)).alloc (.cells #[.slice none 0 0, .bool false, .int .u64 0] 45)).heap.size = w.heap.size + 2 := by simp only [World.size_alloc]
 have x0 := HB1.out.cell 0
 clear h q1 q2
 go_enter Try.func67, Try.ntmps67
 go_wp2_with fail
 clear x0
 generalize ((w.alloc (.cells #[.slice A n c, .bool fin, .int .u64 cnt] 45)).alloc (.cells #[.slice none 0 0, .bool false, .int .u64 0] 45)) = w2 at *
 refine HC.out.mono ?_
 rintro e w3 ⟨A2, k2, c2, rfl, ho, q3⟩
 have hcap := Lay.own_caps ho
 have b1 := HB1.out.ca q3
 have b2 := HB2.out.ca q3
 have hs3 := q3.size
 have hrd := Lay.rd_weak (fun b hb _ => (show w.heap.size + 2 ≤ b ∧ b < w3.heap.size from ⟨by have := hb.1; omega, hb.2⟩)) (Lay.own_rd (F := Since w2 w3) ho (fun b h1 h2 => ⟨h1, h2⟩) (fun b hb _ => hb))
 have z0 := b1.frozen 0
 have y0 := b1.cell 0
 have f1 : Blk (w3.setCell ⟨w.heap.size, 0, none⟩ (.slice A2 k2 c2)) w.heap.size 45 #[.slice A2 k2 c2, .bool fin, .int .u64 cnt] := b1.set_ 0 _
 have f2 := b2.far (p := ⟨w.heap.size, 0, none⟩) (by show w.heap.size + 1 ≠ w.heap.size; omega) (.slice A2 k2 c2)
 have hq := bl_ca HQ2.out q3
 have hsz : (w3.setCell ⟨w.heap.size, 0, none⟩ (.slice A2 k2 c2)).heap.size = w3.heap.size := by simp
 have hq2 := hq.setCell (p := ⟨w.heap.size, 0, none⟩) (Nat.le_refl _) (.slice A2 k2 c2)
 have hrd2 : LR.rd (w3.setCell ⟨w.heap.size, 0, none⟩ (.slice A2 k2 c2)) (fun b => w.heap.size + 2 ≤ b ∧ b < w3.heap.size) A2 k2 (rowsC rows) := Lay.rd_keep (fun b hb _ => Below.heap_setCell w3 ⟨w.heap.size, 0, none⟩ _ b (by show b ≠ w.heap.size; omega)) hrd
 have HF1 := Lib.hid f1
 have HF2 := Lib.hid f2
 have HQ4 := Lib.hid hq2
 have HR4 := Lib.hid hrd2
 have HSZ := Lib.hid hsz
 have HCP := Lib.hid hcap
 clear ho q3 b1 b2 hrd f1 f2 hq hq2 hrd2 hsz HC hcap
 go_upto_region 2 with fail
 clear z0 y0
 generalize w3.setCell ⟨w.heap.size, 0, none⟩ (.slice A2 k2 c2) = w4 at *
 go_wp2_with (first | (refine wpList_load_blk rfl 45 (.tmp 1) rfl w.heap.size rfl 45 _ _ HF1.out Try.underlying45 rfl batchI ?_) | (refine wpList_store_blk rfl 45 (.tmp 2) (.tmp 7) rfl (w.heap.size + 1) 45 _ #[.slice A2 k2 c2, .bool fin, .int .u64 cnt] rfl rfl HF2.out rfl batchI (by simp [Value.oneCell']) ?_; intro w5 h5 g5))
 have hs5 := g5.size
 refine bodyPost_ret (res1 Try.results67 rfl h5 Try.underlying45 rfl batchI) rfl ⟨A2, k2, c2, rfl, Lay.rd_weak (fun b hb _ => ⟨by omega, ?_⟩) (Lay.rd_keep (fun b hb hl => g5.block b hl (fun e => by injection e with e; omega)) HR4.out), HCP.out.1, HCP.out.2, bl_gr HQ4.out g5 (by omega)⟩
 rw [HSZ.out] at hs5
 omega

set_option maxRecDepth 100000 in
set_option maxHeartbeats 8000000 in
theorem batsC_any (F : Nat → Prop) (A : Option Addr) (m c : Nat) (l : List BC) (w : World) (h : LB3.rd w F A m l) (hmc : m ≤ c) (hc : c ≤ 9223372036854775807) :
 Calls Try.prog 51 #[.slice A m c] w fun e w' => ∃ A2 k2 c2, e = .returned (.slice A2 k2 c2) ∧ LB3.rd w' (Since w w') A2 k2 (batsC l) ∧ k2 ≤ c2 ∧ c2 ≤ 9223372036854775807 ∧ Below w.heap.size w w' := by
 have HC := Lib.hid (cutB F A m c 9 l w h hmc hc (by omega))
 rw [show ((9 : Nat) : Int) = 9 from rfl] at HC
 obtain ⟨kk, hkk⟩ : ∃ kk, kk = min m 9 := ⟨_, rfl⟩
 rw [← hkk] at HC
 have hkk9 : kk ≤ 9 := by omega
 obtain ⟨l5, hl5⟩ : ∃ l5, l5 = l.take 9 := ⟨_, rfl⟩
 rw [← hl5] at HC
 rw [show batsC l = l5.map batC from by rw [hl5]; rfl]
 clear h hmc hc hkk hl5
 go_enter Try.func51, Try.ntmps51
 go_wp2_with fail
 refine HC.out.mono ?_
 clear HC
 rintro e w1 ⟨A1, c1, rfl, ho1, q1⟩
 have HLN := Lib.hid (Lay.own_len ho1)
 have hcp := (Lay.own_caps ho1).1
 have HR1 := Lib.hid (Lay.own_rd (F := fun _ => True) ho1 (fun _ _ _ => trivial) (fun _ _ _ => trivial))
 have HQ1 := Lib.hid q1
 have hs1 := q1.size
 clear ho1 q1
 go_wp2_with fail
 go_loopg [3, 9] kk (fun g o s wr => ∃ (i c' : Nat) (A' : Option Addr), i + g = kk ∧ s = .int .i64 i ∧ o = .slice A' i c' ∧ LB3.own 45 wr w1.heap.size (Since w1 wr) A' i c' ((l5.map batC).take i) ∧ Below w1.heap.size w1 wr)
 case atStart => exact ⟨0, 0, none, by omega, rfl, rfl, by simpa using Lay.own_nil w1 w1.heap.size, Below.refl _ _⟩
 case round =>
  obtain ⟨i, c', A', hig, rfl, rfl, ho, bb⟩ := hrel
  have HO := Lib.hid ho
  have HBB := Lib.hid bb
  have hsr := bb.size
  by_cases hi : i < kk
  · have hi1 : (i : Int) < (kk : Int) := by omega
    obtain ⟨ad, ⟨rows, fin, cnt⟩, Ar, nr, cr, rfl, hri, sb⟩ := LB3_at (Lay.rd_below HR1.out bb) hi
    have e0 := sb.c0
    have e1 := sb.c1
    have e2 := sb.c2
    dsimp only at e0 e1 e2
    have HS := Lib.hid (show (l5.map batC).take (i + 1) = (l5.map batC).take i ++ [batC ⟨rows, fin, cnt⟩] from by rw [List.take_add_one, List.getElem?_map, hri]; rfl)
    have q5 := bl_al (Below.refl wr.heap.size wr) (.cells #[.slice Ar nr cr, .bool fin, .int .u64 cnt] 45)
    have HCV := Lib.hid (batchC_any _ ⟨rows, fin, cnt⟩ Ar nr cr _ (Lay.rd_below sb.rd q5) sb.nc sb.cm)
    have HQ5 := Lib.hid q5
    have HN := Lib.hid (Blk.new wr 45 #[.slice Ar nr cr, .bool fin, .int .u64 cnt])
    have x0 := HN.out.cell 0
    have x1 := HN.out.cell 1
    have x2 := HN.out.cell 2
    have hw5 : (wr.alloc (.cells #[.slice Ar nr cr, .bool fin, .int .u64 cnt] 45)).heap.size = wr.heap.size + 1 := by simp only [World.size_alloc]
    clear hri sb q5 ho bb
    go_upto_region 5 with fail
    clear e0 e1 e2
    go_wp2_with fail
    clear x0 x1 x2
    generalize wr.alloc (.cells #[.slice Ar nr cr, .bool fin, .int .u64 cnt] 45) = w5 at *
    refine HCV.out.mono ?_
    clear HCV
    rintro e w2 ⟨A2, k2, c2, rfl, hrd, hk2, hkc2, q2⟩
    have q52 := bl_ca HQ5.out q2
    have hs2 := q52.size
    have hs25 := q2.size
    have hob := fun b (e : (Value.slice A' i c').ownBlock = some b) => (by obtain ⟨_, _, _, hrow⟩ := HO.out; exact own_base' hrow b e : w1.heap.size ≤ b ∧ b < wr.heap.size)
    have hrep : LB3.rep w2 (fun b => Since w1 w2 b ∧ (Value.slice A' i c').ownBlock ≠ some b) (batC ⟨rows, fin, cnt⟩) #[.slice A2 k2 c2, .bool fin, .int .u64 cnt].toList := ⟨A2, k2, c2, rfl, hk2, hkc2, Lay.rd_weak (fun b hb _ => ⟨⟨by have := hb.1; omega, hb.2⟩, fun e => by have := (hob b e).2; have := hb.1; omega⟩) hrd⟩
    have ho2 := Lay.own_weak (G' := Since w1 w2) (fun b hb _ => ⟨hb.1, Nat.lt_of_lt_of_le hb.2 hs2⟩) (own_below2 HO.out q52)
    have ho3 := Lay.own_alloc ho2 (.cells #[.slice A2 k2 c2, .bool fin, .int .u64 cnt] 45)
    have hb2 := Blk.new w2 45 #[.slice A2 k2 c2, .bool fin, .int .u64 cnt]
    have hrep3 := LB3.keep (fun b hb hlt => Below.heap_alloc w2 (.cells #[.slice A2 k2 c2, .bool fin, .int .u64 cnt] 45) b hlt) hrep
    have b3 := bl_al (HBB.out.trans (q52.mono hsr)) (.cells #[.slice A2 k2 c2, .bool fin, .int .u64 cnt] 45)
    have hszz := b3.size
    have hGG : ∀ b, Since w1 w2 b → b < (w2.alloc (.cells #[.slice A2 k2 c2, .bool fin, .int .u64 cnt] 45)).heap.size := fun b hb => by have := hb.2; simp only [World.size_alloc]; omega
    clear hrep ho2 hrd hob
    go_wp2_with (at_builtin; refine wpList_appL (L := LB3) rfl (.tmp 13) (.tmp 16) 27 rfl (.agg #[.slice none 0 0, .bool false, .int .u64 0]) 3 40 Try.underlying27 infoB rfl rfl (by omega) w1.heap.size (Since w1 w2) A' i c' ((l5.map batC).take i) w2.heap.size 1 45 #[.slice A2 k2 c2, .bool fin, .int .u64 cnt] (batC ⟨rows, fin, cnt⟩) rfl rfl ho3 hb2 hrep3 hGG (by omega) (by simp only [maxLen]; omega) hszz ?_; intro A4 c4 w4 ho4 b4)
    have ho5 := Lay.own_weak (G' := Since w1 w4) (fun b hb hlt => ⟨hb.1, hlt⟩) ho4
    go_roundg (gk - 1)
    · exact ⟨i + 1, c4, A4, by omega, by go_num, rfl, by rw [HS.out]; exact ho5, b3.trans b4⟩
    · omega
  · obtain rfl : i = kk := by omega
    have hi1 : (i : Int) ≤ (i : Int) := by omega
    have e : (l5.map batC).take i = l5.map batC := List.take_of_length_le (by rw [List.length_map, HLN.out]; exact Nat.le_refl _)
    rw [e] at ho
    have hcap := Lay.own_caps ho
    have HF := Lib.hid (Lay.own_rd (F := Since w wr) ho (fun b h1 h2 => ⟨by omega, h2⟩) (fun b hb hl => ⟨by have := hb.1; omega, hl⟩))
    have HBF := Lib.hid (bl_ca HQ1.out bb)
    have HCAP := Lib.hid hcap
    clear e ho bb hcap
    go_wp2
    go_ret
    exact ⟨A', i, c', rfl, HF.out, HCAP.out.1, HCAP.out.2, HBF.out⟩

set_option maxRecDepth 100000 in
set_option maxHeartbeats 8000000 in
theorem packetC_any (F : Nat → Prop) (p : PK) (A : Option Addr) (n c : Nat) (w : World) (h : LR.rd w F A n p.b.rows) (hnc : n ≤ c) (hc : c ≤ 9223372036854775807) :
 Calls Try.prog 26 #[.agg (p.cells A n c)] w fun e w' => ∃ A2 k2 c2, e = .returned (.agg ((pakC p).cells A2 k2 c2)) ∧ LR.rd w' (Since w w') A2 k2 (rowsC p.b.rows) ∧ k2 ≤ c2 ∧ c2 ≤ 9223372036854775807 ∧ Below w.heap.size w w' := by
 obtain ⟨kind, ses, seq, lim, rows, fin, cnt⟩ := p
 dsimp only at h
 have q1 := bl_al (Below.refl w.heap.size w) (.cells #[.int .i64 kind, .int .u32 ses, .int .u64 seq, .int .u64 lim, .slice A n c, .bool fin, .int .u64 cnt] 47)
 have q2 := bl_al q1 (.cells #[.int .i64 0, .int .u32 0, .int .u64 0, .int .u64 0, .slice none 0 0, .bool false, .int .u64 0] 47)
 have HC := Lib.hid (batchC_any F ⟨rows, fin, cnt⟩ A n c ((w.alloc (.cells #[.int .i64 kind, .int .u32 ses, .int .u64 seq, .int .u64 lim, .slice A n c, .bool fin, .int .u64 cnt] 47)).alloc (.cells #[.int .i64 0, .int .u32 0, .int .u64 0, .int .u64 0, .slice none 0 0, .bool false, .int .u64 0] 47)) (Lay.rd_below h q2) hnc hc)
 have HB1 := Lib.hid ((Blk.new w 47 #[.int .i64 kind, .int .u32 ses, .int .u64 seq, .int .u64 lim, .slice A n c, .bool fin, .int .u64 cnt]).alloc (.cells #[.int .i64 0, .int .u32 0, .int .u64 0, .int .u64 0, .slice none 0 0, .bool false, .int .u64 0] 47))
 have HB2 := Lib.hid (show Blk ((w.alloc (.cells #[.int .i64 kind, .int .u32 ses, .int .u64 seq, .int .u64 lim, .slice A n c, .bool fin, .int .u64 cnt] 47)).alloc (.cells #[.int .i64 0, .int .u32 0, .int .u64 0, .int .u64 0, .slice none 0 0, .bool false, .int .u64 0] 47)) (w.heap.size + 1) 47 #[.int .i64 0, .int .u32 0, .int .u64 0, .int .u64 0, .slice none 0 0, .bool false, .int .u64 0] from by have := Blk.new (w.alloc (.cells #[.int .i64 kind, .int .u32 ses, .int .u64 seq, .int .u64 lim, .slice A n c, .bool fin, .int .u64 cnt] 47)) 47 #[.int .i64 0, .int .u32 0, .int .u64 0, .int .u64 0, .slice none 0 0, .bool false, .int .u64 0]; simp only [World.size_alloc] at this; exact this)
 have HQ2 := Lib.hid q2
 have hs2 : ((w.alloc (.cells #[.int .i64 kind, .int .u32 ses, .int .u64 seq, .int .u64 lim, .slice A n c, .bool fin, .int .u64 cnt] 47)).alloc (.cells #[.int .i64 0, .int .u32 0, .int .u64 0, .int .u64 0, .slice none 0 0, .bool false, .int .u64 0] 47)).heap.size = w.heap.size + 2 := by simp only [World.size_alloc]
 have x4 := HB1.out.cell 4
 have x5 := HB1.out.cell 5
 have x6 := HB1.out.cell 6
 clear h q1 q2
 go_enter Try.func26, Try.ntmps26
 go_wp2_with fail
 clear x4 x5 x6
 generalize ((w.alloc (.cells #[.int .i64 kind, .int .u32 ses, .int .u64 seq, .int .u64 lim, .slice A n c, .bool fin, .int .u64 cnt] 47)).alloc (.cells #[.int .i64 0, .int .u32 0, .int .u64 0, .int .u64 0, .slice none 0 0, .bool false, .int .u64 0] 47)) = w2 at *
 refine HC.out.mono ?_
 rintro e w3 ⟨A2, k2, c2, rfl, hr, hk2, hkc2, q3⟩
 have hs3 := q3.size
 have HK1 := Lib.hid (HB1.out.ca q3)
 have HK2 := Lib.hid (HB2.out.ca q3)
 have HQ3 := Lib.hid (bl_ca HQ2.out q3)
 have HR3 := Lib.hid hr
 clear hr q3 HC
 go_wp2_with (first | (refine wpList_store_part rfl 45 (.tmp 6) (.tmp 5) rfl w.heap.size 4 47 #[.int .i64 kind, .int .u32 ses, .int .u64 seq, .int .u64 lim, .slice A n c, .bool fin, .int .u64 cnt] #[.slice A2 k2 c2, .bool fin, .int .u64 cnt] #[.int .i64 kind, .int .u32 ses, .int .u64 seq, .int .u64 lim, .slice A2 k2 c2, .bool fin, .int .u64 cnt] rfl rfl HK1.out (by simp) batchI (by simp [Value.oneCell']) rfl ?_; intro w4 f1 g4; have HF1 := Lib.hid f1; have HF2 := Lib.hid (HK2.out.grown g4 (by simp)); have HG4 := Lib.hid g4; clear f1 g4) | (refine wpList_load_blk rfl 47 (.tmp 1) rfl w.heap.size rfl 47 _ _ HF1.out Try.underlying47 rfl packetI ?_) | (refine wpList_store_blk rfl 47 (.tmp 2) (.tmp 7) rfl (w.heap.size + 1) 47 _ #[.int .i64 kind, .int .u32 ses, .int .u64 seq, .int .u64 lim, .slice A2 k2 c2, .bool fin, .int .u64 cnt] rfl rfl HF2.out rfl packetI (by simp [Value.oneCell']) ?_; intro w5 h5 g5))
 have hs5 := g5.size
 have hs4 := HG4.out.size
 have hrr := Lay.rd_keep (fun b hb hl => HG4.out.block b hl (fun e => by injection e with e; have := hb.1; omega)) HR3.out
 have hrr2 := Lay.rd_keep (fun b hb hl => g5.block b hl (fun e => by injection e with e; have := hb.1; omega)) hrr
 exact bodyPost_ret (res1 Try.results26 rfl h5 Try.underlying47 rfl packetI) rfl ⟨A2, k2, c2, rfl, Lay.rd_weak (fun b hb _ => ⟨by have := hb.1; omega, by have := hb.2; omega⟩) hrr2, hk2, hkc2, bl_gr (bl_gr HQ3.out HG4.out (by omega)) g5 (by omega)⟩

end Go.Proofs.Ytojghgbaiiajfaa
/- (Heard).packet of bowspritlaw22: what a receiver hears. Conditions: the rows read so. -/
namespace Go.Proofs.Ytojghgbaiiajfaa
open Go.RowKit
theorem SeqN.one0L {k1 : Nat} {B : Nat → (Nat → Value) → World → Prop} {L : Array Bool} {m : Nat → Value} {w : World} (h1 : Dn L k1 = false) (hS : SeqN [k1] B L m w) : B 0 m w := by
 unfold SeqN cntD cntD at hS
 rw [h1] at hS
 exact hS
structure HD where
 take : Bool
 near : Bool
 pk : PK
def HD.cells (a : HD) (pA : Option Addr) (pn pc : Nat) : Array Value := #[.bool a.take, .bool a.near, .int .i64 a.pk.kind, .int .u32 a.pk.ses, .int .u64 a.pk.seq, .int .u64 a.pk.lim, .slice pA pn pc, .bool a.pk.b.fin, .int .u64 a.pk.b.cnt]
def nearH (r : RC) (p : PK) : PK := ⟨1, r.ses, IntKind.u64.wrap (r.next + Int.tmod p.seq 10), 0, if p.b.fin then ⟨[], true, IntKind.u64.wrap (IntKind.u64.wrap (r.next + Int.tmod p.seq 10) - 1)⟩ else p.b⟩
def hePk (a : HD) (r : RC) : PK := if a.near then nearH r (pakC a.pk) else pakC a.pk
set_option maxRecDepth 100000 in
set_option maxHeartbeats 16000000 in
theorem hepk_any (Fr : Nat → Prop) (a : HD) (r : RC) (pA : Option Addr) (pn pc : Nat) (A : Option Addr) (n c : Nat) (B : Option Addr) (m d : Nat) (w : World) (hr : LR.rd w Fr pA pn a.pk.b.rows) (hpc : pn ≤ pc) (hpm : pc ≤ 9223372036854775807) :
 Calls Try.prog 36 #[.agg (a.cells pA pn pc), .agg (r.cells A n c B m d)] w fun e w' => ∃ A2 k2 c2, e = .returned (.agg ((hePk a r).cells A2 k2 c2)) ∧ LR.rd w' (Since w w') A2 k2 (hePk a r).b.rows ∧ k2 ≤ c2 ∧ c2 ≤ 9223372036854775807 ∧ Below w.heap.size w w' := by
 obtain ⟨take, near, ⟨kind, ses, seq, lim, ⟨prows, fin, cnt⟩⟩⟩ := a
 obtain ⟨rses, rnext, rahead, rbuf, rroom, rover⟩ := r
 dsimp only at hr
 have q1 := bl_al (Below.refl w.heap.size w) (.cells #[.bool take, .bool near, .int .i64 kind, .int .u32 ses, .int .u64 seq, .int .u64 lim, .slice pA pn pc, .bool fin, .int .u64 cnt] 71)
 have q2 := bl_al q1 (.cells #[.int .u32 rses, .int .u64 rnext, .slice A n c, .slice B m d, .int .i64 rroom, .bool rover] 36)
 have q3 := bl_al q2 (.cells #[.int .i64 0, .int .u32 0, .int .u64 0, .int .u64 0, .slice none 0 0, .bool false, .int .u64 0] 47)
 have HC := Lib.hid (packetC_any Fr ⟨kind, ses, seq, lim, ⟨prows, fin, cnt⟩⟩ pA pn pc (((w.alloc (.cells #[.bool take, .bool near, .int .i64 kind, .int .u32 ses, .int .u64 seq, .int .u64 lim, .slice pA pn pc, .bool fin, .int .u64 cnt] 71)).alloc (.cells #[.int .u32 rses, .int .u64 rnext, .slice A n c, .slice B m d, .int .i64 rroom, .bool rover] 36)).alloc (.cells #[.int .i64 0, .int .u32 0, .int .u64 0, .int .u64 0, .slice none 0 0, .bool false, .int .u64 0] 47)) (Lay.rd_below hr q3) hpc hpm)
 have HB1 := Lib.hid (((Blk.new w 71 #[.bool take, .bool near, .int .i64 kind, .int .u32 ses, .int .u64 seq, .int .u64 lim, .slice pA pn pc, .bool fin, .int .u64 cnt]).alloc (.cells #[.int .u32 rses, .int .u64 rnext, .slice A n c, .slice B m d, .int .i64 rroom, .bool rover] 36)).alloc (.cells #[.int .i64 0, .int .u32 0, .int .u64 0, .int .u64 0, .slice none 0 0, .bool false, .int .u64 0] 47))
 have HB2 := Lib.hid (show Blk (((w.alloc (.cells #[.bool take, .bool near, .int .i64 kind, .int .u32 ses, .int .u64 seq, .int .u64 lim, .slice pA pn pc, .bool fin, .int .u64 cnt] 71)).alloc (.cells #[.int .u32 rses, .int .u64 rnext, .slice A n c, .slice B m d, .int .i64 rroom, .bool rover] 36)).alloc (.cells #[.int .i64 0, .int .u32 0, .int .u64 0, .int .u64 0, .slice none 0 0, .bool false, .int .u64 0] 47)) (w.heap.size + 1) 36 #[.int .u32 rses, .int .u64 rnext, .slice A n c, .slice B m d, .int .i64 rroom, .bool rover] from by have := (Blk.new (w.alloc (.cells #[.bool take, .bool near, .int .i64 kind, .int .u32 ses, .int .u64 seq, .int .u64 lim, .slice pA pn pc, .bool fin, .int .u64 cnt] 71)) 36 #[.int .u32 rses, .int .u64 rnext, .slice A n c, .slice B m d, .int .i64 rroom, .bool rover]).alloc (.cells #[.int .i64 0, .int .u32 0, .int .u64 0, .int .u64 0, .slice none 0 0, .bool false, .int .u64 0] 47); simp only [World.size_alloc] at this; exact this)
 have HB3 := Lib.hid (show Blk (((w.alloc (.cells #[.bool take, .bool near, .int .i64 kind, .int .u32 ses, .int .u64 seq, .int .u64 lim, .slice pA pn pc, .bool fin, .int .u64 cnt] 71)).alloc (.cells #[.int .u32 rses, .int .u64 rnext, .slice A n c, .slice B m d, .int .i64 rroom, .bool rover] 36)).alloc (.cells #[.int .i64 0, .int .u32 0, .int .u64 0, .int .u64 0, .slice none 0 0, .bool false, .int .u64 0] 47)) (w.heap.size + 2) 47 #[.int .i64 0, .int .u32 0, .int .u64 0, .int .u64 0, .slice none 0 0, .bool false, .int .u64 0] from by have := Blk.new ((w.alloc (.cells #[.bool take, .bool near, .int .i64 kind, .int .u32 ses, .int .u64 seq, .int .u64 lim, .slice pA pn pc, .bool fin, .int .u64 cnt] 71)).alloc (.cells #[.int .u32 rses, .int .u64 rnext, .slice A n c, .slice B m d, .int .i64 rroom, .bool rover] 36)) 47 #[.int .i64 0, .int .u32 0, .int .u64 0, .int .u64 0, .slice none 0 0, .bool false, .int .u64 0]; simp only [World.size_alloc] at this; exact this)
 have HQ3 := Lib.hid q3
 have hs3 : (((w.alloc (.cells #[.bool take, .bool near, .int .i64 kind, .int .u32 ses, .int .u64 seq, .int .u64 lim, .slice pA pn pc, .bool fin, .int .u64 cnt] 71)).alloc (.cells #[.int .u32 rses, .int .u64 rnext, .slice A n c, .slice B m d, .int .i64 rroom, .bool rover] 36)).alloc (.cells #[.int .i64 0, .int .u32 0, .int .u64 0, .int .u64 0, .slice none 0 0, .bool false, .int .u64 0] 47)).heap.size = w.heap.size + 3 := by simp only [World.size_alloc]
 have x2 := HB1.out.cell 2
 have x3 := HB1.out.cell 3
 have x4 := HB1.out.cell 4
 have x5 := HB1.out.cell 5
 have x6 := HB1.out.cell 6
 have x7 := HB1.out.cell 7
 have x8 := HB1.out.cell 8
 clear hr q1 q2 q3
 show Calls Try.prog 36 #[.agg #[.bool take, .bool near, .int .i64 kind, .int .u32 ses, .int .u64 seq, .int .u64 lim, .slice pA pn pc, .bool fin, .int .u64 cnt], .agg #[.int .u32 rses, .int .u64 rnext, .slice A n c, .slice B m d, .int .i64 rroom, .bool rover]] w _
 go_enter Try.func36, Try.ntmps36
 go_wp2_with fail
 clear x2 x3 x4 x5 x6 x7 x8
 generalize (((w.alloc (.cells #[.bool take, .bool near, .int .i64 kind, .int .u32 ses, .int .u64 seq, .int .u64 lim, .slice pA pn pc, .bool fin, .int .u64 cnt] 71)).alloc (.cells #[.int .u32 rses, .int .u64 rnext, .slice A n c, .slice B m d, .int .i64 rroom, .bool rover] 36)).alloc (.cells #[.int .i64 0, .int .u32 0, .int .u64 0, .int .u64 0, .slice none 0 0, .bool false, .int .u64 0] 47)) = w3 at *
 refine HC.out.mono ?_
 rintro e w4 ⟨A2, k2, c2, rfl, hr4, hk2, hkc2, q4⟩
 have hs4 := q4.size
 have HK1 := Lib.hid (HB1.out.ca q4)
 have HK2 := Lib.hid (HB2.out.ca q4)
 have HK3 := Lib.hid (HB3.out.ca q4)
 have HQ4 := Lib.hid (bl_ca HQ3.out q4)
 have HR4 := Lib.hid hr4
 have HCP := Lib.hid (And.intro hk2 hkc2)
 clear hr4 q4 HC hk2 hkc2
 have hl1 := HK1.out.lt
 have hl3 := HK3.out.lt
 have HN := Lib.hid (Blk.new w4 47 #[.int .i64 0, .int .u32 0, .int .u64 0, .int .u64 0, .slice none 0 0, .bool false, .int .u64 0])
 have HL1 := Lib.hid (HK1.out.alloc (.cells #[.int .i64 0, .int .u32 0, .int .u64 0, .int .u64 0, .slice none 0 0, .bool false, .int .u64 0] 47))
 have HBN := Lib.hid (bl_al (Below.refl w4.heap.size w4) (.cells #[.int .i64 0, .int .u32 0, .int .u64 0, .int .u64 0, .slice none 0 0, .bool false, .int .u64 0] 47))
 cases near
 · go_wp2_with (first | (refine wpList_store_blk rfl 47 (.tmp 5) (.tmp 8) rfl w4.heap.size 47 #[.int .i64 0, .int .u32 0, .int .u64 0, .int .u64 0, .slice none 0 0, .bool false, .int .u64 0] #[.int .i64 kind, .int .u32 ses, .int .u64 seq, .int .u64 lim, .slice A2 k2 c2, .bool fin, .int .u64 cnt] rfl rfl HN.out rfl packetI (by simp [Value.oneCell']) ?_; intro w5 h5 g5; have HF5 := Lib.hid h5; have x9 := (HL1.out.apart g5 (by omega)).cell 1; have HB5 := Lib.hid (bl_gr HBN.out g5 (Nat.le_refl _)); clear h5 g5) | (refine wpList_load_blk rfl 47 (.tmp 5) rfl w4.heap.size rfl 47 _ _ HF5.out Try.underlying47 rfl packetI ?_) | (refine wpList_store_blk rfl 47 (.tmp 4) (.tmp 31) rfl (w.heap.size + 2) 47 _ #[.int .i64 kind, .int .u32 ses, .int .u64 seq, .int .u64 lim, .slice A2 k2 c2, .bool fin, .int .u64 cnt] rfl rfl (HK3.out.ca HB5.out) rfl packetI (by simp [Value.oneCell']) ?_; intro w6 h6 g6))
   have hs6 := g6.size
   have hs5 := HB5.out.size
   exact bodyPost_ret (res1 Try.results36 rfl h6 Try.underlying47 rfl packetI) rfl ⟨A2, k2, c2, rfl, Lay.rd_weak (fun b hb _ => ⟨by have := hb.1; omega, by have := hb.2; omega⟩) (Lay.rd_keep (fun b hb hl => g6.block b hl (fun e => by injection e with e; have := hb.1; omega)) (Lay.rd_below HR4.out HB5.out)), HCP.out.1, HCP.out.2, bl_gr (bl_ca HQ4.out HB5.out) g6 (by omega)⟩
 · go_wp2_with (first | (refine wpList_store_blk rfl 47 (.tmp 5) (.tmp 8) rfl w4.heap.size 47 #[.int .i64 0, .int .u32 0, .int .u64 0, .int .u64 0, .slice none 0 0, .bool false, .int .u64 0] #[.int .i64 kind, .int .u32 ses, .int .u64 seq, .int .u64 lim, .slice A2 k2 c2, .bool fin, .int .u64 cnt] rfl rfl HN.out rfl packetI (by simp [Value.oneCell']) ?_; intro w5 h5 g5; have HF5 := Lib.hid h5; have x9 := (HL1.out.apart g5 (by omega)).cell 1; have HB5 := Lib.hid (bl_gr HBN.out g5 (Nat.le_refl _)); clear h5 g5))
   clear x9
   refine wp_region_ps (S := SeqN [3, 5, 7] (fun z _ w' => Below w4.heap.size w4 w' ∧ Blk w' w4.heap.size 47 (match z with | 0 => #[.int .i64 kind, .int .u32 ses, .int .u64 seq, .int .u64 lim, .slice A2 k2 c2, .bool fin, .int .u64 cnt] | 1 => #[.int .i64 1, .int .u32 ses, .int .u64 seq, .int .u64 lim, .slice A2 k2 c2, .bool fin, .int .u64 cnt] | 2 => #[.int .i64 1, .int .u32 rses, .int .u64 seq, .int .u64 lim, .slice A2 k2 c2, .bool fin, .int .u64 cnt] | _ => #[.int .i64 1, .int .u32 rses, .int .u64 seq, .int .u64 0, .slice A2 k2 c2, .bool fin, .int .u64 cnt]))) (by kernel_rfl) ?spswg1 ?ppswg1
   case spswg1 =>
    exact SeqN.start (by decide) ⟨HB5.out.drew, HF5.out.ca (Below.refl _ _).drew⟩
   refine Pz 0 (some 11) (.pointer (some ⟨(w.heap.size + 1), 0, none⟩)) rfl rfl (by exact StepS.pure (SeqN.pass (by decide)) rfl fun _ => rfl) ?_
   try simp only [Act.put, sA, sZ, sS]
   refine Pz 1 (some 12) (.int .u32 (rses)) rfl rfl ?ywg1_3 ?rwg1_3
   case ywg1_3 =>
    refine StepS.read [] (by kernel_rfl) (SeqN.pass (by decide)) (by rfl) (fun L9 m9 w9 hSh hAt hDn hS => ?_)
    have hT : Below w4.heap.size w4 w9 := SeqN.any (T := fun w9 => Below w4.heap.size w4 w9) (fun z _ _ h => h.1) hS
    have x0 : w9.cell? ⟨(w.heap.size + 1), 0, none⟩ = some (.int .u32 (rses)) := (HK2.out.ca hT).cell 0
    clear hT hS
    go_simp
    try rfl
   try simp only [Act.put, sA, sZ, sS]
   refine Pz 2 (some 13) (.pointer (some ⟨w4.heap.size, 0, none⟩)) rfl rfl (by exact StepS.pure (SeqN.pass (by decide)) rfl fun _ => rfl) ?_
   try simp only [Act.put, sA, sZ, sS]
   refine Pz 3 none undef rfl rfl ?ywg1_5 ?rwg1_5
   case ywg1_5 =>
    refine StepS.store [] (by kernel_rfl) (by rfl) (fun L9 m9 w9 hSh hAt hDn hS => ?_)
    obtain ⟨hT, hN⟩ := SeqN.at_ (m0 := m9) (m1 := m9) [] [5, 7] hSh (fun d hd => by cases hd) hDn (by kernel_rfl) hS
    have hN2 : Blk (w9.setCell ⟨w4.heap.size, 0, none⟩ (.int .i64 1)) w4.heap.size 47 #[.int .i64 1, .int .u32 ses, .int .u64 seq, .int .u64 lim, .slice A2 k2 c2, .bool fin, .int .u64 cnt] := by simpa using hN.set_ 0 (.int .i64 1)
    have x2 := hN.cell 0
    have fx := hN.frozen 0
    refine ⟨w9.setCell ⟨w4.heap.size, 0, none⟩ (.int .i64 1), ?_, SeqN.set_ (m0 := m9) (m1 := m9) [] [5, 7] hSh (fun d hd => by cases hd) hDn (by kernel_rfl) (by decide) (by decide) ⟨bl_set hT (Nat.le_refl _) _, hN2⟩⟩
    clear hT hN hN2 hS
    go_simp
   try simp only [Act.put]
   refine Pz 4 (some 14) (.pointer (some ⟨w4.heap.size, 1, none⟩)) rfl rfl (by exact StepS.pure (SeqN.pass (by decide)) rfl fun _ => rfl) ?_
   try simp only [Act.put, sA, sZ, sS]
   refine Pz 5 none undef rfl rfl ?ywg1_7 ?rwg1_7
   case ywg1_7 =>
    refine StepS.store [3] (by kernel_rfl) (by rfl) (fun L9 m9 w9 hSh hAt hDn hS => ?_)
    obtain ⟨hT, hN⟩ := SeqN.at_ [3] [7] hSh hAt hDn (by kernel_rfl) hS
    have hN2 : Blk (w9.setCell ⟨w4.heap.size, 1, none⟩ (.int .u32 rses)) w4.heap.size 47 #[.int .i64 1, .int .u32 rses, .int .u64 seq, .int .u64 lim, .slice A2 k2 c2, .bool fin, .int .u64 cnt] := by simpa using hN.set_ 1 (.int .u32 rses)
    have x2 := hN.cell 1
    have fx := hN.frozen 1
    refine ⟨w9.setCell ⟨w4.heap.size, 1, none⟩ (.int .u32 rses), ?_, SeqN.set_ [3] [7] hSh hAt hDn (by kernel_rfl) (by decide) (by decide) ⟨bl_set hT (Nat.le_refl _) _, hN2⟩⟩
    clear hT hN hN2 hS
    go_simp
   try simp only [Act.put]
   refine Pz 6 (some 15) (.pointer (some ⟨w4.heap.size, 3, none⟩)) rfl rfl (by exact StepS.pure (SeqN.pass (by decide)) rfl fun _ => rfl) ?_
   try simp only [Act.put, sA, sZ, sS]
   refine Pz 7 none undef rfl rfl ?ywg1_9 ?rwg1_9
   case ywg1_9 =>
    refine StepS.store [3, 5] (by kernel_rfl) (by rfl) (fun L9 m9 w9 hSh hAt hDn hS => ?_)
    obtain ⟨hT, hN⟩ := SeqN.at_ [3, 5] [] hSh hAt hDn (by kernel_rfl) hS
    have hN2 : Blk (w9.setCell ⟨w4.heap.size, 3, none⟩ (.int .u64 0)) w4.heap.size 47 #[.int .i64 1, .int .u32 rses, .int .u64 seq, .int .u64 0, .slice A2 k2 c2, .bool fin, .int .u64 cnt] := by simpa using hN.set_ 3 (.int .u64 0)
    have x2 := hN.cell 3
    have fx := hN.frozen 3
    refine ⟨w9.setCell ⟨w4.heap.size, 3, none⟩ (.int .u64 0), ?_, SeqN.set_ [3, 5] [] hSh hAt hDn (by kernel_rfl) (by decide) (by decide) ⟨bl_set hT (Nat.le_refl _) _, hN2⟩⟩
    clear hT hN hN2 hS
    go_simp
   try simp only [Act.put]
   refine Ps.done (by kernel_rfl) (fun wg1 hS => ?_) _
   obtain ⟨hT, hb⟩ := SeqN.fin (by rfl) hS
   clear hS HF5 HB5
   have HF6 := Lib.hid (show Blk wg1 w4.heap.size 47 #[.int .i64 1, .int .u32 rses, .int .u64 seq, .int .u64 0, .slice A2 k2 c2, .bool fin, .int .u64 cnt] from hb)
   have HB6 := Lib.hid hT
   clear hT hb
   obtain ⟨w6, rfl⟩ : ∃ x, x = wg1 := ⟨_, rfl⟩
   go_upto_region 4 with fail
   refine wp_region_ps0 .text (S := SeqN [7] (fun z _ w' => Below w4.heap.size w4 w' ∧ Blk w' w4.heap.size 47 (match z with | 0 => #[.int .i64 1, .int .u32 rses, .int .u64 seq, .int .u64 0, .slice A2 k2 c2, .bool fin, .int .u64 cnt] | _ => #[.int .i64 1, .int .u32 rses, .int .u64 (IntKind.u64.wrap (rnext + Int.tmod seq 10)), .int .u64 0, .slice A2 k2 c2, .bool fin, .int .u64 cnt]))) (by kernel_rfl) ?spswg10 ?ppswg10
   case spswg10 =>
    exact SeqN.start (by decide) ⟨HB6.out, HF6.out⟩
   refine Pz 0 (some 16) (.pointer (some ⟨(w.heap.size + 1), 1, none⟩)) rfl rfl (by exact StepS.pure (SeqN.pass (by decide)) rfl fun _ => rfl) ?_
   try simp only [Act.put, sA, sZ, sS]
   refine Pz 1 (some 17) (.int .u64 (rnext)) rfl rfl ?ywg10_12 ?rwg10_12
   case ywg10_12 =>
    refine StepS.read [] (by kernel_rfl) (SeqN.pass (by decide)) (by rfl) (fun L9 m9 w9 hSh hAt hDn hS => ?_)
    have hT : Below w4.heap.size w4 w9 := SeqN.any (T := fun w9 => Below w4.heap.size w4 w9) (fun z _ _ h => h.1) hS
    have x0 : w9.cell? ⟨(w.heap.size + 1), 1, none⟩ = some (.int .u64 (rnext)) := (HK2.out.ca hT).cell 1
    clear hT hS
    go_simp
    try rfl
   try simp only [Act.put, sA, sZ, sS]
   refine Pz 2 (some 18) (.pointer (some ⟨w4.heap.size, 2, none⟩)) rfl rfl (by exact StepS.pure (SeqN.pass (by decide)) rfl fun _ => rfl) ?_
   try simp only [Act.put, sA, sZ, sS]
   refine Pz 3 (some 19) (.int .u64 (seq)) rfl rfl ?ywg10_14 ?rwg10_14
   case ywg10_14 =>
    refine StepS.read [] (by kernel_rfl) (SeqN.pass (by decide)) (by rfl) (fun L9 m9 w9 hSh hAt hDn hS => ?_)
    have h0 := SeqN.one0L (reach_no hSh (f := 12) (j := 7) (by kernel_rfl) hDn) hS
    have x2 := h0.2.cell 2
    clear h0 hS
    go_simp
    try rfl
   try simp only [Act.put, sA, sZ, sS]
   refine Pz 4 (some 20) (.int .u64 (Int.tmod seq 10)) rfl rfl (by exact StepS.pure (SeqN.pass (by decide)) rfl fun _ => by first | rfl | (go_simp; done) | (go_simp; rfl)) ?_
   try simp only [Act.put, sA, sZ, sS]
   refine Pz 5 (some 21) (.int .u64 (IntKind.u64.wrap (rnext + (Int.tmod seq 10)))) rfl rfl (by exact StepS.pure (SeqN.pass (by decide)) rfl fun _ => rfl) ?_
   try simp only [Act.put, sA, sZ, sS]
   refine Pz 6 (some 22) (.pointer (some ⟨w4.heap.size, 2, none⟩)) rfl rfl (by exact StepS.pure (SeqN.pass (by decide)) rfl fun _ => rfl) ?_
   try simp only [Act.put, sA, sZ, sS]
   refine Pz 7 none undef rfl rfl ?ywg10_18 ?rwg10_18
   case ywg10_18 =>
    refine StepS.store [] (by kernel_rfl) (by rfl) (fun L9 m9 w9 hSh hAt hDn hS => ?_)
    obtain ⟨hT, hN⟩ := SeqN.at_ (m0 := m9) (m1 := m9) [] [] hSh (fun d hd => by cases hd) hDn (by kernel_rfl) hS
    have hN2 : Blk (w9.setCell ⟨w4.heap.size, 2, none⟩ (.int .u64 (IntKind.u64.wrap (rnext + Int.tmod seq 10)))) w4.heap.size 47 #[.int .i64 1, .int .u32 rses, .int .u64 (IntKind.u64.wrap (rnext + Int.tmod seq 10)), .int .u64 0, .slice A2 k2 c2, .bool fin, .int .u64 cnt] := by simpa using hN.set_ 2 (.int .u64 (IntKind.u64.wrap (rnext + Int.tmod seq 10)))
    have x2 := hN.cell 2
    have fx := hN.frozen 2
    refine ⟨w9.setCell ⟨w4.heap.size, 2, none⟩ (.int .u64 (IntKind.u64.wrap (rnext + Int.tmod seq 10))), ?_, SeqN.set_ (m0 := m9) (m1 := m9) [] [] hSh (fun d hd => by cases hd) hDn (by kernel_rfl) (by decide) (by decide) ⟨bl_set hT (Nat.le_refl _) _, hN2⟩⟩
    clear hT hN hN2 hS
    go_simp
   try simp only [Act.put]
   refine Ps.done (by kernel_rfl) (fun wg10 hS => ?_) _
   obtain ⟨hT, hb⟩ := SeqN.fin (by rfl) hS
   clear hS HF6 HB6
   have HF7 := Lib.hid (show Blk wg10 w4.heap.size 47 #[.int .i64 1, .int .u32 rses, .int .u64 (IntKind.u64.wrap (rnext + Int.tmod seq 10)), .int .u64 0, .slice A2 k2 c2, .bool fin, .int .u64 cnt] from hb)
   have HB7 := Lib.hid hT
   clear hT hb
   obtain ⟨w7, rfl⟩ : ∃ x, x = wg10 := ⟨_, rfl⟩
   have x2 := HF7.out.cell 2
   have x5 := HF7.out.cell 5
   have hs7 := HB7.out.size
   cases fin
   · go_wp2_with (first | (refine wpList_load_blk rfl 47 (.tmp 5) rfl w4.heap.size rfl 47 _ _ HF7.out Try.underlying47 rfl packetI ?_) | (refine wpList_store_blk rfl 47 (.tmp 4) (.tmp 31) rfl (w.heap.size + 2) 47 _ #[.int .i64 1, .int .u32 rses, .int .u64 (IntKind.u64.wrap (rnext + Int.tmod seq 10)), .int .u64 0, .slice A2 k2 c2, .bool false, .int .u64 cnt] rfl rfl (HK3.out.ca HB7.out) rfl packetI (by simp [Value.oneCell']) ?_; intro w8 h8 g8))
     have hs8 := g8.size
     exact bodyPost_ret (res1 Try.results36 rfl h8 Try.underlying47 rfl packetI) rfl ⟨A2, k2, c2, rfl, Lay.rd_weak (fun b hb _ => ⟨by have := hb.1; omega, by have := hb.2; omega⟩) (Lay.rd_keep (fun b hb hl => g8.block b hl (fun e => by injection e with e; have := hb.1; omega)) (Lay.rd_below HR4.out HB7.out)), HCP.out.1, HCP.out.2, bl_gr (bl_ca HQ4.out HB7.out) g8 (by omega)⟩
   · go_wp2_with (first | (refine wpList_store_part rfl 45 (.tmp 30) (.tmp 29) rfl w4.heap.size 4 47 #[.int .i64 1, .int .u32 rses, .int .u64 (IntKind.u64.wrap (rnext + Int.tmod seq 10)), .int .u64 0, .slice A2 k2 c2, .bool true, .int .u64 cnt] #[.slice none 0 0, .bool true, .int .u64 (IntKind.u64.wrap ((IntKind.u64.wrap (rnext + Int.tmod seq 10)) - 1))] #[.int .i64 1, .int .u32 rses, .int .u64 (IntKind.u64.wrap (rnext + Int.tmod seq 10)), .int .u64 0, .slice none 0 0, .bool true, .int .u64 (IntKind.u64.wrap ((IntKind.u64.wrap (rnext + Int.tmod seq 10)) - 1))] rfl rfl HF7.out (by simp) batchI (by simp [Value.oneCell']) rfl ?_; intro w9 h9 g9; have HF9 := Lib.hid h9; have HB9 := Lib.hid (bl_gr HB7.out g9 (Nat.le_refl _)); clear h9 g9) | (refine wpList_load_blk rfl 47 (.tmp 5) rfl w4.heap.size rfl 47 _ _ HF9.out Try.underlying47 rfl packetI ?_) | (refine wpList_store_blk rfl 47 (.tmp 4) (.tmp 31) rfl (w.heap.size + 2) 47 _ #[.int .i64 1, .int .u32 rses, .int .u64 (IntKind.u64.wrap (rnext + Int.tmod seq 10)), .int .u64 0, .slice none 0 0, .bool true, .int .u64 (IntKind.u64.wrap ((IntKind.u64.wrap (rnext + Int.tmod seq 10)) - 1))] rfl rfl (HK3.out.ca HB9.out) rfl packetI (by simp [Value.oneCell']) ?_; intro w8 h8 g8))
     exact bodyPost_ret (res1 Try.results36 rfl h8 Try.underlying47 rfl packetI) rfl ⟨none, 0, 0, rfl, Lay.rd_nil _, Nat.le_refl _, by omega, bl_gr (bl_ca HQ4.out HB9.out) g8 (by omega)⟩
end Go.Proofs.Ytojghgbaiiajfaa
/- A region whose order Go leaves open, with several operations of unknown yield side by side; what follows is said once. Conditions: none. -/
namespace Go.Proofs.Ytojghgbaiiajfaa
open Go.RowKit
section
variable {P : Program} {ops : Array Oper} {Q Q' : Exit → Act → World → Prop} {md : Region.Mode} {S : Array Bool → (Nat → Value) → World → Prop}
theorem Ps.weak (h : ∀ a w, Q' .normal a w → Q .normal a w) : ∀ (f : Nat) (m : Nat → Value) (L : Array Bool) (a : Act), Ps P md ops Q' S f m L a → Ps P md ops Q S f m L a
 | 0, _, _, _, k => ⟨k.1, fun w hS => h _ _ (k.2 w hS)⟩
 | f + 1, m, L, a, k => ⟨fun e w hS => h _ _ (k.1 e w hS), fun i hi => by
  obtain ⟨o, ho, ⟨u, hs, hg⟩ | ⟨V, hs, hg⟩⟩ := k.2 i hi
  · exact ⟨o, ho, .inl ⟨u, hs, Ps.weak h f _ _ _ hg⟩⟩
  · exact ⟨o, ho, .inr ⟨V, hs, fun v hV => Ps.weak h f _ _ _ (hg v hV)⟩⟩⟩
/-- one of several that come next -/
def Turns (P : Program) (md : Region.Mode) (ops : Array Oper) (Q : Exit → Act → World → Prop) (S : Array Bool → (Nat → Value) → World → Prop) (f : Nat) (m : Nat → Value) (L : Array Bool) (a : Act) (i : Nat) : Prop :=
 ∃ o, ops[i]? = some o ∧ ∃ V, TurnS P md ops S m i o V a ∧ ∀ v, V v → Ps P md ops Q S f (upd m i v) (L.setIfInBounds i true) (a.put o.dst v)
theorem Turns.mk {f : Nat} {m : Nat → Value} {L : Array Bool} {a : Act} {i : Nat} {o : Oper} {d : Option Tmp} (ho : ops[i]? = some o) (hd : o.dst = d) {V : Value → Prop} (ht : TurnS P md ops S m i o V a)
 (h : ∀ v, V v → Ps P md ops Q S f (upd m i v) (L.setIfInBounds i true) (a.put d v)) : Turns P md ops Q S f m L a i := by subst hd; exact ⟨o, ho, V, ht, h⟩
end
end Go.Proofs.Ytojghgbaiiajfaa
/- Two variables made and filled by calls in one statement whose order Go leaves open. Conditions: none. -/
namespace Go.Proofs.Ytojghgbaiiajfaa
open Go.RowKit
def pt (g : Nat) : Value := .pointer (some ⟨g, 0, none⟩)
/-- the blocks that are none of the two variables -/
def Av (a1 a2 : Nat) (m : Nat → Value) (b : Nat) : Prop := m a1 ≠ pt b ∧ m a2 ≠ pt b
/-- what a call's answer is: it stays so as long as the blocks that it leads to do -/
structure Res (R : Value → (Nat → Prop) → World → Prop) : Prop where
 keep : ∀ {v F w w'}, (∀ b, F b → b < w.heap.size → w'.heap[b]? = w.heap[b]?) → R v F w → R v F w'
 weak : ∀ {v F G w}, (∀ b, F b → b < w.heap.size → G b) → R v F w → R v G w
def LRes {α : Type} (Ly : Lay α) (P : α → Prop) (v : Value) (F : Nat → Prop) (w : World) : Prop := ∃ a cs, v = .agg cs ∧ Ly.rep w F a cs.toList ∧ P a
theorem LRes.res {α : Type} (Ly : Lay α) (P : α → Prop) : Res (LRes Ly P) :=
 ⟨fun hk ⟨a, cs, e, h, p⟩ => ⟨a, cs, e, Ly.keep hk h, p⟩, fun hk ⟨a, cs, e, h, p⟩ => ⟨a, cs, e, Ly.weak hk h, p⟩⟩
def NoRes (_ : Value) (_ : Nat → Prop) (_ : World) : Prop := True
theorem NoRes.res : Res NoRes := ⟨fun _ h => h, fun _ h => h⟩
section
variable (W : World) (k0 k1 k2 a1 a2 : Nat) (t1 t2 : TypeId) (Z1 Z2 : Array Value) (R0 R1 R2 : Value → (Nat → Prop) → World → Prop)
structure TwoA (L : Array Bool) (m : Nat → Value) (w : World) : Prop where
 bel : Below W.heap.size W w
 v1 : Dn L a1 = true → ∃ g, m a1 = pt g ∧ W.heap.size ≤ g ∧ Blk w g t1 Z1
 n1 : Dn L a1 = false → m a1 = undef
 v2 : Dn L a2 = true → ∃ g, m a2 = pt g ∧ W.heap.size ≤ g ∧ Blk w g t2 Z2
 n2 : Dn L a2 = false → m a2 = undef
 ne : Dn L a1 = true → Dn L a2 = true → m a1 ≠ m a2
 r0 : Dn L k0 = true → R0 (m k0) (Av a1 a2 m) w
 r1 : Dn L k1 = true → R1 (m k1) (Av a1 a2 m) w
 r2 : Dn L k2 = true → R2 (m k2) (Av a1 a2 m) w
structure TwoB (c1 c2 : Array Value) (g1 g2 : Nat) (m : Nat → Value) (w : World) : Prop where
 e1 : m a1 = pt g1
 e2 : m a2 = pt g2
 ne : g1 ≠ g2
 l1 : W.heap.size ≤ g1
 l2 : W.heap.size ≤ g2
 b1 : Blk w g1 t1 c1
 b2 : Blk w g2 t2 c2
 bel : Below W.heap.size W w
 r1 : R1 (m k1) (Av a1 a2 m) w
 r2 : R2 (m k2) (Av a1 a2 m) w
/-- s1, s2: the two stores -/
def TwoS (s1 s2 : Nat) (L : Array Bool) (m : Nat → Value) (w : World) : Prop :=
 (Dn L s1 = false → TwoA W k0 k1 k2 a1 a2 t1 t2 Z1 Z2 R0 R1 R2 L m w) ∧
 (Dn L s1 = true → Dn L s2 = false → ∃ g1 g2 c1, m k1 = .agg c1 ∧ TwoB W k1 k2 a1 a2 t1 t2 R1 R2 c1 Z2 g1 g2 m w) ∧
 (Dn L s2 = true → ∃ g1 g2 c1 c2, m k1 = .agg c1 ∧ m k2 = .agg c2 ∧ TwoB W k1 k2 a1 a2 t1 t2 R1 R2 c1 c2 g1 g2 m w)
end
section
variable {W : World} {k0 k1 k2 a1 a2 s1 s2 : Nat} {t1 t2 : TypeId} {Z1 Z2 : Array Value} {R0 R1 R2 : Value → (Nat → Prop) → World → Prop} {L : Array Bool} {m : Nat → Value} {w w' : World}
theorem TwoA.mono (h : TwoA W k0 k1 k2 a1 a2 t1 t2 Z1 Z2 R0 R1 R2 L m w) (H0 : Res R0) (H1 : Res R1) (H2 : Res R2) (q : Below w.heap.size w w') : TwoA W k0 k1 k2 a1 a2 t1 t2 Z1 Z2 R0 R1 R2 L m w' :=
 ⟨bl_ca h.bel q, fun e => by obtain ⟨g, x, y, z⟩ := h.v1 e; exact ⟨g, x, y, z.ca q⟩, h.n1, fun e => by obtain ⟨g, x, y, z⟩ := h.v2 e; exact ⟨g, x, y, z.ca q⟩, h.n2, h.ne,
  fun e => H0.keep (fun b _ hb => q.block b hb) (h.r0 e), fun e => H1.keep (fun b _ hb => q.block b hb) (h.r1 e), fun e => H2.keep (fun b _ hb => q.block b hb) (h.r2 e)⟩
theorem TwoA.set (h : TwoA W k0 k1 k2 a1 a2 t1 t2 Z1 Z2 R0 R1 R2 L m w) {i : Nat} (hi : i ≠ k0 ∧ i ≠ k1 ∧ i ≠ k2 ∧ i ≠ a1 ∧ i ≠ a2) : TwoA W k0 k1 k2 a1 a2 t1 t2 Z1 Z2 R0 R1 R2 (L.setIfInBounds i true) m w := by
 obtain ⟨x0, x1, x2, y1, y2⟩ := hi
 have d : ∀ j, i ≠ j → Dn (L.setIfInBounds i true) j = Dn L j := fun j hj => dn_ne (Ne.symm hj)
 exact ⟨h.bel, fun e => h.v1 (d _ y1 ▸ e), fun e => h.n1 (d _ y1 ▸ e), fun e => h.v2 (d _ y2 ▸ e), fun e => h.n2 (d _ y2 ▸ e), fun e f => h.ne (d _ y1 ▸ e) (d _ y2 ▸ f), fun e => h.r0 (d _ x0 ▸ e), fun e => h.r1 (d _ x1 ▸ e), fun e => h.r2 (d _ x2 ▸ e)⟩
theorem TwoS.start {n : Nat} (hl : (decide (k1 < n) && decide (k2 < n) && decide (a1 < n) && decide (a2 < n) && decide (s1 < n) && decide (s2 < n)) = true) (h0 : k0 < n ∨ R0 = NoRes) : TwoS W k0 k1 k2 a1 a2 t1 t2 Z1 Z2 R0 R1 R2 s1 s2 (Array.replicate n false) (fun _ => undef) W.drew := by
 simp only [Bool.and_eq_true, decide_eq_true_eq] at hl
 obtain ⟨⟨⟨⟨⟨l1, l2⟩, l3⟩, l4⟩, l5⟩, l6⟩ := hl
 have d : ∀ j, j < n → Dn (Array.replicate n false) j = false := fun j hj => by unfold Dn; simp [hj]
 refine ⟨fun _ => ⟨(Below.refl _ _).drew, fun e => ?_, fun _ => rfl, fun e => ?_, fun _ => rfl, fun e => ?_, fun e => ?_, fun e => ?_, fun e => ?_⟩, fun e => ?_, fun e => ?_⟩
 · rw [d _ l3] at e; cases e
 · rw [d _ l4] at e; cases e
 · rw [d _ l3] at e; cases e
 · rcases h0 with h0 | h0
   · rw [d _ h0] at e; cases e
   · rw [h0]; trivial
 · rw [d _ l1] at e; cases e
 · rw [d _ l2] at e; cases e
 · rw [d _ l5] at e; cases e
 · rw [d _ l6] at e; cases e
theorem TwoS.pass {i : Nat} (h : (i != k0 && i != k1 && i != k2 && i != a1 && i != a2 && i != s1 && i != s2) = true) : Pass (TwoS W k0 k1 k2 a1 a2 t1 t2 Z1 Z2 R0 R1 R2 s1 s2) i := fun L m w hS => by
 simp only [Bool.and_eq_true, bne_iff_ne] at h
 obtain ⟨⟨⟨⟨⟨⟨x0, x1⟩, x2⟩, y1⟩, y2⟩, z1⟩, z2⟩ := h
 unfold TwoS at *
 rw [dn_ne (Ne.symm z1), dn_ne (Ne.symm z2)]
 exact ⟨fun e => (hS.1 e).set ⟨x0, x1, x2, y1, y2⟩, hS.2⟩
theorem TwoS.any (hS : TwoS W k0 k1 k2 a1 a2 t1 t2 Z1 Z2 R0 R1 R2 s1 s2 L m w) : Below W.heap.size W w := by
 cases h1 : Dn L s1
 · exact (hS.1 h1).bel
 · cases h2 : Dn L s2
   · obtain ⟨_, _, _, _, h⟩ := hS.2.1 h1 h2; exact h.bel
   · obtain ⟨_, _, _, _, _, _, h⟩ := hS.2.2 h2; exact h.bel
/-- a call has answered -/
theorem TwoS.call {v : Value} {i : Nat} (hS : TwoS W k0 k1 k2 a1 a2 t1 t2 Z1 Z2 R0 R1 R2 s1 s2 L m w) (H0 : Res R0) (H1 : Res R1) (H2 : Res R2) (hs : Dn L s1 = false) (hs2 : Dn L s2 = false) (hn : (i != a1 && i != a2 && i != s1 && i != s2) = true) (q : Below w.heap.size w w')
 (c0 : i = k0 → R0 v (Av a1 a2 m) w') (c1 : i = k1 → R1 v (Av a1 a2 m) w') (c2 : i = k2 → R2 v (Av a1 a2 m) w') : TwoS W k0 k1 k2 a1 a2 t1 t2 Z1 Z2 R0 R1 R2 s1 s2 (L.setIfInBounds i true) (upd m i v) w' := by
 simp only [Bool.and_eq_true, bne_iff_ne] at hn
 obtain ⟨⟨⟨y1, y2⟩, z1⟩, z2⟩ := hn
 have h := (hS.1 hs).mono H0 H1 H2 q
 have hav : ∀ b, Av a1 a2 m b → Av a1 a2 (upd m i v) b := fun b hb => ⟨by rw [upd_ne (Ne.symm y1)]; exact hb.1, by rw [upd_ne (Ne.symm y2)]; exact hb.2⟩
 have key : ∀ {R : Value → (Nat → Prop) → World → Prop} {k : Nat}, Res R → (Dn L k = true → R (m k) (Av a1 a2 m) w') → (i = k → R v (Av a1 a2 m) w') → Dn (L.setIfInBounds i true) k = true → R (upd m i v k) (Av a1 a2 (upd m i v)) w' := fun {R k} hR h1 h2 e => by
  by_cases ik : i = k
  · subst ik; rw [upd_same]; exact hR.weak (fun b hb _ => hav b hb) (h2 rfl)
  · rw [dn_ne (Ne.symm ik)] at e; rw [upd_ne (Ne.symm ik)]; exact hR.weak (fun b hb _ => hav b hb) (h1 e)
 refine ⟨fun _ => ⟨h.bel, fun e => ?_, fun e => ?_, fun e => ?_, fun e => ?_, fun e f => ?_, key H0 h.r0 c0, key H1 h.r1 c1, key H2 h.r2 c2⟩, fun e => ?_, fun e => ?_⟩
 · rw [dn_ne (Ne.symm y1)] at e; rw [upd_ne (Ne.symm y1)]; exact h.v1 e
 · rw [dn_ne (Ne.symm y1)] at e; rw [upd_ne (Ne.symm y1)]; exact h.n1 e
 · rw [dn_ne (Ne.symm y2)] at e; rw [upd_ne (Ne.symm y2)]; exact h.v2 e
 · rw [dn_ne (Ne.symm y2)] at e; rw [upd_ne (Ne.symm y2)]; exact h.n2 e
 · rw [dn_ne (Ne.symm y1)] at e; rw [dn_ne (Ne.symm y2)] at f; rw [upd_ne (Ne.symm y1), upd_ne (Ne.symm y2)]; exact h.ne e f
 · rw [dn_ne (Ne.symm z1), hs] at e; cases e
 · rw [dn_ne (Ne.symm z2), hs2] at e; cases e
theorem TwoS.set1 {c1 : Array Value} {g1 g2 : Nat} (hs2 : Dn L s2 = false) (hne : s2 ≠ s1) (hk : m k1 = .agg c1) (h : TwoB W k1 k2 a1 a2 t1 t2 R1 R2 c1 Z2 g1 g2 m w) : TwoS W k0 k1 k2 a1 a2 t1 t2 Z1 Z2 R0 R1 R2 s1 s2 (L.setIfInBounds s1 true) m w :=
 ⟨fun e => (by rw [dn_eq] at e; cases e), fun _ _ => ⟨g1, g2, c1, hk, h⟩, fun e => (by rw [dn_ne hne, hs2] at e; cases e)⟩
theorem TwoS.at1 (hS : TwoS W k0 k1 k2 a1 a2 t1 t2 Z1 Z2 R0 R1 R2 s1 s2 L m w) (h1 : Dn L s1 = true) (h2 : Dn L s2 = false) : ∃ g1 g2 c1, m k1 = .agg c1 ∧ TwoB W k1 k2 a1 a2 t1 t2 R1 R2 c1 Z2 g1 g2 m w := hS.2.1 h1 h2
theorem TwoS.set2 {c1 c2 : Array Value} {g1 g2 : Nat} (hne : s1 ≠ s2) (h1 : Dn L s1 = true) (hk : m k1 = .agg c1) (hk2 : m k2 = .agg c2) (h : TwoB W k1 k2 a1 a2 t1 t2 R1 R2 c1 c2 g1 g2 m w) : TwoS W k0 k1 k2 a1 a2 t1 t2 Z1 Z2 R0 R1 R2 s1 s2 (L.setIfInBounds s2 true) m w :=
 ⟨fun e => (by rw [dn_ne hne, h1] at e; cases e), fun _ e => (by rw [dn_eq] at e; cases e), fun _ => ⟨g1, g2, c1, c2, hk, hk2, h⟩⟩
theorem TwoS.fin (hS : TwoS W k0 k1 k2 a1 a2 t1 t2 Z1 Z2 R0 R1 R2 s1 s2 L m w) (h2 : Dn L s2 = true) : ∃ g1 g2 c1 c2, m k1 = .agg c1 ∧ m k2 = .agg c2 ∧ TwoB W k1 k2 a1 a2 t1 t2 R1 R2 c1 c2 g1 g2 m w := hS.2.2 h2
end
end Go.Proofs.Ytojghgbaiiajfaa
/- Senders, receivers and packets as data in memory. Conditions: none. -/
namespace Go.Proofs.Ytojghgbaiiajfaa
open Go.RowKit
def SC.rng (s : SC) : Prop := 0 ≤ s.base ∧ 0 ≤ s.sent ∧ 0 ≤ s.lim ∧ s.lim ≤ 18446744073709551615 ∧ s.base ≤ 18446744073709551615
def RC.rng (r : RC) : Prop := 0 ≤ r.next ∧ r.next ≤ 18446744073709551615
def PK.rng (p : PK) : Prop := 0 ≤ p.seq ∧ p.seq ≤ 18446744073709551615 ∧ 0 ≤ p.lim ∧ p.lim ≤ 18446744073709551615
def LRV : Lay RC where
 size := 6
 rep := fun w F s cs => ∃ A n c B m d, cs = [.int .u32 s.ses, .int .u64 s.next, .slice A n c, .slice B m d, .int .i64 s.room, .bool s.over] ∧ n ≤ c ∧ c ≤ 9223372036854775807 ∧ m ≤ d ∧ d ≤ 9223372036854775807 ∧ LH4.rd w F A n s.ahead ∧ LB3.rd w F B m s.buf
 len := fun h => by obtain ⟨A, n, c, B, m, d, rfl, _⟩ := h; rfl
 one := fun h u hu => by obtain ⟨A, n, c, B, m, d, rfl, _⟩ := h; simp at hu; rcases hu with rfl | rfl | rfl | rfl | rfl | rfl <;> rfl
 keep := fun hk h => by obtain ⟨A, n, c, B, m, d, e, h1, h2, h3, h4, hr, hr2⟩ := h; exact ⟨A, n, c, B, m, d, e, h1, h2, h3, h4, Lay.rd_keep hk hr, Lay.rd_keep hk hr2⟩
 weak := fun hk h => by obtain ⟨A, n, c, B, m, d, e, h1, h2, h3, h4, hr, hr2⟩ := h; exact ⟨A, n, c, B, m, d, e, h1, h2, h3, h4, Lay.rd_weak hk hr, Lay.rd_weak hk hr2⟩
structure SSP (w : World) (F : Nat → Prop) (p : Addr) (s : SC) (A : Option Addr) (n c : Nat) : Prop where
 c0 : w.cell? p = some (.int .u32 s.ses)
 c1 : w.cell? ⟨p.block, p.off + 1, none⟩ = some (.int .u64 s.base)
 c2 : w.cell? ⟨p.block, p.off + 2, none⟩ = some (.slice A n c)
 c3 : w.cell? ⟨p.block, p.off + 3, none⟩ = some (.int .u64 s.sent)
 c4 : w.cell? ⟨p.block, p.off + 4, none⟩ = some (.int .u64 s.lim)
 c5 : w.cell? ⟨p.block, p.off + 5, none⟩ = some (.int .i64 s.timer)
 c6 : w.cell? ⟨p.block, p.off + 6, none⟩ = some (.bool s.ended)
 nc : n ≤ c
 cm : c ≤ 9223372036854775807
 rd : LB3.rd w F A n s.q
structure SRP (w : World) (F : Nat → Prop) (p : Addr) (s : RC) (A : Option Addr) (n c : Nat) (B : Option Addr) (m d : Nat) : Prop where
 c0 : w.cell? p = some (.int .u32 s.ses)
 c1 : w.cell? ⟨p.block, p.off + 1, none⟩ = some (.int .u64 s.next)
 c2 : w.cell? ⟨p.block, p.off + 2, none⟩ = some (.slice A n c)
 c3 : w.cell? ⟨p.block, p.off + 3, none⟩ = some (.slice B m d)
 c4 : w.cell? ⟨p.block, p.off + 4, none⟩ = some (.int .i64 s.room)
 c5 : w.cell? ⟨p.block, p.off + 5, none⟩ = some (.bool s.over)
 nc : n ≤ c
 cm : c ≤ 9223372036854775807
 nc2 : m ≤ d
 cm2 : d ≤ 9223372036854775807
 rd : LH4.rd w F A n s.ahead
 rd2 : LB3.rd w F B m s.buf
structure SPP (w : World) (F : Nat → Prop) (p : Addr) (s : PK) (A : Option Addr) (n c : Nat) : Prop where
 c0 : w.cell? p = some (.int .i64 s.kind)
 c1 : w.cell? ⟨p.block, p.off + 1, none⟩ = some (.int .u32 s.ses)
 c2 : w.cell? ⟨p.block, p.off + 2, none⟩ = some (.int .u64 s.seq)
 c3 : w.cell? ⟨p.block, p.off + 3, none⟩ = some (.int .u64 s.lim)
 c4 : w.cell? ⟨p.block, p.off + 4, none⟩ = some (.slice A n c)
 c5 : w.cell? ⟨p.block, p.off + 5, none⟩ = some (.bool s.b.fin)
 c6 : w.cell? ⟨p.block, p.off + 6, none⟩ = some (.int .u64 s.b.cnt)
 nc : n ≤ c
 cm : c ≤ 9223372036854775807
 rd : LR.rd w F A n s.b.rows
end Go.Proofs.Ytojghgbaiiajfaa
/- What is done to a receiver, as data in memory. Conditions: none. -/
namespace Go.Proofs.Ytojghgbaiiajfaa
open Go.RowKit
def LHD : Lay HD where
 size := 9
 rep := fun w F a cs => ∃ A n c, cs = [.bool a.take, .bool a.near, .int .i64 a.pk.kind, .int .u32 a.pk.ses, .int .u64 a.pk.seq, .int .u64 a.pk.lim, .slice A n c, .bool a.pk.b.fin, .int .u64 a.pk.b.cnt] ∧ n ≤ c ∧ c ≤ 9223372036854775807 ∧ LR.rd w F A n a.pk.b.rows
 len := fun h => by obtain ⟨A, n, c, rfl, _⟩ := h; rfl
 one := fun h u hu => by obtain ⟨A, n, c, rfl, _⟩ := h; simp at hu; rcases hu with rfl | rfl | rfl | rfl | rfl | rfl | rfl | rfl | rfl <;> rfl
 keep := fun hk h => by obtain ⟨A, n, c, e, h1, h2, hr⟩ := h; exact ⟨A, n, c, e, h1, h2, Lay.rd_keep hk hr⟩
 weak := fun hk h => by obtain ⟨A, n, c, e, h1, h2, hr⟩ := h; exact ⟨A, n, c, e, h1, h2, Lay.rd_weak hk hr⟩
structure SHP (w : World) (F : Nat → Prop) (p : Addr) (a : HD) (A : Option Addr) (n c : Nat) : Prop where
 c0 : w.cell? p = some (.bool a.take)
 c1 : w.cell? ⟨p.block, p.off + 1, none⟩ = some (.bool a.near)
 c2 : w.cell? ⟨p.block, p.off + 2, none⟩ = some (.int .i64 a.pk.kind)
 c3 : w.cell? ⟨p.block, p.off + 3, none⟩ = some (.int .u32 a.pk.ses)
 c4 : w.cell? ⟨p.block, p.off + 4, none⟩ = some (.int .u64 a.pk.seq)
 c5 : w.cell? ⟨p.block, p.off + 5, none⟩ = some (.int .u64 a.pk.lim)
 c6 : w.cell? ⟨p.block, p.off + 6, none⟩ = some (.slice A n c)
 c7 : w.cell? ⟨p.block, p.off + 7, none⟩ = some (.bool a.pk.b.fin)
 c8 : w.cell? ⟨p.block, p.off + 8, none⟩ = some (.int .u64 a.pk.b.cnt)
 nc : n ≤ c
 cm : c ≤ 9223372036854775807
 rd : LR.rd w F A n a.pk.b.rows
theorem LHD_at {w : World} {F : Nat → Prop} {A : Option Addr} {n i : Nat} {xs : List HD} (h : LHD.rd w F A n xs) (hi : i < n) : ∃ ad s B k c, A = some ad ∧ xs[i]? = some s ∧ (ad.add (i * 9)).block < w.heap.size ∧ SHP w F (ad.add (i * 9)) s B k c := by
 obtain ⟨ad, s, cs, e, hx, hb, _, ⟨B, k, c, rfl, h1, h2, hr⟩, hc⟩ := Lay.rd_at h hi
 exact ⟨ad, s, B, k, c, e, hx, by rw [block_of_add]; exact hb, ⟨hc 0 _ rfl, (by rw [← addr_more _ _ 1 (by omega)]; exact hc 1 _ rfl), (by rw [← addr_more _ _ 2 (by omega)]; exact hc 2 _ rfl), (by rw [← addr_more _ _ 3 (by omega)]; exact hc 3 _ rfl), (by rw [← addr_more _ _ 4 (by omega)]; exact hc 4 _ rfl), (by rw [← addr_more _ _ 5 (by omega)]; exact hc 5 _ rfl), (by rw [← addr_more _ _ 6 (by omega)]; exact hc 6 _ rfl), (by rw [← addr_more _ _ 7 (by omega)]; exact hc 7 _ rfl), (by rw [← addr_more _ _ 8 (by omega)]; exact hc 8 _ rfl), h1, h2, hr⟩⟩
end Go.Proofs.Ytojghgbaiiajfaa
/- The program is laid out. Conditions: none. -/
namespace Go.Proofs.Ytojghgbaiiajfaa
open Go.ChangeShapes Go.WideShapes Go.ChangeAt Go.RowKit Go.Deep
theorem Try.own : ownKnob Try.prog.godebug = none := by kernel_rfl
theorem Try.laidOut : laidOutB Try.prog = true := by kernel_rfl
end Go.Proofs.Ytojghgbaiiajfaa
/- Arguments: a sender, a receiver, packets. Conditions: none. -/
namespace Go.Proofs.Ytojghgbaiiajfaa
open Go.ChangeShapes Go.WideShapes Go.ChangeAt Go.RowKit Go.Deep
theorem wfU {x : Int} (h : (Lit.int .u64 x).wf = true) : 0 ≤ x ∧ x ≤ 18446744073709551615 := by
 simp [Lit.wf, IntKind.min, IntKind.max, IntKind.signed, IntKind.bits] at h
 omega
theorem opens_val : Opens Try.prog 142 LV (fun _ => True) :=
 opens_as (opens_struct Try.underlying142 (by kernel_rfl)
  (opensAt_cons 0 3 (by kernel_rfl) (opens_int Try.underlying3 (by kernel_rfl))
   (opensAt_cons 1 2 (by kernel_rfl) (opens_int Try.underlying2 (by kernel_rfl))
    (opensAt_cons 2 26 (by kernel_rfl) (opens_int Try.underlying26 (by kernel_rfl))
     (opensAt_last 3 9 (by kernel_rfl) (opens_str Try.underlying9 (by kernel_rfl))))))) rfl
  (fun w a cs h g => by
   obtain ⟨k, n, u, s⟩ := a
   obtain ⟨_, _, rfl, rfl, _, _, rfl, rfl, _, _, rfl, rfl, rfl⟩ := h
   exact ⟨⟨k, n, u, s⟩, rfl, trivial⟩)
theorem opens_rows : Opens Try.prog 43 LR.slice (fun rows => ∀ r ∈ rows, ∀ v ∈ r, True) :=
 opens_slice Try.underlying43 (by kernel_rfl) (by decide) (opens_slice Try.underlying89 (by kernel_rfl) (by decide) opens_val)
theorem opens_batch : Opens Try.prog 45 LB3 (fun _ => True) :=
 opens_as (opens_struct Try.underlying45 (by kernel_rfl)
  (opensAt_cons 0 43 (by kernel_rfl) opens_rows
   (opensAt_cons 1 4 (by kernel_rfl) (opens_bool Try.underlying4 (by kernel_rfl))
    (opensAt_last 2 26 (by kernel_rfl) (opens_int Try.underlying26 (by kernel_rfl)))))) rfl
  (fun w a cs h g => by
   obtain ⟨rows, fin, cnt⟩ := a
   obtain ⟨_, _, rfl, ⟨A, n, c, rfl, h1, h2, hr⟩, _, _, rfl, rfl, rfl⟩ := h
   exact ⟨⟨rows, fin, cnt⟩, ⟨A, n, c, rfl, h1, h2, hr⟩, trivial⟩)
theorem opens_bats : Opens Try.prog 27 LB3.slice (fun xs => ∀ x ∈ xs, True) :=
 opens_slice Try.underlying27 (by kernel_rfl) (by decide) opens_batch
set_option maxRecDepth 100000 in
theorem opens_packet : Opens Try.prog 47 LP7 PK.rng :=
 opens_as (opens_struct Try.underlying47 (by kernel_rfl)
  (opensAt_cons 0 3 (by kernel_rfl) (opens_int Try.underlying3 (by kernel_rfl))
  (opensAt_cons 1 25 (by kernel_rfl) (opens_int Try.underlying25 (by kernel_rfl))
  (opensAt_cons 2 26 (by kernel_rfl) (opens_int Try.underlying26 (by kernel_rfl))
  (opensAt_cons 3 26 (by kernel_rfl) (opens_int Try.underlying26 (by kernel_rfl))
   (opensAt_last 4 45 (by kernel_rfl) opens_batch)))))) rfl
  (fun w a cs h g => by
   obtain ⟨kind, ses, seq, lim, b⟩ := a
   obtain ⟨_, _, rfl, rfl, _, _, rfl, rfl, _, _, rfl, rfl, _, _, rfl, rfl, A, n, c, rfl, h1, h2, hr⟩ := h
   obtain ⟨_, _, g2, g3, _⟩ := g
   exact ⟨⟨kind, ses, seq, lim, b⟩, ⟨A, n, c, rfl, h1, h2, hr⟩, (wfU g2).1, (wfU g2).2, (wfU g3).1, (wfU g3).2⟩)
theorem opens_held : Opens Try.prog 81 LH4 (fun _ => True) :=
 opens_as (opens_struct Try.underlying81 (by kernel_rfl)
  (opensAt_cons 0 26 (by kernel_rfl) (opens_int Try.underlying26 (by kernel_rfl))
   (opensAt_last 1 45 (by kernel_rfl) opens_batch))) rfl
  (fun w a cs h g => by
   obtain ⟨seq, b⟩ := a
   obtain ⟨_, _, rfl, rfl, A, n, c, rfl, h1, h2, hr⟩ := h
   exact ⟨⟨seq, b⟩, ⟨A, n, c, rfl, h1, h2, hr⟩, trivial⟩)
theorem opens_helds : Opens Try.prog 34 LH4.slice (fun xs => ∀ x ∈ xs, True) :=
 opens_slice Try.underlying34 (by kernel_rfl) (by decide) opens_held
set_option maxRecDepth 100000 in
theorem opens_recv : Opens Try.prog 36 LRV RC.rng :=
 opens_as (opens_struct Try.underlying36 (by kernel_rfl)
  (opensAt_cons 0 25 (by kernel_rfl) (opens_int Try.underlying25 (by kernel_rfl))
  (opensAt_cons 1 26 (by kernel_rfl) (opens_int Try.underlying26 (by kernel_rfl))
  (opensAt_cons 2 34 (by kernel_rfl) opens_helds
  (opensAt_cons 3 27 (by kernel_rfl) opens_bats
  (opensAt_cons 4 3 (by kernel_rfl) (opens_int Try.underlying3 (by kernel_rfl))
   (opensAt_last 5 4 (by kernel_rfl) (opens_bool Try.underlying4 (by kernel_rfl))))))))) rfl
  (fun w a cs h g => by
   obtain ⟨ses, next, ahead, buf, room, over⟩ := a
   obtain ⟨_, _, rfl, rfl, _, _, rfl, rfl, _, _, rfl, ⟨A, n, c, rfl, h1, h2, hr⟩, _, _, rfl, ⟨B, m, d, rfl, h3, h4, hr2⟩, _, _, rfl, rfl, rfl⟩ := h
   obtain ⟨_, g1, _⟩ := g
   exact ⟨⟨ses, next, ahead, buf, room, over⟩, ⟨A, n, c, B, m, d, rfl, h1, h2, h3, h4, hr, hr2⟩, (wfU g1).1, (wfU g1).2⟩)
/-- an argument that is a struct -/
theorem open_agg {P : Program} {t : TypeId} {fs : Array Field} (ht : P.underlying t = some (.struct fs)) {α : Type} {L : Lay α} {G : α → Prop} (ho : Opens P t L G) {H : Type} {enc : TypeId × Value → H} {W : World} {r : Reach} {base : Nat} {v : Value} {d : DataW H} {p : List MemPlace}
 (hv : Value.okWide P W r base t v) (h : DataW.Trod enc P W 0 (fun _ => true) true t v d p) : ∃ a cs, v = .agg cs ∧ L.rep W AllB a cs.toList ∧ G a := by
 obtain ⟨cs, rfl, _⟩ := okWide_struct ht hv
 obtain ⟨fuel, hf⟩ := h
 obtain ⟨a, ha, g⟩ := ho.2 enc W fuel _ _ hf
 exact ⟨a, cs, rfl, by simpa [Value.cells] using ha, g⟩
set_option maxRecDepth 100000 in
theorem open_recv {H : Type} {enc : TypeId × Value → H} {W : World} {r : Reach} {base : Nat} {v : Value} {d : DataW H} {p : List MemPlace} (hv : Value.okWide Try.prog W r base 36 v) (h : DataW.Trod enc Try.prog W 0 (fun _ => true) true 36 v d p) :
 ∃ (x : RC) (A : Option Addr) (n c : Nat) (B : Option Addr) (m k : Nat), v = .agg (x.cells A n c B m k) ∧ LH4.rd W AllB A n x.ahead ∧ n ≤ c ∧ c ≤ 9223372036854775807 ∧ LB3.rd W AllB B m x.buf ∧ m ≤ k ∧ k ≤ 9223372036854775807 ∧ RC.rng x := by
 obtain ⟨x, cs, rfl, ⟨A, n, c, B, m, k, e, h1, h2, h3, h4, hr, hr2⟩, g⟩ := open_agg Try.underlying36 opens_recv hv h
 exact ⟨x, A, n, c, B, m, k, by rw [show cs = x.cells A n c B m k from by apply Array.ext'; exact e], hr, h1, h2, hr2, h3, h4, g⟩
end Go.Proofs.Ytojghgbaiiajfaa
