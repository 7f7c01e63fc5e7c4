/- (Act).wants of bowspritlaw22: what the document says of an act. Conditions: what it reads reads so. -/
import Derived.Test.YtojghgbaiiajfaaPkS22
namespace Go.Proofs.Ytojghgbaiiajfaa
open Go.RowKit
theorem sendB_all {s : SC} (h : sendB s = true) : s.q.length ≤ 8 ∧ 1 ≤ s.base ∧ s.base ≤ 1099511627776 ∧ 0 ≤ s.timer ∧ s.timer < 3 ∧ s.base - 1 ≤ s.sent ∧ s.sent ≤ s.base - 1 + (s.q.length : Int) := by
  unfold sendB sendA sendM sendT at h
  simp only [Bool.and_eq_true, decide_eq_true_eq] at h
  omega
def WantW (w : World) (Fr : Nat → Prop) (E : Int) (t : SC) (P : List PK) (e : Ending) (w' : World) : Prop :=
  ∃ A2 n2 c2 PA pn pc, e = .returned (.tuple #[.agg (t.cells A2 n2 c2), .slice PA pn pc, .int .i64 E]) ∧ Below w.heap.size w w' ∧ LB3.rd w' (fun k => Fr k ∨ w.heap.size + 3 ≤ k) A2 n2 t.q ∧ n2 ≤ c2 ∧ c2 ≤ 9223372036854775807 ∧ LP7.rd w' (fun k => Fr k ∨ w.heap.size + 3 ≤ k) PA pn P ∧ pn ≤ 9223372036854775807
theorem runE_at {s : SC} (hb : sendB s = true) (E : Int) : runE s E = E := by unfold runE; rw [hb]; rfl
theorem runR_at {s : SC} (hb : sendB s = true) (E : Int) (s2 : SC) : runR s E s2 = if E = 0 then s2 else zeroS := by
  unfold runR
  rw [hb]
  by_cases h : E = 0 <;> simp [h]
theorem put_use {w0 w' : World} {Fr1 Fr : Nat → Prop} {E : Int} {B : Nat} {s s2 : SC} {e : Ending} (h : PutW w0 Fr1 E s2 e w') (hb : sendB s = true) (hF : ∀ k, Fr1 k → Fr k ∨ B ≤ k) (hB : B ≤ w0.heap.size) :
    ∃ A2 n2 c2, e = .returned (.tuple #[.agg ((runR s E s2).cells A2 n2 c2), .int .i64 (runE s E)]) ∧ Below w0.heap.size w0 w' ∧ LB3.rd w' (fun k => Fr k ∨ B ≤ k) A2 n2 (runR s E s2).q ∧ n2 ≤ c2 ∧ c2 ≤ 9223372036854775807 := by
  rw [runE_at hb, runR_at hb]
  obtain ⟨C, N, rfl, rfl, q, ⟨hE, rfl⟩ | ⟨hE, A2, n2, c2, rfl, hrd, h1, h2⟩⟩ := h
  · rw [if_neg hE]
    exact ⟨none, 0, 0, rfl, q, Lay.rd_nil _, Nat.le_refl _, by omega⟩
  · rw [if_pos hE]
    exact ⟨A2, n2, c2, rfl, q, Lay.rd_weak (fun b hb _ => hb.elim (fun h => hF b h) (fun h => .inr (by omega))) hrd, h1, h2⟩
set_option maxRecDepth 100000 in
set_option maxHeartbeats 32000000 in
theorem want_no (Fr : Nat → Prop) (a : AC) (s : SC) (rA : Option Addr) (rn rc : Nat) (pA : Option Addr) (pn pc : Nat) (A : Option Addr) (n c : Nat) (w : World) (hFr : ∀ k, Fr k → k < w.heap.size) (h : LB3.rd w Fr A n s.q) (hnc : n ≤ c) (hc : c ≤ 9223372036854775807)
    (hrr : LR.rd w Fr rA rn a.rows) (hrc : rn ≤ rc) (hrm : rc ≤ 9223372036854775807) (hr : LR.rd w Fr pA pn a.pk.b.rows) (hpc : pn ≤ pc) (hpm : pc ≤ 9223372036854775807) (hb : sendB s = false) :
    Calls Try.prog 17 #[.agg (a.cells rA rn rc pA pn pc), .agg (s.cells A n c)] w (WantW w Fr (runE s 0) (runR s 0 (zeroS)) []) := by
  obtain ⟨tt, htt⟩ : ∃ tt, tt = runR s 0 (zeroS) := ⟨_, rfl⟩
  obtain ⟨ee, hee⟩ : ∃ ee, ee = runE s 0 := ⟨_, rfl⟩
  rw [← htt, ← hee]
  have HTT := Lib.hid htt
  have HEE := Lib.hid hee
  clear htt hee
  have _hx9 := And.intro (And.intro hrc hrm) (And.intro hpc hpm)
  have HLN := Lib.hid (Lay.rd_len h)
  obtain ⟨kd, rows, ⟨kind, ses, seq, lim, ⟨prows, fin, cnt⟩⟩, near⟩ := a
  obtain ⟨sses, sbase, sq, ssent, slim, stimer, sended⟩ := s
  dsimp only at h hrr hr HLN
  have q1 := bl_al (Below.refl w.heap.size w) (.cells #[.int .i64 kd, .slice rA rn rc, .int .i64 kind, .int .u32 ses, .int .u64 seq, .int .u64 lim, .slice pA pn pc, .bool fin, .int .u64 cnt, .bool near] 49)
  have q2 := bl_al q1 (.cells #[.int .u32 sses, .int .u64 sbase, .slice A n c, .int .u64 ssent, .int .u64 slim, .int .i64 stimer, .bool sended] 29)
  have q3 := bl_al q2 (.cells #[.int .u32 0, .int .u64 0, .slice none 0 0, .int .u64 0, .int .u64 0, .int .i64 0, .bool false] 29)
  have HB1 := Lib.hid (((Blk.new w 49 #[.int .i64 kd, .slice rA rn rc, .int .i64 kind, .int .u32 ses, .int .u64 seq, .int .u64 lim, .slice pA pn pc, .bool fin, .int .u64 cnt, .bool near]).alloc (.cells #[.int .u32 sses, .int .u64 sbase, .slice A n c, .int .u64 ssent, .int .u64 slim, .int .i64 stimer, .bool sended] 29)).alloc (.cells #[.int .u32 0, .int .u64 0, .slice none 0 0, .int .u64 0, .int .u64 0, .int .i64 0, .bool false] 29))
  have HB2 := Lib.hid (show Blk (((w.alloc (.cells #[.int .i64 kd, .slice rA rn rc, .int .i64 kind, .int .u32 ses, .int .u64 seq, .int .u64 lim, .slice pA pn pc, .bool fin, .int .u64 cnt, .bool near] 49)).alloc (.cells #[.int .u32 sses, .int .u64 sbase, .slice A n c, .int .u64 ssent, .int .u64 slim, .int .i64 stimer, .bool sended] 29)).alloc (.cells #[.int .u32 0, .int .u64 0, .slice none 0 0, .int .u64 0, .int .u64 0, .int .i64 0, .bool false] 29)) (w.heap.size + 1) 29 #[.int .u32 sses, .int .u64 sbase, .slice A n c, .int .u64 ssent, .int .u64 slim, .int .i64 stimer, .bool sended] from by have := (Blk.new (w.alloc (.cells #[.int .i64 kd, .slice rA rn rc, .int .i64 kind, .int .u32 ses, .int .u64 seq, .int .u64 lim, .slice pA pn pc, .bool fin, .int .u64 cnt, .bool near] 49)) 29 #[.int .u32 sses, .int .u64 sbase, .slice A n c, .int .u64 ssent, .int .u64 slim, .int .i64 stimer, .bool sended]).alloc (.cells #[.int .u32 0, .int .u64 0, .slice none 0 0, .int .u64 0, .int .u64 0, .int .i64 0, .bool false] 29); simp only [World.size_alloc] at this; exact this)
  have HB3 := Lib.hid (show Blk (((w.alloc (.cells #[.int .i64 kd, .slice rA rn rc, .int .i64 kind, .int .u32 ses, .int .u64 seq, .int .u64 lim, .slice pA pn pc, .bool fin, .int .u64 cnt, .bool near] 49)).alloc (.cells #[.int .u32 sses, .int .u64 sbase, .slice A n c, .int .u64 ssent, .int .u64 slim, .int .i64 stimer, .bool sended] 29)).alloc (.cells #[.int .u32 0, .int .u64 0, .slice none 0 0, .int .u64 0, .int .u64 0, .int .i64 0, .bool false] 29)) (w.heap.size + 2) 29 #[.int .u32 0, .int .u64 0, .slice none 0 0, .int .u64 0, .int .u64 0, .int .i64 0, .bool false] from by have := Blk.new ((w.alloc (.cells #[.int .i64 kd, .slice rA rn rc, .int .i64 kind, .int .u32 ses, .int .u64 seq, .int .u64 lim, .slice pA pn pc, .bool fin, .int .u64 cnt, .bool near] 49)).alloc (.cells #[.int .u32 sses, .int .u64 sbase, .slice A n c, .int .u64 ssent, .int .u64 slim, .int .i64 stimer, .bool sended] 29)) 29 #[.int .u32 0, .int .u64 0, .slice none 0 0, .int .u64 0, .int .u64 0, .int .i64 0, .bool false]; simp only [World.size_alloc] at this; exact this)
  have HQ3 := Lib.hid q3
  have HFR := Lib.hid hFr
  have HRD0 := Lib.hid (Lay.rd_below h q3)
  have HRR0 := Lib.hid (Lay.rd_below hrr q3)
  have HPR0 := Lib.hid (Lay.rd_below hr q3)
  have hs3 : (((w.alloc (.cells #[.int .i64 kd, .slice rA rn rc, .int .i64 kind, .int .u32 ses, .int .u64 seq, .int .u64 lim, .slice pA pn pc, .bool fin, .int .u64 cnt, .bool near] 49)).alloc (.cells #[.int .u32 sses, .int .u64 sbase, .slice A n c, .int .u64 ssent, .int .u64 slim, .int .i64 stimer, .bool sended] 29)).alloc (.cells #[.int .u32 0, .int .u64 0, .slice none 0 0, .int .u64 0, .int .u64 0, .int .i64 0, .bool false] 29)).heap.size = w.heap.size + 3 := by simp only [World.size_alloc]
  have HC := Lib.hid (rsend_any Fr ⟨sses, sbase, sq, ssent, slim, stimer, sended⟩ A n c (((w.alloc (.cells #[.int .i64 kd, .slice rA rn rc, .int .i64 kind, .int .u32 ses, .int .u64 seq, .int .u64 lim, .slice pA pn pc, .bool fin, .int .u64 cnt, .bool near] 49)).alloc (.cells #[.int .u32 sses, .int .u64 sbase, .slice A n c, .int .u64 ssent, .int .u64 slim, .int .i64 stimer, .bool sended] 29)).alloc (.cells #[.int .u32 0, .int .u64 0, .slice none 0 0, .int .u64 0, .int .u64 0, .int .i64 0, .bool false] 29)) HRD0.out (by omega))
  rw [hb] at HC
  clear h hrr hr q1 q2 q3 hFr
  show Calls Try.prog 17 #[.agg #[.int .i64 kd, .slice rA rn rc, .int .i64 kind, .int .u32 ses, .int .u64 seq, .int .u64 lim, .slice pA pn pc, .bool fin, .int .u64 cnt, .bool near], .agg #[.int .u32 sses, .int .u64 sbase, .slice A n c, .int .u64 ssent, .int .u64 slim, .int .i64 stimer, .bool sended]] w _
  go_enter Try.func17, Try.ntmps17
  have y0 := HB2.out.cell 0
  have y1 := HB2.out.cell 1
  have y2 := HB2.out.cell 2
  have y3 := HB2.out.cell 3
  have y4 := HB2.out.cell 4
  have y5 := HB2.out.cell 5
  have y6 := HB2.out.cell 6
  go_wp2_with fail
  clear y0 y1 y2 y3 y4 y5 y6
  generalize (((w.alloc (.cells #[.int .i64 kd, .slice rA rn rc, .int .i64 kind, .int .u32 ses, .int .u64 seq, .int .u64 lim, .slice pA pn pc, .bool fin, .int .u64 cnt, .bool near] 49)).alloc (.cells #[.int .u32 sses, .int .u64 sbase, .slice A n c, .int .u64 ssent, .int .u64 slim, .int .i64 stimer, .bool sended] 29)).alloc (.cells #[.int .u32 0, .int .u64 0, .slice none 0 0, .int .u64 0, .int .u64 0, .int .i64 0, .bool false] 29)) = w2 at *
  refine HC.out.mono ?_
  clear HC
  rintro e w3 ⟨rfl, q4⟩
  have hs23 := q4.size
  have HK1 := Lib.hid (HB1.out.ca q4)
  have HK2 := Lib.hid (HB2.out.ca q4)
  have HK3 := Lib.hid (HB3.out.ca q4)
  have HQ4 := Lib.hid (bl_ca HQ3.out q4)
  have HRD := Lib.hid (Lay.rd_below HRD0.out q4)
  have HRR := Lib.hid (Lay.rd_below HRR0.out q4)
  have HPR := Lib.hid (Lay.rd_below HPR0.out q4)
  clear q4 HB1 HB2 HB3 HRD0 HRR0 HPR0
  have x0 := HK1.out.cell 0
  obtain rfl : ee = 320 := by rw [HEE.out]; unfold runE; rw [hb]; rfl
  obtain rfl : tt = zeroS := by rw [HTT.out]; unfold runR; rw [hb]; rfl
  go_wp2_with (refine wpList_store_blk rfl 29 (.tmp 4) (.tmp 10) rfl (w.heap.size + 2) 29 #[.int .u32 0, .int .u64 0, .slice none 0 0, .int .u64 0, .int .u64 0, .int .i64 0, .bool false] (zeroS.cells none 0 0) rfl rfl HK3.out rfl senderI (by simp [SC.cells, zeroS, Value.oneCell']) ?_; intro w5 h5 g5)
  exact bodyPost_ret (res3 Try.results17 rfl rfl rfl h5 Try.underlying29 rfl senderI) rfl ⟨none, 0, 0, none, 0, 0, rfl, bl_gr HQ4.out g5 (by omega), Lay.rd_nil _, Nat.le_refl _, by omega, Lay.rd_nil _, by omega⟩
set_option maxRecDepth 100000 in
set_option maxHeartbeats 32000000 in
theorem want_close (Fr : Nat → Prop) (a : AC) (s : SC) (rA : Option Addr) (rn rc : Nat) (pA : Option Addr) (pn pc : Nat) (A : Option Addr) (n c : Nat) (w : World) (hFr : ∀ k, Fr k → k < w.heap.size) (h : LB3.rd w Fr A n s.q) (_hnc : n ≤ c) (_hc : c ≤ 9223372036854775807)
    (hrr : LR.rd w Fr rA rn a.rows) (hrc : rn ≤ rc) (hrm : rc ≤ 9223372036854775807) (hr : LR.rd w Fr pA pn a.pk.b.rows) (hpc : pn ≤ pc) (hpm : pc ≤ 9223372036854775807) (hb : sendB s = true) (hk : k7 a = 2) :
    Calls Try.prog 17 #[.agg (a.cells rA rn rc pA pn pc), .agg (s.cells A n c)] w (WantW w Fr (runE s (putE s)) (runR s (putE s) (putR s (lastB s))) []) := by
  obtain ⟨tt, htt⟩ : ∃ tt, tt = runR s (putE s) (putR s (lastB s)) := ⟨_, rfl⟩
  obtain ⟨ee, hee⟩ : ∃ ee, ee = runE s (putE s) := ⟨_, rfl⟩
  rw [← htt, ← hee]
  have HTT := Lib.hid htt
  have HEE := Lib.hid hee
  clear htt hee
  have _hx9 := And.intro (And.intro hrc hrm) (And.intro hpc hpm)
  have HLN := Lib.hid (Lay.rd_len h)
  obtain ⟨b1, b2, b3, b4, b5, b6, b7⟩ := sendB_all hb
  have HSB := Lib.hid hb
  obtain ⟨kd, rows, ⟨kind, ses, seq, lim, ⟨prows, fin, cnt⟩⟩, near⟩ := a
  obtain ⟨sses, sbase, sq, ssent, slim, stimer, sended⟩ := s
  unfold k7 at hk
  dsimp only at b1 b2 b3 b4 b5 b6 b7 hk
  have hn9 : n ≤ 100 := by have h9 : sq.length = n := HLN.out; omega
  dsimp only at h hrr hr HLN
  have q1 := bl_al (Below.refl w.heap.size w) (.cells #[.int .i64 kd, .slice rA rn rc, .int .i64 kind, .int .u32 ses, .int .u64 seq, .int .u64 lim, .slice pA pn pc, .bool fin, .int .u64 cnt, .bool near] 49)
  have q2 := bl_al q1 (.cells #[.int .u32 sses, .int .u64 sbase, .slice A n c, .int .u64 ssent, .int .u64 slim, .int .i64 stimer, .bool sended] 29)
  have q3 := bl_al q2 (.cells #[.int .u32 0, .int .u64 0, .slice none 0 0, .int .u64 0, .int .u64 0, .int .i64 0, .bool false] 29)
  have HB1 := Lib.hid (((Blk.new w 49 #[.int .i64 kd, .slice rA rn rc, .int .i64 kind, .int .u32 ses, .int .u64 seq, .int .u64 lim, .slice pA pn pc, .bool fin, .int .u64 cnt, .bool near]).alloc (.cells #[.int .u32 sses, .int .u64 sbase, .slice A n c, .int .u64 ssent, .int .u64 slim, .int .i64 stimer, .bool sended] 29)).alloc (.cells #[.int .u32 0, .int .u64 0, .slice none 0 0, .int .u64 0, .int .u64 0, .int .i64 0, .bool false] 29))
  have HB2 := Lib.hid (show Blk (((w.alloc (.cells #[.int .i64 kd, .slice rA rn rc, .int .i64 kind, .int .u32 ses, .int .u64 seq, .int .u64 lim, .slice pA pn pc, .bool fin, .int .u64 cnt, .bool near] 49)).alloc (.cells #[.int .u32 sses, .int .u64 sbase, .slice A n c, .int .u64 ssent, .int .u64 slim, .int .i64 stimer, .bool sended] 29)).alloc (.cells #[.int .u32 0, .int .u64 0, .slice none 0 0, .int .u64 0, .int .u64 0, .int .i64 0, .bool false] 29)) (w.heap.size + 1) 29 #[.int .u32 sses, .int .u64 sbase, .slice A n c, .int .u64 ssent, .int .u64 slim, .int .i64 stimer, .bool sended] from by have := (Blk.new (w.alloc (.cells #[.int .i64 kd, .slice rA rn rc, .int .i64 kind, .int .u32 ses, .int .u64 seq, .int .u64 lim, .slice pA pn pc, .bool fin, .int .u64 cnt, .bool near] 49)) 29 #[.int .u32 sses, .int .u64 sbase, .slice A n c, .int .u64 ssent, .int .u64 slim, .int .i64 stimer, .bool sended]).alloc (.cells #[.int .u32 0, .int .u64 0, .slice none 0 0, .int .u64 0, .int .u64 0, .int .i64 0, .bool false] 29); simp only [World.size_alloc] at this; exact this)
  have HB3 := Lib.hid (show Blk (((w.alloc (.cells #[.int .i64 kd, .slice rA rn rc, .int .i64 kind, .int .u32 ses, .int .u64 seq, .int .u64 lim, .slice pA pn pc, .bool fin, .int .u64 cnt, .bool near] 49)).alloc (.cells #[.int .u32 sses, .int .u64 sbase, .slice A n c, .int .u64 ssent, .int .u64 slim, .int .i64 stimer, .bool sended] 29)).alloc (.cells #[.int .u32 0, .int .u64 0, .slice none 0 0, .int .u64 0, .int .u64 0, .int .i64 0, .bool false] 29)) (w.heap.size + 2) 29 #[.int .u32 0, .int .u64 0, .slice none 0 0, .int .u64 0, .int .u64 0, .int .i64 0, .bool false] from by have := Blk.new ((w.alloc (.cells #[.int .i64 kd, .slice rA rn rc, .int .i64 kind, .int .u32 ses, .int .u64 seq, .int .u64 lim, .slice pA pn pc, .bool fin, .int .u64 cnt, .bool near] 49)).alloc (.cells #[.int .u32 sses, .int .u64 sbase, .slice A n c, .int .u64 ssent, .int .u64 slim, .int .i64 stimer, .bool sended] 29)) 29 #[.int .u32 0, .int .u64 0, .slice none 0 0, .int .u64 0, .int .u64 0, .int .i64 0, .bool false]; simp only [World.size_alloc] at this; exact this)
  have HQ3 := Lib.hid q3
  have HFR := Lib.hid hFr
  have HRD0 := Lib.hid (Lay.rd_below h q3)
  have HRR0 := Lib.hid (Lay.rd_below hrr q3)
  have HPR0 := Lib.hid (Lay.rd_below hr q3)
  have hs3 : (((w.alloc (.cells #[.int .i64 kd, .slice rA rn rc, .int .i64 kind, .int .u32 ses, .int .u64 seq, .int .u64 lim, .slice pA pn pc, .bool fin, .int .u64 cnt, .bool near] 49)).alloc (.cells #[.int .u32 sses, .int .u64 sbase, .slice A n c, .int .u64 ssent, .int .u64 slim, .int .i64 stimer, .bool sended] 29)).alloc (.cells #[.int .u32 0, .int .u64 0, .slice none 0 0, .int .u64 0, .int .u64 0, .int .i64 0, .bool false] 29)).heap.size = w.heap.size + 3 := by simp only [World.size_alloc]
  have HC := Lib.hid (rsend_any Fr ⟨sses, sbase, sq, ssent, slim, stimer, sended⟩ A n c (((w.alloc (.cells #[.int .i64 kd, .slice rA rn rc, .int .i64 kind, .int .u32 ses, .int .u64 seq, .int .u64 lim, .slice pA pn pc, .bool fin, .int .u64 cnt, .bool near] 49)).alloc (.cells #[.int .u32 sses, .int .u64 sbase, .slice A n c, .int .u64 ssent, .int .u64 slim, .int .i64 stimer, .bool sended] 29)).alloc (.cells #[.int .u32 0, .int .u64 0, .slice none 0 0, .int .u64 0, .int .u64 0, .int .i64 0, .bool false] 29)) HRD0.out (by omega))
  rw [hb] at HC
  clear h hrr hr q1 q2 q3 hFr
  show Calls Try.prog 17 #[.agg #[.int .i64 kd, .slice rA rn rc, .int .i64 kind, .int .u32 ses, .int .u64 seq, .int .u64 lim, .slice pA pn pc, .bool fin, .int .u64 cnt, .bool near], .agg #[.int .u32 sses, .int .u64 sbase, .slice A n c, .int .u64 ssent, .int .u64 slim, .int .i64 stimer, .bool sended]] w _
  go_enter Try.func17, Try.ntmps17
  have y0 := HB2.out.cell 0
  have y1 := HB2.out.cell 1
  have y2 := HB2.out.cell 2
  have y3 := HB2.out.cell 3
  have y4 := HB2.out.cell 4
  have y5 := HB2.out.cell 5
  have y6 := HB2.out.cell 6
  go_wp2_with fail
  clear y0 y1 y2 y3 y4 y5 y6
  generalize (((w.alloc (.cells #[.int .i64 kd, .slice rA rn rc, .int .i64 kind, .int .u32 ses, .int .u64 seq, .int .u64 lim, .slice pA pn pc, .bool fin, .int .u64 cnt, .bool near] 49)).alloc (.cells #[.int .u32 sses, .int .u64 sbase, .slice A n c, .int .u64 ssent, .int .u64 slim, .int .i64 stimer, .bool sended] 29)).alloc (.cells #[.int .u32 0, .int .u64 0, .slice none 0 0, .int .u64 0, .int .u64 0, .int .i64 0, .bool false] 29)) = w2 at *
  refine HC.out.mono ?_
  clear HC
  rintro e w3 ⟨rfl, q4⟩
  have hs23 := q4.size
  have HK1 := Lib.hid (HB1.out.ca q4)
  have HK2 := Lib.hid (HB2.out.ca q4)
  have HK3 := Lib.hid (HB3.out.ca q4)
  have HQ4 := Lib.hid (bl_ca HQ3.out q4)
  have HRD := Lib.hid (Lay.rd_below HRD0.out q4)
  have HRR := Lib.hid (Lay.rd_below HRR0.out q4)
  have HPR := Lib.hid (Lay.rd_below HPR0.out q4)
  clear q4 HB1 HB2 HB3 HRD0 HRR0 HPR0
  have x0 := HK1.out.cell 0
  have HC := Lib.hid (rclose_any Fr ⟨sses, sbase, sq, ssent, slim, stimer, sended⟩ A n c w3 HRD.out hn9 b2 (show sbase ≤ 2000000000000 by omega))
  have y0 := HK2.out.cell 0
  have y1 := HK2.out.cell 1
  have y2 := HK2.out.cell 2
  have y3 := HK2.out.cell 3
  have y4 := HK2.out.cell 4
  have y5 := HK2.out.cell 5
  have y6 := HK2.out.cell 6
  go_wp2_with fail
  clear x0 y0 y1 y2 y3 y4 y5 y6
  refine HC.out.mono ?_
  clear HC
  intro e w4 hp
  rw [← HLN.out] at hp
  obtain ⟨A2, n2, c2, rfl, q5, hrd, hk1, hk2⟩ := put_use (Fr := Fr) (B := w.heap.size + 3) hp HSB.out (fun k hk => .inl hk) (by omega)
  replace HTT := Lib.hid (show tt = runR ⟨sses, sbase, sq, ssent, slim, stimer, sended⟩ (putE ⟨sses, sbase, sq, ssent, slim, stimer, sended⟩) (putR ⟨sses, sbase, sq, ssent, slim, stimer, sended⟩ ⟨[], true, sbase - 1 + (sq.length : Int)⟩) from HTT.out)
  rw [← HTT.out] at hrd ⊢
  rw [← HEE.out]
  clear hp
  have HZ4 := Lib.hid (HK3.out.ca q5)
  have HQ5 := Lib.hid (bl_ca HQ4.out q5)
  have hs4 := q5.size
  have HRF := Lib.hid hrd
  have HKK := Lib.hid (And.intro hk1 hk2)
  clear hrd q5 hk1 hk2
  go_wp2_with (first | (refine wpList_store_blk rfl 29 (.tmp 4) (.tmp 36) rfl (w.heap.size + 2) 29 #[.int .u32 0, .int .u64 0, .slice none 0 0, .int .u64 0, .int .u64 0, .int .i64 0, .bool false] (tt.cells A2 n2 c2) rfl rfl HZ4.out rfl senderI (by simp [SC.cells, Value.oneCell']) ?_; intro w5 h5 g5; have HF5 := Lib.hid h5; have HG5 := Lib.hid g5; clear h5 g5) | (refine wpList_load_blk rfl 29 (.tmp 4) rfl (w.heap.size + 2) rfl 29 _ _ HF5.out Try.underlying29 rfl senderI ?_) | (refine wpList_store_blk rfl 29 (.tmp 4) (.tmp 46) rfl (w.heap.size + 2) 29 _ (tt.cells A2 n2 c2) rfl rfl HF5.out rfl senderI (by simp [SC.cells, Value.oneCell']) ?_; intro w6 h6 g6))
  have hs5 := HG5.out.size
  exact bodyPost_ret (res3 Try.results17 rfl rfl rfl h6 Try.underlying29 rfl senderI) rfl ⟨A2, n2, c2, none, 0, 0, rfl, bl_gr (bl_gr HQ5.out HG5.out (by omega)) g6 (by omega), rd_grown (rd_grown HRF.out HG5.out (fun b hb => hb.elim (fun h => by have := HFR.out b h; omega) (fun h => by omega))) g6 (fun b hb => hb.elim (fun h => by have := HFR.out b h; omega) (fun h => by omega)), HKK.out.1, HKK.out.2, Lay.rd_nil _, by omega⟩
set_option maxRecDepth 100000 in
set_option maxHeartbeats 32000000 in
theorem want_tick (Fr : Nat → Prop) (a : AC) (s : SC) (rA : Option Addr) (rn rc : Nat) (pA : Option Addr) (pn pc : Nat) (A : Option Addr) (n c : Nat) (w : World) (hFr : ∀ k, Fr k → k < w.heap.size) (h : LB3.rd w Fr A n s.q) (hnc : n ≤ c) (hc : c ≤ 9223372036854775807)
    (hrr : LR.rd w Fr rA rn a.rows) (hrc : rn ≤ rc) (hrm : rc ≤ 9223372036854775807) (hr : LR.rd w Fr pA pn a.pk.b.rows) (hpc : pn ≤ pc) (hpm : pc ≤ 9223372036854775807) (hb : sendB s = true) (hk : k7 a = 3 ∨ k7 a = 4) :
    Calls Try.prog 17 #[.agg (a.cells rA rn rc pA pn pc), .agg (s.cells A n c)] w (WantW w Fr (runE s 0) (runR s 0 (tickR s)) (if sendB s then outP s else [])) := by
  obtain ⟨tt, htt⟩ : ∃ tt, tt = runR s 0 (tickR s) := ⟨_, rfl⟩
  obtain ⟨ee, hee⟩ : ∃ ee, ee = runE s 0 := ⟨_, rfl⟩
  rw [← htt, ← hee]
  have HTT := Lib.hid htt
  have HEE := Lib.hid hee
  clear htt hee
  rw [if_pos hb]
  obtain ⟨PP, hPP⟩ : ∃ PP, PP = outP s := ⟨_, rfl⟩
  rw [← hPP]
  have HPP := Lib.hid hPP
  clear hPP
  have _hx9 := And.intro (And.intro hrc hrm) (And.intro hpc hpm)
  have HLN := Lib.hid (Lay.rd_len h)
  obtain ⟨b1, b2, b3, b4, b5, b6, b7⟩ := sendB_all hb
  have HSB := Lib.hid hb
  obtain ⟨kd, rows, ⟨kind, ses, seq, lim, ⟨prows, fin, cnt⟩⟩, near⟩ := a
  obtain ⟨sses, sbase, sq, ssent, slim, stimer, sended⟩ := s
  unfold k7 at hk
  dsimp only at b1 b2 b3 b4 b5 b6 b7 hk
  have hn9 : n ≤ 100 := by have h9 : sq.length = n := HLN.out; omega
  dsimp only at h hrr hr HLN
  have q1 := bl_al (Below.refl w.heap.size w) (.cells #[.int .i64 kd, .slice rA rn rc, .int .i64 kind, .int .u32 ses, .int .u64 seq, .int .u64 lim, .slice pA pn pc, .bool fin, .int .u64 cnt, .bool near] 49)
  have q2 := bl_al q1 (.cells #[.int .u32 sses, .int .u64 sbase, .slice A n c, .int .u64 ssent, .int .u64 slim, .int .i64 stimer, .bool sended] 29)
  have q3 := bl_al q2 (.cells #[.int .u32 0, .int .u64 0, .slice none 0 0, .int .u64 0, .int .u64 0, .int .i64 0, .bool false] 29)
  have HB1 := Lib.hid (((Blk.new w 49 #[.int .i64 kd, .slice rA rn rc, .int .i64 kind, .int .u32 ses, .int .u64 seq, .int .u64 lim, .slice pA pn pc, .bool fin, .int .u64 cnt, .bool near]).alloc (.cells #[.int .u32 sses, .int .u64 sbase, .slice A n c, .int .u64 ssent, .int .u64 slim, .int .i64 stimer, .bool sended] 29)).alloc (.cells #[.int .u32 0, .int .u64 0, .slice none 0 0, .int .u64 0, .int .u64 0, .int .i64 0, .bool false] 29))
  have HB2 := Lib.hid (show Blk (((w.alloc (.cells #[.int .i64 kd, .slice rA rn rc, .int .i64 kind, .int .u32 ses, .int .u64 seq, .int .u64 lim, .slice pA pn pc, .bool fin, .int .u64 cnt, .bool near] 49)).alloc (.cells #[.int .u32 sses, .int .u64 sbase, .slice A n c, .int .u64 ssent, .int .u64 slim, .int .i64 stimer, .bool sended] 29)).alloc (.cells #[.int .u32 0, .int .u64 0, .slice none 0 0, .int .u64 0, .int .u64 0, .int .i64 0, .bool false] 29)) (w.heap.size + 1) 29 #[.int .u32 sses, .int .u64 sbase, .slice A n c, .int .u64 ssent, .int .u64 slim, .int .i64 stimer, .bool sended] from by have := (Blk.new (w.alloc (.cells #[.int .i64 kd, .slice rA rn rc, .int .i64 kind, .int .u32 ses, .int .u64 seq, .int .u64 lim, .slice pA pn pc, .bool fin, .int .u64 cnt, .bool near] 49)) 29 #[.int .u32 sses, .int .u64 sbase, .slice A n c, .int .u64 ssent, .int .u64 slim, .int .i64 stimer, .bool sended]).alloc (.cells #[.int .u32 0, .int .u64 0, .slice none 0 0, .int .u64 0, .int .u64 0, .int .i64 0, .bool false] 29); simp only [World.size_alloc] at this; exact this)
  have HB3 := Lib.hid (show Blk (((w.alloc (.cells #[.int .i64 kd, .slice rA rn rc, .int .i64 kind, .int .u32 ses, .int .u64 seq, .int .u64 lim, .slice pA pn pc, .bool fin, .int .u64 cnt, .bool near] 49)).alloc (.cells #[.int .u32 sses, .int .u64 sbase, .slice A n c, .int .u64 ssent, .int .u64 slim, .int .i64 stimer, .bool sended] 29)).alloc (.cells #[.int .u32 0, .int .u64 0, .slice none 0 0, .int .u64 0, .int .u64 0, .int .i64 0, .bool false] 29)) (w.heap.size + 2) 29 #[.int .u32 0, .int .u64 0, .slice none 0 0, .int .u64 0, .int .u64 0, .int .i64 0, .bool false] from by have := Blk.new ((w.alloc (.cells #[.int .i64 kd, .slice rA rn rc, .int .i64 kind, .int .u32 ses, .int .u64 seq, .int .u64 lim, .slice pA pn pc, .bool fin, .int .u64 cnt, .bool near] 49)).alloc (.cells #[.int .u32 sses, .int .u64 sbase, .slice A n c, .int .u64 ssent, .int .u64 slim, .int .i64 stimer, .bool sended] 29)) 29 #[.int .u32 0, .int .u64 0, .slice none 0 0, .int .u64 0, .int .u64 0, .int .i64 0, .bool false]; simp only [World.size_alloc] at this; exact this)
  have HQ3 := Lib.hid q3
  have HFR := Lib.hid hFr
  have HRD0 := Lib.hid (Lay.rd_below h q3)
  have HRR0 := Lib.hid (Lay.rd_below hrr q3)
  have HPR0 := Lib.hid (Lay.rd_below hr q3)
  have hs3 : (((w.alloc (.cells #[.int .i64 kd, .slice rA rn rc, .int .i64 kind, .int .u32 ses, .int .u64 seq, .int .u64 lim, .slice pA pn pc, .bool fin, .int .u64 cnt, .bool near] 49)).alloc (.cells #[.int .u32 sses, .int .u64 sbase, .slice A n c, .int .u64 ssent, .int .u64 slim, .int .i64 stimer, .bool sended] 29)).alloc (.cells #[.int .u32 0, .int .u64 0, .slice none 0 0, .int .u64 0, .int .u64 0, .int .i64 0, .bool false] 29)).heap.size = w.heap.size + 3 := by simp only [World.size_alloc]
  have HC := Lib.hid (rsend_any Fr ⟨sses, sbase, sq, ssent, slim, stimer, sended⟩ A n c (((w.alloc (.cells #[.int .i64 kd, .slice rA rn rc, .int .i64 kind, .int .u32 ses, .int .u64 seq, .int .u64 lim, .slice pA pn pc, .bool fin, .int .u64 cnt, .bool near] 49)).alloc (.cells #[.int .u32 sses, .int .u64 sbase, .slice A n c, .int .u64 ssent, .int .u64 slim, .int .i64 stimer, .bool sended] 29)).alloc (.cells #[.int .u32 0, .int .u64 0, .slice none 0 0, .int .u64 0, .int .u64 0, .int .i64 0, .bool false] 29)) HRD0.out (by omega))
  rw [hb] at HC
  clear h hrr hr q1 q2 q3 hFr
  show Calls Try.prog 17 #[.agg #[.int .i64 kd, .slice rA rn rc, .int .i64 kind, .int .u32 ses, .int .u64 seq, .int .u64 lim, .slice pA pn pc, .bool fin, .int .u64 cnt, .bool near], .agg #[.int .u32 sses, .int .u64 sbase, .slice A n c, .int .u64 ssent, .int .u64 slim, .int .i64 stimer, .bool sended]] w _
  go_enter Try.func17, Try.ntmps17
  have y0 := HB2.out.cell 0
  have y1 := HB2.out.cell 1
  have y2 := HB2.out.cell 2
  have y3 := HB2.out.cell 3
  have y4 := HB2.out.cell 4
  have y5 := HB2.out.cell 5
  have y6 := HB2.out.cell 6
  go_wp2_with fail
  clear y0 y1 y2 y3 y4 y5 y6
  generalize (((w.alloc (.cells #[.int .i64 kd, .slice rA rn rc, .int .i64 kind, .int .u32 ses, .int .u64 seq, .int .u64 lim, .slice pA pn pc, .bool fin, .int .u64 cnt, .bool near] 49)).alloc (.cells #[.int .u32 sses, .int .u64 sbase, .slice A n c, .int .u64 ssent, .int .u64 slim, .int .i64 stimer, .bool sended] 29)).alloc (.cells #[.int .u32 0, .int .u64 0, .slice none 0 0, .int .u64 0, .int .u64 0, .int .i64 0, .bool false] 29)) = w2 at *
  refine HC.out.mono ?_
  clear HC
  rintro e w3 ⟨rfl, q4⟩
  have hs23 := q4.size
  have HK1 := Lib.hid (HB1.out.ca q4)
  have HK2 := Lib.hid (HB2.out.ca q4)
  have HK3 := Lib.hid (HB3.out.ca q4)
  have HQ4 := Lib.hid (bl_ca HQ3.out q4)
  have HRD := Lib.hid (Lay.rd_below HRD0.out q4)
  have HRR := Lib.hid (Lay.rd_below HRR0.out q4)
  have HPR := Lib.hid (Lay.rd_below HPR0.out q4)
  clear q4 HB1 HB2 HB3 HRD0 HRR0 HPR0
  have x0 := HK1.out.cell 0
  replace HTT := Lib.hid (HTT.out.trans (runR_at HSB.out 0 _))
  replace HEE := Lib.hid (HEE.out.trans (runE_at HSB.out 0))
  replace HTT := Lib.hid (show tt = tickR ⟨sses, sbase, sq, ssent, slim, stimer, sended⟩ from HTT.out)
  obtain rfl : ee = 0 := HEE.out
  rcases hk with hk | hk
  · skip
    have HC := Lib.hid (rtick_any Fr ⟨sses, sbase, sq, ssent, slim, stimer, sended⟩ A n c w3 HRD.out hn9 hnc hc b2 (show sbase ≤ 2000000000000 by omega) b4 b5)
    have y0 := HK2.out.cell 0
    have y1 := HK2.out.cell 1
    have y2 := HK2.out.cell 2
    have y3 := HK2.out.cell 3
    have y4 := HK2.out.cell 4
    have y5 := HK2.out.cell 5
    have y6 := HK2.out.cell 6
    go_wp2_with fail
    clear x0 y0 y1 y2 y3 y4 y5 y6
    refine HC.out.mono ?_
    clear HC
    rintro e w4 ⟨A2, n2, c2, PA, pn7, pc7, rfl, q5, hrd0, hk1, hk2, hpr0, hpm7⟩
    have hrd := Lay.rd_weak (G := fun k => Fr k ∨ w.heap.size + 3 ≤ k) (fun b hb _ => hb.elim .inl (fun h => .inr (by omega))) hrd0
    rw [show sq = tt.q from by rw [HTT.out]; rfl] at hrd
    rw [← HTT.out]
    rw [← HPP.out] at hpr0
    have HPQ := Lib.hid (And.intro (Lay.rd_weak (G := fun k => Fr k ∨ w.heap.size + 3 ≤ k) (fun b hb _ => hb.elim .inl (fun h => .inr (by omega))) hpr0) hpm7)
    clear hpr0 hrd0
    have HZ4 := Lib.hid (HK3.out.ca q5)
    have HQ5 := Lib.hid (bl_ca HQ4.out q5)
    have hs4 := q5.size
    have HRF := Lib.hid hrd
    have HKK := Lib.hid (And.intro hk1 hk2)
    clear hrd q5 hk1 hk2
    go_wp2_with (first | (refine wpList_store_blk rfl 29 (.tmp 4) (.tmp 44) rfl (w.heap.size + 2) 29 #[.int .u32 0, .int .u64 0, .slice none 0 0, .int .u64 0, .int .u64 0, .int .i64 0, .bool false] (tt.cells A2 n2 c2) rfl rfl HZ4.out rfl senderI (by simp [SC.cells, Value.oneCell']) ?_; intro w5 h5 g5; have HF5 := Lib.hid h5; have HG5 := Lib.hid g5; clear h5 g5) | (refine wpList_load_blk rfl 29 (.tmp 4) rfl (w.heap.size + 2) rfl 29 _ _ HF5.out Try.underlying29 rfl senderI ?_) | (refine wpList_store_blk rfl 29 (.tmp 4) (.tmp 46) rfl (w.heap.size + 2) 29 _ (tt.cells A2 n2 c2) rfl rfl HF5.out rfl senderI (by simp [SC.cells, Value.oneCell']) ?_; intro w6 h6 g6))
    have hs5 := HG5.out.size
    exact bodyPost_ret (res3 Try.results17 rfl rfl rfl h6 Try.underlying29 rfl senderI) rfl ⟨A2, n2, c2, PA, pn7, pc7, rfl, bl_gr (bl_gr HQ5.out HG5.out (by omega)) g6 (by omega), rd_grown (rd_grown HRF.out HG5.out (fun b hb => hb.elim (fun h => by have := HFR.out b h; omega) (fun h => by omega))) g6 (fun b hb => hb.elim (fun h => by have := HFR.out b h; omega) (fun h => by omega)), HKK.out.1, HKK.out.2, rd_grown (rd_grown HPQ.out.1 HG5.out (fun b hb => hb.elim (fun h => by have := HFR.out b h; omega) (fun h => by omega))) g6 (fun b hb => hb.elim (fun h => by have := HFR.out b h; omega) (fun h => by omega)), HPQ.out.2⟩
  · skip
    have HC := Lib.hid (rtick_any Fr ⟨sses, sbase, sq, ssent, slim, stimer, sended⟩ A n c w3 HRD.out hn9 hnc hc b2 (show sbase ≤ 2000000000000 by omega) b4 b5)
    have y0 := HK2.out.cell 0
    have y1 := HK2.out.cell 1
    have y2 := HK2.out.cell 2
    have y3 := HK2.out.cell 3
    have y4 := HK2.out.cell 4
    have y5 := HK2.out.cell 5
    have y6 := HK2.out.cell 6
    go_wp2_with fail
    clear x0 y0 y1 y2 y3 y4 y5 y6
    refine HC.out.mono ?_
    clear HC
    rintro e w4 ⟨A2, n2, c2, PA, pn7, pc7, rfl, q5, hrd0, hk1, hk2, hpr0, hpm7⟩
    have hrd := Lay.rd_weak (G := fun k => Fr k ∨ w.heap.size + 3 ≤ k) (fun b hb _ => hb.elim .inl (fun h => .inr (by omega))) hrd0
    rw [show sq = tt.q from by rw [HTT.out]; rfl] at hrd
    rw [← HTT.out]
    rw [← HPP.out] at hpr0
    have HPQ := Lib.hid (And.intro (Lay.rd_weak (G := fun k => Fr k ∨ w.heap.size + 3 ≤ k) (fun b hb _ => hb.elim .inl (fun h => .inr (by omega))) hpr0) hpm7)
    clear hpr0 hrd0
    have HZ4 := Lib.hid (HK3.out.ca q5)
    have HQ5 := Lib.hid (bl_ca HQ4.out q5)
    have hs4 := q5.size
    have HRF := Lib.hid hrd
    have HKK := Lib.hid (And.intro hk1 hk2)
    clear hrd q5 hk1 hk2
    go_wp2_with (first | (refine wpList_store_blk rfl 29 (.tmp 4) (.tmp 44) rfl (w.heap.size + 2) 29 #[.int .u32 0, .int .u64 0, .slice none 0 0, .int .u64 0, .int .u64 0, .int .i64 0, .bool false] (tt.cells A2 n2 c2) rfl rfl HZ4.out rfl senderI (by simp [SC.cells, Value.oneCell']) ?_; intro w5 h5 g5; have HF5 := Lib.hid h5; have HG5 := Lib.hid g5; clear h5 g5) | (refine wpList_load_blk rfl 29 (.tmp 4) rfl (w.heap.size + 2) rfl 29 _ _ HF5.out Try.underlying29 rfl senderI ?_) | (refine wpList_store_blk rfl 29 (.tmp 4) (.tmp 46) rfl (w.heap.size + 2) 29 _ (tt.cells A2 n2 c2) rfl rfl HF5.out rfl senderI (by simp [SC.cells, Value.oneCell']) ?_; intro w6 h6 g6))
    have hs5 := HG5.out.size
    exact bodyPost_ret (res3 Try.results17 rfl rfl rfl h6 Try.underlying29 rfl senderI) rfl ⟨A2, n2, c2, PA, pn7, pc7, rfl, bl_gr (bl_gr HQ5.out HG5.out (by omega)) g6 (by omega), rd_grown (rd_grown HRF.out HG5.out (fun b hb => hb.elim (fun h => by have := HFR.out b h; omega) (fun h => by omega))) g6 (fun b hb => hb.elim (fun h => by have := HFR.out b h; omega) (fun h => by omega)), HKK.out.1, HKK.out.2, rd_grown (rd_grown HPQ.out.1 HG5.out (fun b hb => hb.elim (fun h => by have := HFR.out b h; omega) (fun h => by omega))) g6 (fun b hb => hb.elim (fun h => by have := HFR.out b h; omega) (fun h => by omega)), HPQ.out.2⟩
set_option maxRecDepth 100000 in
set_option maxHeartbeats 32000000 in
theorem want_put (Fr : Nat → Prop) (a : AC) (s : SC) (rA : Option Addr) (rn rc : Nat) (pA : Option Addr) (pn pc : Nat) (A : Option Addr) (n c : Nat) (w : World) (hFr : ∀ k, Fr k → k < w.heap.size) (h : LB3.rd w Fr A n s.q) (_hnc : n ≤ c) (_hc : c ≤ 9223372036854775807)
    (hrr : LR.rd w Fr rA rn a.rows) (hrc : rn ≤ rc) (hrm : rc ≤ 9223372036854775807) (hr : LR.rd w Fr pA pn a.pk.b.rows) (hpc : pn ≤ pc) (hpm : pc ≤ 9223372036854775807) (hb : sendB s = true) (hk : k7 a = 0 ∨ k7 a = 1) :
    Calls Try.prog 17 #[.agg (a.cells rA rn rc pA pn pc), .agg (s.cells A n c)] w (WantW w Fr (runE s (put1E s (rowsC a.rows))) (runR s (put1E s (rowsC a.rows)) (putR s ⟨rowsC a.rows, false, 0⟩)) []) := by
  obtain ⟨tt, htt⟩ : ∃ tt, tt = runR s (put1E s (rowsC a.rows)) (putR s ⟨rowsC a.rows, false, 0⟩) := ⟨_, rfl⟩
  obtain ⟨ee, hee⟩ : ∃ ee, ee = runE s (put1E s (rowsC a.rows)) := ⟨_, rfl⟩
  rw [← htt, ← hee]
  have HTT := Lib.hid htt
  have HEE := Lib.hid hee
  clear htt hee
  have _hx9 := And.intro (And.intro hrc hrm) (And.intro hpc hpm)
  have HLN := Lib.hid (Lay.rd_len h)
  obtain ⟨b1, b2, b3, b4, b5, b6, b7⟩ := sendB_all hb
  have HSB := Lib.hid hb
  obtain ⟨kd, rows, ⟨kind, ses, seq, lim, ⟨prows, fin, cnt⟩⟩, near⟩ := a
  obtain ⟨sses, sbase, sq, ssent, slim, stimer, sended⟩ := s
  unfold k7 at hk
  dsimp only at b1 b2 b3 b4 b5 b6 b7 hk
  have hn9 : n ≤ 100 := by have h9 : sq.length = n := HLN.out; omega
  dsimp only at h hrr hr HLN
  have q1 := bl_al (Below.refl w.heap.size w) (.cells #[.int .i64 kd, .slice rA rn rc, .int .i64 kind, .int .u32 ses, .int .u64 seq, .int .u64 lim, .slice pA pn pc, .bool fin, .int .u64 cnt, .bool near] 49)
  have q2 := bl_al q1 (.cells #[.int .u32 sses, .int .u64 sbase, .slice A n c, .int .u64 ssent, .int .u64 slim, .int .i64 stimer, .bool sended] 29)
  have q3 := bl_al q2 (.cells #[.int .u32 0, .int .u64 0, .slice none 0 0, .int .u64 0, .int .u64 0, .int .i64 0, .bool false] 29)
  have HB1 := Lib.hid (((Blk.new w 49 #[.int .i64 kd, .slice rA rn rc, .int .i64 kind, .int .u32 ses, .int .u64 seq, .int .u64 lim, .slice pA pn pc, .bool fin, .int .u64 cnt, .bool near]).alloc (.cells #[.int .u32 sses, .int .u64 sbase, .slice A n c, .int .u64 ssent, .int .u64 slim, .int .i64 stimer, .bool sended] 29)).alloc (.cells #[.int .u32 0, .int .u64 0, .slice none 0 0, .int .u64 0, .int .u64 0, .int .i64 0, .bool false] 29))
  have HB2 := Lib.hid (show Blk (((w.alloc (.cells #[.int .i64 kd, .slice rA rn rc, .int .i64 kind, .int .u32 ses, .int .u64 seq, .int .u64 lim, .slice pA pn pc, .bool fin, .int .u64 cnt, .bool near] 49)).alloc (.cells #[.int .u32 sses, .int .u64 sbase, .slice A n c, .int .u64 ssent, .int .u64 slim, .int .i64 stimer, .bool sended] 29)).alloc (.cells #[.int .u32 0, .int .u64 0, .slice none 0 0, .int .u64 0, .int .u64 0, .int .i64 0, .bool false] 29)) (w.heap.size + 1) 29 #[.int .u32 sses, .int .u64 sbase, .slice A n c, .int .u64 ssent, .int .u64 slim, .int .i64 stimer, .bool sended] from by have := (Blk.new (w.alloc (.cells #[.int .i64 kd, .slice rA rn rc, .int .i64 kind, .int .u32 ses, .int .u64 seq, .int .u64 lim, .slice pA pn pc, .bool fin, .int .u64 cnt, .bool near] 49)) 29 #[.int .u32 sses, .int .u64 sbase, .slice A n c, .int .u64 ssent, .int .u64 slim, .int .i64 stimer, .bool sended]).alloc (.cells #[.int .u32 0, .int .u64 0, .slice none 0 0, .int .u64 0, .int .u64 0, .int .i64 0, .bool false] 29); simp only [World.size_alloc] at this; exact this)
  have HB3 := Lib.hid (show Blk (((w.alloc (.cells #[.int .i64 kd, .slice rA rn rc, .int .i64 kind, .int .u32 ses, .int .u64 seq, .int .u64 lim, .slice pA pn pc, .bool fin, .int .u64 cnt, .bool near] 49)).alloc (.cells #[.int .u32 sses, .int .u64 sbase, .slice A n c, .int .u64 ssent, .int .u64 slim, .int .i64 stimer, .bool sended] 29)).alloc (.cells #[.int .u32 0, .int .u64 0, .slice none 0 0, .int .u64 0, .int .u64 0, .int .i64 0, .bool false] 29)) (w.heap.size + 2) 29 #[.int .u32 0, .int .u64 0, .slice none 0 0, .int .u64 0, .int .u64 0, .int .i64 0, .bool false] from by have := Blk.new ((w.alloc (.cells #[.int .i64 kd, .slice rA rn rc, .int .i64 kind, .int .u32 ses, .int .u64 seq, .int .u64 lim, .slice pA pn pc, .bool fin, .int .u64 cnt, .bool near] 49)).alloc (.cells #[.int .u32 sses, .int .u64 sbase, .slice A n c, .int .u64 ssent, .int .u64 slim, .int .i64 stimer, .bool sended] 29)) 29 #[.int .u32 0, .int .u64 0, .slice none 0 0, .int .u64 0, .int .u64 0, .int .i64 0, .bool false]; simp only [World.size_alloc] at this; exact this)
  have HQ3 := Lib.hid q3
  have HFR := Lib.hid hFr
  have HRD0 := Lib.hid (Lay.rd_below h q3)
  have HRR0 := Lib.hid (Lay.rd_below hrr q3)
  have HPR0 := Lib.hid (Lay.rd_below hr q3)
  have hs3 : (((w.alloc (.cells #[.int .i64 kd, .slice rA rn rc, .int .i64 kind, .int .u32 ses, .int .u64 seq, .int .u64 lim, .slice pA pn pc, .bool fin, .int .u64 cnt, .bool near] 49)).alloc (.cells #[.int .u32 sses, .int .u64 sbase, .slice A n c, .int .u64 ssent, .int .u64 slim, .int .i64 stimer, .bool sended] 29)).alloc (.cells #[.int .u32 0, .int .u64 0, .slice none 0 0, .int .u64 0, .int .u64 0, .int .i64 0, .bool false] 29)).heap.size = w.heap.size + 3 := by simp only [World.size_alloc]
  have HC := Lib.hid (rsend_any Fr ⟨sses, sbase, sq, ssent, slim, stimer, sended⟩ A n c (((w.alloc (.cells #[.int .i64 kd, .slice rA rn rc, .int .i64 kind, .int .u32 ses, .int .u64 seq, .int .u64 lim, .slice pA pn pc, .bool fin, .int .u64 cnt, .bool near] 49)).alloc (.cells #[.int .u32 sses, .int .u64 sbase, .slice A n c, .int .u64 ssent, .int .u64 slim, .int .i64 stimer, .bool sended] 29)).alloc (.cells #[.int .u32 0, .int .u64 0, .slice none 0 0, .int .u64 0, .int .u64 0, .int .i64 0, .bool false] 29)) HRD0.out (by omega))
  rw [hb] at HC
  clear h hrr hr q1 q2 q3 hFr
  show Calls Try.prog 17 #[.agg #[.int .i64 kd, .slice rA rn rc, .int .i64 kind, .int .u32 ses, .int .u64 seq, .int .u64 lim, .slice pA pn pc, .bool fin, .int .u64 cnt, .bool near], .agg #[.int .u32 sses, .int .u64 sbase, .slice A n c, .int .u64 ssent, .int .u64 slim, .int .i64 stimer, .bool sended]] w _
  go_enter Try.func17, Try.ntmps17
  have y0 := HB2.out.cell 0
  have y1 := HB2.out.cell 1
  have y2 := HB2.out.cell 2
  have y3 := HB2.out.cell 3
  have y4 := HB2.out.cell 4
  have y5 := HB2.out.cell 5
  have y6 := HB2.out.cell 6
  go_wp2_with fail
  clear y0 y1 y2 y3 y4 y5 y6
  generalize (((w.alloc (.cells #[.int .i64 kd, .slice rA rn rc, .int .i64 kind, .int .u32 ses, .int .u64 seq, .int .u64 lim, .slice pA pn pc, .bool fin, .int .u64 cnt, .bool near] 49)).alloc (.cells #[.int .u32 sses, .int .u64 sbase, .slice A n c, .int .u64 ssent, .int .u64 slim, .int .i64 stimer, .bool sended] 29)).alloc (.cells #[.int .u32 0, .int .u64 0, .slice none 0 0, .int .u64 0, .int .u64 0, .int .i64 0, .bool false] 29)) = w2 at *
  refine HC.out.mono ?_
  clear HC
  rintro e w3 ⟨rfl, q4⟩
  have hs23 := q4.size
  have HK1 := Lib.hid (HB1.out.ca q4)
  have HK2 := Lib.hid (HB2.out.ca q4)
  have HK3 := Lib.hid (HB3.out.ca q4)
  have HQ4 := Lib.hid (bl_ca HQ3.out q4)
  have HRD := Lib.hid (Lay.rd_below HRD0.out q4)
  have HRR := Lib.hid (Lay.rd_below HRR0.out q4)
  have HPR := Lib.hid (Lay.rd_below HPR0.out q4)
  clear q4 HB1 HB2 HB3 HRD0 HRR0 HPR0
  have x0 := HK1.out.cell 0
  rcases hk with hk | hk
  · skip
    go_wp2_with fail
    clear x0
    refine wp_region_ps (S := SeqN [3, 4, 8] (fun z m w' => match z with | 0 => Below w3.heap.size w3 w' | 1 => Below w3.heap.size w3 w' ∧ ∃ A5 k5 c5, m 3 = .slice A5 k5 c5 ∧ LR.rd w' (fun k => w.heap.size + 3 ≤ k) A5 k5 (rowsC rows) ∧ k5 ≤ 100 | 2 => Below w3.heap.size w3 w' ∧ ∃ A2 n2 c2, m 4 = .tuple #[.agg (tt.cells A2 n2 c2), .int .i64 ee] ∧ LB3.rd w' (fun k => Fr k ∨ w.heap.size + 3 ≤ k) A2 n2 tt.q ∧ n2 ≤ c2 ∧ c2 ≤ 9223372036854775807 | _ => Below w.heap.size w w' ∧ ∃ A2 n2 c2, m 4 = .tuple #[.agg (tt.cells A2 n2 c2), .int .i64 ee] ∧ Blk w' (w.heap.size + 2) 29 (tt.cells A2 n2 c2) ∧ LB3.rd w' (fun k => Fr k ∨ w.heap.size + 3 ≤ k) A2 n2 tt.q ∧ n2 ≤ c2 ∧ c2 ≤ 9223372036854775807)) (by kernel_rfl) ?spswg1 ?ppswg1
    case spswg1 =>
      exact SeqN.start (by decide) (Below.refl w3.heap.size w3).drew
    refine Ps.st (i := 0) (d := some 24) (u := (.agg #[.int .u32 (sses), .int .u64 (sbase), .slice A n c, .int .u64 (ssent), .int .u64 (slim), .int .i64 (stimer), .bool (sended)])) rfl rfl ?ywg1_2 ?rwg1_2
    case ywg1_2 =>
      refine StepS.read [] (by kernel_rfl) (SeqN.pass (by decide)) (by rfl) (fun L9 m9 w9 hSh hAt hDn hS => ?_)
      have hT : Below w3.heap.size w3 w9 := SeqN.early2 (T := fun w9 => Below w3.heap.size w3 w9) (reach_no hSh (f := 10) (j := 8) (by kernel_rfl) hDn) (fun z _ _ hz h => by match z, hz, h with | 0, _, h => exact h | 1, _, h => exact h.1 | 2, _, h => exact h.1 | _ + 3, hz, _ => exact absurd hz (by omega)) hS
      have x0 : w9.cell? ⟨(w.heap.size + 1), 0, none⟩ = some (.int .u32 (sses)) := (HK2.out.ca hT).cell 0
      have x1 : w9.cell? ⟨(w.heap.size + 1), 1, none⟩ = some (.int .u64 (sbase)) := (HK2.out.ca hT).cell 1
      have x2 : w9.cell? ⟨(w.heap.size + 1), 2, none⟩ = some (.slice A n c) := (HK2.out.ca hT).cell 2
      have x3 : w9.cell? ⟨(w.heap.size + 1), 3, none⟩ = some (.int .u64 (ssent)) := (HK2.out.ca hT).cell 3
      have x4 : w9.cell? ⟨(w.heap.size + 1), 4, none⟩ = some (.int .u64 (slim)) := (HK2.out.ca hT).cell 4
      have x5 : w9.cell? ⟨(w.heap.size + 1), 5, none⟩ = some (.int .i64 (stimer)) := (HK2.out.ca hT).cell 5
      have x6 : w9.cell? ⟨(w.heap.size + 1), 6, none⟩ = some (.bool (sended)) := (HK2.out.ca hT).cell 6
      clear hT hS
      go_simp
      try rfl
    try simp only [Act.put, sA, sZ, sS]
    refine Ps.st (i := 1) (d := some 25) (u := (.pointer (some ⟨w.heap.size, 1, none⟩))) rfl rfl (by exact StepS.pure (SeqN.pass (by decide)) rfl fun _ => rfl) ?_
    try simp only [Act.put, sA, sZ, sS]
    refine Ps.st (i := 2) (d := some 26) (u := (.slice rA rn rc)) rfl rfl ?ywg1_4 ?rwg1_4
    case ywg1_4 =>
      refine StepS.read [] (by kernel_rfl) (SeqN.pass (by decide)) (by rfl) (fun L9 m9 w9 hSh hAt hDn hS => ?_)
      have hT : Below w3.heap.size w3 w9 := SeqN.early2 (T := fun w9 => Below w3.heap.size w3 w9) (reach_no hSh (f := 10) (j := 8) (by kernel_rfl) hDn) (fun z _ _ hz h => by match z, hz, h with | 0, _, h => exact h | 1, _, h => exact h.1 | 2, _, h => exact h.1 | _ + 3, hz, _ => exact absurd hz (by omega)) hS
      have x0 : w9.cell? ⟨w.heap.size, 1, none⟩ = some (.slice rA rn rc) := (HK1.out.ca hT).cell 1
      clear hT hS
      go_simp
      try rfl
    try simp only [Act.put, sA, sZ, sS]
    refine Ps.one (k := 3) (d := some 27) rfl rfl (by kernel_rfl) (TurnS.call (V := fun v => ∃ A5 k5 c5, v = .slice A5 k5 c5) ?fwg1_5 ?awg1_5 [] (by kernel_rfl) (by rfl) (fun w9 => ?hwg1_5) (fun L9 m9 w9 hSh hAt hDn hS => ?cwg1_5)) (fun v3 hVv3 => ?rwg1_5)
    case hwg1_5 => go_simp; refine ⟨?_, ?_⟩ <;> rfl
    case cwg1_5 =>
      have hT : Below w3.heap.size w3 w9 := SeqN.at_ (m0 := m9) (m1 := m9) [] [4, 8] hSh (fun d hd => by cases hd) hDn (by kernel_rfl) hS
      have hsz := hT.size
      refine (rowsC_any Fr rA rn rc rows w9 (Lay.rd_below HRR.out hT) hrc hrm).mono ?_
      rintro e w6 ⟨A5, k5, c5, rfl, ho, q6⟩
      have hk5 : k5 ≤ 100 := by have h := Lay.own_len ho; unfold rowsC at h; rw [List.length_map, List.length_take] at h; omega
      have hrd := Lay.own_rd (F := fun k => w.heap.size + 3 ≤ k) ho (fun b h1 h2 => by omega) (fun b hb hl => by have := hb.1; omega)
      exact ⟨_, rfl, ⟨A5, k5, c5, rfl⟩, SeqN.set_ (m0 := m9) (m1 := m9) [] [4, 8] hSh (fun d hd => by cases hd) hDn (by kernel_rfl) (by decide) (by decide) ⟨bl_ca hT q6, A5, k5, c5, upd_same _ _ _, hrd, hk5⟩⟩
    try simp only [Act.put, sA, sZ, sS]
    obtain ⟨A5, k5, c5, rfl⟩ := hVv3
    refine Ps.one (k := 4) (d := some 28) rfl rfl (by kernel_rfl) (TurnS.call (V := fun v => ∃ A2 n2 c2, v = .tuple #[.agg (tt.cells A2 n2 c2), .int .i64 ee]) ?fwg1_6 ?awg1_6 [3] (by kernel_rfl) (by rfl) (fun w9 => ?hwg1_6) (fun L9 m9 w9 hSh hAt hDn hS => ?cwg1_6)) (fun v4 hVv4 => ?rwg1_6)
    case hwg1_6 => go_simp; refine ⟨?_, ?_⟩ <;> rfl
    case cwg1_6 =>
      obtain ⟨hT, A6, k6, c6, hv, hrd, hk5⟩ := SeqN.at_ [3] [8] hSh hAt hDn (by kernel_rfl) hS
      obtain ⟨rfl, rfl, rfl⟩ : A5 = A6 ∧ k5 = k6 ∧ c5 = c6 := by have h9 : (.slice A5 k5 c5 : Value) = .slice A6 k6 c6 := (hAt 3 (by simp)).2.symm.trans hv; simpa [PK.cells] using h9
      have hsz := hT.size
      refine (rput_any (fun k => Fr k ∨ w.heap.size + 3 ≤ k) ⟨sses, sbase, sq, ssent, slim, stimer, sended⟩ A n c (rowsC rows) A5 k5 c5 w9 (Lay.rd_weak (fun b hb hl => .inl hb) (Lay.rd_below HRD.out hT)) (Lay.rd_weak (fun b hb hl => .inr hb) hrd) hn9 hk5 b2 (show sbase ≤ 2000000000000 by omega)).mono ?_
      intro e w6 hp
      obtain ⟨A2, n2, c2, rfl, q6, hr2, hk1, hk2⟩ := put_use (Fr := Fr) (B := w.heap.size + 3) hp HSB.out (fun k hk => hk) (by omega)
      rw [← HTT.out] at hr2 ⊢
      rw [← HEE.out]
      exact ⟨_, rfl, ⟨A2, n2, c2, rfl⟩, SeqN.set_ [3] [8] hSh hAt hDn (by kernel_rfl) (by decide) (by decide) ⟨bl_ca hT q6, A2, n2, c2, upd_same _ _ _, hr2, hk1, hk2⟩⟩
    try simp only [Act.put, sA, sZ, sS]
    obtain ⟨A2, n2, c2, rfl⟩ := hVv4
    refine Ps.st (i := 5) (d := some 23) (u := (.tuple #[.agg (tt.cells A2 n2 c2), .int .i64 (ee)])) rfl rfl (by exact StepS.pure (SeqN.pass (by decide)) rfl fun _ => rfl) ?_
    try simp only [Act.put, sA, sZ, sS]
    refine Ps.st (i := 6) (d := some 29) (u := (.agg (tt.cells A2 n2 c2))) rfl rfl (by exact StepS.pure (SeqN.pass (by decide)) rfl fun _ => rfl) ?_
    try simp only [Act.put, sA, sZ, sS]
    refine Ps.st (i := 7) (d := some 30) (u := (.int .i64 (ee))) rfl rfl (by exact StepS.pure (SeqN.pass (by decide)) rfl fun _ => rfl) ?_
    try simp only [Act.put, sA, sZ, sS]
    refine Ps.st (i := 8) (d := none) (u := undef) rfl rfl ?ywg1_10 ?rwg1_10
    case ywg1_10 =>
      refine StepS.store [3, 4] (by kernel_rfl) (by rfl) (fun L9 m9 w9 hSh hAt hDn hS => ?_)
      obtain ⟨hT, A3, n3, c3, hv, ho, hk1, hk2⟩ := SeqN.at_ [3, 4] [] hSh hAt hDn (by kernel_rfl) hS
      obtain ⟨rfl, rfl, rfl⟩ : A2 = A3 ∧ n2 = n3 ∧ c2 = c3 := by have h9 : (.tuple #[.agg (tt.cells A2 n2 c2), .int .i64 ee] : Value) = .tuple #[.agg (tt.cells A3 n3 c3), .int .i64 ee] := (hAt 4 (by simp)).2.symm.trans hv; simpa [SC.cells] using h9
      have hsz := hT.size
      refine (exec_store_blk (w := w9) 29 (.tmp 4) (.tmp 29) (by rfl) (w.heap.size + 2) 29 #[.int .u32 0, .int .u64 0, .slice none 0 0, .int .u64 0, .int .u64 0, .int .i64 0, .bool false] (tt.cells A2 n2 c2) (by rfl) (by rfl) (HK3.out.ca hT) rfl senderI (by simp [SC.cells, Value.oneCell'])).imp fun w7 hx => ⟨hx.1, SeqN.set_ [3, 4] [] hSh hAt hDn (by kernel_rfl) (by decide) (by decide) ⟨bl_gr (bl_ca HQ4.out hT) hx.2.2 (by omega), A2, n2, c2, hv, hx.2.1, rd_grown ho hx.2.2 (fun b hb => hb.elim (fun h => by have := HFR.out b h; omega) (fun h => by omega)), hk1, hk2⟩⟩
    try simp only [Act.put]
    refine Ps.st (i := 9) (d := some 6) (u := (.int .i64 (ee))) rfl rfl (by exact StepS.pure (SeqN.pass (by decide)) rfl fun _ => rfl) ?_
    try simp only [Act.put, sA, sZ, sS]
    refine Ps.done (by kernel_rfl) (fun wg1 hS => ?_) _
    obtain ⟨hT, A3, n3, c3, hv, hb, ho, hk1, hk2⟩ := SeqN.fin (by rfl) hS
    clear hS
    obtain ⟨rfl, rfl, rfl⟩ : A2 = A3 ∧ n2 = n3 ∧ c2 = c3 := by have h9 : (.tuple #[.agg (tt.cells A2 n2 c2), .int .i64 ee] : Value) = .tuple #[.agg (tt.cells A3 n3 c3), .int .i64 ee] := hv; simpa [SC.cells] using h9
    have HF5 := Lib.hid hb
    have HO5 := Lib.hid ho
    have HB5 := Lib.hid hT
    have HKK := Lib.hid (And.intro hk1 hk2)
    have hlt := hb.lt
    clear hT hv hb ho hk1 hk2
    obtain ⟨w5, rfl⟩ : ∃ x, x = wg1 := ⟨_, rfl⟩
    go_wp2_with (first | (refine wpList_load_blk rfl 29 (.tmp 4) rfl (w.heap.size + 2) rfl 29 _ _ HF5.out Try.underlying29 rfl senderI ?_) | (refine wpList_store_blk rfl 29 (.tmp 4) (.tmp 46) rfl (w.heap.size + 2) 29 _ (tt.cells A2 n2 c2) rfl rfl HF5.out rfl senderI (by simp [SC.cells, Value.oneCell']) ?_; intro w6 h6 g6))
    exact bodyPost_ret (res3 Try.results17 rfl rfl rfl h6 Try.underlying29 rfl senderI) rfl ⟨A2, n2, c2, none, 0, 0, rfl, bl_gr HB5.out g6 (by omega), rd_grown HO5.out g6 (fun b hb => hb.elim (fun h => by have := HFR.out b h; omega) (fun h => by omega)), HKK.out.1, HKK.out.2, Lay.rd_nil _, by omega⟩
  · skip
    go_wp2_with fail
    clear x0
    refine wp_region_ps (S := SeqN [3, 4, 8] (fun z m w' => match z with | 0 => Below w3.heap.size w3 w' | 1 => Below w3.heap.size w3 w' ∧ ∃ A5 k5 c5, m 3 = .slice A5 k5 c5 ∧ LR.rd w' (fun k => w.heap.size + 3 ≤ k) A5 k5 (rowsC rows) ∧ k5 ≤ 100 | 2 => Below w3.heap.size w3 w' ∧ ∃ A2 n2 c2, m 4 = .tuple #[.agg (tt.cells A2 n2 c2), .int .i64 ee] ∧ LB3.rd w' (fun k => Fr k ∨ w.heap.size + 3 ≤ k) A2 n2 tt.q ∧ n2 ≤ c2 ∧ c2 ≤ 9223372036854775807 | _ => Below w.heap.size w w' ∧ ∃ A2 n2 c2, m 4 = .tuple #[.agg (tt.cells A2 n2 c2), .int .i64 ee] ∧ Blk w' (w.heap.size + 2) 29 (tt.cells A2 n2 c2) ∧ LB3.rd w' (fun k => Fr k ∨ w.heap.size + 3 ≤ k) A2 n2 tt.q ∧ n2 ≤ c2 ∧ c2 ≤ 9223372036854775807)) (by kernel_rfl) ?spswg12 ?ppswg12
    case spswg12 =>
      exact SeqN.start (by decide) (Below.refl w3.heap.size w3).drew
    refine Ps.st (i := 0) (d := some 24) (u := (.agg #[.int .u32 (sses), .int .u64 (sbase), .slice A n c, .int .u64 (ssent), .int .u64 (slim), .int .i64 (stimer), .bool (sended)])) rfl rfl ?ywg12_13 ?rwg12_13
    case ywg12_13 =>
      refine StepS.read [] (by kernel_rfl) (SeqN.pass (by decide)) (by rfl) (fun L9 m9 w9 hSh hAt hDn hS => ?_)
      have hT : Below w3.heap.size w3 w9 := SeqN.early2 (T := fun w9 => Below w3.heap.size w3 w9) (reach_no hSh (f := 10) (j := 8) (by kernel_rfl) hDn) (fun z _ _ hz h => by match z, hz, h with | 0, _, h => exact h | 1, _, h => exact h.1 | 2, _, h => exact h.1 | _ + 3, hz, _ => exact absurd hz (by omega)) hS
      have x0 : w9.cell? ⟨(w.heap.size + 1), 0, none⟩ = some (.int .u32 (sses)) := (HK2.out.ca hT).cell 0
      have x1 : w9.cell? ⟨(w.heap.size + 1), 1, none⟩ = some (.int .u64 (sbase)) := (HK2.out.ca hT).cell 1
      have x2 : w9.cell? ⟨(w.heap.size + 1), 2, none⟩ = some (.slice A n c) := (HK2.out.ca hT).cell 2
      have x3 : w9.cell? ⟨(w.heap.size + 1), 3, none⟩ = some (.int .u64 (ssent)) := (HK2.out.ca hT).cell 3
      have x4 : w9.cell? ⟨(w.heap.size + 1), 4, none⟩ = some (.int .u64 (slim)) := (HK2.out.ca hT).cell 4
      have x5 : w9.cell? ⟨(w.heap.size + 1), 5, none⟩ = some (.int .i64 (stimer)) := (HK2.out.ca hT).cell 5
      have x6 : w9.cell? ⟨(w.heap.size + 1), 6, none⟩ = some (.bool (sended)) := (HK2.out.ca hT).cell 6
      clear hT hS
      go_simp
      try rfl
    try simp only [Act.put, sA, sZ, sS]
    refine Ps.st (i := 1) (d := some 25) (u := (.pointer (some ⟨w.heap.size, 1, none⟩))) rfl rfl (by exact StepS.pure (SeqN.pass (by decide)) rfl fun _ => rfl) ?_
    try simp only [Act.put, sA, sZ, sS]
    refine Ps.st (i := 2) (d := some 26) (u := (.slice rA rn rc)) rfl rfl ?ywg12_15 ?rwg12_15
    case ywg12_15 =>
      refine StepS.read [] (by kernel_rfl) (SeqN.pass (by decide)) (by rfl) (fun L9 m9 w9 hSh hAt hDn hS => ?_)
      have hT : Below w3.heap.size w3 w9 := SeqN.early2 (T := fun w9 => Below w3.heap.size w3 w9) (reach_no hSh (f := 10) (j := 8) (by kernel_rfl) hDn) (fun z _ _ hz h => by match z, hz, h with | 0, _, h => exact h | 1, _, h => exact h.1 | 2, _, h => exact h.1 | _ + 3, hz, _ => exact absurd hz (by omega)) hS
      have x0 : w9.cell? ⟨w.heap.size, 1, none⟩ = some (.slice rA rn rc) := (HK1.out.ca hT).cell 1
      clear hT hS
      go_simp
      try rfl
    try simp only [Act.put, sA, sZ, sS]
    refine Ps.one (k := 3) (d := some 27) rfl rfl (by kernel_rfl) (TurnS.call (V := fun v => ∃ A5 k5 c5, v = .slice A5 k5 c5) ?fwg12_16 ?awg12_16 [] (by kernel_rfl) (by rfl) (fun w9 => ?hwg12_16) (fun L9 m9 w9 hSh hAt hDn hS => ?cwg12_16)) (fun v3 hVv3 => ?rwg12_16)
    case hwg12_16 => go_simp; refine ⟨?_, ?_⟩ <;> rfl
    case cwg12_16 =>
      have hT : Below w3.heap.size w3 w9 := SeqN.at_ (m0 := m9) (m1 := m9) [] [4, 8] hSh (fun d hd => by cases hd) hDn (by kernel_rfl) hS
      have hsz := hT.size
      refine (rowsC_any Fr rA rn rc rows w9 (Lay.rd_below HRR.out hT) hrc hrm).mono ?_
      rintro e w6 ⟨A5, k5, c5, rfl, ho, q6⟩
      have hk5 : k5 ≤ 100 := by have h := Lay.own_len ho; unfold rowsC at h; rw [List.length_map, List.length_take] at h; omega
      have hrd := Lay.own_rd (F := fun k => w.heap.size + 3 ≤ k) ho (fun b h1 h2 => by omega) (fun b hb hl => by have := hb.1; omega)
      exact ⟨_, rfl, ⟨A5, k5, c5, rfl⟩, SeqN.set_ (m0 := m9) (m1 := m9) [] [4, 8] hSh (fun d hd => by cases hd) hDn (by kernel_rfl) (by decide) (by decide) ⟨bl_ca hT q6, A5, k5, c5, upd_same _ _ _, hrd, hk5⟩⟩
    try simp only [Act.put, sA, sZ, sS]
    obtain ⟨A5, k5, c5, rfl⟩ := hVv3
    refine Ps.one (k := 4) (d := some 28) rfl rfl (by kernel_rfl) (TurnS.call (V := fun v => ∃ A2 n2 c2, v = .tuple #[.agg (tt.cells A2 n2 c2), .int .i64 ee]) ?fwg12_17 ?awg12_17 [3] (by kernel_rfl) (by rfl) (fun w9 => ?hwg12_17) (fun L9 m9 w9 hSh hAt hDn hS => ?cwg12_17)) (fun v4 hVv4 => ?rwg12_17)
    case hwg12_17 => go_simp; refine ⟨?_, ?_⟩ <;> rfl
    case cwg12_17 =>
      obtain ⟨hT, A6, k6, c6, hv, hrd, hk5⟩ := SeqN.at_ [3] [8] hSh hAt hDn (by kernel_rfl) hS
      obtain ⟨rfl, rfl, rfl⟩ : A5 = A6 ∧ k5 = k6 ∧ c5 = c6 := by have h9 : (.slice A5 k5 c5 : Value) = .slice A6 k6 c6 := (hAt 3 (by simp)).2.symm.trans hv; simpa [PK.cells] using h9
      have hsz := hT.size
      refine (rput_any (fun k => Fr k ∨ w.heap.size + 3 ≤ k) ⟨sses, sbase, sq, ssent, slim, stimer, sended⟩ A n c (rowsC rows) A5 k5 c5 w9 (Lay.rd_weak (fun b hb hl => .inl hb) (Lay.rd_below HRD.out hT)) (Lay.rd_weak (fun b hb hl => .inr hb) hrd) hn9 hk5 b2 (show sbase ≤ 2000000000000 by omega)).mono ?_
      intro e w6 hp
      obtain ⟨A2, n2, c2, rfl, q6, hr2, hk1, hk2⟩ := put_use (Fr := Fr) (B := w.heap.size + 3) hp HSB.out (fun k hk => hk) (by omega)
      rw [← HTT.out] at hr2 ⊢
      rw [← HEE.out]
      exact ⟨_, rfl, ⟨A2, n2, c2, rfl⟩, SeqN.set_ [3] [8] hSh hAt hDn (by kernel_rfl) (by decide) (by decide) ⟨bl_ca hT q6, A2, n2, c2, upd_same _ _ _, hr2, hk1, hk2⟩⟩
    try simp only [Act.put, sA, sZ, sS]
    obtain ⟨A2, n2, c2, rfl⟩ := hVv4
    refine Ps.st (i := 5) (d := some 23) (u := (.tuple #[.agg (tt.cells A2 n2 c2), .int .i64 (ee)])) rfl rfl (by exact StepS.pure (SeqN.pass (by decide)) rfl fun _ => rfl) ?_
    try simp only [Act.put, sA, sZ, sS]
    refine Ps.st (i := 6) (d := some 29) (u := (.agg (tt.cells A2 n2 c2))) rfl rfl (by exact StepS.pure (SeqN.pass (by decide)) rfl fun _ => rfl) ?_
    try simp only [Act.put, sA, sZ, sS]
    refine Ps.st (i := 7) (d := some 30) (u := (.int .i64 (ee))) rfl rfl (by exact StepS.pure (SeqN.pass (by decide)) rfl fun _ => rfl) ?_
    try simp only [Act.put, sA, sZ, sS]
    refine Ps.st (i := 8) (d := none) (u := undef) rfl rfl ?ywg12_21 ?rwg12_21
    case ywg12_21 =>
      refine StepS.store [3, 4] (by kernel_rfl) (by rfl) (fun L9 m9 w9 hSh hAt hDn hS => ?_)
      obtain ⟨hT, A3, n3, c3, hv, ho, hk1, hk2⟩ := SeqN.at_ [3, 4] [] hSh hAt hDn (by kernel_rfl) hS
      obtain ⟨rfl, rfl, rfl⟩ : A2 = A3 ∧ n2 = n3 ∧ c2 = c3 := by have h9 : (.tuple #[.agg (tt.cells A2 n2 c2), .int .i64 ee] : Value) = .tuple #[.agg (tt.cells A3 n3 c3), .int .i64 ee] := (hAt 4 (by simp)).2.symm.trans hv; simpa [SC.cells] using h9
      have hsz := hT.size
      refine (exec_store_blk (w := w9) 29 (.tmp 4) (.tmp 29) (by rfl) (w.heap.size + 2) 29 #[.int .u32 0, .int .u64 0, .slice none 0 0, .int .u64 0, .int .u64 0, .int .i64 0, .bool false] (tt.cells A2 n2 c2) (by rfl) (by rfl) (HK3.out.ca hT) rfl senderI (by simp [SC.cells, Value.oneCell'])).imp fun w7 hx => ⟨hx.1, SeqN.set_ [3, 4] [] hSh hAt hDn (by kernel_rfl) (by decide) (by decide) ⟨bl_gr (bl_ca HQ4.out hT) hx.2.2 (by omega), A2, n2, c2, hv, hx.2.1, rd_grown ho hx.2.2 (fun b hb => hb.elim (fun h => by have := HFR.out b h; omega) (fun h => by omega)), hk1, hk2⟩⟩
    try simp only [Act.put]
    refine Ps.st (i := 9) (d := some 6) (u := (.int .i64 (ee))) rfl rfl (by exact StepS.pure (SeqN.pass (by decide)) rfl fun _ => rfl) ?_
    try simp only [Act.put, sA, sZ, sS]
    refine Ps.done (by kernel_rfl) (fun wg12 hS => ?_) _
    obtain ⟨hT, A3, n3, c3, hv, hb, ho, hk1, hk2⟩ := SeqN.fin (by rfl) hS
    clear hS
    obtain ⟨rfl, rfl, rfl⟩ : A2 = A3 ∧ n2 = n3 ∧ c2 = c3 := by have h9 : (.tuple #[.agg (tt.cells A2 n2 c2), .int .i64 ee] : Value) = .tuple #[.agg (tt.cells A3 n3 c3), .int .i64 ee] := hv; simpa [SC.cells] using h9
    have HF5 := Lib.hid hb
    have HO5 := Lib.hid ho
    have HB5 := Lib.hid hT
    have HKK := Lib.hid (And.intro hk1 hk2)
    have hlt := hb.lt
    clear hT hv hb ho hk1 hk2
    obtain ⟨w5, rfl⟩ : ∃ x, x = wg12 := ⟨_, rfl⟩
    go_wp2_with (first | (refine wpList_load_blk rfl 29 (.tmp 4) rfl (w.heap.size + 2) rfl 29 _ _ HF5.out Try.underlying29 rfl senderI ?_) | (refine wpList_store_blk rfl 29 (.tmp 4) (.tmp 46) rfl (w.heap.size + 2) 29 _ (tt.cells A2 n2 c2) rfl rfl HF5.out rfl senderI (by simp [SC.cells, Value.oneCell']) ?_; intro w6 h6 g6))
    exact bodyPost_ret (res3 Try.results17 rfl rfl rfl h6 Try.underlying29 rfl senderI) rfl ⟨A2, n2, c2, none, 0, 0, rfl, bl_gr HB5.out g6 (by omega), rd_grown HO5.out g6 (fun b hb => hb.elim (fun h => by have := HFR.out b h; omega) (fun h => by omega)), HKK.out.1, HKK.out.2, Lay.rd_nil _, by omega⟩
set_option maxRecDepth 100000 in
set_option maxHeartbeats 32000000 in
theorem want_acked (Fr : Nat → Prop) (a : AC) (s : SC) (rA : Option Addr) (rn rc : Nat) (pA : Option Addr) (pn pc : Nat) (A : Option Addr) (n c : Nat) (w : World) (hFr : ∀ k, Fr k → k < w.heap.size) (h : LB3.rd w Fr A n s.q) (hnc : n ≤ c) (hc : c ≤ 9223372036854775807)
    (hrr : LR.rd w Fr rA rn a.rows) (hrc : rn ≤ rc) (hrm : rc ≤ 9223372036854775807) (hr : LR.rd w Fr pA pn a.pk.b.rows) (hpc : pn ≤ pc) (hpm : pc ≤ 9223372036854775807) (hb : sendB s = true) (hk : k7 a = 5 ∨ k7 a = 6) :
    Calls Try.prog 17 #[.agg (a.cells rA rn rc pA pn pc), .agg (s.cells A n c)] w (WantW w Fr (runE s 0) (runR s 0 (ackedR s (actPk a s))) []) := by
  obtain ⟨tt, htt⟩ : ∃ tt, tt = runR s 0 (ackedR s (actPk a s)) := ⟨_, rfl⟩
  obtain ⟨ee, hee⟩ : ∃ ee, ee = runE s 0 := ⟨_, rfl⟩
  rw [← htt, ← hee]
  have HTT := Lib.hid htt
  have HEE := Lib.hid hee
  clear htt hee
  have _hx9 := And.intro (And.intro hrc hrm) (And.intro hpc hpm)
  have HLN := Lib.hid (Lay.rd_len h)
  obtain ⟨b1, b2, b3, b4, b5, b6, b7⟩ := sendB_all hb
  have HSB := Lib.hid hb
  obtain ⟨kd, rows, ⟨kind, ses, seq, lim, ⟨prows, fin, cnt⟩⟩, near⟩ := a
  obtain ⟨sses, sbase, sq, ssent, slim, stimer, sended⟩ := s
  unfold k7 at hk
  dsimp only at b1 b2 b3 b4 b5 b6 b7 hk
  have hn9 : n ≤ 100 := by have h9 : sq.length = n := HLN.out; omega
  dsimp only at h hrr hr HLN
  have q1 := bl_al (Below.refl w.heap.size w) (.cells #[.int .i64 kd, .slice rA rn rc, .int .i64 kind, .int .u32 ses, .int .u64 seq, .int .u64 lim, .slice pA pn pc, .bool fin, .int .u64 cnt, .bool near] 49)
  have q2 := bl_al q1 (.cells #[.int .u32 sses, .int .u64 sbase, .slice A n c, .int .u64 ssent, .int .u64 slim, .int .i64 stimer, .bool sended] 29)
  have q3 := bl_al q2 (.cells #[.int .u32 0, .int .u64 0, .slice none 0 0, .int .u64 0, .int .u64 0, .int .i64 0, .bool false] 29)
  have HB1 := Lib.hid (((Blk.new w 49 #[.int .i64 kd, .slice rA rn rc, .int .i64 kind, .int .u32 ses, .int .u64 seq, .int .u64 lim, .slice pA pn pc, .bool fin, .int .u64 cnt, .bool near]).alloc (.cells #[.int .u32 sses, .int .u64 sbase, .slice A n c, .int .u64 ssent, .int .u64 slim, .int .i64 stimer, .bool sended] 29)).alloc (.cells #[.int .u32 0, .int .u64 0, .slice none 0 0, .int .u64 0, .int .u64 0, .int .i64 0, .bool false] 29))
  have HB2 := Lib.hid (show Blk (((w.alloc (.cells #[.int .i64 kd, .slice rA rn rc, .int .i64 kind, .int .u32 ses, .int .u64 seq, .int .u64 lim, .slice pA pn pc, .bool fin, .int .u64 cnt, .bool near] 49)).alloc (.cells #[.int .u32 sses, .int .u64 sbase, .slice A n c, .int .u64 ssent, .int .u64 slim, .int .i64 stimer, .bool sended] 29)).alloc (.cells #[.int .u32 0, .int .u64 0, .slice none 0 0, .int .u64 0, .int .u64 0, .int .i64 0, .bool false] 29)) (w.heap.size + 1) 29 #[.int .u32 sses, .int .u64 sbase, .slice A n c, .int .u64 ssent, .int .u64 slim, .int .i64 stimer, .bool sended] from by have := (Blk.new (w.alloc (.cells #[.int .i64 kd, .slice rA rn rc, .int .i64 kind, .int .u32 ses, .int .u64 seq, .int .u64 lim, .slice pA pn pc, .bool fin, .int .u64 cnt, .bool near] 49)) 29 #[.int .u32 sses, .int .u64 sbase, .slice A n c, .int .u64 ssent, .int .u64 slim, .int .i64 stimer, .bool sended]).alloc (.cells #[.int .u32 0, .int .u64 0, .slice none 0 0, .int .u64 0, .int .u64 0, .int .i64 0, .bool false] 29); simp only [World.size_alloc] at this; exact this)
  have HB3 := Lib.hid (show Blk (((w.alloc (.cells #[.int .i64 kd, .slice rA rn rc, .int .i64 kind, .int .u32 ses, .int .u64 seq, .int .u64 lim, .slice pA pn pc, .bool fin, .int .u64 cnt, .bool near] 49)).alloc (.cells #[.int .u32 sses, .int .u64 sbase, .slice A n c, .int .u64 ssent, .int .u64 slim, .int .i64 stimer, .bool sended] 29)).alloc (.cells #[.int .u32 0, .int .u64 0, .slice none 0 0, .int .u64 0, .int .u64 0, .int .i64 0, .bool false] 29)) (w.heap.size + 2) 29 #[.int .u32 0, .int .u64 0, .slice none 0 0, .int .u64 0, .int .u64 0, .int .i64 0, .bool false] from by have := Blk.new ((w.alloc (.cells #[.int .i64 kd, .slice rA rn rc, .int .i64 kind, .int .u32 ses, .int .u64 seq, .int .u64 lim, .slice pA pn pc, .bool fin, .int .u64 cnt, .bool near] 49)).alloc (.cells #[.int .u32 sses, .int .u64 sbase, .slice A n c, .int .u64 ssent, .int .u64 slim, .int .i64 stimer, .bool sended] 29)) 29 #[.int .u32 0, .int .u64 0, .slice none 0 0, .int .u64 0, .int .u64 0, .int .i64 0, .bool false]; simp only [World.size_alloc] at this; exact this)
  have HQ3 := Lib.hid q3
  have HFR := Lib.hid hFr
  have HRD0 := Lib.hid (Lay.rd_below h q3)
  have HRR0 := Lib.hid (Lay.rd_below hrr q3)
  have HPR0 := Lib.hid (Lay.rd_below hr q3)
  have hs3 : (((w.alloc (.cells #[.int .i64 kd, .slice rA rn rc, .int .i64 kind, .int .u32 ses, .int .u64 seq, .int .u64 lim, .slice pA pn pc, .bool fin, .int .u64 cnt, .bool near] 49)).alloc (.cells #[.int .u32 sses, .int .u64 sbase, .slice A n c, .int .u64 ssent, .int .u64 slim, .int .i64 stimer, .bool sended] 29)).alloc (.cells #[.int .u32 0, .int .u64 0, .slice none 0 0, .int .u64 0, .int .u64 0, .int .i64 0, .bool false] 29)).heap.size = w.heap.size + 3 := by simp only [World.size_alloc]
  have HC := Lib.hid (rsend_any Fr ⟨sses, sbase, sq, ssent, slim, stimer, sended⟩ A n c (((w.alloc (.cells #[.int .i64 kd, .slice rA rn rc, .int .i64 kind, .int .u32 ses, .int .u64 seq, .int .u64 lim, .slice pA pn pc, .bool fin, .int .u64 cnt, .bool near] 49)).alloc (.cells #[.int .u32 sses, .int .u64 sbase, .slice A n c, .int .u64 ssent, .int .u64 slim, .int .i64 stimer, .bool sended] 29)).alloc (.cells #[.int .u32 0, .int .u64 0, .slice none 0 0, .int .u64 0, .int .u64 0, .int .i64 0, .bool false] 29)) HRD0.out (by omega))
  rw [hb] at HC
  clear h hrr hr q1 q2 q3 hFr
  show Calls Try.prog 17 #[.agg #[.int .i64 kd, .slice rA rn rc, .int .i64 kind, .int .u32 ses, .int .u64 seq, .int .u64 lim, .slice pA pn pc, .bool fin, .int .u64 cnt, .bool near], .agg #[.int .u32 sses, .int .u64 sbase, .slice A n c, .int .u64 ssent, .int .u64 slim, .int .i64 stimer, .bool sended]] w _
  go_enter Try.func17, Try.ntmps17
  have y0 := HB2.out.cell 0
  have y1 := HB2.out.cell 1
  have y2 := HB2.out.cell 2
  have y3 := HB2.out.cell 3
  have y4 := HB2.out.cell 4
  have y5 := HB2.out.cell 5
  have y6 := HB2.out.cell 6
  go_wp2_with fail
  clear y0 y1 y2 y3 y4 y5 y6
  generalize (((w.alloc (.cells #[.int .i64 kd, .slice rA rn rc, .int .i64 kind, .int .u32 ses, .int .u64 seq, .int .u64 lim, .slice pA pn pc, .bool fin, .int .u64 cnt, .bool near] 49)).alloc (.cells #[.int .u32 sses, .int .u64 sbase, .slice A n c, .int .u64 ssent, .int .u64 slim, .int .i64 stimer, .bool sended] 29)).alloc (.cells #[.int .u32 0, .int .u64 0, .slice none 0 0, .int .u64 0, .int .u64 0, .int .i64 0, .bool false] 29)) = w2 at *
  refine HC.out.mono ?_
  clear HC
  rintro e w3 ⟨rfl, q4⟩
  have hs23 := q4.size
  have HK1 := Lib.hid (HB1.out.ca q4)
  have HK2 := Lib.hid (HB2.out.ca q4)
  have HK3 := Lib.hid (HB3.out.ca q4)
  have HQ4 := Lib.hid (bl_ca HQ3.out q4)
  have HRD := Lib.hid (Lay.rd_below HRD0.out q4)
  have HRR := Lib.hid (Lay.rd_below HRR0.out q4)
  have HPR := Lib.hid (Lay.rd_below HPR0.out q4)
  clear q4 HB1 HB2 HB3 HRD0 HRR0 HPR0
  have x0 := HK1.out.cell 0
  obtain ⟨pk, hpk⟩ : ∃ pk, pk = actPk ⟨kd, rows, ⟨kind, ses, seq, lim, ⟨prows, fin, cnt⟩⟩, near⟩ ⟨sses, sbase, sq, ssent, slim, stimer, sended⟩ := ⟨_, rfl⟩
  rw [← hpk] at HTT
  have HPK := Lib.hid hpk
  clear hpk
  replace HTT := Lib.hid (HTT.out.trans (runR_at HSB.out 0 _))
  replace HTT := Lib.hid (show tt = ackedR ⟨sses, sbase, sq, ssent, slim, stimer, sended⟩ pk from HTT.out)
  obtain rfl : ee = 0 := HEE.out.trans (runE_at HSB.out 0)
  rcases hk with hk | hk
  · skip
    go_wp2_with fail
    clear x0
    refine wp_region_ps (S := SeqN [3, 4, 5] (fun z m w' => match z with | 0 => Below w3.heap.size w3 w' | 1 => Below w3.heap.size w3 w' ∧ ∃ A5 k5 c5, m 3 = .agg (pk.cells A5 k5 c5) ∧ LR.rd w' (fun k => w.heap.size + 3 ≤ k) A5 k5 pk.b.rows ∧ k5 ≤ 9223372036854775807 | 2 => Below w3.heap.size w3 w' ∧ ∃ A2 n2 c2, m 4 = .agg (tt.cells A2 n2 c2) ∧ LB3.rd w' (fun k => Fr k ∨ w.heap.size + 3 ≤ k) A2 n2 tt.q ∧ n2 ≤ c2 ∧ c2 ≤ 9223372036854775807 | _ => Below w.heap.size w w' ∧ ∃ A2 n2 c2, m 4 = .agg (tt.cells A2 n2 c2) ∧ Blk w' (w.heap.size + 2) 29 (tt.cells A2 n2 c2) ∧ LB3.rd w' (fun k => Fr k ∨ w.heap.size + 3 ≤ k) A2 n2 tt.q ∧ n2 ≤ c2 ∧ c2 ≤ 9223372036854775807)) (by kernel_rfl) ?spswg23 ?ppswg23
    case spswg23 =>
      exact SeqN.start (by decide) (Below.refl w3.heap.size w3).drew
    refine Ps.st (i := 0) (d := some 15) (u := (.agg #[.int .u32 (sses), .int .u64 (sbase), .slice A n c, .int .u64 (ssent), .int .u64 (slim), .int .i64 (stimer), .bool (sended)])) rfl rfl ?ywg23_24 ?rwg23_24
    case ywg23_24 =>
      refine StepS.read [] (by kernel_rfl) (SeqN.pass (by decide)) (by rfl) (fun L9 m9 w9 hSh hAt hDn hS => ?_)
      have hT : Below w3.heap.size w3 w9 := SeqN.early2 (T := fun w9 => Below w3.heap.size w3 w9) (reach_no hSh (f := 6) (j := 5) (by kernel_rfl) hDn) (fun z _ _ hz h => by match z, hz, h with | 0, _, h => exact h | 1, _, h => exact h.1 | 2, _, h => exact h.1 | _ + 3, hz, _ => exact absurd hz (by omega)) hS
      have x0 : w9.cell? ⟨(w.heap.size + 1), 0, none⟩ = some (.int .u32 (sses)) := (HK2.out.ca hT).cell 0
      have x1 : w9.cell? ⟨(w.heap.size + 1), 1, none⟩ = some (.int .u64 (sbase)) := (HK2.out.ca hT).cell 1
      have x2 : w9.cell? ⟨(w.heap.size + 1), 2, none⟩ = some (.slice A n c) := (HK2.out.ca hT).cell 2
      have x3 : w9.cell? ⟨(w.heap.size + 1), 3, none⟩ = some (.int .u64 (ssent)) := (HK2.out.ca hT).cell 3
      have x4 : w9.cell? ⟨(w.heap.size + 1), 4, none⟩ = some (.int .u64 (slim)) := (HK2.out.ca hT).cell 4
      have x5 : w9.cell? ⟨(w.heap.size + 1), 5, none⟩ = some (.int .i64 (stimer)) := (HK2.out.ca hT).cell 5
      have x6 : w9.cell? ⟨(w.heap.size + 1), 6, none⟩ = some (.bool (sended)) := (HK2.out.ca hT).cell 6
      clear hT hS
      go_simp
      try rfl
    try simp only [Act.put, sA, sZ, sS]
    refine Ps.st (i := 1) (d := some 16) (u := (.agg #[.int .i64 (kd), .slice rA rn rc, .int .i64 (kind), .int .u32 (ses), .int .u64 (seq), .int .u64 (lim), .slice pA pn pc, .bool (fin), .int .u64 (cnt), .bool (near)])) rfl rfl ?ywg23_25 ?rwg23_25
    case ywg23_25 =>
      refine StepS.read [] (by kernel_rfl) (SeqN.pass (by decide)) (by rfl) (fun L9 m9 w9 hSh hAt hDn hS => ?_)
      have hT : Below w3.heap.size w3 w9 := SeqN.early2 (T := fun w9 => Below w3.heap.size w3 w9) (reach_no hSh (f := 6) (j := 5) (by kernel_rfl) hDn) (fun z _ _ hz h => by match z, hz, h with | 0, _, h => exact h | 1, _, h => exact h.1 | 2, _, h => exact h.1 | _ + 3, hz, _ => exact absurd hz (by omega)) hS
      have x0 : w9.cell? ⟨w.heap.size, 0, none⟩ = some (.int .i64 (kd)) := (HK1.out.ca hT).cell 0
      have x1 : w9.cell? ⟨w.heap.size, 1, none⟩ = some (.slice rA rn rc) := (HK1.out.ca hT).cell 1
      have x2 : w9.cell? ⟨w.heap.size, 2, none⟩ = some (.int .i64 (kind)) := (HK1.out.ca hT).cell 2
      have x3 : w9.cell? ⟨w.heap.size, 3, none⟩ = some (.int .u32 (ses)) := (HK1.out.ca hT).cell 3
      have x4 : w9.cell? ⟨w.heap.size, 4, none⟩ = some (.int .u64 (seq)) := (HK1.out.ca hT).cell 4
      have x5 : w9.cell? ⟨w.heap.size, 5, none⟩ = some (.int .u64 (lim)) := (HK1.out.ca hT).cell 5
      have x6 : w9.cell? ⟨w.heap.size, 6, none⟩ = some (.slice pA pn pc) := (HK1.out.ca hT).cell 6
      have x7 : w9.cell? ⟨w.heap.size, 7, none⟩ = some (.bool (fin)) := (HK1.out.ca hT).cell 7
      have x8 : w9.cell? ⟨w.heap.size, 8, none⟩ = some (.int .u64 (cnt)) := (HK1.out.ca hT).cell 8
      have x9 : w9.cell? ⟨w.heap.size, 9, none⟩ = some (.bool (near)) := (HK1.out.ca hT).cell 9
      clear hT hS
      go_simp
      try rfl
    try simp only [Act.put, sA, sZ, sS]
    refine Ps.st (i := 2) (d := some 17) (u := (.agg #[.int .u32 (sses), .int .u64 (sbase), .slice A n c, .int .u64 (ssent), .int .u64 (slim), .int .i64 (stimer), .bool (sended)])) rfl rfl ?ywg23_26 ?rwg23_26
    case ywg23_26 =>
      refine StepS.read [] (by kernel_rfl) (SeqN.pass (by decide)) (by rfl) (fun L9 m9 w9 hSh hAt hDn hS => ?_)
      have hT : Below w3.heap.size w3 w9 := SeqN.early2 (T := fun w9 => Below w3.heap.size w3 w9) (reach_no hSh (f := 6) (j := 5) (by kernel_rfl) hDn) (fun z _ _ hz h => by match z, hz, h with | 0, _, h => exact h | 1, _, h => exact h.1 | 2, _, h => exact h.1 | _ + 3, hz, _ => exact absurd hz (by omega)) hS
      have x0 : w9.cell? ⟨(w.heap.size + 1), 0, none⟩ = some (.int .u32 (sses)) := (HK2.out.ca hT).cell 0
      have x1 : w9.cell? ⟨(w.heap.size + 1), 1, none⟩ = some (.int .u64 (sbase)) := (HK2.out.ca hT).cell 1
      have x2 : w9.cell? ⟨(w.heap.size + 1), 2, none⟩ = some (.slice A n c) := (HK2.out.ca hT).cell 2
      have x3 : w9.cell? ⟨(w.heap.size + 1), 3, none⟩ = some (.int .u64 (ssent)) := (HK2.out.ca hT).cell 3
      have x4 : w9.cell? ⟨(w.heap.size + 1), 4, none⟩ = some (.int .u64 (slim)) := (HK2.out.ca hT).cell 4
      have x5 : w9.cell? ⟨(w.heap.size + 1), 5, none⟩ = some (.int .i64 (stimer)) := (HK2.out.ca hT).cell 5
      have x6 : w9.cell? ⟨(w.heap.size + 1), 6, none⟩ = some (.bool (sended)) := (HK2.out.ca hT).cell 6
      clear hT hS
      go_simp
      try rfl
    try simp only [Act.put, sA, sZ, sS]
    refine Ps.one (k := 3) (d := some 18) rfl rfl (by kernel_rfl) (TurnS.call (V := fun v => ∃ A5 k5 c5, v = .agg (pk.cells A5 k5 c5)) ?fwg23_27 ?awg23_27 [] (by kernel_rfl) (by rfl) (fun w9 => ?hwg23_27) (fun L9 m9 w9 hSh hAt hDn hS => ?cwg23_27)) (fun v3 hVv3 => ?rwg23_27)
    case hwg23_27 => go_simp; refine ⟨?_, ?_⟩ <;> rfl
    case cwg23_27 =>
      have hT : Below w3.heap.size w3 w9 := SeqN.at_ (m0 := m9) (m1 := m9) [] [4, 5] hSh (fun d hd => by cases hd) hDn (by kernel_rfl) hS
      have hsz := hT.size
      refine (actpk_any Fr ⟨kd, rows, ⟨kind, ses, seq, lim, ⟨prows, fin, cnt⟩⟩, near⟩ ⟨sses, sbase, sq, ssent, slim, stimer, sended⟩ rA rn rc pA pn pc A n c w9 (Lay.rd_below HPR.out hT) hpc hpm).mono ?_
      rw [← HPK.out]
      rintro e w6 ⟨A5, k5, c5, rfl, hrd0, hk1, hk2, q6⟩
      have hk5 : k5 ≤ 9223372036854775807 := by omega
      have hrd := Lay.rd_weak (G := fun k => w.heap.size + 3 ≤ k) (fun b hb hl => by have := hb.1; omega) hrd0
      exact ⟨_, rfl, ⟨A5, k5, c5, rfl⟩, SeqN.set_ (m0 := m9) (m1 := m9) [] [4, 5] hSh (fun d hd => by cases hd) hDn (by kernel_rfl) (by decide) (by decide) ⟨bl_ca hT q6, A5, k5, c5, upd_same _ _ _, hrd, hk5⟩⟩
    try simp only [Act.put, sA, sZ, sS]
    obtain ⟨A5, k5, c5, rfl⟩ := hVv3
    refine Ps.one (k := 4) (d := some 19) rfl rfl (by kernel_rfl) (TurnS.call (V := fun v => ∃ A2 n2 c2, v = .agg (tt.cells A2 n2 c2)) ?fwg23_28 ?awg23_28 [3] (by kernel_rfl) (by rfl) (fun w9 => ?hwg23_28) (fun L9 m9 w9 hSh hAt hDn hS => ?cwg23_28)) (fun v4 hVv4 => ?rwg23_28)
    case hwg23_28 => go_simp; refine ⟨?_, ?_⟩ <;> rfl
    case cwg23_28 =>
      obtain ⟨hT, A6, k6, c6, hv, hrd, hk5⟩ := SeqN.at_ [3] [5] hSh hAt hDn (by kernel_rfl) hS
      obtain ⟨rfl, rfl, rfl⟩ : A5 = A6 ∧ k5 = k6 ∧ c5 = c6 := by have h9 : (.agg (pk.cells A5 k5 c5) : Value) = .agg (pk.cells A6 k6 c6) := (hAt 3 (by simp)).2.symm.trans hv; simpa [PK.cells] using h9
      have hsz := hT.size
      refine (racked_any (fun k => Fr k ∨ w.heap.size + 3 ≤ k) ⟨sses, sbase, sq, ssent, slim, stimer, sended⟩ A n c pk A5 k5 c5 w9 (Lay.rd_weak (fun b hb hl => .inl hb) (Lay.rd_below HRD.out hT)) (Lay.rd_weak (fun b hb hl => .inr hb) hrd) hn9 hnc hc hk5 b2 (show sbase ≤ 2000000000000 by omega) b6 (by rw [← HLN.out]; exact b7)).mono ?_
      rintro e w6 ⟨A2, n2, c2, rfl, q6, hr20, hk1, hk2⟩
      rw [← HTT.out] at hr20 ⊢
      have hr2 := Lay.rd_weak (G := fun k => Fr k ∨ w.heap.size + 3 ≤ k) (fun b hb _ => hb.elim id (fun h => .inr (by omega))) hr20
      exact ⟨_, rfl, ⟨A2, n2, c2, rfl⟩, SeqN.set_ [3] [5] hSh hAt hDn (by kernel_rfl) (by decide) (by decide) ⟨bl_ca hT q6, A2, n2, c2, upd_same _ _ _, hr2, hk1, hk2⟩⟩
    try simp only [Act.put, sA, sZ, sS]
    obtain ⟨A2, n2, c2, rfl⟩ := hVv4
    refine Ps.st (i := 5) (d := none) (u := undef) rfl rfl ?ywg23_29 ?rwg23_29
    case ywg23_29 =>
      refine StepS.store [3, 4] (by kernel_rfl) (by rfl) (fun L9 m9 w9 hSh hAt hDn hS => ?_)
      obtain ⟨hT, A3, n3, c3, hv, ho, hk1, hk2⟩ := SeqN.at_ [3, 4] [] hSh hAt hDn (by kernel_rfl) hS
      obtain ⟨rfl, rfl, rfl⟩ : A2 = A3 ∧ n2 = n3 ∧ c2 = c3 := by have h9 : (.agg (tt.cells A2 n2 c2) : Value) = .agg (tt.cells A3 n3 c3) := (hAt 4 (by simp)).2.symm.trans hv; simpa [SC.cells] using h9
      have hsz := hT.size
      refine (exec_store_blk (w := w9) 29 (.tmp 4) (.tmp 19) (by rfl) (w.heap.size + 2) 29 #[.int .u32 0, .int .u64 0, .slice none 0 0, .int .u64 0, .int .u64 0, .int .i64 0, .bool false] (tt.cells A2 n2 c2) (by rfl) (by rfl) (HK3.out.ca hT) rfl senderI (by simp [SC.cells, Value.oneCell'])).imp fun w7 hx => ⟨hx.1, SeqN.set_ [3, 4] [] hSh hAt hDn (by kernel_rfl) (by decide) (by decide) ⟨bl_gr (bl_ca HQ4.out hT) hx.2.2 (by omega), A2, n2, c2, hv, hx.2.1, rd_grown ho hx.2.2 (fun b hb => hb.elim (fun h => by have := HFR.out b h; omega) (fun h => by omega)), hk1, hk2⟩⟩
    try simp only [Act.put]
    refine Ps.done (by kernel_rfl) (fun wg23 hS => ?_) _
    obtain ⟨hT, A3, n3, c3, hv, hb, ho, hk1, hk2⟩ := SeqN.fin (by rfl) hS
    clear hS
    obtain ⟨rfl, rfl, rfl⟩ : A2 = A3 ∧ n2 = n3 ∧ c2 = c3 := by have h9 : (.agg (tt.cells A2 n2 c2) : Value) = .agg (tt.cells A3 n3 c3) := hv; simpa [SC.cells] using h9
    have HF5 := Lib.hid hb
    have HO5 := Lib.hid ho
    have HB5 := Lib.hid hT
    have HKK := Lib.hid (And.intro hk1 hk2)
    have hlt := hb.lt
    clear hT hv hb ho hk1 hk2
    obtain ⟨w5, rfl⟩ : ∃ x, x = wg23 := ⟨_, rfl⟩
    go_wp2_with (first | (refine wpList_load_blk rfl 29 (.tmp 4) rfl (w.heap.size + 2) rfl 29 _ _ HF5.out Try.underlying29 rfl senderI ?_) | (refine wpList_store_blk rfl 29 (.tmp 4) (.tmp 46) rfl (w.heap.size + 2) 29 _ (tt.cells A2 n2 c2) rfl rfl HF5.out rfl senderI (by simp [SC.cells, Value.oneCell']) ?_; intro w6 h6 g6))
    exact bodyPost_ret (res3 Try.results17 rfl rfl rfl h6 Try.underlying29 rfl senderI) rfl ⟨A2, n2, c2, none, 0, 0, rfl, bl_gr HB5.out g6 (by omega), rd_grown HO5.out g6 (fun b hb => hb.elim (fun h => by have := HFR.out b h; omega) (fun h => by omega)), HKK.out.1, HKK.out.2, Lay.rd_nil _, by omega⟩
  · skip
    go_wp2_with fail
    clear x0
    refine wp_region_ps (S := SeqN [3, 4, 5] (fun z m w' => match z with | 0 => Below w3.heap.size w3 w' | 1 => Below w3.heap.size w3 w' ∧ ∃ A5 k5 c5, m 3 = .agg (pk.cells A5 k5 c5) ∧ LR.rd w' (fun k => w.heap.size + 3 ≤ k) A5 k5 pk.b.rows ∧ k5 ≤ 9223372036854775807 | 2 => Below w3.heap.size w3 w' ∧ ∃ A2 n2 c2, m 4 = .agg (tt.cells A2 n2 c2) ∧ LB3.rd w' (fun k => Fr k ∨ w.heap.size + 3 ≤ k) A2 n2 tt.q ∧ n2 ≤ c2 ∧ c2 ≤ 9223372036854775807 | _ => Below w.heap.size w w' ∧ ∃ A2 n2 c2, m 4 = .agg (tt.cells A2 n2 c2) ∧ Blk w' (w.heap.size + 2) 29 (tt.cells A2 n2 c2) ∧ LB3.rd w' (fun k => Fr k ∨ w.heap.size + 3 ≤ k) A2 n2 tt.q ∧ n2 ≤ c2 ∧ c2 ≤ 9223372036854775807)) (by kernel_rfl) ?spswg30 ?ppswg30
    case spswg30 =>
      exact SeqN.start (by decide) (Below.refl w3.heap.size w3).drew
    refine Ps.st (i := 0) (d := some 15) (u := (.agg #[.int .u32 (sses), .int .u64 (sbase), .slice A n c, .int .u64 (ssent), .int .u64 (slim), .int .i64 (stimer), .bool (sended)])) rfl rfl ?ywg30_31 ?rwg30_31
    case ywg30_31 =>
      refine StepS.read [] (by kernel_rfl) (SeqN.pass (by decide)) (by rfl) (fun L9 m9 w9 hSh hAt hDn hS => ?_)
      have hT : Below w3.heap.size w3 w9 := SeqN.early2 (T := fun w9 => Below w3.heap.size w3 w9) (reach_no hSh (f := 6) (j := 5) (by kernel_rfl) hDn) (fun z _ _ hz h => by match z, hz, h with | 0, _, h => exact h | 1, _, h => exact h.1 | 2, _, h => exact h.1 | _ + 3, hz, _ => exact absurd hz (by omega)) hS
      have x0 : w9.cell? ⟨(w.heap.size + 1), 0, none⟩ = some (.int .u32 (sses)) := (HK2.out.ca hT).cell 0
      have x1 : w9.cell? ⟨(w.heap.size + 1), 1, none⟩ = some (.int .u64 (sbase)) := (HK2.out.ca hT).cell 1
      have x2 : w9.cell? ⟨(w.heap.size + 1), 2, none⟩ = some (.slice A n c) := (HK2.out.ca hT).cell 2
      have x3 : w9.cell? ⟨(w.heap.size + 1), 3, none⟩ = some (.int .u64 (ssent)) := (HK2.out.ca hT).cell 3
      have x4 : w9.cell? ⟨(w.heap.size + 1), 4, none⟩ = some (.int .u64 (slim)) := (HK2.out.ca hT).cell 4
      have x5 : w9.cell? ⟨(w.heap.size + 1), 5, none⟩ = some (.int .i64 (stimer)) := (HK2.out.ca hT).cell 5
      have x6 : w9.cell? ⟨(w.heap.size + 1), 6, none⟩ = some (.bool (sended)) := (HK2.out.ca hT).cell 6
      clear hT hS
      go_simp
      try rfl
    try simp only [Act.put, sA, sZ, sS]
    refine Ps.st (i := 1) (d := some 16) (u := (.agg #[.int .i64 (kd), .slice rA rn rc, .int .i64 (kind), .int .u32 (ses), .int .u64 (seq), .int .u64 (lim), .slice pA pn pc, .bool (fin), .int .u64 (cnt), .bool (near)])) rfl rfl ?ywg30_32 ?rwg30_32
    case ywg30_32 =>
      refine StepS.read [] (by kernel_rfl) (SeqN.pass (by decide)) (by rfl) (fun L9 m9 w9 hSh hAt hDn hS => ?_)
      have hT : Below w3.heap.size w3 w9 := SeqN.early2 (T := fun w9 => Below w3.heap.size w3 w9) (reach_no hSh (f := 6) (j := 5) (by kernel_rfl) hDn) (fun z _ _ hz h => by match z, hz, h with | 0, _, h => exact h | 1, _, h => exact h.1 | 2, _, h => exact h.1 | _ + 3, hz, _ => exact absurd hz (by omega)) hS
      have x0 : w9.cell? ⟨w.heap.size, 0, none⟩ = some (.int .i64 (kd)) := (HK1.out.ca hT).cell 0
      have x1 : w9.cell? ⟨w.heap.size, 1, none⟩ = some (.slice rA rn rc) := (HK1.out.ca hT).cell 1
      have x2 : w9.cell? ⟨w.heap.size, 2, none⟩ = some (.int .i64 (kind)) := (HK1.out.ca hT).cell 2
      have x3 : w9.cell? ⟨w.heap.size, 3, none⟩ = some (.int .u32 (ses)) := (HK1.out.ca hT).cell 3
      have x4 : w9.cell? ⟨w.heap.size, 4, none⟩ = some (.int .u64 (seq)) := (HK1.out.ca hT).cell 4
      have x5 : w9.cell? ⟨w.heap.size, 5, none⟩ = some (.int .u64 (lim)) := (HK1.out.ca hT).cell 5
      have x6 : w9.cell? ⟨w.heap.size, 6, none⟩ = some (.slice pA pn pc) := (HK1.out.ca hT).cell 6
      have x7 : w9.cell? ⟨w.heap.size, 7, none⟩ = some (.bool (fin)) := (HK1.out.ca hT).cell 7
      have x8 : w9.cell? ⟨w.heap.size, 8, none⟩ = some (.int .u64 (cnt)) := (HK1.out.ca hT).cell 8
      have x9 : w9.cell? ⟨w.heap.size, 9, none⟩ = some (.bool (near)) := (HK1.out.ca hT).cell 9
      clear hT hS
      go_simp
      try rfl
    try simp only [Act.put, sA, sZ, sS]
    refine Ps.st (i := 2) (d := some 17) (u := (.agg #[.int .u32 (sses), .int .u64 (sbase), .slice A n c, .int .u64 (ssent), .int .u64 (slim), .int .i64 (stimer), .bool (sended)])) rfl rfl ?ywg30_33 ?rwg30_33
    case ywg30_33 =>
      refine StepS.read [] (by kernel_rfl) (SeqN.pass (by decide)) (by rfl) (fun L9 m9 w9 hSh hAt hDn hS => ?_)
      have hT : Below w3.heap.size w3 w9 := SeqN.early2 (T := fun w9 => Below w3.heap.size w3 w9) (reach_no hSh (f := 6) (j := 5) (by kernel_rfl) hDn) (fun z _ _ hz h => by match z, hz, h with | 0, _, h => exact h | 1, _, h => exact h.1 | 2, _, h => exact h.1 | _ + 3, hz, _ => exact absurd hz (by omega)) hS
      have x0 : w9.cell? ⟨(w.heap.size + 1), 0, none⟩ = some (.int .u32 (sses)) := (HK2.out.ca hT).cell 0
      have x1 : w9.cell? ⟨(w.heap.size + 1), 1, none⟩ = some (.int .u64 (sbase)) := (HK2.out.ca hT).cell 1
      have x2 : w9.cell? ⟨(w.heap.size + 1), 2, none⟩ = some (.slice A n c) := (HK2.out.ca hT).cell 2
      have x3 : w9.cell? ⟨(w.heap.size + 1), 3, none⟩ = some (.int .u64 (ssent)) := (HK2.out.ca hT).cell 3
      have x4 : w9.cell? ⟨(w.heap.size + 1), 4, none⟩ = some (.int .u64 (slim)) := (HK2.out.ca hT).cell 4
      have x5 : w9.cell? ⟨(w.heap.size + 1), 5, none⟩ = some (.int .i64 (stimer)) := (HK2.out.ca hT).cell 5
      have x6 : w9.cell? ⟨(w.heap.size + 1), 6, none⟩ = some (.bool (sended)) := (HK2.out.ca hT).cell 6
      clear hT hS
      go_simp
      try rfl
    try simp only [Act.put, sA, sZ, sS]
    refine Ps.one (k := 3) (d := some 18) rfl rfl (by kernel_rfl) (TurnS.call (V := fun v => ∃ A5 k5 c5, v = .agg (pk.cells A5 k5 c5)) ?fwg30_34 ?awg30_34 [] (by kernel_rfl) (by rfl) (fun w9 => ?hwg30_34) (fun L9 m9 w9 hSh hAt hDn hS => ?cwg30_34)) (fun v3 hVv3 => ?rwg30_34)
    case hwg30_34 => go_simp; refine ⟨?_, ?_⟩ <;> rfl
    case cwg30_34 =>
      have hT : Below w3.heap.size w3 w9 := SeqN.at_ (m0 := m9) (m1 := m9) [] [4, 5] hSh (fun d hd => by cases hd) hDn (by kernel_rfl) hS
      have hsz := hT.size
      refine (actpk_any Fr ⟨kd, rows, ⟨kind, ses, seq, lim, ⟨prows, fin, cnt⟩⟩, near⟩ ⟨sses, sbase, sq, ssent, slim, stimer, sended⟩ rA rn rc pA pn pc A n c w9 (Lay.rd_below HPR.out hT) hpc hpm).mono ?_
      rw [← HPK.out]
      rintro e w6 ⟨A5, k5, c5, rfl, hrd0, hk1, hk2, q6⟩
      have hk5 : k5 ≤ 9223372036854775807 := by omega
      have hrd := Lay.rd_weak (G := fun k => w.heap.size + 3 ≤ k) (fun b hb hl => by have := hb.1; omega) hrd0
      exact ⟨_, rfl, ⟨A5, k5, c5, rfl⟩, SeqN.set_ (m0 := m9) (m1 := m9) [] [4, 5] hSh (fun d hd => by cases hd) hDn (by kernel_rfl) (by decide) (by decide) ⟨bl_ca hT q6, A5, k5, c5, upd_same _ _ _, hrd, hk5⟩⟩
    try simp only [Act.put, sA, sZ, sS]
    obtain ⟨A5, k5, c5, rfl⟩ := hVv3
    refine Ps.one (k := 4) (d := some 19) rfl rfl (by kernel_rfl) (TurnS.call (V := fun v => ∃ A2 n2 c2, v = .agg (tt.cells A2 n2 c2)) ?fwg30_35 ?awg30_35 [3] (by kernel_rfl) (by rfl) (fun w9 => ?hwg30_35) (fun L9 m9 w9 hSh hAt hDn hS => ?cwg30_35)) (fun v4 hVv4 => ?rwg30_35)
    case hwg30_35 => go_simp; refine ⟨?_, ?_⟩ <;> rfl
    case cwg30_35 =>
      obtain ⟨hT, A6, k6, c6, hv, hrd, hk5⟩ := SeqN.at_ [3] [5] hSh hAt hDn (by kernel_rfl) hS
      obtain ⟨rfl, rfl, rfl⟩ : A5 = A6 ∧ k5 = k6 ∧ c5 = c6 := by have h9 : (.agg (pk.cells A5 k5 c5) : Value) = .agg (pk.cells A6 k6 c6) := (hAt 3 (by simp)).2.symm.trans hv; simpa [PK.cells] using h9
      have hsz := hT.size
      refine (racked_any (fun k => Fr k ∨ w.heap.size + 3 ≤ k) ⟨sses, sbase, sq, ssent, slim, stimer, sended⟩ A n c pk A5 k5 c5 w9 (Lay.rd_weak (fun b hb hl => .inl hb) (Lay.rd_below HRD.out hT)) (Lay.rd_weak (fun b hb hl => .inr hb) hrd) hn9 hnc hc hk5 b2 (show sbase ≤ 2000000000000 by omega) b6 (by rw [← HLN.out]; exact b7)).mono ?_
      rintro e w6 ⟨A2, n2, c2, rfl, q6, hr20, hk1, hk2⟩
      rw [← HTT.out] at hr20 ⊢
      have hr2 := Lay.rd_weak (G := fun k => Fr k ∨ w.heap.size + 3 ≤ k) (fun b hb _ => hb.elim id (fun h => .inr (by omega))) hr20
      exact ⟨_, rfl, ⟨A2, n2, c2, rfl⟩, SeqN.set_ [3] [5] hSh hAt hDn (by kernel_rfl) (by decide) (by decide) ⟨bl_ca hT q6, A2, n2, c2, upd_same _ _ _, hr2, hk1, hk2⟩⟩
    try simp only [Act.put, sA, sZ, sS]
    obtain ⟨A2, n2, c2, rfl⟩ := hVv4
    refine Ps.st (i := 5) (d := none) (u := undef) rfl rfl ?ywg30_36 ?rwg30_36
    case ywg30_36 =>
      refine StepS.store [3, 4] (by kernel_rfl) (by rfl) (fun L9 m9 w9 hSh hAt hDn hS => ?_)
      obtain ⟨hT, A3, n3, c3, hv, ho, hk1, hk2⟩ := SeqN.at_ [3, 4] [] hSh hAt hDn (by kernel_rfl) hS
      obtain ⟨rfl, rfl, rfl⟩ : A2 = A3 ∧ n2 = n3 ∧ c2 = c3 := by have h9 : (.agg (tt.cells A2 n2 c2) : Value) = .agg (tt.cells A3 n3 c3) := (hAt 4 (by simp)).2.symm.trans hv; simpa [SC.cells] using h9
      have hsz := hT.size
      refine (exec_store_blk (w := w9) 29 (.tmp 4) (.tmp 19) (by rfl) (w.heap.size + 2) 29 #[.int .u32 0, .int .u64 0, .slice none 0 0, .int .u64 0, .int .u64 0, .int .i64 0, .bool false] (tt.cells A2 n2 c2) (by rfl) (by rfl) (HK3.out.ca hT) rfl senderI (by simp [SC.cells, Value.oneCell'])).imp fun w7 hx => ⟨hx.1, SeqN.set_ [3, 4] [] hSh hAt hDn (by kernel_rfl) (by decide) (by decide) ⟨bl_gr (bl_ca HQ4.out hT) hx.2.2 (by omega), A2, n2, c2, hv, hx.2.1, rd_grown ho hx.2.2 (fun b hb => hb.elim (fun h => by have := HFR.out b h; omega) (fun h => by omega)), hk1, hk2⟩⟩
    try simp only [Act.put]
    refine Ps.done (by kernel_rfl) (fun wg30 hS => ?_) _
    obtain ⟨hT, A3, n3, c3, hv, hb, ho, hk1, hk2⟩ := SeqN.fin (by rfl) hS
    clear hS
    obtain ⟨rfl, rfl, rfl⟩ : A2 = A3 ∧ n2 = n3 ∧ c2 = c3 := by have h9 : (.agg (tt.cells A2 n2 c2) : Value) = .agg (tt.cells A3 n3 c3) := hv; simpa [SC.cells] using h9
    have HF5 := Lib.hid hb
    have HO5 := Lib.hid ho
    have HB5 := Lib.hid hT
    have HKK := Lib.hid (And.intro hk1 hk2)
    have hlt := hb.lt
    clear hT hv hb ho hk1 hk2
    obtain ⟨w5, rfl⟩ : ∃ x, x = wg30 := ⟨_, rfl⟩
    go_wp2_with (first | (refine wpList_load_blk rfl 29 (.tmp 4) rfl (w.heap.size + 2) rfl 29 _ _ HF5.out Try.underlying29 rfl senderI ?_) | (refine wpList_store_blk rfl 29 (.tmp 4) (.tmp 46) rfl (w.heap.size + 2) 29 _ (tt.cells A2 n2 c2) rfl rfl HF5.out rfl senderI (by simp [SC.cells, Value.oneCell']) ?_; intro w6 h6 g6))
    exact bodyPost_ret (res3 Try.results17 rfl rfl rfl h6 Try.underlying29 rfl senderI) rfl ⟨A2, n2, c2, none, 0, 0, rfl, bl_gr HB5.out g6 (by omega), rd_grown HO5.out g6 (fun b hb => hb.elim (fun h => by have := HFR.out b h; omega) (fun h => by omega)), HKK.out.1, HKK.out.2, Lay.rd_nil _, by omega⟩
end Go.Proofs.Ytojghgbaiiajfaa
