/- (Act).run of bowspritlaw22: what an act does with the layer. Conditions: what it reads reads so. -/
import Derived.Test.YtojghgbaiiajfaaPkS20
namespace Go.Proofs.Ytojghgbaiiajfaa
open Go.RowKit
theorem own_box {α : Type} {L : Lay α} {e : TypeId} {w w' : World} {B n c g : Nat} {G : Nat → Prop} {A : Option Addr} {xs : List α} (h : L.own e w B G A n c xs) (q : w.grownBy w' (some g)) (hg : g < B) (hG : ∀ b, G b → b ≠ g) : L.own e w' B G A n c xs :=
  Lay.own_same h (fun k e => q.block k (Lay.own_base h k e).2 (fun e2 => by injection e2 with e2; have := (Lay.own_base h k e).1; omega)) (fun b hb _ hl => q.block b hl (fun e2 => by injection e2 with e2; exact hG b hb e2))
def runE (s : SC) (E : Int) : Int := if sendB s then E else 320
def runR (s : SC) (E : Int) (s2 : SC) : SC := if sendB s && decide (E = 0) then s2 else zeroS
theorem sends_run {Fr1 Fr : Nat → Prop} {s : SC} {E : Int} {s2 t : SC} {w1 w' : World} {A : Option Addr} {n c B : Nat} {N : Int} (h : SendsO Fr1 s E s2 noX noY w1 (t.cells A n c) N w') (hF : ∀ k, Fr1 k → Fr k ∨ B ≤ k) (hB : B ≤ w1.heap.size) :
    ∃ A' n' c', t.cells A n c = (runR s E s2).cells A' n' c' ∧ N = runE s E ∧ Below w1.heap.size w1 w' ∧ LB3.own 45 w' B (fun k => Fr k ∨ B ≤ k) A' n' c' (runR s E s2).q := by
  unfold SendsO at h
  unfold runR runE
  cases hs : sendB s
  · rw [hs] at h
    obtain ⟨hC, hN, q⟩ : t.cells A n c = zeroS.cells none 0 0 ∧ N = 320 ∧ Below w1.heap.size w1 w' := h
    exact ⟨none, 0, 0, hC, hN, q, Lay.own_nil _ _⟩
  · rw [hs, if_pos rfl] at h
    obtain ⟨hch, _, h⟩ := h
    have q := hch.bel (Below.refl w1.heap.size w1) (fun b _ h => h.elim) (Nat.le_refl _)
    rcases h with ⟨hE, hC, hN⟩ | ⟨hE, hN, A2, n2, c2, hC, ho⟩
    · have e : (true && decide (E = 0)) = false := by simp [hE]
      rw [e]
      exact ⟨none, 0, 0, hC, hN, q, Lay.own_nil _ _⟩
    · have e : (true && decide (E = 0)) = true := by simp [hE]
      rw [e]
      exact ⟨A2, n2, c2, hC, hN.trans hE.symm, q, Lay.own_lessB (Lay.own_weak (fun k hk _ => hk.2.elim (fun h => hF k h) (fun h => .inr (by omega))) ho) hB⟩
theorem tick_rd {Fr1 Fr : Nat → Prop} {s : SC} {B B2 : Nat} {PA : Option Addr} {pn pc : Nat} {w' : World} (h : TickO Fr1 s B2 PA pn pc w') (hF : ∀ k, Fr1 k → Fr k ∨ B ≤ k) (hB : B ≤ B2) : LP7.rd w' (fun k => Fr k ∨ B ≤ k) PA pn (if sendB s then outP s else []) ∧ pn ≤ 9223372036854775807 := by
  unfold TickO at h
  cases hs : sendB s
  · rw [hs] at h
    obtain ⟨rfl, rfl, rfl⟩ : PA = none ∧ pn = 0 ∧ pc = 0 := h
    exact ⟨Lay.rd_nil _, by omega⟩
  · rw [hs, if_pos rfl] at h
    have hc := Lay.own_caps h
    exact ⟨Lay.own_rd h (fun b hb _ => .inr (by omega)) (fun b hb _ => hF b hb), by omega⟩
def RunW (w : World) (Fr : Nat → Prop) (E : Int) (t : SC) (P : List PK) (e : Ending) (w' : World) : Prop :=
  ∃ A2 n2 c2 PA pn pc, e = .returned (.tuple #[.agg (t.cells A2 n2 c2), .slice PA pn pc, .int .i64 E]) ∧ Below w.heap.size w w' ∧ LB3.own 45 w' (w.heap.size + 3) (fun k => Fr k ∨ w.heap.size + 3 ≤ k) A2 n2 c2 t.q ∧ LP7.rd w' (fun k => Fr k ∨ w.heap.size + 3 ≤ k) PA pn P ∧ pn ≤ 9223372036854775807
def k7 (a : AC) : Int := Int.tmod (IntKind.u64.wrap a.kind) 7
set_option maxRecDepth 100000 in
set_option maxHeartbeats 32000000 in
theorem run_close (Fr : Nat → Prop) (a : AC) (s : SC) (rA : Option Addr) (rn rc : Nat) (pA : Option Addr) (pn pc : Nat) (A : Option Addr) (n c : Nat) (w : World) (hFr : ∀ k, Fr k → k < w.heap.size) (h : LB3.rd w Fr A n s.q) (hn : n ≤ 9223372036854775807) (h0 : 0 ≤ s.base)
    (hrr : LR.rd w Fr rA rn a.rows) (hrc : rn ≤ rc) (hrm : rc ≤ 9223372036854775807) (hr : LR.rd w Fr pA pn a.pk.b.rows) (hpc : pn ≤ pc) (hpm : pc ≤ 9223372036854775807) (hk : k7 a = 2) :
    Calls Try.prog 16 #[.agg (a.cells rA rn rc pA pn pc), .agg (s.cells A n c)] w (RunW w Fr (runE s (putE s)) (runR s (putE s) (putR s (lastB s))) []) := by
  obtain ⟨tt, htt⟩ : ∃ tt, tt = runR s (putE s) (putR s (lastB s)) := ⟨_, rfl⟩
  obtain ⟨ee, hee⟩ : ∃ ee, ee = runE s (putE s) := ⟨_, rfl⟩
  rw [← htt, ← hee]
  have HTT := Lib.hid htt
  have HEE := Lib.hid hee
  clear htt hee
  have _hx9 := And.intro (And.intro hrc hrm) (And.intro hpc hpm)
  obtain ⟨kd, rows, ⟨kind, ses, seq, lim, ⟨prows, fin, cnt⟩⟩, near⟩ := a
  obtain ⟨sses, sbase, sq, ssent, slim, stimer, sended⟩ := s
  unfold k7 at hk
  dsimp only at h h0 hrr hr hk
  have q1 := bl_al (Below.refl w.heap.size w) (.cells #[.int .i64 kd, .slice rA rn rc, .int .i64 kind, .int .u32 ses, .int .u64 seq, .int .u64 lim, .slice pA pn pc, .bool fin, .int .u64 cnt, .bool near] 49)
  have q2 := bl_al q1 (.cells #[.int .u32 sses, .int .u64 sbase, .slice A n c, .int .u64 ssent, .int .u64 slim, .int .i64 stimer, .bool sended] 29)
  have q3 := bl_al q2 (.cells #[.int .u32 0, .int .u64 0, .slice none 0 0, .int .u64 0, .int .u64 0, .int .i64 0, .bool false] 29)
  have HB1 := Lib.hid (((Blk.new w 49 #[.int .i64 kd, .slice rA rn rc, .int .i64 kind, .int .u32 ses, .int .u64 seq, .int .u64 lim, .slice pA pn pc, .bool fin, .int .u64 cnt, .bool near]).alloc (.cells #[.int .u32 sses, .int .u64 sbase, .slice A n c, .int .u64 ssent, .int .u64 slim, .int .i64 stimer, .bool sended] 29)).alloc (.cells #[.int .u32 0, .int .u64 0, .slice none 0 0, .int .u64 0, .int .u64 0, .int .i64 0, .bool false] 29))
  have HB2 := Lib.hid (show Blk (((w.alloc (.cells #[.int .i64 kd, .slice rA rn rc, .int .i64 kind, .int .u32 ses, .int .u64 seq, .int .u64 lim, .slice pA pn pc, .bool fin, .int .u64 cnt, .bool near] 49)).alloc (.cells #[.int .u32 sses, .int .u64 sbase, .slice A n c, .int .u64 ssent, .int .u64 slim, .int .i64 stimer, .bool sended] 29)).alloc (.cells #[.int .u32 0, .int .u64 0, .slice none 0 0, .int .u64 0, .int .u64 0, .int .i64 0, .bool false] 29)) (w.heap.size + 1) 29 #[.int .u32 sses, .int .u64 sbase, .slice A n c, .int .u64 ssent, .int .u64 slim, .int .i64 stimer, .bool sended] from by have := (Blk.new (w.alloc (.cells #[.int .i64 kd, .slice rA rn rc, .int .i64 kind, .int .u32 ses, .int .u64 seq, .int .u64 lim, .slice pA pn pc, .bool fin, .int .u64 cnt, .bool near] 49)) 29 #[.int .u32 sses, .int .u64 sbase, .slice A n c, .int .u64 ssent, .int .u64 slim, .int .i64 stimer, .bool sended]).alloc (.cells #[.int .u32 0, .int .u64 0, .slice none 0 0, .int .u64 0, .int .u64 0, .int .i64 0, .bool false] 29); simp only [World.size_alloc] at this; exact this)
  have HB3 := Lib.hid (show Blk (((w.alloc (.cells #[.int .i64 kd, .slice rA rn rc, .int .i64 kind, .int .u32 ses, .int .u64 seq, .int .u64 lim, .slice pA pn pc, .bool fin, .int .u64 cnt, .bool near] 49)).alloc (.cells #[.int .u32 sses, .int .u64 sbase, .slice A n c, .int .u64 ssent, .int .u64 slim, .int .i64 stimer, .bool sended] 29)).alloc (.cells #[.int .u32 0, .int .u64 0, .slice none 0 0, .int .u64 0, .int .u64 0, .int .i64 0, .bool false] 29)) (w.heap.size + 2) 29 #[.int .u32 0, .int .u64 0, .slice none 0 0, .int .u64 0, .int .u64 0, .int .i64 0, .bool false] from by have := Blk.new ((w.alloc (.cells #[.int .i64 kd, .slice rA rn rc, .int .i64 kind, .int .u32 ses, .int .u64 seq, .int .u64 lim, .slice pA pn pc, .bool fin, .int .u64 cnt, .bool near] 49)).alloc (.cells #[.int .u32 sses, .int .u64 sbase, .slice A n c, .int .u64 ssent, .int .u64 slim, .int .i64 stimer, .bool sended] 29)) 29 #[.int .u32 0, .int .u64 0, .slice none 0 0, .int .u64 0, .int .u64 0, .int .i64 0, .bool false]; simp only [World.size_alloc] at this; exact this)
  have HQ3 := Lib.hid q3
  have HFR := Lib.hid hFr
  have HRD := Lib.hid (Lay.rd_below h q3)
  have HRR := Lib.hid (Lay.rd_below hrr q3)
  have HPR := Lib.hid (Lay.rd_below hr q3)
  have hs3 : (((w.alloc (.cells #[.int .i64 kd, .slice rA rn rc, .int .i64 kind, .int .u32 ses, .int .u64 seq, .int .u64 lim, .slice pA pn pc, .bool fin, .int .u64 cnt, .bool near] 49)).alloc (.cells #[.int .u32 sses, .int .u64 sbase, .slice A n c, .int .u64 ssent, .int .u64 slim, .int .i64 stimer, .bool sended] 29)).alloc (.cells #[.int .u32 0, .int .u64 0, .slice none 0 0, .int .u64 0, .int .u64 0, .int .i64 0, .bool false] 29)).heap.size = w.heap.size + 3 := by simp only [World.size_alloc]
  clear h hrr hr q1 q2 q3 hFr
  show Calls Try.prog 16 #[.agg #[.int .i64 kd, .slice rA rn rc, .int .i64 kind, .int .u32 ses, .int .u64 seq, .int .u64 lim, .slice pA pn pc, .bool fin, .int .u64 cnt, .bool near], .agg #[.int .u32 sses, .int .u64 sbase, .slice A n c, .int .u64 ssent, .int .u64 slim, .int .i64 stimer, .bool sended]] w _
  go_enter Try.func16, Try.ntmps16
  have x0 := HB1.out.cell 0
  have HC := Lib.hid (close_any Fr ⟨sses, sbase, sq, ssent, slim, stimer, sended⟩ A n c (((w.alloc (.cells #[.int .i64 kd, .slice rA rn rc, .int .i64 kind, .int .u32 ses, .int .u64 seq, .int .u64 lim, .slice pA pn pc, .bool fin, .int .u64 cnt, .bool near] 49)).alloc (.cells #[.int .u32 sses, .int .u64 sbase, .slice A n c, .int .u64 ssent, .int .u64 slim, .int .i64 stimer, .bool sended] 29)).alloc (.cells #[.int .u32 0, .int .u64 0, .slice none 0 0, .int .u64 0, .int .u64 0, .int .i64 0, .bool false] 29)) (fun k hk => by have := HFR.out k hk; omega) HRD.out hn h0)
  have y0 := HB2.out.cell 0
  have y1 := HB2.out.cell 1
  have y2 := HB2.out.cell 2
  have y3 := HB2.out.cell 3
  have y4 := HB2.out.cell 4
  have y5 := HB2.out.cell 5
  have y6 := HB2.out.cell 6
  go_wp2_with fail
  clear x0 y0 y1 y2 y3 y4 y5 y6
  generalize (((w.alloc (.cells #[.int .i64 kd, .slice rA rn rc, .int .i64 kind, .int .u32 ses, .int .u64 seq, .int .u64 lim, .slice pA pn pc, .bool fin, .int .u64 cnt, .bool near] 49)).alloc (.cells #[.int .u32 sses, .int .u64 sbase, .slice A n c, .int .u64 ssent, .int .u64 slim, .int .i64 stimer, .bool sended] 29)).alloc (.cells #[.int .u32 0, .int .u64 0, .slice none 0 0, .int .u64 0, .int .u64 0, .int .i64 0, .bool false] 29)) = w3 at *
  refine HC.out.mono ?_
  clear HC
  rintro e w4 ⟨t, A7, n7, c7, N, rfl, ho⟩
  obtain ⟨A2, n2, c2, hC, rfl, q4, hown⟩ := sends_run (Fr := Fr) (B := w.heap.size + 3) ho (fun k hk => .inl hk) (by omega)
  rw [hC, ← HTT.out, ← HEE.out]
  rw [← HTT.out] at hown
  have HK3 := Lib.hid (HB3.out.ca q4)
  have HQ4 := Lib.hid (bl_ca HQ3.out q4)
  have hs4 := q4.size
  have HOW := Lib.hid hown
  clear ho hC hown q4
  go_wp2_with (first | (refine wpList_store_blk rfl 29 (.tmp 4) (.tmp 35) rfl (w.heap.size + 2) 29 #[.int .u32 0, .int .u64 0, .slice none 0 0, .int .u64 0, .int .u64 0, .int .i64 0, .bool false] (tt.cells A2 n2 c2) rfl rfl HK3.out rfl senderI (by simp [SC.cells, Value.oneCell']) ?_; intro w5 h5 g5; have HF5 := Lib.hid h5; have HG5 := Lib.hid g5; clear h5 g5) | (refine wpList_load_blk rfl 29 (.tmp 4) rfl (w.heap.size + 2) rfl 29 _ _ HF5.out Try.underlying29 rfl senderI ?_) | (refine wpList_store_blk rfl 29 (.tmp 4) (.tmp 46) rfl (w.heap.size + 2) 29 _ (tt.cells A2 n2 c2) rfl rfl HF5.out rfl senderI (by simp [SC.cells, Value.oneCell']) ?_; intro w6 h6 g6))
  have hs5 := HG5.out.size
  exact bodyPost_ret (res3 Try.results16 rfl rfl rfl h6 Try.underlying29 rfl senderI) rfl ⟨A2, n2, c2, none, 0, 0, rfl, bl_gr (bl_gr HQ4.out HG5.out (by omega)) g6 (by omega), own_box (own_box HOW.out HG5.out (by omega) (fun b hb e => hb.elim (fun h => by have := HFR.out b h; omega) (fun h => by omega))) g6 (by omega) (fun b hb e => hb.elim (fun h => by have := HFR.out b h; omega) (fun h => by omega)), Lay.rd_nil _, by omega⟩
set_option maxRecDepth 100000 in
set_option maxHeartbeats 32000000 in
theorem run_tick (Fr : Nat → Prop) (a : AC) (s : SC) (rA : Option Addr) (rn rc : Nat) (pA : Option Addr) (pn pc : Nat) (A : Option Addr) (n c : Nat) (w : World) (hFr : ∀ k, Fr k → k < w.heap.size) (h : LB3.rd w Fr A n s.q) (hn : n ≤ 9223372036854775807) (h0 : 0 ≤ s.base)
    (hrr : LR.rd w Fr rA rn a.rows) (hrc : rn ≤ rc) (hrm : rc ≤ 9223372036854775807) (hr : LR.rd w Fr pA pn a.pk.b.rows) (hpc : pn ≤ pc) (hpm : pc ≤ 9223372036854775807) (hk : k7 a = 3 ∨ k7 a = 4) :
    Calls Try.prog 16 #[.agg (a.cells rA rn rc pA pn pc), .agg (s.cells A n c)] w (RunW w Fr (runE s 0) (runR s 0 (tickR s)) (if sendB s then outP s else [])) := by
  obtain ⟨tt, htt⟩ : ∃ tt, tt = runR s 0 (tickR s) := ⟨_, rfl⟩
  obtain ⟨ee, hee⟩ : ∃ ee, ee = runE s 0 := ⟨_, rfl⟩
  rw [← htt, ← hee]
  have HTT := Lib.hid htt
  have HEE := Lib.hid hee
  clear htt hee
  have _hx9 := And.intro (And.intro hrc hrm) (And.intro hpc hpm)
  obtain ⟨kd, rows, ⟨kind, ses, seq, lim, ⟨prows, fin, cnt⟩⟩, near⟩ := a
  obtain ⟨sses, sbase, sq, ssent, slim, stimer, sended⟩ := s
  unfold k7 at hk
  dsimp only at h h0 hrr hr hk
  have q1 := bl_al (Below.refl w.heap.size w) (.cells #[.int .i64 kd, .slice rA rn rc, .int .i64 kind, .int .u32 ses, .int .u64 seq, .int .u64 lim, .slice pA pn pc, .bool fin, .int .u64 cnt, .bool near] 49)
  have q2 := bl_al q1 (.cells #[.int .u32 sses, .int .u64 sbase, .slice A n c, .int .u64 ssent, .int .u64 slim, .int .i64 stimer, .bool sended] 29)
  have q3 := bl_al q2 (.cells #[.int .u32 0, .int .u64 0, .slice none 0 0, .int .u64 0, .int .u64 0, .int .i64 0, .bool false] 29)
  have HB1 := Lib.hid (((Blk.new w 49 #[.int .i64 kd, .slice rA rn rc, .int .i64 kind, .int .u32 ses, .int .u64 seq, .int .u64 lim, .slice pA pn pc, .bool fin, .int .u64 cnt, .bool near]).alloc (.cells #[.int .u32 sses, .int .u64 sbase, .slice A n c, .int .u64 ssent, .int .u64 slim, .int .i64 stimer, .bool sended] 29)).alloc (.cells #[.int .u32 0, .int .u64 0, .slice none 0 0, .int .u64 0, .int .u64 0, .int .i64 0, .bool false] 29))
  have HB2 := Lib.hid (show Blk (((w.alloc (.cells #[.int .i64 kd, .slice rA rn rc, .int .i64 kind, .int .u32 ses, .int .u64 seq, .int .u64 lim, .slice pA pn pc, .bool fin, .int .u64 cnt, .bool near] 49)).alloc (.cells #[.int .u32 sses, .int .u64 sbase, .slice A n c, .int .u64 ssent, .int .u64 slim, .int .i64 stimer, .bool sended] 29)).alloc (.cells #[.int .u32 0, .int .u64 0, .slice none 0 0, .int .u64 0, .int .u64 0, .int .i64 0, .bool false] 29)) (w.heap.size + 1) 29 #[.int .u32 sses, .int .u64 sbase, .slice A n c, .int .u64 ssent, .int .u64 slim, .int .i64 stimer, .bool sended] from by have := (Blk.new (w.alloc (.cells #[.int .i64 kd, .slice rA rn rc, .int .i64 kind, .int .u32 ses, .int .u64 seq, .int .u64 lim, .slice pA pn pc, .bool fin, .int .u64 cnt, .bool near] 49)) 29 #[.int .u32 sses, .int .u64 sbase, .slice A n c, .int .u64 ssent, .int .u64 slim, .int .i64 stimer, .bool sended]).alloc (.cells #[.int .u32 0, .int .u64 0, .slice none 0 0, .int .u64 0, .int .u64 0, .int .i64 0, .bool false] 29); simp only [World.size_alloc] at this; exact this)
  have HB3 := Lib.hid (show Blk (((w.alloc (.cells #[.int .i64 kd, .slice rA rn rc, .int .i64 kind, .int .u32 ses, .int .u64 seq, .int .u64 lim, .slice pA pn pc, .bool fin, .int .u64 cnt, .bool near] 49)).alloc (.cells #[.int .u32 sses, .int .u64 sbase, .slice A n c, .int .u64 ssent, .int .u64 slim, .int .i64 stimer, .bool sended] 29)).alloc (.cells #[.int .u32 0, .int .u64 0, .slice none 0 0, .int .u64 0, .int .u64 0, .int .i64 0, .bool false] 29)) (w.heap.size + 2) 29 #[.int .u32 0, .int .u64 0, .slice none 0 0, .int .u64 0, .int .u64 0, .int .i64 0, .bool false] from by have := Blk.new ((w.alloc (.cells #[.int .i64 kd, .slice rA rn rc, .int .i64 kind, .int .u32 ses, .int .u64 seq, .int .u64 lim, .slice pA pn pc, .bool fin, .int .u64 cnt, .bool near] 49)).alloc (.cells #[.int .u32 sses, .int .u64 sbase, .slice A n c, .int .u64 ssent, .int .u64 slim, .int .i64 stimer, .bool sended] 29)) 29 #[.int .u32 0, .int .u64 0, .slice none 0 0, .int .u64 0, .int .u64 0, .int .i64 0, .bool false]; simp only [World.size_alloc] at this; exact this)
  have HQ3 := Lib.hid q3
  have HFR := Lib.hid hFr
  have HRD := Lib.hid (Lay.rd_below h q3)
  have HRR := Lib.hid (Lay.rd_below hrr q3)
  have HPR := Lib.hid (Lay.rd_below hr q3)
  have hs3 : (((w.alloc (.cells #[.int .i64 kd, .slice rA rn rc, .int .i64 kind, .int .u32 ses, .int .u64 seq, .int .u64 lim, .slice pA pn pc, .bool fin, .int .u64 cnt, .bool near] 49)).alloc (.cells #[.int .u32 sses, .int .u64 sbase, .slice A n c, .int .u64 ssent, .int .u64 slim, .int .i64 stimer, .bool sended] 29)).alloc (.cells #[.int .u32 0, .int .u64 0, .slice none 0 0, .int .u64 0, .int .u64 0, .int .i64 0, .bool false] 29)).heap.size = w.heap.size + 3 := by simp only [World.size_alloc]
  clear h hrr hr q1 q2 q3 hFr
  show Calls Try.prog 16 #[.agg #[.int .i64 kd, .slice rA rn rc, .int .i64 kind, .int .u32 ses, .int .u64 seq, .int .u64 lim, .slice pA pn pc, .bool fin, .int .u64 cnt, .bool near], .agg #[.int .u32 sses, .int .u64 sbase, .slice A n c, .int .u64 ssent, .int .u64 slim, .int .i64 stimer, .bool sended]] w _
  go_enter Try.func16, Try.ntmps16
  have x0 := HB1.out.cell 0
  obtain ⟨PP, hPP⟩ : ∃ PP, PP = (if sendB ⟨sses, sbase, sq, ssent, slim, stimer, sended⟩ then outP ⟨sses, sbase, sq, ssent, slim, stimer, sended⟩ else []) := ⟨_, rfl⟩
  rw [← hPP]
  have HPP := Lib.hid hPP
  clear hPP
  rcases hk with hk | hk
  · skip
    have HC := Lib.hid (tick_any Fr ⟨sses, sbase, sq, ssent, slim, stimer, sended⟩ A n c (((w.alloc (.cells #[.int .i64 kd, .slice rA rn rc, .int .i64 kind, .int .u32 ses, .int .u64 seq, .int .u64 lim, .slice pA pn pc, .bool fin, .int .u64 cnt, .bool near] 49)).alloc (.cells #[.int .u32 sses, .int .u64 sbase, .slice A n c, .int .u64 ssent, .int .u64 slim, .int .i64 stimer, .bool sended] 29)).alloc (.cells #[.int .u32 0, .int .u64 0, .slice none 0 0, .int .u64 0, .int .u64 0, .int .i64 0, .bool false] 29)) (fun k hk => by have := HFR.out k hk; omega) HRD.out hn h0)
    have y0 := HB2.out.cell 0
    have y1 := HB2.out.cell 1
    have y2 := HB2.out.cell 2
    have y3 := HB2.out.cell 3
    have y4 := HB2.out.cell 4
    have y5 := HB2.out.cell 5
    have y6 := HB2.out.cell 6
    go_wp2_with fail
    clear x0 y0 y1 y2 y3 y4 y5 y6
    generalize (((w.alloc (.cells #[.int .i64 kd, .slice rA rn rc, .int .i64 kind, .int .u32 ses, .int .u64 seq, .int .u64 lim, .slice pA pn pc, .bool fin, .int .u64 cnt, .bool near] 49)).alloc (.cells #[.int .u32 sses, .int .u64 sbase, .slice A n c, .int .u64 ssent, .int .u64 slim, .int .i64 stimer, .bool sended] 29)).alloc (.cells #[.int .u32 0, .int .u64 0, .slice none 0 0, .int .u64 0, .int .u64 0, .int .i64 0, .bool false] 29)) = w3 at *
    refine HC.out.mono ?_
    clear HC
    rintro e w4 ⟨t, A7, n7, c7, N, PA, pn7, pc7, rfl, ho, ht⟩
    obtain ⟨A2, n2, c2, hC, rfl, q4, hown⟩ := sends_run (Fr := Fr) (B := w.heap.size + 3) ho (fun k hk => .inl hk) (by omega)
    rw [hC, ← HTT.out, ← HEE.out]
    rw [← HTT.out] at hown
    have HK3 := Lib.hid (HB3.out.ca q4)
    have HQ4 := Lib.hid (bl_ca HQ3.out q4)
    have hs4 := q4.size
    have HOW := Lib.hid hown
    have hti := tick_rd (Fr := Fr) (B := w.heap.size + 3) ht (fun k hk => .inl hk) (by omega)
    rw [← HPP.out] at hti
    have HTI := Lib.hid hti
    clear ht hti
    clear ho hC hown q4
    go_wp2_with (first | (refine wpList_store_blk rfl 29 (.tmp 4) (.tmp 43) rfl (w.heap.size + 2) 29 #[.int .u32 0, .int .u64 0, .slice none 0 0, .int .u64 0, .int .u64 0, .int .i64 0, .bool false] (tt.cells A2 n2 c2) rfl rfl HK3.out rfl senderI (by simp [SC.cells, Value.oneCell']) ?_; intro w5 h5 g5; have HF5 := Lib.hid h5; have HG5 := Lib.hid g5; clear h5 g5) | (refine wpList_load_blk rfl 29 (.tmp 4) rfl (w.heap.size + 2) rfl 29 _ _ HF5.out Try.underlying29 rfl senderI ?_) | (refine wpList_store_blk rfl 29 (.tmp 4) (.tmp 46) rfl (w.heap.size + 2) 29 _ (tt.cells A2 n2 c2) rfl rfl HF5.out rfl senderI (by simp [SC.cells, Value.oneCell']) ?_; intro w6 h6 g6))
    have hs5 := HG5.out.size
    exact bodyPost_ret (res3 Try.results16 rfl rfl rfl h6 Try.underlying29 rfl senderI) rfl ⟨A2, n2, c2, PA, pn7, pc7, rfl, bl_gr (bl_gr HQ4.out HG5.out (by omega)) g6 (by omega), own_box (own_box HOW.out HG5.out (by omega) (fun b hb e => hb.elim (fun h => by have := HFR.out b h; omega) (fun h => by omega))) g6 (by omega) (fun b hb e => hb.elim (fun h => by have := HFR.out b h; omega) (fun h => by omega)), rd_grown (rd_grown HTI.out.1 HG5.out (fun b hb e => hb.elim (fun h => by have := HFR.out b h; omega) (fun h => by omega))) g6 (fun b hb e => hb.elim (fun h => by have := HFR.out b h; omega) (fun h => by omega)), HTI.out.2⟩
  · skip
    have HC := Lib.hid (tick_any Fr ⟨sses, sbase, sq, ssent, slim, stimer, sended⟩ A n c (((w.alloc (.cells #[.int .i64 kd, .slice rA rn rc, .int .i64 kind, .int .u32 ses, .int .u64 seq, .int .u64 lim, .slice pA pn pc, .bool fin, .int .u64 cnt, .bool near] 49)).alloc (.cells #[.int .u32 sses, .int .u64 sbase, .slice A n c, .int .u64 ssent, .int .u64 slim, .int .i64 stimer, .bool sended] 29)).alloc (.cells #[.int .u32 0, .int .u64 0, .slice none 0 0, .int .u64 0, .int .u64 0, .int .i64 0, .bool false] 29)) (fun k hk => by have := HFR.out k hk; omega) HRD.out hn h0)
    have y0 := HB2.out.cell 0
    have y1 := HB2.out.cell 1
    have y2 := HB2.out.cell 2
    have y3 := HB2.out.cell 3
    have y4 := HB2.out.cell 4
    have y5 := HB2.out.cell 5
    have y6 := HB2.out.cell 6
    go_wp2_with fail
    clear x0 y0 y1 y2 y3 y4 y5 y6
    generalize (((w.alloc (.cells #[.int .i64 kd, .slice rA rn rc, .int .i64 kind, .int .u32 ses, .int .u64 seq, .int .u64 lim, .slice pA pn pc, .bool fin, .int .u64 cnt, .bool near] 49)).alloc (.cells #[.int .u32 sses, .int .u64 sbase, .slice A n c, .int .u64 ssent, .int .u64 slim, .int .i64 stimer, .bool sended] 29)).alloc (.cells #[.int .u32 0, .int .u64 0, .slice none 0 0, .int .u64 0, .int .u64 0, .int .i64 0, .bool false] 29)) = w3 at *
    refine HC.out.mono ?_
    clear HC
    rintro e w4 ⟨t, A7, n7, c7, N, PA, pn7, pc7, rfl, ho, ht⟩
    obtain ⟨A2, n2, c2, hC, rfl, q4, hown⟩ := sends_run (Fr := Fr) (B := w.heap.size + 3) ho (fun k hk => .inl hk) (by omega)
    rw [hC, ← HTT.out, ← HEE.out]
    rw [← HTT.out] at hown
    have HK3 := Lib.hid (HB3.out.ca q4)
    have HQ4 := Lib.hid (bl_ca HQ3.out q4)
    have hs4 := q4.size
    have HOW := Lib.hid hown
    have hti := tick_rd (Fr := Fr) (B := w.heap.size + 3) ht (fun k hk => .inl hk) (by omega)
    rw [← HPP.out] at hti
    have HTI := Lib.hid hti
    clear ht hti
    clear ho hC hown q4
    go_wp2_with (first | (refine wpList_store_blk rfl 29 (.tmp 4) (.tmp 43) rfl (w.heap.size + 2) 29 #[.int .u32 0, .int .u64 0, .slice none 0 0, .int .u64 0, .int .u64 0, .int .i64 0, .bool false] (tt.cells A2 n2 c2) rfl rfl HK3.out rfl senderI (by simp [SC.cells, Value.oneCell']) ?_; intro w5 h5 g5; have HF5 := Lib.hid h5; have HG5 := Lib.hid g5; clear h5 g5) | (refine wpList_load_blk rfl 29 (.tmp 4) rfl (w.heap.size + 2) rfl 29 _ _ HF5.out Try.underlying29 rfl senderI ?_) | (refine wpList_store_blk rfl 29 (.tmp 4) (.tmp 46) rfl (w.heap.size + 2) 29 _ (tt.cells A2 n2 c2) rfl rfl HF5.out rfl senderI (by simp [SC.cells, Value.oneCell']) ?_; intro w6 h6 g6))
    have hs5 := HG5.out.size
    exact bodyPost_ret (res3 Try.results16 rfl rfl rfl h6 Try.underlying29 rfl senderI) rfl ⟨A2, n2, c2, PA, pn7, pc7, rfl, bl_gr (bl_gr HQ4.out HG5.out (by omega)) g6 (by omega), own_box (own_box HOW.out HG5.out (by omega) (fun b hb e => hb.elim (fun h => by have := HFR.out b h; omega) (fun h => by omega))) g6 (by omega) (fun b hb e => hb.elim (fun h => by have := HFR.out b h; omega) (fun h => by omega)), rd_grown (rd_grown HTI.out.1 HG5.out (fun b hb e => hb.elim (fun h => by have := HFR.out b h; omega) (fun h => by omega))) g6 (fun b hb e => hb.elim (fun h => by have := HFR.out b h; omega) (fun h => by omega)), HTI.out.2⟩
set_option maxRecDepth 100000 in
set_option maxHeartbeats 32000000 in
theorem run_put (Fr : Nat → Prop) (a : AC) (s : SC) (rA : Option Addr) (rn rc : Nat) (pA : Option Addr) (pn pc : Nat) (A : Option Addr) (n c : Nat) (w : World) (hFr : ∀ k, Fr k → k < w.heap.size) (h : LB3.rd w Fr A n s.q) (hn : n ≤ 9223372036854775807) (h0 : 0 ≤ s.base)
    (hrr : LR.rd w Fr rA rn a.rows) (hrc : rn ≤ rc) (hrm : rc ≤ 9223372036854775807) (hr : LR.rd w Fr pA pn a.pk.b.rows) (hpc : pn ≤ pc) (hpm : pc ≤ 9223372036854775807) (hk : k7 a = 0 ∨ k7 a = 1) :
    Calls Try.prog 16 #[.agg (a.cells rA rn rc pA pn pc), .agg (s.cells A n c)] w (RunW w Fr (runE s (put1E s (rowsC a.rows))) (runR s (put1E s (rowsC a.rows)) (putR s ⟨rowsC a.rows, false, 0⟩)) []) := by
  obtain ⟨tt, htt⟩ : ∃ tt, tt = runR s (put1E s (rowsC a.rows)) (putR s ⟨rowsC a.rows, false, 0⟩) := ⟨_, rfl⟩
  obtain ⟨ee, hee⟩ : ∃ ee, ee = runE s (put1E s (rowsC a.rows)) := ⟨_, rfl⟩
  rw [← htt, ← hee]
  have HTT := Lib.hid htt
  have HEE := Lib.hid hee
  clear htt hee
  have _hx9 := And.intro (And.intro hrc hrm) (And.intro hpc hpm)
  obtain ⟨kd, rows, ⟨kind, ses, seq, lim, ⟨prows, fin, cnt⟩⟩, near⟩ := a
  obtain ⟨sses, sbase, sq, ssent, slim, stimer, sended⟩ := s
  unfold k7 at hk
  dsimp only at h h0 hrr hr hk
  have q1 := bl_al (Below.refl w.heap.size w) (.cells #[.int .i64 kd, .slice rA rn rc, .int .i64 kind, .int .u32 ses, .int .u64 seq, .int .u64 lim, .slice pA pn pc, .bool fin, .int .u64 cnt, .bool near] 49)
  have q2 := bl_al q1 (.cells #[.int .u32 sses, .int .u64 sbase, .slice A n c, .int .u64 ssent, .int .u64 slim, .int .i64 stimer, .bool sended] 29)
  have q3 := bl_al q2 (.cells #[.int .u32 0, .int .u64 0, .slice none 0 0, .int .u64 0, .int .u64 0, .int .i64 0, .bool false] 29)
  have HB1 := Lib.hid (((Blk.new w 49 #[.int .i64 kd, .slice rA rn rc, .int .i64 kind, .int .u32 ses, .int .u64 seq, .int .u64 lim, .slice pA pn pc, .bool fin, .int .u64 cnt, .bool near]).alloc (.cells #[.int .u32 sses, .int .u64 sbase, .slice A n c, .int .u64 ssent, .int .u64 slim, .int .i64 stimer, .bool sended] 29)).alloc (.cells #[.int .u32 0, .int .u64 0, .slice none 0 0, .int .u64 0, .int .u64 0, .int .i64 0, .bool false] 29))
  have HB2 := Lib.hid (show Blk (((w.alloc (.cells #[.int .i64 kd, .slice rA rn rc, .int .i64 kind, .int .u32 ses, .int .u64 seq, .int .u64 lim, .slice pA pn pc, .bool fin, .int .u64 cnt, .bool near] 49)).alloc (.cells #[.int .u32 sses, .int .u64 sbase, .slice A n c, .int .u64 ssent, .int .u64 slim, .int .i64 stimer, .bool sended] 29)).alloc (.cells #[.int .u32 0, .int .u64 0, .slice none 0 0, .int .u64 0, .int .u64 0, .int .i64 0, .bool false] 29)) (w.heap.size + 1) 29 #[.int .u32 sses, .int .u64 sbase, .slice A n c, .int .u64 ssent, .int .u64 slim, .int .i64 stimer, .bool sended] from by have := (Blk.new (w.alloc (.cells #[.int .i64 kd, .slice rA rn rc, .int .i64 kind, .int .u32 ses, .int .u64 seq, .int .u64 lim, .slice pA pn pc, .bool fin, .int .u64 cnt, .bool near] 49)) 29 #[.int .u32 sses, .int .u64 sbase, .slice A n c, .int .u64 ssent, .int .u64 slim, .int .i64 stimer, .bool sended]).alloc (.cells #[.int .u32 0, .int .u64 0, .slice none 0 0, .int .u64 0, .int .u64 0, .int .i64 0, .bool false] 29); simp only [World.size_alloc] at this; exact this)
  have HB3 := Lib.hid (show Blk (((w.alloc (.cells #[.int .i64 kd, .slice rA rn rc, .int .i64 kind, .int .u32 ses, .int .u64 seq, .int .u64 lim, .slice pA pn pc, .bool fin, .int .u64 cnt, .bool near] 49)).alloc (.cells #[.int .u32 sses, .int .u64 sbase, .slice A n c, .int .u64 ssent, .int .u64 slim, .int .i64 stimer, .bool sended] 29)).alloc (.cells #[.int .u32 0, .int .u64 0, .slice none 0 0, .int .u64 0, .int .u64 0, .int .i64 0, .bool false] 29)) (w.heap.size + 2) 29 #[.int .u32 0, .int .u64 0, .slice none 0 0, .int .u64 0, .int .u64 0, .int .i64 0, .bool false] from by have := Blk.new ((w.alloc (.cells #[.int .i64 kd, .slice rA rn rc, .int .i64 kind, .int .u32 ses, .int .u64 seq, .int .u64 lim, .slice pA pn pc, .bool fin, .int .u64 cnt, .bool near] 49)).alloc (.cells #[.int .u32 sses, .int .u64 sbase, .slice A n c, .int .u64 ssent, .int .u64 slim, .int .i64 stimer, .bool sended] 29)) 29 #[.int .u32 0, .int .u64 0, .slice none 0 0, .int .u64 0, .int .u64 0, .int .i64 0, .bool false]; simp only [World.size_alloc] at this; exact this)
  have HQ3 := Lib.hid q3
  have HFR := Lib.hid hFr
  have HRD := Lib.hid (Lay.rd_below h q3)
  have HRR := Lib.hid (Lay.rd_below hrr q3)
  have HPR := Lib.hid (Lay.rd_below hr q3)
  have hs3 : (((w.alloc (.cells #[.int .i64 kd, .slice rA rn rc, .int .i64 kind, .int .u32 ses, .int .u64 seq, .int .u64 lim, .slice pA pn pc, .bool fin, .int .u64 cnt, .bool near] 49)).alloc (.cells #[.int .u32 sses, .int .u64 sbase, .slice A n c, .int .u64 ssent, .int .u64 slim, .int .i64 stimer, .bool sended] 29)).alloc (.cells #[.int .u32 0, .int .u64 0, .slice none 0 0, .int .u64 0, .int .u64 0, .int .i64 0, .bool false] 29)).heap.size = w.heap.size + 3 := by simp only [World.size_alloc]
  clear h hrr hr q1 q2 q3 hFr
  show Calls Try.prog 16 #[.agg #[.int .i64 kd, .slice rA rn rc, .int .i64 kind, .int .u32 ses, .int .u64 seq, .int .u64 lim, .slice pA pn pc, .bool fin, .int .u64 cnt, .bool near], .agg #[.int .u32 sses, .int .u64 sbase, .slice A n c, .int .u64 ssent, .int .u64 slim, .int .i64 stimer, .bool sended]] w _
  go_enter Try.func16, Try.ntmps16
  have x0 := HB1.out.cell 0
  rcases hk with hk | hk
  · skip
    go_wp2_with fail
    clear x0
    generalize (((w.alloc (.cells #[.int .i64 kd, .slice rA rn rc, .int .i64 kind, .int .u32 ses, .int .u64 seq, .int .u64 lim, .slice pA pn pc, .bool fin, .int .u64 cnt, .bool near] 49)).alloc (.cells #[.int .u32 sses, .int .u64 sbase, .slice A n c, .int .u64 ssent, .int .u64 slim, .int .i64 stimer, .bool sended] 29)).alloc (.cells #[.int .u32 0, .int .u64 0, .slice none 0 0, .int .u64 0, .int .u64 0, .int .i64 0, .bool false] 29)) = w3 at *
    refine wp_region_ps (S := SeqN [3, 4, 8] (fun z m w' => match z with | 0 => Below w3.heap.size w3 w' | 1 => Below w3.heap.size w3 w' ∧ ∃ A5 k5 c5, m 3 = .slice A5 k5 c5 ∧ LR.rd w' (fun k => w.heap.size + 3 ≤ k) A5 k5 (rowsC rows) ∧ k5 ≤ 9223372036854775807 | 2 => Below w3.heap.size w3 w' ∧ ∃ A2 n2 c2, m 4 = .tuple #[.agg (tt.cells A2 n2 c2), .int .i64 ee] ∧ LB3.own 45 w' (w.heap.size + 3) (fun k => Fr k ∨ w.heap.size + 3 ≤ k) A2 n2 c2 tt.q | _ => Below w.heap.size w w' ∧ ∃ A2 n2 c2, m 4 = .tuple #[.agg (tt.cells A2 n2 c2), .int .i64 ee] ∧ Blk w' (w.heap.size + 2) 29 (tt.cells A2 n2 c2) ∧ LB3.own 45 w' (w.heap.size + 3) (fun k => Fr k ∨ w.heap.size + 3 ≤ k) A2 n2 c2 tt.q)) (by kernel_rfl) ?spswg1 ?ppswg1
    case spswg1 =>
      exact SeqN.start (by decide) (Below.refl w3.heap.size w3).drew
    refine Ps.st (i := 0) (d := some 23) (u := (.agg #[.int .u32 (sses), .int .u64 (sbase), .slice A n c, .int .u64 (ssent), .int .u64 (slim), .int .i64 (stimer), .bool (sended)])) rfl rfl ?ywg1_2 ?rwg1_2
    case ywg1_2 =>
      refine StepS.read [] (by kernel_rfl) (SeqN.pass (by decide)) (by rfl) (fun L9 m9 w9 hSh hAt hDn hS => ?_)
      have hT : Below w3.heap.size w3 w9 := SeqN.early2 (T := fun w9 => Below w3.heap.size w3 w9) (reach_no hSh (f := 10) (j := 8) (by kernel_rfl) hDn) (fun z _ _ hz h => by match z, hz, h with | 0, _, h => exact h | 1, _, h => exact h.1 | 2, _, h => exact h.1 | _ + 3, hz, _ => exact absurd hz (by omega)) hS
      have x0 : w9.cell? ⟨(w.heap.size + 1), 0, none⟩ = some (.int .u32 (sses)) := (HB2.out.ca hT).cell 0
      have x1 : w9.cell? ⟨(w.heap.size + 1), 1, none⟩ = some (.int .u64 (sbase)) := (HB2.out.ca hT).cell 1
      have x2 : w9.cell? ⟨(w.heap.size + 1), 2, none⟩ = some (.slice A n c) := (HB2.out.ca hT).cell 2
      have x3 : w9.cell? ⟨(w.heap.size + 1), 3, none⟩ = some (.int .u64 (ssent)) := (HB2.out.ca hT).cell 3
      have x4 : w9.cell? ⟨(w.heap.size + 1), 4, none⟩ = some (.int .u64 (slim)) := (HB2.out.ca hT).cell 4
      have x5 : w9.cell? ⟨(w.heap.size + 1), 5, none⟩ = some (.int .i64 (stimer)) := (HB2.out.ca hT).cell 5
      have x6 : w9.cell? ⟨(w.heap.size + 1), 6, none⟩ = some (.bool (sended)) := (HB2.out.ca hT).cell 6
      clear hT hS
      go_simp
      try rfl
    try simp only [Act.put, sA, sZ, sS]
    refine Ps.st (i := 1) (d := some 24) (u := (.pointer (some ⟨w.heap.size, 1, none⟩))) rfl rfl (by exact StepS.pure (SeqN.pass (by decide)) rfl fun _ => rfl) ?_
    try simp only [Act.put, sA, sZ, sS]
    refine Ps.st (i := 2) (d := some 25) (u := (.slice rA rn rc)) rfl rfl ?ywg1_4 ?rwg1_4
    case ywg1_4 =>
      refine StepS.read [] (by kernel_rfl) (SeqN.pass (by decide)) (by rfl) (fun L9 m9 w9 hSh hAt hDn hS => ?_)
      have hT : Below w3.heap.size w3 w9 := SeqN.early2 (T := fun w9 => Below w3.heap.size w3 w9) (reach_no hSh (f := 10) (j := 8) (by kernel_rfl) hDn) (fun z _ _ hz h => by match z, hz, h with | 0, _, h => exact h | 1, _, h => exact h.1 | 2, _, h => exact h.1 | _ + 3, hz, _ => exact absurd hz (by omega)) hS
      have x0 : w9.cell? ⟨w.heap.size, 1, none⟩ = some (.slice rA rn rc) := (HB1.out.ca hT).cell 1
      clear hT hS
      go_simp
      try rfl
    try simp only [Act.put, sA, sZ, sS]
    refine Ps.one (k := 3) (d := some 26) rfl rfl (by kernel_rfl) (TurnS.call (V := fun v => ∃ A5 k5 c5, v = .slice A5 k5 c5) ?fwg1_5 ?awg1_5 [] (by kernel_rfl) (by rfl) (fun w9 => ?hwg1_5) (fun L9 m9 w9 hSh hAt hDn hS => ?cwg1_5)) (fun v3 hVv3 => ?rwg1_5)
    case hwg1_5 => go_simp; refine ⟨?_, ?_⟩ <;> rfl
    case cwg1_5 =>
      have hT : Below w3.heap.size w3 w9 := SeqN.at_ (m0 := m9) (m1 := m9) [] [4, 8] hSh (fun d hd => by cases hd) hDn (by kernel_rfl) hS
      have hsz := hT.size
      refine (rowsC_any Fr rA rn rc rows w9 (Lay.rd_below HRR.out hT) hrc hrm).mono ?_
      rintro e w6 ⟨A5, k5, c5, rfl, ho, q6⟩
      have hk5 : k5 ≤ 9223372036854775807 := by have := Lay.own_caps ho; omega
      have hrd := Lay.own_rd (F := fun k => w.heap.size + 3 ≤ k) ho (fun b h1 h2 => by omega) (fun b hb hl => by have := hb.1; omega)
      exact ⟨_, rfl, ⟨A5, k5, c5, rfl⟩, SeqN.set_ (m0 := m9) (m1 := m9) [] [4, 8] hSh (fun d hd => by cases hd) hDn (by kernel_rfl) (by decide) (by decide) ⟨bl_ca hT q6, A5, k5, c5, upd_same _ _ _, hrd, hk5⟩⟩
    try simp only [Act.put, sA, sZ, sS]
    obtain ⟨A5, k5, c5, rfl⟩ := hVv3
    refine Ps.one (k := 4) (d := some 27) rfl rfl (by kernel_rfl) (TurnS.call (V := fun v => ∃ A2 n2 c2, v = .tuple #[.agg (tt.cells A2 n2 c2), .int .i64 ee]) ?fwg1_6 ?awg1_6 [3] (by kernel_rfl) (by rfl) (fun w9 => ?hwg1_6) (fun L9 m9 w9 hSh hAt hDn hS => ?cwg1_6)) (fun v4 hVv4 => ?rwg1_6)
    case hwg1_6 => go_simp; refine ⟨?_, ?_⟩ <;> rfl
    case cwg1_6 =>
      obtain ⟨hT, A6, k6, c6, hv, hrd, hk5⟩ := SeqN.at_ [3] [8] hSh hAt hDn (by kernel_rfl) hS
      obtain ⟨rfl, rfl, rfl⟩ : A5 = A6 ∧ k5 = k6 ∧ c5 = c6 := by have h9 : (.slice A5 k5 c5 : Value) = .slice A6 k6 c6 := (hAt 3 (by simp)).2.symm.trans hv; simpa [PK.cells] using h9
      have hsz := hT.size
      refine (put_any (fun k => (Fr k ∨ w.heap.size + 3 ≤ k) ∧ k < w9.heap.size) ⟨sses, sbase, sq, ssent, slim, stimer, sended⟩ A n c (rowsC rows) A5 k5 c5 w9 (fun k hk => hk.2) (Lay.rd_weak (fun b hb hl => ⟨.inl hb, hl⟩) (Lay.rd_below HRD.out hT)) (Lay.rd_weak (fun b hb hl => ⟨.inr hb, hl⟩) hrd) hn hk5 h0).mono ?_
      rintro e w6 ⟨t, A7, n7, c7, N, rfl, ho⟩
      obtain ⟨A2, n2, c2, hC, rfl, q6, hown⟩ := sends_run (Fr := Fr) (B := w.heap.size + 3) ho (fun k hk => hk.1) (by omega)
      rw [hC, ← HTT.out, ← HEE.out]
      rw [← HTT.out] at hown
      exact ⟨_, rfl, ⟨A2, n2, c2, rfl⟩, SeqN.set_ [3] [8] hSh hAt hDn (by kernel_rfl) (by decide) (by decide) ⟨bl_ca hT q6, A2, n2, c2, upd_same _ _ _, hown⟩⟩
    try simp only [Act.put, sA, sZ, sS]
    obtain ⟨A2, n2, c2, rfl⟩ := hVv4
    refine Ps.st (i := 5) (d := some 22) (u := (.tuple #[.agg (tt.cells A2 n2 c2), .int .i64 (ee)])) rfl rfl (by exact StepS.pure (SeqN.pass (by decide)) rfl fun _ => rfl) ?_
    try simp only [Act.put, sA, sZ, sS]
    refine Ps.st (i := 6) (d := some 28) (u := (.agg (tt.cells A2 n2 c2))) rfl rfl (by exact StepS.pure (SeqN.pass (by decide)) rfl fun _ => rfl) ?_
    try simp only [Act.put, sA, sZ, sS]
    refine Ps.st (i := 7) (d := some 29) (u := (.int .i64 (ee))) rfl rfl (by exact StepS.pure (SeqN.pass (by decide)) rfl fun _ => rfl) ?_
    try simp only [Act.put, sA, sZ, sS]
    refine Ps.st (i := 8) (d := none) (u := undef) rfl rfl ?ywg1_10 ?rwg1_10
    case ywg1_10 =>
      refine StepS.store [3, 4] (by kernel_rfl) (by rfl) (fun L9 m9 w9 hSh hAt hDn hS => ?_)
      obtain ⟨hT, A3, n3, c3, hv, ho⟩ := SeqN.at_ [3, 4] [] hSh hAt hDn (by kernel_rfl) hS
      obtain ⟨rfl, rfl, rfl⟩ : A2 = A3 ∧ n2 = n3 ∧ c2 = c3 := by have h9 : Value.tuple #[.agg (tt.cells A2 n2 c2), .int .i64 ee] = .tuple #[.agg (tt.cells A3 n3 c3), .int .i64 ee] := (hAt 4 (by simp)).2.symm.trans hv; simpa [SC.cells] using h9
      have hsz := hT.size
      refine (exec_store_blk (w := w9) 29 (.tmp 4) (.tmp 28) (by rfl) (w.heap.size + 2) 29 #[.int .u32 0, .int .u64 0, .slice none 0 0, .int .u64 0, .int .u64 0, .int .i64 0, .bool false] (tt.cells A2 n2 c2) (by rfl) (by rfl) (HB3.out.ca hT) rfl senderI (by simp [SC.cells, Value.oneCell'])).imp fun w7 hx => ⟨hx.1, SeqN.set_ [3, 4] [] hSh hAt hDn (by kernel_rfl) (by decide) (by decide) ⟨bl_gr (bl_ca HQ3.out hT) hx.2.2 (by omega), A2, n2, c2, hv, hx.2.1, own_box ho hx.2.2 (by omega) (fun b hb e => hb.elim (fun h => by have := HFR.out b h; omega) (fun h => by omega))⟩⟩
    try simp only [Act.put]
    refine Ps.st (i := 9) (d := some 6) (u := (.int .i64 (ee))) rfl rfl (by exact StepS.pure (SeqN.pass (by decide)) rfl fun _ => rfl) ?_
    try simp only [Act.put, sA, sZ, sS]
    refine Ps.done (by kernel_rfl) (fun wg1 hS => ?_) _
    obtain ⟨hT, A3, n3, c3, hv, hb, ho⟩ := SeqN.fin (by rfl) hS
    clear hS
    obtain ⟨rfl, rfl, rfl⟩ : A2 = A3 ∧ n2 = n3 ∧ c2 = c3 := by have h9 : Value.tuple #[.agg (tt.cells A2 n2 c2), .int .i64 ee] = .tuple #[.agg (tt.cells A3 n3 c3), .int .i64 ee] := hv; simpa [SC.cells] using h9
    have HF5 := Lib.hid hb
    have HO5 := Lib.hid ho
    have HB5 := Lib.hid hT
    have hlt := hb.lt
    clear hT hv hb ho
    obtain ⟨w5, rfl⟩ : ∃ x, x = wg1 := ⟨_, rfl⟩
    go_wp2_with (first | (refine wpList_load_blk rfl 29 (.tmp 4) rfl (w.heap.size + 2) rfl 29 _ _ HF5.out Try.underlying29 rfl senderI ?_) | (refine wpList_store_blk rfl 29 (.tmp 4) (.tmp 46) rfl (w.heap.size + 2) 29 _ (tt.cells A2 n2 c2) rfl rfl HF5.out rfl senderI (by simp [SC.cells, Value.oneCell']) ?_; intro w6 h6 g6))
    exact bodyPost_ret (res3 Try.results16 rfl rfl rfl h6 Try.underlying29 rfl senderI) rfl ⟨A2, n2, c2, none, 0, 0, rfl, bl_gr HB5.out g6 (by omega), own_box HO5.out g6 (by omega) (fun b hb e => hb.elim (fun h => by have := HFR.out b h; omega) (fun h => by omega)), Lay.rd_nil _, by omega⟩
  · skip
    go_wp2_with fail
    clear x0
    generalize (((w.alloc (.cells #[.int .i64 kd, .slice rA rn rc, .int .i64 kind, .int .u32 ses, .int .u64 seq, .int .u64 lim, .slice pA pn pc, .bool fin, .int .u64 cnt, .bool near] 49)).alloc (.cells #[.int .u32 sses, .int .u64 sbase, .slice A n c, .int .u64 ssent, .int .u64 slim, .int .i64 stimer, .bool sended] 29)).alloc (.cells #[.int .u32 0, .int .u64 0, .slice none 0 0, .int .u64 0, .int .u64 0, .int .i64 0, .bool false] 29)) = w3 at *
    refine wp_region_ps (S := SeqN [3, 4, 8] (fun z m w' => match z with | 0 => Below w3.heap.size w3 w' | 1 => Below w3.heap.size w3 w' ∧ ∃ A5 k5 c5, m 3 = .slice A5 k5 c5 ∧ LR.rd w' (fun k => w.heap.size + 3 ≤ k) A5 k5 (rowsC rows) ∧ k5 ≤ 9223372036854775807 | 2 => Below w3.heap.size w3 w' ∧ ∃ A2 n2 c2, m 4 = .tuple #[.agg (tt.cells A2 n2 c2), .int .i64 ee] ∧ LB3.own 45 w' (w.heap.size + 3) (fun k => Fr k ∨ w.heap.size + 3 ≤ k) A2 n2 c2 tt.q | _ => Below w.heap.size w w' ∧ ∃ A2 n2 c2, m 4 = .tuple #[.agg (tt.cells A2 n2 c2), .int .i64 ee] ∧ Blk w' (w.heap.size + 2) 29 (tt.cells A2 n2 c2) ∧ LB3.own 45 w' (w.heap.size + 3) (fun k => Fr k ∨ w.heap.size + 3 ≤ k) A2 n2 c2 tt.q)) (by kernel_rfl) ?spswg12 ?ppswg12
    case spswg12 =>
      exact SeqN.start (by decide) (Below.refl w3.heap.size w3).drew
    refine Ps.st (i := 0) (d := some 23) (u := (.agg #[.int .u32 (sses), .int .u64 (sbase), .slice A n c, .int .u64 (ssent), .int .u64 (slim), .int .i64 (stimer), .bool (sended)])) rfl rfl ?ywg12_13 ?rwg12_13
    case ywg12_13 =>
      refine StepS.read [] (by kernel_rfl) (SeqN.pass (by decide)) (by rfl) (fun L9 m9 w9 hSh hAt hDn hS => ?_)
      have hT : Below w3.heap.size w3 w9 := SeqN.early2 (T := fun w9 => Below w3.heap.size w3 w9) (reach_no hSh (f := 10) (j := 8) (by kernel_rfl) hDn) (fun z _ _ hz h => by match z, hz, h with | 0, _, h => exact h | 1, _, h => exact h.1 | 2, _, h => exact h.1 | _ + 3, hz, _ => exact absurd hz (by omega)) hS
      have x0 : w9.cell? ⟨(w.heap.size + 1), 0, none⟩ = some (.int .u32 (sses)) := (HB2.out.ca hT).cell 0
      have x1 : w9.cell? ⟨(w.heap.size + 1), 1, none⟩ = some (.int .u64 (sbase)) := (HB2.out.ca hT).cell 1
      have x2 : w9.cell? ⟨(w.heap.size + 1), 2, none⟩ = some (.slice A n c) := (HB2.out.ca hT).cell 2
      have x3 : w9.cell? ⟨(w.heap.size + 1), 3, none⟩ = some (.int .u64 (ssent)) := (HB2.out.ca hT).cell 3
      have x4 : w9.cell? ⟨(w.heap.size + 1), 4, none⟩ = some (.int .u64 (slim)) := (HB2.out.ca hT).cell 4
      have x5 : w9.cell? ⟨(w.heap.size + 1), 5, none⟩ = some (.int .i64 (stimer)) := (HB2.out.ca hT).cell 5
      have x6 : w9.cell? ⟨(w.heap.size + 1), 6, none⟩ = some (.bool (sended)) := (HB2.out.ca hT).cell 6
      clear hT hS
      go_simp
      try rfl
    try simp only [Act.put, sA, sZ, sS]
    refine Ps.st (i := 1) (d := some 24) (u := (.pointer (some ⟨w.heap.size, 1, none⟩))) rfl rfl (by exact StepS.pure (SeqN.pass (by decide)) rfl fun _ => rfl) ?_
    try simp only [Act.put, sA, sZ, sS]
    refine Ps.st (i := 2) (d := some 25) (u := (.slice rA rn rc)) rfl rfl ?ywg12_15 ?rwg12_15
    case ywg12_15 =>
      refine StepS.read [] (by kernel_rfl) (SeqN.pass (by decide)) (by rfl) (fun L9 m9 w9 hSh hAt hDn hS => ?_)
      have hT : Below w3.heap.size w3 w9 := SeqN.early2 (T := fun w9 => Below w3.heap.size w3 w9) (reach_no hSh (f := 10) (j := 8) (by kernel_rfl) hDn) (fun z _ _ hz h => by match z, hz, h with | 0, _, h => exact h | 1, _, h => exact h.1 | 2, _, h => exact h.1 | _ + 3, hz, _ => exact absurd hz (by omega)) hS
      have x0 : w9.cell? ⟨w.heap.size, 1, none⟩ = some (.slice rA rn rc) := (HB1.out.ca hT).cell 1
      clear hT hS
      go_simp
      try rfl
    try simp only [Act.put, sA, sZ, sS]
    refine Ps.one (k := 3) (d := some 26) rfl rfl (by kernel_rfl) (TurnS.call (V := fun v => ∃ A5 k5 c5, v = .slice A5 k5 c5) ?fwg12_16 ?awg12_16 [] (by kernel_rfl) (by rfl) (fun w9 => ?hwg12_16) (fun L9 m9 w9 hSh hAt hDn hS => ?cwg12_16)) (fun v3 hVv3 => ?rwg12_16)
    case hwg12_16 => go_simp; refine ⟨?_, ?_⟩ <;> rfl
    case cwg12_16 =>
      have hT : Below w3.heap.size w3 w9 := SeqN.at_ (m0 := m9) (m1 := m9) [] [4, 8] hSh (fun d hd => by cases hd) hDn (by kernel_rfl) hS
      have hsz := hT.size
      refine (rowsC_any Fr rA rn rc rows w9 (Lay.rd_below HRR.out hT) hrc hrm).mono ?_
      rintro e w6 ⟨A5, k5, c5, rfl, ho, q6⟩
      have hk5 : k5 ≤ 9223372036854775807 := by have := Lay.own_caps ho; omega
      have hrd := Lay.own_rd (F := fun k => w.heap.size + 3 ≤ k) ho (fun b h1 h2 => by omega) (fun b hb hl => by have := hb.1; omega)
      exact ⟨_, rfl, ⟨A5, k5, c5, rfl⟩, SeqN.set_ (m0 := m9) (m1 := m9) [] [4, 8] hSh (fun d hd => by cases hd) hDn (by kernel_rfl) (by decide) (by decide) ⟨bl_ca hT q6, A5, k5, c5, upd_same _ _ _, hrd, hk5⟩⟩
    try simp only [Act.put, sA, sZ, sS]
    obtain ⟨A5, k5, c5, rfl⟩ := hVv3
    refine Ps.one (k := 4) (d := some 27) rfl rfl (by kernel_rfl) (TurnS.call (V := fun v => ∃ A2 n2 c2, v = .tuple #[.agg (tt.cells A2 n2 c2), .int .i64 ee]) ?fwg12_17 ?awg12_17 [3] (by kernel_rfl) (by rfl) (fun w9 => ?hwg12_17) (fun L9 m9 w9 hSh hAt hDn hS => ?cwg12_17)) (fun v4 hVv4 => ?rwg12_17)
    case hwg12_17 => go_simp; refine ⟨?_, ?_⟩ <;> rfl
    case cwg12_17 =>
      obtain ⟨hT, A6, k6, c6, hv, hrd, hk5⟩ := SeqN.at_ [3] [8] hSh hAt hDn (by kernel_rfl) hS
      obtain ⟨rfl, rfl, rfl⟩ : A5 = A6 ∧ k5 = k6 ∧ c5 = c6 := by have h9 : (.slice A5 k5 c5 : Value) = .slice A6 k6 c6 := (hAt 3 (by simp)).2.symm.trans hv; simpa [PK.cells] using h9
      have hsz := hT.size
      refine (put_any (fun k => (Fr k ∨ w.heap.size + 3 ≤ k) ∧ k < w9.heap.size) ⟨sses, sbase, sq, ssent, slim, stimer, sended⟩ A n c (rowsC rows) A5 k5 c5 w9 (fun k hk => hk.2) (Lay.rd_weak (fun b hb hl => ⟨.inl hb, hl⟩) (Lay.rd_below HRD.out hT)) (Lay.rd_weak (fun b hb hl => ⟨.inr hb, hl⟩) hrd) hn hk5 h0).mono ?_
      rintro e w6 ⟨t, A7, n7, c7, N, rfl, ho⟩
      obtain ⟨A2, n2, c2, hC, rfl, q6, hown⟩ := sends_run (Fr := Fr) (B := w.heap.size + 3) ho (fun k hk => hk.1) (by omega)
      rw [hC, ← HTT.out, ← HEE.out]
      rw [← HTT.out] at hown
      exact ⟨_, rfl, ⟨A2, n2, c2, rfl⟩, SeqN.set_ [3] [8] hSh hAt hDn (by kernel_rfl) (by decide) (by decide) ⟨bl_ca hT q6, A2, n2, c2, upd_same _ _ _, hown⟩⟩
    try simp only [Act.put, sA, sZ, sS]
    obtain ⟨A2, n2, c2, rfl⟩ := hVv4
    refine Ps.st (i := 5) (d := some 22) (u := (.tuple #[.agg (tt.cells A2 n2 c2), .int .i64 (ee)])) rfl rfl (by exact StepS.pure (SeqN.pass (by decide)) rfl fun _ => rfl) ?_
    try simp only [Act.put, sA, sZ, sS]
    refine Ps.st (i := 6) (d := some 28) (u := (.agg (tt.cells A2 n2 c2))) rfl rfl (by exact StepS.pure (SeqN.pass (by decide)) rfl fun _ => rfl) ?_
    try simp only [Act.put, sA, sZ, sS]
    refine Ps.st (i := 7) (d := some 29) (u := (.int .i64 (ee))) rfl rfl (by exact StepS.pure (SeqN.pass (by decide)) rfl fun _ => rfl) ?_
    try simp only [Act.put, sA, sZ, sS]
    refine Ps.st (i := 8) (d := none) (u := undef) rfl rfl ?ywg12_21 ?rwg12_21
    case ywg12_21 =>
      refine StepS.store [3, 4] (by kernel_rfl) (by rfl) (fun L9 m9 w9 hSh hAt hDn hS => ?_)
      obtain ⟨hT, A3, n3, c3, hv, ho⟩ := SeqN.at_ [3, 4] [] hSh hAt hDn (by kernel_rfl) hS
      obtain ⟨rfl, rfl, rfl⟩ : A2 = A3 ∧ n2 = n3 ∧ c2 = c3 := by have h9 : Value.tuple #[.agg (tt.cells A2 n2 c2), .int .i64 ee] = .tuple #[.agg (tt.cells A3 n3 c3), .int .i64 ee] := (hAt 4 (by simp)).2.symm.trans hv; simpa [SC.cells] using h9
      have hsz := hT.size
      refine (exec_store_blk (w := w9) 29 (.tmp 4) (.tmp 28) (by rfl) (w.heap.size + 2) 29 #[.int .u32 0, .int .u64 0, .slice none 0 0, .int .u64 0, .int .u64 0, .int .i64 0, .bool false] (tt.cells A2 n2 c2) (by rfl) (by rfl) (HB3.out.ca hT) rfl senderI (by simp [SC.cells, Value.oneCell'])).imp fun w7 hx => ⟨hx.1, SeqN.set_ [3, 4] [] hSh hAt hDn (by kernel_rfl) (by decide) (by decide) ⟨bl_gr (bl_ca HQ3.out hT) hx.2.2 (by omega), A2, n2, c2, hv, hx.2.1, own_box ho hx.2.2 (by omega) (fun b hb e => hb.elim (fun h => by have := HFR.out b h; omega) (fun h => by omega))⟩⟩
    try simp only [Act.put]
    refine Ps.st (i := 9) (d := some 6) (u := (.int .i64 (ee))) rfl rfl (by exact StepS.pure (SeqN.pass (by decide)) rfl fun _ => rfl) ?_
    try simp only [Act.put, sA, sZ, sS]
    refine Ps.done (by kernel_rfl) (fun wg12 hS => ?_) _
    obtain ⟨hT, A3, n3, c3, hv, hb, ho⟩ := SeqN.fin (by rfl) hS
    clear hS
    obtain ⟨rfl, rfl, rfl⟩ : A2 = A3 ∧ n2 = n3 ∧ c2 = c3 := by have h9 : Value.tuple #[.agg (tt.cells A2 n2 c2), .int .i64 ee] = .tuple #[.agg (tt.cells A3 n3 c3), .int .i64 ee] := hv; simpa [SC.cells] using h9
    have HF5 := Lib.hid hb
    have HO5 := Lib.hid ho
    have HB5 := Lib.hid hT
    have hlt := hb.lt
    clear hT hv hb ho
    obtain ⟨w5, rfl⟩ : ∃ x, x = wg12 := ⟨_, rfl⟩
    go_wp2_with (first | (refine wpList_load_blk rfl 29 (.tmp 4) rfl (w.heap.size + 2) rfl 29 _ _ HF5.out Try.underlying29 rfl senderI ?_) | (refine wpList_store_blk rfl 29 (.tmp 4) (.tmp 46) rfl (w.heap.size + 2) 29 _ (tt.cells A2 n2 c2) rfl rfl HF5.out rfl senderI (by simp [SC.cells, Value.oneCell']) ?_; intro w6 h6 g6))
    exact bodyPost_ret (res3 Try.results16 rfl rfl rfl h6 Try.underlying29 rfl senderI) rfl ⟨A2, n2, c2, none, 0, 0, rfl, bl_gr HB5.out g6 (by omega), own_box HO5.out g6 (by omega) (fun b hb e => hb.elim (fun h => by have := HFR.out b h; omega) (fun h => by omega)), Lay.rd_nil _, by omega⟩
set_option maxRecDepth 100000 in
set_option maxHeartbeats 32000000 in
theorem run_acked (Fr : Nat → Prop) (a : AC) (s : SC) (rA : Option Addr) (rn rc : Nat) (pA : Option Addr) (pn pc : Nat) (A : Option Addr) (n c : Nat) (w : World) (hFr : ∀ k, Fr k → k < w.heap.size) (h : LB3.rd w Fr A n s.q) (hn : n ≤ 9223372036854775807) (h0 : 0 ≤ s.base)
    (hrr : LR.rd w Fr rA rn a.rows) (hrc : rn ≤ rc) (hrm : rc ≤ 9223372036854775807) (hr : LR.rd w Fr pA pn a.pk.b.rows) (hpc : pn ≤ pc) (hpm : pc ≤ 9223372036854775807) (hk : k7 a = 5 ∨ k7 a = 6) :
    Calls Try.prog 16 #[.agg (a.cells rA rn rc pA pn pc), .agg (s.cells A n c)] w (RunW w Fr (runE s 0) (runR s 0 (ackedR s (actPk a s))) []) := by
  obtain ⟨tt, htt⟩ : ∃ tt, tt = runR s 0 (ackedR s (actPk a s)) := ⟨_, rfl⟩
  obtain ⟨ee, hee⟩ : ∃ ee, ee = runE s 0 := ⟨_, rfl⟩
  rw [← htt, ← hee]
  have HTT := Lib.hid htt
  have HEE := Lib.hid hee
  clear htt hee
  have _hx9 := And.intro (And.intro hrc hrm) (And.intro hpc hpm)
  obtain ⟨kd, rows, ⟨kind, ses, seq, lim, ⟨prows, fin, cnt⟩⟩, near⟩ := a
  obtain ⟨sses, sbase, sq, ssent, slim, stimer, sended⟩ := s
  unfold k7 at hk
  dsimp only at h h0 hrr hr hk
  have q1 := bl_al (Below.refl w.heap.size w) (.cells #[.int .i64 kd, .slice rA rn rc, .int .i64 kind, .int .u32 ses, .int .u64 seq, .int .u64 lim, .slice pA pn pc, .bool fin, .int .u64 cnt, .bool near] 49)
  have q2 := bl_al q1 (.cells #[.int .u32 sses, .int .u64 sbase, .slice A n c, .int .u64 ssent, .int .u64 slim, .int .i64 stimer, .bool sended] 29)
  have q3 := bl_al q2 (.cells #[.int .u32 0, .int .u64 0, .slice none 0 0, .int .u64 0, .int .u64 0, .int .i64 0, .bool false] 29)
  have HB1 := Lib.hid (((Blk.new w 49 #[.int .i64 kd, .slice rA rn rc, .int .i64 kind, .int .u32 ses, .int .u64 seq, .int .u64 lim, .slice pA pn pc, .bool fin, .int .u64 cnt, .bool near]).alloc (.cells #[.int .u32 sses, .int .u64 sbase, .slice A n c, .int .u64 ssent, .int .u64 slim, .int .i64 stimer, .bool sended] 29)).alloc (.cells #[.int .u32 0, .int .u64 0, .slice none 0 0, .int .u64 0, .int .u64 0, .int .i64 0, .bool false] 29))
  have HB2 := Lib.hid (show Blk (((w.alloc (.cells #[.int .i64 kd, .slice rA rn rc, .int .i64 kind, .int .u32 ses, .int .u64 seq, .int .u64 lim, .slice pA pn pc, .bool fin, .int .u64 cnt, .bool near] 49)).alloc (.cells #[.int .u32 sses, .int .u64 sbase, .slice A n c, .int .u64 ssent, .int .u64 slim, .int .i64 stimer, .bool sended] 29)).alloc (.cells #[.int .u32 0, .int .u64 0, .slice none 0 0, .int .u64 0, .int .u64 0, .int .i64 0, .bool false] 29)) (w.heap.size + 1) 29 #[.int .u32 sses, .int .u64 sbase, .slice A n c, .int .u64 ssent, .int .u64 slim, .int .i64 stimer, .bool sended] from by have := (Blk.new (w.alloc (.cells #[.int .i64 kd, .slice rA rn rc, .int .i64 kind, .int .u32 ses, .int .u64 seq, .int .u64 lim, .slice pA pn pc, .bool fin, .int .u64 cnt, .bool near] 49)) 29 #[.int .u32 sses, .int .u64 sbase, .slice A n c, .int .u64 ssent, .int .u64 slim, .int .i64 stimer, .bool sended]).alloc (.cells #[.int .u32 0, .int .u64 0, .slice none 0 0, .int .u64 0, .int .u64 0, .int .i64 0, .bool false] 29); simp only [World.size_alloc] at this; exact this)
  have HB3 := Lib.hid (show Blk (((w.alloc (.cells #[.int .i64 kd, .slice rA rn rc, .int .i64 kind, .int .u32 ses, .int .u64 seq, .int .u64 lim, .slice pA pn pc, .bool fin, .int .u64 cnt, .bool near] 49)).alloc (.cells #[.int .u32 sses, .int .u64 sbase, .slice A n c, .int .u64 ssent, .int .u64 slim, .int .i64 stimer, .bool sended] 29)).alloc (.cells #[.int .u32 0, .int .u64 0, .slice none 0 0, .int .u64 0, .int .u64 0, .int .i64 0, .bool false] 29)) (w.heap.size + 2) 29 #[.int .u32 0, .int .u64 0, .slice none 0 0, .int .u64 0, .int .u64 0, .int .i64 0, .bool false] from by have := Blk.new ((w.alloc (.cells #[.int .i64 kd, .slice rA rn rc, .int .i64 kind, .int .u32 ses, .int .u64 seq, .int .u64 lim, .slice pA pn pc, .bool fin, .int .u64 cnt, .bool near] 49)).alloc (.cells #[.int .u32 sses, .int .u64 sbase, .slice A n c, .int .u64 ssent, .int .u64 slim, .int .i64 stimer, .bool sended] 29)) 29 #[.int .u32 0, .int .u64 0, .slice none 0 0, .int .u64 0, .int .u64 0, .int .i64 0, .bool false]; simp only [World.size_alloc] at this; exact this)
  have HQ3 := Lib.hid q3
  have HFR := Lib.hid hFr
  have HRD := Lib.hid (Lay.rd_below h q3)
  have HRR := Lib.hid (Lay.rd_below hrr q3)
  have HPR := Lib.hid (Lay.rd_below hr q3)
  have hs3 : (((w.alloc (.cells #[.int .i64 kd, .slice rA rn rc, .int .i64 kind, .int .u32 ses, .int .u64 seq, .int .u64 lim, .slice pA pn pc, .bool fin, .int .u64 cnt, .bool near] 49)).alloc (.cells #[.int .u32 sses, .int .u64 sbase, .slice A n c, .int .u64 ssent, .int .u64 slim, .int .i64 stimer, .bool sended] 29)).alloc (.cells #[.int .u32 0, .int .u64 0, .slice none 0 0, .int .u64 0, .int .u64 0, .int .i64 0, .bool false] 29)).heap.size = w.heap.size + 3 := by simp only [World.size_alloc]
  clear h hrr hr q1 q2 q3 hFr
  show Calls Try.prog 16 #[.agg #[.int .i64 kd, .slice rA rn rc, .int .i64 kind, .int .u32 ses, .int .u64 seq, .int .u64 lim, .slice pA pn pc, .bool fin, .int .u64 cnt, .bool near], .agg #[.int .u32 sses, .int .u64 sbase, .slice A n c, .int .u64 ssent, .int .u64 slim, .int .i64 stimer, .bool sended]] w _
  go_enter Try.func16, Try.ntmps16
  have x0 := HB1.out.cell 0
  obtain ⟨pk, hpk⟩ : ∃ pk, pk = actPk ⟨kd, rows, ⟨kind, ses, seq, lim, ⟨prows, fin, cnt⟩⟩, near⟩ ⟨sses, sbase, sq, ssent, slim, stimer, sended⟩ := ⟨_, rfl⟩
  rw [← hpk] at HTT
  have HPK := Lib.hid hpk
  clear hpk
  rcases hk with hk | hk
  · skip
    go_wp2_with fail
    clear x0
    generalize (((w.alloc (.cells #[.int .i64 kd, .slice rA rn rc, .int .i64 kind, .int .u32 ses, .int .u64 seq, .int .u64 lim, .slice pA pn pc, .bool fin, .int .u64 cnt, .bool near] 49)).alloc (.cells #[.int .u32 sses, .int .u64 sbase, .slice A n c, .int .u64 ssent, .int .u64 slim, .int .i64 stimer, .bool sended] 29)).alloc (.cells #[.int .u32 0, .int .u64 0, .slice none 0 0, .int .u64 0, .int .u64 0, .int .i64 0, .bool false] 29)) = w3 at *
    refine wp_region_ps (S := SeqN [3, 4, 8] (fun z m w' => match z with | 0 => Below w3.heap.size w3 w' | 1 => Below w3.heap.size w3 w' ∧ ∃ A5 k5 c5, m 3 = .agg (pk.cells A5 k5 c5) ∧ LR.rd w' (fun k => w.heap.size + 3 ≤ k) A5 k5 pk.b.rows ∧ k5 ≤ 9223372036854775807 | 2 => Below w3.heap.size w3 w' ∧ ∃ A2 n2 c2, m 4 = .tuple #[.agg (tt.cells A2 n2 c2), .int .i64 ee] ∧ LB3.own 45 w' (w.heap.size + 3) (fun k => Fr k ∨ w.heap.size + 3 ≤ k) A2 n2 c2 tt.q | _ => Below w.heap.size w w' ∧ ∃ A2 n2 c2, m 4 = .tuple #[.agg (tt.cells A2 n2 c2), .int .i64 ee] ∧ Blk w' (w.heap.size + 2) 29 (tt.cells A2 n2 c2) ∧ LB3.own 45 w' (w.heap.size + 3) (fun k => Fr k ∨ w.heap.size + 3 ≤ k) A2 n2 c2 tt.q)) (by kernel_rfl) ?spswg23 ?ppswg23
    case spswg23 =>
      exact SeqN.start (by decide) (Below.refl w3.heap.size w3).drew
    refine Ps.st (i := 0) (d := some 12) (u := (.agg #[.int .u32 (sses), .int .u64 (sbase), .slice A n c, .int .u64 (ssent), .int .u64 (slim), .int .i64 (stimer), .bool (sended)])) rfl rfl ?ywg23_24 ?rwg23_24
    case ywg23_24 =>
      refine StepS.read [] (by kernel_rfl) (SeqN.pass (by decide)) (by rfl) (fun L9 m9 w9 hSh hAt hDn hS => ?_)
      have hT : Below w3.heap.size w3 w9 := SeqN.early2 (T := fun w9 => Below w3.heap.size w3 w9) (reach_no hSh (f := 10) (j := 8) (by kernel_rfl) hDn) (fun z _ _ hz h => by match z, hz, h with | 0, _, h => exact h | 1, _, h => exact h.1 | 2, _, h => exact h.1 | _ + 3, hz, _ => exact absurd hz (by omega)) hS
      have x0 : w9.cell? ⟨(w.heap.size + 1), 0, none⟩ = some (.int .u32 (sses)) := (HB2.out.ca hT).cell 0
      have x1 : w9.cell? ⟨(w.heap.size + 1), 1, none⟩ = some (.int .u64 (sbase)) := (HB2.out.ca hT).cell 1
      have x2 : w9.cell? ⟨(w.heap.size + 1), 2, none⟩ = some (.slice A n c) := (HB2.out.ca hT).cell 2
      have x3 : w9.cell? ⟨(w.heap.size + 1), 3, none⟩ = some (.int .u64 (ssent)) := (HB2.out.ca hT).cell 3
      have x4 : w9.cell? ⟨(w.heap.size + 1), 4, none⟩ = some (.int .u64 (slim)) := (HB2.out.ca hT).cell 4
      have x5 : w9.cell? ⟨(w.heap.size + 1), 5, none⟩ = some (.int .i64 (stimer)) := (HB2.out.ca hT).cell 5
      have x6 : w9.cell? ⟨(w.heap.size + 1), 6, none⟩ = some (.bool (sended)) := (HB2.out.ca hT).cell 6
      clear hT hS
      go_simp
      try rfl
    try simp only [Act.put, sA, sZ, sS]
    refine Ps.st (i := 1) (d := some 13) (u := (.agg #[.int .i64 (kd), .slice rA rn rc, .int .i64 (kind), .int .u32 (ses), .int .u64 (seq), .int .u64 (lim), .slice pA pn pc, .bool (fin), .int .u64 (cnt), .bool (near)])) rfl rfl ?ywg23_25 ?rwg23_25
    case ywg23_25 =>
      refine StepS.read [] (by kernel_rfl) (SeqN.pass (by decide)) (by rfl) (fun L9 m9 w9 hSh hAt hDn hS => ?_)
      have hT : Below w3.heap.size w3 w9 := SeqN.early2 (T := fun w9 => Below w3.heap.size w3 w9) (reach_no hSh (f := 10) (j := 8) (by kernel_rfl) hDn) (fun z _ _ hz h => by match z, hz, h with | 0, _, h => exact h | 1, _, h => exact h.1 | 2, _, h => exact h.1 | _ + 3, hz, _ => exact absurd hz (by omega)) hS
      have x0 : w9.cell? ⟨w.heap.size, 0, none⟩ = some (.int .i64 (kd)) := (HB1.out.ca hT).cell 0
      have x1 : w9.cell? ⟨w.heap.size, 1, none⟩ = some (.slice rA rn rc) := (HB1.out.ca hT).cell 1
      have x2 : w9.cell? ⟨w.heap.size, 2, none⟩ = some (.int .i64 (kind)) := (HB1.out.ca hT).cell 2
      have x3 : w9.cell? ⟨w.heap.size, 3, none⟩ = some (.int .u32 (ses)) := (HB1.out.ca hT).cell 3
      have x4 : w9.cell? ⟨w.heap.size, 4, none⟩ = some (.int .u64 (seq)) := (HB1.out.ca hT).cell 4
      have x5 : w9.cell? ⟨w.heap.size, 5, none⟩ = some (.int .u64 (lim)) := (HB1.out.ca hT).cell 5
      have x6 : w9.cell? ⟨w.heap.size, 6, none⟩ = some (.slice pA pn pc) := (HB1.out.ca hT).cell 6
      have x7 : w9.cell? ⟨w.heap.size, 7, none⟩ = some (.bool (fin)) := (HB1.out.ca hT).cell 7
      have x8 : w9.cell? ⟨w.heap.size, 8, none⟩ = some (.int .u64 (cnt)) := (HB1.out.ca hT).cell 8
      have x9 : w9.cell? ⟨w.heap.size, 9, none⟩ = some (.bool (near)) := (HB1.out.ca hT).cell 9
      clear hT hS
      go_simp
      try rfl
    try simp only [Act.put, sA, sZ, sS]
    refine Ps.st (i := 2) (d := some 14) (u := (.agg #[.int .u32 (sses), .int .u64 (sbase), .slice A n c, .int .u64 (ssent), .int .u64 (slim), .int .i64 (stimer), .bool (sended)])) rfl rfl ?ywg23_26 ?rwg23_26
    case ywg23_26 =>
      refine StepS.read [] (by kernel_rfl) (SeqN.pass (by decide)) (by rfl) (fun L9 m9 w9 hSh hAt hDn hS => ?_)
      have hT : Below w3.heap.size w3 w9 := SeqN.early2 (T := fun w9 => Below w3.heap.size w3 w9) (reach_no hSh (f := 10) (j := 8) (by kernel_rfl) hDn) (fun z _ _ hz h => by match z, hz, h with | 0, _, h => exact h | 1, _, h => exact h.1 | 2, _, h => exact h.1 | _ + 3, hz, _ => exact absurd hz (by omega)) hS
      have x0 : w9.cell? ⟨(w.heap.size + 1), 0, none⟩ = some (.int .u32 (sses)) := (HB2.out.ca hT).cell 0
      have x1 : w9.cell? ⟨(w.heap.size + 1), 1, none⟩ = some (.int .u64 (sbase)) := (HB2.out.ca hT).cell 1
      have x2 : w9.cell? ⟨(w.heap.size + 1), 2, none⟩ = some (.slice A n c) := (HB2.out.ca hT).cell 2
      have x3 : w9.cell? ⟨(w.heap.size + 1), 3, none⟩ = some (.int .u64 (ssent)) := (HB2.out.ca hT).cell 3
      have x4 : w9.cell? ⟨(w.heap.size + 1), 4, none⟩ = some (.int .u64 (slim)) := (HB2.out.ca hT).cell 4
      have x5 : w9.cell? ⟨(w.heap.size + 1), 5, none⟩ = some (.int .i64 (stimer)) := (HB2.out.ca hT).cell 5
      have x6 : w9.cell? ⟨(w.heap.size + 1), 6, none⟩ = some (.bool (sended)) := (HB2.out.ca hT).cell 6
      clear hT hS
      go_simp
      try rfl
    try simp only [Act.put, sA, sZ, sS]
    refine Ps.one (k := 3) (d := some 15) rfl rfl (by kernel_rfl) (TurnS.call (V := fun v => ∃ A5 k5 c5, v = .agg (pk.cells A5 k5 c5)) ?fwg23_27 ?awg23_27 [] (by kernel_rfl) (by rfl) (fun w9 => ?hwg23_27) (fun L9 m9 w9 hSh hAt hDn hS => ?cwg23_27)) (fun v3 hVv3 => ?rwg23_27)
    case hwg23_27 => go_simp; refine ⟨?_, ?_⟩ <;> rfl
    case cwg23_27 =>
      have hT : Below w3.heap.size w3 w9 := SeqN.at_ (m0 := m9) (m1 := m9) [] [4, 8] hSh (fun d hd => by cases hd) hDn (by kernel_rfl) hS
      have hsz := hT.size
      refine (actpk_any Fr ⟨kd, rows, ⟨kind, ses, seq, lim, ⟨prows, fin, cnt⟩⟩, near⟩ ⟨sses, sbase, sq, ssent, slim, stimer, sended⟩ rA rn rc pA pn pc A n c w9 (Lay.rd_below HPR.out hT) hpc hpm).mono ?_
      rw [← HPK.out]
      rintro e w6 ⟨A5, k5, c5, rfl, hrd0, hk1, hk2, q6⟩
      have hk5 : k5 ≤ 9223372036854775807 := by omega
      have hrd := Lay.rd_weak (G := fun k => w.heap.size + 3 ≤ k) (fun b hb hl => by have := hb.1; omega) hrd0
      exact ⟨_, rfl, ⟨A5, k5, c5, rfl⟩, SeqN.set_ (m0 := m9) (m1 := m9) [] [4, 8] hSh (fun d hd => by cases hd) hDn (by kernel_rfl) (by decide) (by decide) ⟨bl_ca hT q6, A5, k5, c5, upd_same _ _ _, hrd, hk5⟩⟩
    try simp only [Act.put, sA, sZ, sS]
    obtain ⟨A5, k5, c5, rfl⟩ := hVv3
    refine Ps.one (k := 4) (d := some 16) rfl rfl (by kernel_rfl) (TurnS.call (V := fun v => ∃ A2 n2 c2, v = .tuple #[.agg (tt.cells A2 n2 c2), .int .i64 ee]) ?fwg23_28 ?awg23_28 [3] (by kernel_rfl) (by rfl) (fun w9 => ?hwg23_28) (fun L9 m9 w9 hSh hAt hDn hS => ?cwg23_28)) (fun v4 hVv4 => ?rwg23_28)
    case hwg23_28 => go_simp; refine ⟨?_, ?_⟩ <;> rfl
    case cwg23_28 =>
      obtain ⟨hT, A6, k6, c6, hv, hrd, hk5⟩ := SeqN.at_ [3] [8] hSh hAt hDn (by kernel_rfl) hS
      obtain ⟨rfl, rfl, rfl⟩ : A5 = A6 ∧ k5 = k6 ∧ c5 = c6 := by have h9 : (.agg (pk.cells A5 k5 c5) : Value) = .agg (pk.cells A6 k6 c6) := (hAt 3 (by simp)).2.symm.trans hv; simpa [PK.cells] using h9
      have hsz := hT.size
      refine (acked_any (fun k => (Fr k ∨ w.heap.size + 3 ≤ k) ∧ k < w9.heap.size) ⟨sses, sbase, sq, ssent, slim, stimer, sended⟩ A n c pk A5 k5 c5 w9 (fun k hk => hk.2) (Lay.rd_weak (fun b hb hl => ⟨.inl hb, hl⟩) (Lay.rd_below HRD.out hT)) (Lay.rd_weak (fun b hb hl => ⟨.inr hb, hl⟩) hrd) hn hk5 h0).mono ?_
      rintro e w6 ⟨t, A7, n7, c7, N, rfl, ho⟩
      obtain ⟨A2, n2, c2, hC, rfl, q6, hown⟩ := sends_run (Fr := Fr) (B := w.heap.size + 3) ho (fun k hk => hk.1) (by omega)
      rw [hC, ← HTT.out, ← HEE.out]
      rw [← HTT.out] at hown
      exact ⟨_, rfl, ⟨A2, n2, c2, rfl⟩, SeqN.set_ [3] [8] hSh hAt hDn (by kernel_rfl) (by decide) (by decide) ⟨bl_ca hT q6, A2, n2, c2, upd_same _ _ _, hown⟩⟩
    try simp only [Act.put, sA, sZ, sS]
    obtain ⟨A2, n2, c2, rfl⟩ := hVv4
    refine Ps.st (i := 5) (d := some 11) (u := (.tuple #[.agg (tt.cells A2 n2 c2), .int .i64 (ee)])) rfl rfl (by exact StepS.pure (SeqN.pass (by decide)) rfl fun _ => rfl) ?_
    try simp only [Act.put, sA, sZ, sS]
    refine Ps.st (i := 6) (d := some 17) (u := (.agg (tt.cells A2 n2 c2))) rfl rfl (by exact StepS.pure (SeqN.pass (by decide)) rfl fun _ => rfl) ?_
    try simp only [Act.put, sA, sZ, sS]
    refine Ps.st (i := 7) (d := some 18) (u := (.int .i64 (ee))) rfl rfl (by exact StepS.pure (SeqN.pass (by decide)) rfl fun _ => rfl) ?_
    try simp only [Act.put, sA, sZ, sS]
    refine Ps.st (i := 8) (d := none) (u := undef) rfl rfl ?ywg23_32 ?rwg23_32
    case ywg23_32 =>
      refine StepS.store [3, 4] (by kernel_rfl) (by rfl) (fun L9 m9 w9 hSh hAt hDn hS => ?_)
      obtain ⟨hT, A3, n3, c3, hv, ho⟩ := SeqN.at_ [3, 4] [] hSh hAt hDn (by kernel_rfl) hS
      obtain ⟨rfl, rfl, rfl⟩ : A2 = A3 ∧ n2 = n3 ∧ c2 = c3 := by have h9 : Value.tuple #[.agg (tt.cells A2 n2 c2), .int .i64 ee] = .tuple #[.agg (tt.cells A3 n3 c3), .int .i64 ee] := (hAt 4 (by simp)).2.symm.trans hv; simpa [SC.cells] using h9
      have hsz := hT.size
      refine (exec_store_blk (w := w9) 29 (.tmp 4) (.tmp 17) (by rfl) (w.heap.size + 2) 29 #[.int .u32 0, .int .u64 0, .slice none 0 0, .int .u64 0, .int .u64 0, .int .i64 0, .bool false] (tt.cells A2 n2 c2) (by rfl) (by rfl) (HB3.out.ca hT) rfl senderI (by simp [SC.cells, Value.oneCell'])).imp fun w7 hx => ⟨hx.1, SeqN.set_ [3, 4] [] hSh hAt hDn (by kernel_rfl) (by decide) (by decide) ⟨bl_gr (bl_ca HQ3.out hT) hx.2.2 (by omega), A2, n2, c2, hv, hx.2.1, own_box ho hx.2.2 (by omega) (fun b hb e => hb.elim (fun h => by have := HFR.out b h; omega) (fun h => by omega))⟩⟩
    try simp only [Act.put]
    refine Ps.st (i := 9) (d := some 6) (u := (.int .i64 (ee))) rfl rfl (by exact StepS.pure (SeqN.pass (by decide)) rfl fun _ => rfl) ?_
    try simp only [Act.put, sA, sZ, sS]
    refine Ps.done (by kernel_rfl) (fun wg23 hS => ?_) _
    obtain ⟨hT, A3, n3, c3, hv, hb, ho⟩ := SeqN.fin (by rfl) hS
    clear hS
    obtain ⟨rfl, rfl, rfl⟩ : A2 = A3 ∧ n2 = n3 ∧ c2 = c3 := by have h9 : Value.tuple #[.agg (tt.cells A2 n2 c2), .int .i64 ee] = .tuple #[.agg (tt.cells A3 n3 c3), .int .i64 ee] := hv; simpa [SC.cells] using h9
    have HF5 := Lib.hid hb
    have HO5 := Lib.hid ho
    have HB5 := Lib.hid hT
    have hlt := hb.lt
    clear hT hv hb ho
    obtain ⟨w5, rfl⟩ : ∃ x, x = wg23 := ⟨_, rfl⟩
    go_wp2_with (first | (refine wpList_load_blk rfl 29 (.tmp 4) rfl (w.heap.size + 2) rfl 29 _ _ HF5.out Try.underlying29 rfl senderI ?_) | (refine wpList_store_blk rfl 29 (.tmp 4) (.tmp 46) rfl (w.heap.size + 2) 29 _ (tt.cells A2 n2 c2) rfl rfl HF5.out rfl senderI (by simp [SC.cells, Value.oneCell']) ?_; intro w6 h6 g6))
    exact bodyPost_ret (res3 Try.results16 rfl rfl rfl h6 Try.underlying29 rfl senderI) rfl ⟨A2, n2, c2, none, 0, 0, rfl, bl_gr HB5.out g6 (by omega), own_box HO5.out g6 (by omega) (fun b hb e => hb.elim (fun h => by have := HFR.out b h; omega) (fun h => by omega)), Lay.rd_nil _, by omega⟩
  · skip
    go_wp2_with fail
    clear x0
    generalize (((w.alloc (.cells #[.int .i64 kd, .slice rA rn rc, .int .i64 kind, .int .u32 ses, .int .u64 seq, .int .u64 lim, .slice pA pn pc, .bool fin, .int .u64 cnt, .bool near] 49)).alloc (.cells #[.int .u32 sses, .int .u64 sbase, .slice A n c, .int .u64 ssent, .int .u64 slim, .int .i64 stimer, .bool sended] 29)).alloc (.cells #[.int .u32 0, .int .u64 0, .slice none 0 0, .int .u64 0, .int .u64 0, .int .i64 0, .bool false] 29)) = w3 at *
    refine wp_region_ps (S := SeqN [3, 4, 8] (fun z m w' => match z with | 0 => Below w3.heap.size w3 w' | 1 => Below w3.heap.size w3 w' ∧ ∃ A5 k5 c5, m 3 = .agg (pk.cells A5 k5 c5) ∧ LR.rd w' (fun k => w.heap.size + 3 ≤ k) A5 k5 pk.b.rows ∧ k5 ≤ 9223372036854775807 | 2 => Below w3.heap.size w3 w' ∧ ∃ A2 n2 c2, m 4 = .tuple #[.agg (tt.cells A2 n2 c2), .int .i64 ee] ∧ LB3.own 45 w' (w.heap.size + 3) (fun k => Fr k ∨ w.heap.size + 3 ≤ k) A2 n2 c2 tt.q | _ => Below w.heap.size w w' ∧ ∃ A2 n2 c2, m 4 = .tuple #[.agg (tt.cells A2 n2 c2), .int .i64 ee] ∧ Blk w' (w.heap.size + 2) 29 (tt.cells A2 n2 c2) ∧ LB3.own 45 w' (w.heap.size + 3) (fun k => Fr k ∨ w.heap.size + 3 ≤ k) A2 n2 c2 tt.q)) (by kernel_rfl) ?spswg34 ?ppswg34
    case spswg34 =>
      exact SeqN.start (by decide) (Below.refl w3.heap.size w3).drew
    refine Ps.st (i := 0) (d := some 12) (u := (.agg #[.int .u32 (sses), .int .u64 (sbase), .slice A n c, .int .u64 (ssent), .int .u64 (slim), .int .i64 (stimer), .bool (sended)])) rfl rfl ?ywg34_35 ?rwg34_35
    case ywg34_35 =>
      refine StepS.read [] (by kernel_rfl) (SeqN.pass (by decide)) (by rfl) (fun L9 m9 w9 hSh hAt hDn hS => ?_)
      have hT : Below w3.heap.size w3 w9 := SeqN.early2 (T := fun w9 => Below w3.heap.size w3 w9) (reach_no hSh (f := 10) (j := 8) (by kernel_rfl) hDn) (fun z _ _ hz h => by match z, hz, h with | 0, _, h => exact h | 1, _, h => exact h.1 | 2, _, h => exact h.1 | _ + 3, hz, _ => exact absurd hz (by omega)) hS
      have x0 : w9.cell? ⟨(w.heap.size + 1), 0, none⟩ = some (.int .u32 (sses)) := (HB2.out.ca hT).cell 0
      have x1 : w9.cell? ⟨(w.heap.size + 1), 1, none⟩ = some (.int .u64 (sbase)) := (HB2.out.ca hT).cell 1
      have x2 : w9.cell? ⟨(w.heap.size + 1), 2, none⟩ = some (.slice A n c) := (HB2.out.ca hT).cell 2
      have x3 : w9.cell? ⟨(w.heap.size + 1), 3, none⟩ = some (.int .u64 (ssent)) := (HB2.out.ca hT).cell 3
      have x4 : w9.cell? ⟨(w.heap.size + 1), 4, none⟩ = some (.int .u64 (slim)) := (HB2.out.ca hT).cell 4
      have x5 : w9.cell? ⟨(w.heap.size + 1), 5, none⟩ = some (.int .i64 (stimer)) := (HB2.out.ca hT).cell 5
      have x6 : w9.cell? ⟨(w.heap.size + 1), 6, none⟩ = some (.bool (sended)) := (HB2.out.ca hT).cell 6
      clear hT hS
      go_simp
      try rfl
    try simp only [Act.put, sA, sZ, sS]
    refine Ps.st (i := 1) (d := some 13) (u := (.agg #[.int .i64 (kd), .slice rA rn rc, .int .i64 (kind), .int .u32 (ses), .int .u64 (seq), .int .u64 (lim), .slice pA pn pc, .bool (fin), .int .u64 (cnt), .bool (near)])) rfl rfl ?ywg34_36 ?rwg34_36
    case ywg34_36 =>
      refine StepS.read [] (by kernel_rfl) (SeqN.pass (by decide)) (by rfl) (fun L9 m9 w9 hSh hAt hDn hS => ?_)
      have hT : Below w3.heap.size w3 w9 := SeqN.early2 (T := fun w9 => Below w3.heap.size w3 w9) (reach_no hSh (f := 10) (j := 8) (by kernel_rfl) hDn) (fun z _ _ hz h => by match z, hz, h with | 0, _, h => exact h | 1, _, h => exact h.1 | 2, _, h => exact h.1 | _ + 3, hz, _ => exact absurd hz (by omega)) hS
      have x0 : w9.cell? ⟨w.heap.size, 0, none⟩ = some (.int .i64 (kd)) := (HB1.out.ca hT).cell 0
      have x1 : w9.cell? ⟨w.heap.size, 1, none⟩ = some (.slice rA rn rc) := (HB1.out.ca hT).cell 1
      have x2 : w9.cell? ⟨w.heap.size, 2, none⟩ = some (.int .i64 (kind)) := (HB1.out.ca hT).cell 2
      have x3 : w9.cell? ⟨w.heap.size, 3, none⟩ = some (.int .u32 (ses)) := (HB1.out.ca hT).cell 3
      have x4 : w9.cell? ⟨w.heap.size, 4, none⟩ = some (.int .u64 (seq)) := (HB1.out.ca hT).cell 4
      have x5 : w9.cell? ⟨w.heap.size, 5, none⟩ = some (.int .u64 (lim)) := (HB1.out.ca hT).cell 5
      have x6 : w9.cell? ⟨w.heap.size, 6, none⟩ = some (.slice pA pn pc) := (HB1.out.ca hT).cell 6
      have x7 : w9.cell? ⟨w.heap.size, 7, none⟩ = some (.bool (fin)) := (HB1.out.ca hT).cell 7
      have x8 : w9.cell? ⟨w.heap.size, 8, none⟩ = some (.int .u64 (cnt)) := (HB1.out.ca hT).cell 8
      have x9 : w9.cell? ⟨w.heap.size, 9, none⟩ = some (.bool (near)) := (HB1.out.ca hT).cell 9
      clear hT hS
      go_simp
      try rfl
    try simp only [Act.put, sA, sZ, sS]
    refine Ps.st (i := 2) (d := some 14) (u := (.agg #[.int .u32 (sses), .int .u64 (sbase), .slice A n c, .int .u64 (ssent), .int .u64 (slim), .int .i64 (stimer), .bool (sended)])) rfl rfl ?ywg34_37 ?rwg34_37
    case ywg34_37 =>
      refine StepS.read [] (by kernel_rfl) (SeqN.pass (by decide)) (by rfl) (fun L9 m9 w9 hSh hAt hDn hS => ?_)
      have hT : Below w3.heap.size w3 w9 := SeqN.early2 (T := fun w9 => Below w3.heap.size w3 w9) (reach_no hSh (f := 10) (j := 8) (by kernel_rfl) hDn) (fun z _ _ hz h => by match z, hz, h with | 0, _, h => exact h | 1, _, h => exact h.1 | 2, _, h => exact h.1 | _ + 3, hz, _ => exact absurd hz (by omega)) hS
      have x0 : w9.cell? ⟨(w.heap.size + 1), 0, none⟩ = some (.int .u32 (sses)) := (HB2.out.ca hT).cell 0
      have x1 : w9.cell? ⟨(w.heap.size + 1), 1, none⟩ = some (.int .u64 (sbase)) := (HB2.out.ca hT).cell 1
      have x2 : w9.cell? ⟨(w.heap.size + 1), 2, none⟩ = some (.slice A n c) := (HB2.out.ca hT).cell 2
      have x3 : w9.cell? ⟨(w.heap.size + 1), 3, none⟩ = some (.int .u64 (ssent)) := (HB2.out.ca hT).cell 3
      have x4 : w9.cell? ⟨(w.heap.size + 1), 4, none⟩ = some (.int .u64 (slim)) := (HB2.out.ca hT).cell 4
      have x5 : w9.cell? ⟨(w.heap.size + 1), 5, none⟩ = some (.int .i64 (stimer)) := (HB2.out.ca hT).cell 5
      have x6 : w9.cell? ⟨(w.heap.size + 1), 6, none⟩ = some (.bool (sended)) := (HB2.out.ca hT).cell 6
      clear hT hS
      go_simp
      try rfl
    try simp only [Act.put, sA, sZ, sS]
    refine Ps.one (k := 3) (d := some 15) rfl rfl (by kernel_rfl) (TurnS.call (V := fun v => ∃ A5 k5 c5, v = .agg (pk.cells A5 k5 c5)) ?fwg34_38 ?awg34_38 [] (by kernel_rfl) (by rfl) (fun w9 => ?hwg34_38) (fun L9 m9 w9 hSh hAt hDn hS => ?cwg34_38)) (fun v3 hVv3 => ?rwg34_38)
    case hwg34_38 => go_simp; refine ⟨?_, ?_⟩ <;> rfl
    case cwg34_38 =>
      have hT : Below w3.heap.size w3 w9 := SeqN.at_ (m0 := m9) (m1 := m9) [] [4, 8] hSh (fun d hd => by cases hd) hDn (by kernel_rfl) hS
      have hsz := hT.size
      refine (actpk_any Fr ⟨kd, rows, ⟨kind, ses, seq, lim, ⟨prows, fin, cnt⟩⟩, near⟩ ⟨sses, sbase, sq, ssent, slim, stimer, sended⟩ rA rn rc pA pn pc A n c w9 (Lay.rd_below HPR.out hT) hpc hpm).mono ?_
      rw [← HPK.out]
      rintro e w6 ⟨A5, k5, c5, rfl, hrd0, hk1, hk2, q6⟩
      have hk5 : k5 ≤ 9223372036854775807 := by omega
      have hrd := Lay.rd_weak (G := fun k => w.heap.size + 3 ≤ k) (fun b hb hl => by have := hb.1; omega) hrd0
      exact ⟨_, rfl, ⟨A5, k5, c5, rfl⟩, SeqN.set_ (m0 := m9) (m1 := m9) [] [4, 8] hSh (fun d hd => by cases hd) hDn (by kernel_rfl) (by decide) (by decide) ⟨bl_ca hT q6, A5, k5, c5, upd_same _ _ _, hrd, hk5⟩⟩
    try simp only [Act.put, sA, sZ, sS]
    obtain ⟨A5, k5, c5, rfl⟩ := hVv3
    refine Ps.one (k := 4) (d := some 16) rfl rfl (by kernel_rfl) (TurnS.call (V := fun v => ∃ A2 n2 c2, v = .tuple #[.agg (tt.cells A2 n2 c2), .int .i64 ee]) ?fwg34_39 ?awg34_39 [3] (by kernel_rfl) (by rfl) (fun w9 => ?hwg34_39) (fun L9 m9 w9 hSh hAt hDn hS => ?cwg34_39)) (fun v4 hVv4 => ?rwg34_39)
    case hwg34_39 => go_simp; refine ⟨?_, ?_⟩ <;> rfl
    case cwg34_39 =>
      obtain ⟨hT, A6, k6, c6, hv, hrd, hk5⟩ := SeqN.at_ [3] [8] hSh hAt hDn (by kernel_rfl) hS
      obtain ⟨rfl, rfl, rfl⟩ : A5 = A6 ∧ k5 = k6 ∧ c5 = c6 := by have h9 : (.agg (pk.cells A5 k5 c5) : Value) = .agg (pk.cells A6 k6 c6) := (hAt 3 (by simp)).2.symm.trans hv; simpa [PK.cells] using h9
      have hsz := hT.size
      refine (acked_any (fun k => (Fr k ∨ w.heap.size + 3 ≤ k) ∧ k < w9.heap.size) ⟨sses, sbase, sq, ssent, slim, stimer, sended⟩ A n c pk A5 k5 c5 w9 (fun k hk => hk.2) (Lay.rd_weak (fun b hb hl => ⟨.inl hb, hl⟩) (Lay.rd_below HRD.out hT)) (Lay.rd_weak (fun b hb hl => ⟨.inr hb, hl⟩) hrd) hn hk5 h0).mono ?_
      rintro e w6 ⟨t, A7, n7, c7, N, rfl, ho⟩
      obtain ⟨A2, n2, c2, hC, rfl, q6, hown⟩ := sends_run (Fr := Fr) (B := w.heap.size + 3) ho (fun k hk => hk.1) (by omega)
      rw [hC, ← HTT.out, ← HEE.out]
      rw [← HTT.out] at hown
      exact ⟨_, rfl, ⟨A2, n2, c2, rfl⟩, SeqN.set_ [3] [8] hSh hAt hDn (by kernel_rfl) (by decide) (by decide) ⟨bl_ca hT q6, A2, n2, c2, upd_same _ _ _, hown⟩⟩
    try simp only [Act.put, sA, sZ, sS]
    obtain ⟨A2, n2, c2, rfl⟩ := hVv4
    refine Ps.st (i := 5) (d := some 11) (u := (.tuple #[.agg (tt.cells A2 n2 c2), .int .i64 (ee)])) rfl rfl (by exact StepS.pure (SeqN.pass (by decide)) rfl fun _ => rfl) ?_
    try simp only [Act.put, sA, sZ, sS]
    refine Ps.st (i := 6) (d := some 17) (u := (.agg (tt.cells A2 n2 c2))) rfl rfl (by exact StepS.pure (SeqN.pass (by decide)) rfl fun _ => rfl) ?_
    try simp only [Act.put, sA, sZ, sS]
    refine Ps.st (i := 7) (d := some 18) (u := (.int .i64 (ee))) rfl rfl (by exact StepS.pure (SeqN.pass (by decide)) rfl fun _ => rfl) ?_
    try simp only [Act.put, sA, sZ, sS]
    refine Ps.st (i := 8) (d := none) (u := undef) rfl rfl ?ywg34_43 ?rwg34_43
    case ywg34_43 =>
      refine StepS.store [3, 4] (by kernel_rfl) (by rfl) (fun L9 m9 w9 hSh hAt hDn hS => ?_)
      obtain ⟨hT, A3, n3, c3, hv, ho⟩ := SeqN.at_ [3, 4] [] hSh hAt hDn (by kernel_rfl) hS
      obtain ⟨rfl, rfl, rfl⟩ : A2 = A3 ∧ n2 = n3 ∧ c2 = c3 := by have h9 : Value.tuple #[.agg (tt.cells A2 n2 c2), .int .i64 ee] = .tuple #[.agg (tt.cells A3 n3 c3), .int .i64 ee] := (hAt 4 (by simp)).2.symm.trans hv; simpa [SC.cells] using h9
      have hsz := hT.size
      refine (exec_store_blk (w := w9) 29 (.tmp 4) (.tmp 17) (by rfl) (w.heap.size + 2) 29 #[.int .u32 0, .int .u64 0, .slice none 0 0, .int .u64 0, .int .u64 0, .int .i64 0, .bool false] (tt.cells A2 n2 c2) (by rfl) (by rfl) (HB3.out.ca hT) rfl senderI (by simp [SC.cells, Value.oneCell'])).imp fun w7 hx => ⟨hx.1, SeqN.set_ [3, 4] [] hSh hAt hDn (by kernel_rfl) (by decide) (by decide) ⟨bl_gr (bl_ca HQ3.out hT) hx.2.2 (by omega), A2, n2, c2, hv, hx.2.1, own_box ho hx.2.2 (by omega) (fun b hb e => hb.elim (fun h => by have := HFR.out b h; omega) (fun h => by omega))⟩⟩
    try simp only [Act.put]
    refine Ps.st (i := 9) (d := some 6) (u := (.int .i64 (ee))) rfl rfl (by exact StepS.pure (SeqN.pass (by decide)) rfl fun _ => rfl) ?_
    try simp only [Act.put, sA, sZ, sS]
    refine Ps.done (by kernel_rfl) (fun wg34 hS => ?_) _
    obtain ⟨hT, A3, n3, c3, hv, hb, ho⟩ := SeqN.fin (by rfl) hS
    clear hS
    obtain ⟨rfl, rfl, rfl⟩ : A2 = A3 ∧ n2 = n3 ∧ c2 = c3 := by have h9 : Value.tuple #[.agg (tt.cells A2 n2 c2), .int .i64 ee] = .tuple #[.agg (tt.cells A3 n3 c3), .int .i64 ee] := hv; simpa [SC.cells] using h9
    have HF5 := Lib.hid hb
    have HO5 := Lib.hid ho
    have HB5 := Lib.hid hT
    have hlt := hb.lt
    clear hT hv hb ho
    obtain ⟨w5, rfl⟩ : ∃ x, x = wg34 := ⟨_, rfl⟩
    go_wp2_with (first | (refine wpList_load_blk rfl 29 (.tmp 4) rfl (w.heap.size + 2) rfl 29 _ _ HF5.out Try.underlying29 rfl senderI ?_) | (refine wpList_store_blk rfl 29 (.tmp 4) (.tmp 46) rfl (w.heap.size + 2) 29 _ (tt.cells A2 n2 c2) rfl rfl HF5.out rfl senderI (by simp [SC.cells, Value.oneCell']) ?_; intro w6 h6 g6))
    exact bodyPost_ret (res3 Try.results16 rfl rfl rfl h6 Try.underlying29 rfl senderI) rfl ⟨A2, n2, c2, none, 0, 0, rfl, bl_gr HB5.out g6 (by omega), own_box HO5.out g6 (by omega) (fun b hb e => hb.elim (fun h => by have := HFR.out b h; omega) (fun h => by omega)), Lay.rd_nil _, by omega⟩
end Go.Proofs.Ytojghgbaiiajfaa
