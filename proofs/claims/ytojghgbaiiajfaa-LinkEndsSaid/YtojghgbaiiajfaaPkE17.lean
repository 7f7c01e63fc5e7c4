/- What link.Tick tells, in plain Lean; link.data and link.collected together. Conditions: the queue reads as these batches. -/
import Derived.Test.YtojghgbaiiajfaaPkE16
namespace Go.Proofs.Ytojghgbaiiajfaa
open Go.RowKit Go.Shelf
/-- the packets told -/
def dataP (ses lim above : Int) : Int → List BC → List PK
 | _, [] => []
 | n, x :: l => if lim < n then [] else (if above < n then [⟨1, ses, n, 0, x⟩] else []) ++ dataP ses lim above (n + 1) l
theorem dataX_p (ses lim above : Int) : ∀ (bx : List BX) (n : Int), (dataX ses lim above n bx).map PX.p = dataP ses lim above n (bx.map BX.b)
 | [], _ => rfl
 | x :: l, n => by
  have ih := dataX_p ses lim above l (n + 1)
  unfold dataX
  rw [List.map_cons, dataP]
  split
  · rfl
  · rw [List.map_append, ih]
    split <;> rfl
theorem dataX_mem {ses lim above : Int} : ∀ {bx : List BX} {n : Int} {x : PX}, x ∈ dataX ses lim above n bx → ∃ y ∈ bx, x.p.b = y.b ∧ x.A = y.A ∧ x.n = y.n ∧ x.c = y.c
 | [], _, x, h => by cases h
 | y :: l, n, x, h => by
  unfold dataX at h
  split at h
  · cases h
  · rcases List.mem_append.1 h with h | h
    · split at h
      · simp at h; subst h; exact ⟨y, by simp, rfl, rfl, rfl, rfl⟩
      · cases h
    · obtain ⟨z, hz, r⟩ := dataX_mem h
      exact ⟨z, by simp [hz], r⟩
theorem dataX_le {ses lim above : Int} : ∀ {bx : List BX} {n : Int}, (dataX ses lim above n bx).length ≤ bx.length
 | [], _ => Nat.le_refl _
 | y :: l, n => by
  have ih := dataX_le (ses := ses) (lim := lim) (above := above) (bx := l) (n := n + 1)
  unfold dataX
  split
  · simp
  · rw [List.length_append, List.length_cons]
    split <;> simp <;> omega
/-- each of them reads so -/
def BX.ok (w : World) (F : Nat → Prop) (x : BX) : Prop := x.n ≤ x.c ∧ x.c ≤ 9223372036854775807 ∧ LR.rd w F x.A x.n x.b.rows
theorem LBX_ok {w : World} {F : Nat → Prop} : ∀ {bx : List BX} {cs : List Value}, LBX.reps w F bx cs → ∀ x ∈ bx, BX.ok w F x
 | [], _, _, x, h => by cases h
 | y :: l, _, ⟨ds, es, _, ⟨_, h1, h2, h3⟩, hl⟩, x, h => by
  rcases List.mem_cons.1 h with rfl | h
  · exact ⟨h1, h2, h3⟩
  · exact LBX_ok hl x h
theorem LP7_reps {w : World} {F : Nat → Prop} : ∀ {xs : List PX}, (∀ x ∈ xs, x.n ≤ x.c ∧ x.c ≤ 9223372036854775807 ∧ LR.rd w F x.A x.n x.p.b.rows) → LP7.reps w F (xs.map PX.p) (rowX xs)
 | [], _ => rfl
 | x :: l, h => ⟨x.cells.toList, rowX l, by unfold rowX; simp, ⟨x.A, x.n, x.c, rfl, h x (by simp)⟩, LP7_reps (fun y hy => h y (by simp [hy]))⟩
theorem LP7_at2 {w : World} {F : Nat → Prop} {A : Option Addr} {n i : Nat} {xs : List PK} (h : LP7.rd w F A n xs) (hi : i < n) : ∃ ad p, A = some ad ∧ xs[i]? = some p ∧ w.cell? ⟨(ad.add (i * 7)).block, (ad.add (i * 7)).off + 2, none⟩ = some (.int .u64 p.seq) := by
 obtain ⟨ad, b, cs, e, hx, _, _, ⟨B, k, c, rfl, h1, h2, hr⟩, hc⟩ := Lay.rd_at h hi
 refine ⟨ad, b, e, hx, ?_⟩
 rw [← addr_more _ _ 2 (by omega)]; exact hc 2 _ rfl
theorem LBX_own {e : TypeId} {w : World} {B : Nat} {G : Nat → Prop} {A : Option Addr} {n c : Nat} {xs : List BC} (h : LB3.own e w B G A n c xs) : ∃ bx : List BX, bx.map BX.b = xs ∧ LBX.own e w B G A n c bx ∧ ∀ x ∈ bx, BX.ok w G x := by
 obtain ⟨hl, cs, hr, hc⟩ := h
 obtain ⟨bx, hb, hr'⟩ := LBX_reps hr
 exact ⟨bx, hb, ⟨by rw [← hb, List.length_map] at hl; exact hl, cs, hr', hc⟩, LBX_ok (Lay.reps_weak (fun b h _ => h.1) hr')⟩
def underS (s : SC) : Bool := decide (s.base ≤ s.sent)
def againS (s : SC) : Bool := underS s && s.timer == 2
def aboveS (s : SC) : Int := if againS s then 0 else s.sent
def outP (s : SC) : List PK := dataP s.ses s.lim (aboveS s) s.base s.q
def sentS (s : SC) : Int := match (outP s).getLast? with | none => s.sent | some x => max s.sent x.seq
def tickR (s : SC) : SC := ⟨s.ses, s.base, s.q, sentS s, s.lim, if againS s || !underS s then 0 else s.timer + 1, s.ended⟩
/-- the variable that it fills -/
def TickY (p : Nat) (w0 : World) (Fr : Nat → Prop) (out : List PK) (w' : World) : Prop := ∃ A n c, Blk w' p 50 #[.slice A n c] ∧ LP7.own 47 w' (w0.heap.size + 2) Fr A n c out
set_option maxRecDepth 100000 in
theorem data_any (cs : Array Value) (above : Int) (w : World) :
 Calls Try.prog 95 #[.agg cs, .int .u64 above] w fun e w' => e = .returned (.func (.func 113) #[] #[.pointer (some ⟨w.heap.size, 0, none⟩), .pointer (some ⟨w.heap.size + 1, 0, none⟩)]) ∧ w' = (w.alloc (.cells cs 29)).alloc (.cells #[.int .u64 above] 26) := by
 go_enter Try.func95, Try.ntmps95
 go_wp2
 go_ret
 exact ⟨rfl, rfl⟩
theorem told_any (Bs Bu : Nat) (A : Option Addr) (m c : Nat) (bx : List BX) (ses base sent lim timer above : Int) (ended : Bool) (w : World) (hm : m ≤ 8) (hb0 : 1 ≤ base) (hb1 : base ≤ 1099511627776)
 (hBs : Blk w Bs 29 #[.int .u32 ses, .int .u64 base, .slice A m c, .int .u64 sent, .int .u64 lim, .int .i64 timer, .bool ended]) (hBs' : Bs < w.heap.size) (hBu : Blk w Bu 26 #[.int .u64 above]) (hBu' : Bu < w.heap.size) (h : LBX.rd w (fun b => b < w.heap.size) A m bx) :
 Calls Try.prog 94 #[.func (.func 113) #[] #[.pointer (some ⟨Bs, 0, none⟩), .pointer (some ⟨Bu, 0, none⟩)]] w fun e w' => ∃ v, e = .returned v ∧ w'.ownsRow w.heap.size 47 7 v (dataX ses lim above base bx).length (rowX (dataX ses lim above base bx)) ∧ Below w.heap.size w w' := by
 have hseq : SeqStopsK Fence.wide 2 Try.prog 113 #[.pointer (some ⟨Bs, 0, none⟩), .pointer (some ⟨Bu, 0, none⟩)] (fun x : PX => #[Value.agg x.cells]) (Below w.heap.size) (fun ys => ys = dataX ses lim above base bx) (fun pre => pre <+: dataX ses lim above base bx) m w := by
  intro l J Jx W hW hJ hJx hY h0
  exact data1_in 2 (by omega) l Bs Bu w.heap.size A m c bx ses base sent lim timer above ended J Jx W hJ hm hb0 hb1 hY hW.size (hBs.below hW hBs') hBs' (hBu.below hW hBu') hBu' (Lay.rd_keep (fun b hb hlt => hW.block b hb) h) h0
 exact callsIn_wide.1 (collected_in 3 (by omega) 113 #[.pointer (some ⟨Bs, 0, none⟩), .pointer (some ⟨Bu, 0, none⟩)] _ m w (by omega) (Go.Proofs.enters_of Try.func113 (by kernel_rfl) rfl) hseq)
end Go.Proofs.Ytojghgbaiiajfaa
/- link.Tick$1. Conditions: the queue reads as these batches. -/
namespace Go.Proofs.Ytojghgbaiiajfaa
open Go.RowKit Go.Shelf
/-- how it stands, on the way -/
structure TS (w w' : World) (g p B B3 : Nat) (Fr : Nat → Prop) (A : Option Addr) (n c : Nat) (q : List BC) (A2 : Option Addr) (m c2 : Nat) (out : List PK) (cs : Array Value) (v : Value) : Prop where
 ch : Chg (fun k => k = g ∨ k = p) w w'
 bn : Blk w' g 29 cs
 bo : LB3.own 45 w' B Fr A n c q
 bp : Blk w' p 50 #[v]
 bt : LP7.own 47 w' B3 Fr A2 m c2 out
theorem TS.below {w w' w2 : World} {g p B B3 : Nat} {Fr : Nat → Prop} {A : Option Addr} {n c : Nat} {q : List BC} {A2 : Option Addr} {m c2 : Nat} {out : List PK} {cs : Array Value} {v : Value} (h : TS w w' g p B B3 Fr A n c q A2 m c2 out cs v) (q2 : Below w'.heap.size w' w2) : TS w w2 g p B B3 Fr A n c q A2 m c2 out cs v :=
 ⟨h.ch.trans (Chg.of_below q2), h.bn.ca q2, Lay.own_below h.bo q2, h.bp.ca q2, Lay.own_below h.bt q2⟩
theorem TS.set {w w' : World} {g p B B3 b0 : Nat} {Fr : Nat → Prop} {A : Option Addr} {n c : Nat} {q : List BC} {A2 : Option Addr} {m c2 : Nat} {out : List PK} {cs : Array Value} {v : Value} (h : TS w w' g p B B3 Fr A n c q A2 m c2 out cs v) (i : Nat) (u : Value)
 (hF : ∀ k, Fr k → k < b0) (h1 : b0 ≤ g) (h2 : g < B) (h3 : g < B3) (h4 : p ≠ g) : TS w (w'.setCell ⟨g, i, none⟩ u) g p B B3 Fr A n c q A2 m c2 out (cs.setIfInBounds i u) v := by
 have hg : w'.grownBy (w'.setCell ⟨g, i, none⟩ u) (some g) := only_setCell (World.grownBy.refl _ _) (.inl rfl) _
 exact ⟨h.ch.grown hg (fun k e => .inl (.inl (by injection e with e; exact e.symm))), h.bn.set_ i u,
  Lay.own_same h.bo (fun k e => hg.block k (Lay.own_base h.bo k e).2 (fun e2 => by injection e2 with e2; have := (Lay.own_base h.bo k e).1; omega)) (fun b hb _ hl => hg.block b hl (fun e2 => by injection e2 with e2; have := hF b hb; omega)),
  h.bp.apart hg h4,
  Lay.own_same h.bt (fun k e => hg.block k (Lay.own_base h.bt k e).2 (fun e2 => by injection e2 with e2; have := (Lay.own_base h.bt k e).1; omega)) (fun b hb _ hl => hg.block b hl (fun e2 => by injection e2 with e2; have := hF b hb; omega))⟩
theorem TS.setP {w w' : World} {g p B B3 b0 : Nat} {Fr : Nat → Prop} {A : Option Addr} {n c : Nat} {q : List BC} {A2 : Option Addr} {m c2 : Nat} {out : List PK} {cs : Array Value} {v : Value} (h : TS w w' g p B B3 Fr A n c q A2 m c2 out cs v) (u : Value)
 (_hF : ∀ k, Fr k → k < b0) (hp : ¬ Fr p) (_h1 : b0 ≤ g) (h2 : p < B) (_h : g < B) (h3 : p < B3) (h4 : p ≠ g) : TS w (w'.setCell ⟨p, 0, none⟩ u) g p B B3 Fr A n c q A2 m c2 out cs u := by
 have hg : w'.grownBy (w'.setCell ⟨p, 0, none⟩ u) (some p) := only_setCell (World.grownBy.refl _ _) (.inl rfl) _
 exact ⟨h.ch.grown hg (fun k e => .inl (.inr (by injection e with e; exact e.symm))), h.bn.apart hg (Ne.symm h4),
  Lay.own_same h.bo (fun k e => hg.block k (Lay.own_base h.bo k e).2 (fun e2 => by injection e2 with e2; have := (Lay.own_base h.bo k e).1; omega)) (fun b hb _ hl => hg.block b hl (fun e2 => by injection e2 with e2; exact hp (e2 ▸ hb))),
  by simpa using h.bp.set_ 0 u,
  Lay.own_same h.bt (fun k e => hg.block k (Lay.own_base h.bt k e).2 (fun e2 => by injection e2 with e2; have := (Lay.own_base h.bt k e).1; omega)) (fun b hb _ hl => hg.block b hl (fun e2 => by injection e2 with e2; exact hp (e2 ▸ hb)))⟩
theorem out_own {ses lim above base : Int} {w w4 : World} {Fr : Nat → Prop} {B4 : Nat} {A2 : Option Addr} {c2 : Nat} {bx : List BX} {xs : List PX} (hx : xs = dataX ses lim above base bx) (ho : w4.ownsRow B4 47 7 (.slice A2 xs.length c2) xs.length (rowX xs)) (hk : ∀ x ∈ bx, BX.ok w Fr x) (hb : Below w.heap.size w w4) (hB : w.heap.size ≤ B4) :
 LP7.own 47 w4 B4 Fr A2 xs.length c2 (xs.map PX.p) := by
 refine ⟨List.length_map .., rowX xs, LP7_reps (fun x hxm => ?_), ho⟩
 rw [hx] at hxm
 obtain ⟨y, hy, e1, e2, e3, e4⟩ := dataX_mem hxm
 obtain ⟨h1, h2, h3⟩ := hk y hy
 rw [e1, e2, e3, e4]
 exact ⟨h1, h2, Lay.rd_below (Lay.rd_weak (fun b hb hl => ⟨hb, fun e => by have := (own_base' ho b e).1; omega⟩) h3) hb⟩
theorem sentS_nil {s : SC} (h : outP s = []) : sentS s = s.sent := by unfold sentS; rw [h]; rfl
theorem sentS_last {s : SC} {m : Nat} {x : PK} (h : (outP s)[m]? = some x) (hl : (outP s).length = m + 1) : sentS s = max s.sent x.seq := by
 unfold sentS
 rw [List.getLast?_eq_getElem?, hl, Nat.add_sub_cancel, h]
theorem tickR_eq {s : SC} {sn tm : Int} (h1 : sentS s = sn) (h2 : (if againS s || !underS s then 0 else s.timer + 1) = tm) : tickR s = ⟨s.ses, s.base, s.q, sn, s.lim, tm, s.ended⟩ := by unfold tickR; rw [h1, h2]
theorem lp7_last {w : World} {F : Nat → Prop} {ad : Addr} {m : Nat} {xs : List PK} {x : PK} (h : LP7.rd w F (some ad) (m + 1) xs) (hx : xs[m]? = some x) : w.cell? ⟨(ad.add (m * 7)).block, (ad.add (m * 7)).off + 2, none⟩ = some (.int .u64 x.seq) := by
 obtain ⟨a, y, e, h1, h2⟩ := LP7_at2 h (show m < m + 1 by omega)
 injection e with e
 rw [hx] at h1
 injection h1 with h1
 rw [e, h1]
 exact h2
theorem tick_fin {s : SC} {w0 w w' : World} {g p B B3 : Nat} {Fr : Nat → Prop} {A : Option Addr} {n c : Nat} {q : List BC} {A2 : Option Addr} {m c2 : Nat} {out : List PK} {cs : Array Value} (h : TS w w' g p B B3 Fr A n c q A2 m c2 out cs (.slice A2 m c2)) (hc : cs = (tickR s).cells A n c) (ho : out = outP s) (hB : w0.heap.size + 2 ≤ B3) (hq : (tickR s).q = q := by rfl) :
 Ending.returned (.int .i64 0) = .returned (.int .i64 0) ∧ Chg (fun k => k = g ∨ (Value.slice A n c).ownBlock = some k ∨ k = p) w w' ∧ TickY p w0 Fr (outP s) w' ∧ (True → ∃ A2 n2 c2, Blk w' g 29 ((tickR s).cells A2 n2 c2) ∧ LB3.own 45 w' B (fun k => k < w'.heap.size ∧ (Fr k ∨ B ≤ k)) A2 n2 c2 (tickR s).q) := by
 subst hc ho
 refine ⟨rfl, h.ch.weak (fun b _ h => h.elim .inl (fun h => .inr (.inr h))), ⟨A2, m, c2, h.bp, Lay.own_lessB h.bt hB⟩, fun _ => ⟨A, n, c, h.bn, ?_⟩⟩
 rw [hq]
 exact Lay.own_weak (fun k hk hl => ⟨hl, .inl hk⟩) h.bo
set_option maxRecDepth 100000 in
set_option maxHeartbeats 16000000 in
theorem tick1_do (s : SC) (p : Nat) (w0 : World) (Fr : Nat → Prop) (hFr : ∀ k, Fr k → k < w0.heap.size) (hFp : ¬ Fr p) (hp : Blk w0 p 50 #[.slice none 0 0]) :
 DoS 93 #[.pointer (some ⟨p, 0, none⟩)] w0 Fr s 0 (tickR s) (fun k => k = p) (TickY p w0 Fr (outP s)) := by
 intro hok w g B A n c hB hg hgB hBs hN ho
 show Calls Try.prog 93 #[.pointer (some ⟨g, 0, none⟩), .pointer (some ⟨p, 0, none⟩)] w _
 have hlen := sendB_len hok
 have hpl := hp.lt
 have HFR := Lib.hid hFr
 clear hFr
 have HP := Lib.hid (hp.ca hB)
 have HO := Lib.hid ho
 have HN := Lib.hid hN
 have HLN := Lay.own_len ho
 have hcap := Lay.own_caps ho
 have hpne : p ≠ g := by omega
 obtain ⟨bx, hbx, hbo, hbk⟩ := LBX_own ho
 have HR := Lib.hid (Lay.own_rd (F := fun b => b < w.heap.size) hbo (fun b _ hb => hb) (fun b _ hb => hb))
 have HBXE := Lib.hid hbx
 have HBK := Lib.hid hbk
 have hsent : 0 ≤ s.sent ∧ s.sent ≤ 1099511627776 ∧ 0 ≤ s.timer ∧ s.timer ≤ 2 := by
  have h := hok
  unfold sendB sendM sendT at h
  simp only [Bool.and_eq_true, decide_eq_true_eq] at h
  omega
 clear hp hN ho hok hbx hbo hbk
 obtain ⟨ses, base, q, sent, lim, timer, ended⟩ := s
 dsimp only at *
 have hn8 : n ≤ 8 := by omega
 have hb0 := hlen.2.1
 have hb1 := hlen.2.2
 have hw1 : IntKind.i64.wrap (timer + 1) = timer + 1 := by simp [IntKind.wrap, IntKind.signed, IntKind.bits]; omega
 by_cases hu : base ≤ sent
 · have d1 : decide (base ≤ sent) = true := by simpa using hu
   by_cases ht : timer = 2
   · subst ht
     go_enter Try.func93, Try.ntmps93
     go_wp2_with fail
     refine wp_region_ps (S := fun _ _ w' => Below w.heap.size w w') (by kernel_rfl) ?spsw1 ?ppsw1
     case spsw1 =>
      exact (Below.refl _ _).drew
     refine Pz 0 (some 7) _ rfl rfl (StepS.pure (fun _ _ _ h => h) rfl fun w9 => by go_simp; try rfl) ?_
     try simp only [Act.put, sA, sZ, sS]
     refine Pz 1 (some 8) _ rfl rfl (StepS.pure (fun _ _ _ h => h) rfl fun w9 => by go_simp; try rfl) ?_
     try simp only [Act.put, sA, sZ, sS]
     refine Pz 2 (some 9) _ rfl rfl (StepS.pure (fun _ _ _ h => h) rfl fun w9 => by go_simp; try rfl) ?_
     try simp only [Act.put, sA, sZ, sS]
     refine Pz 3 (some 10) ?uw1_4 rfl rfl ?yw1_4 ?rw1_4
     case yw1_4 =>
      refine StepS.read [] (by kernel_rfl) (fun _ _ _ h => h) (by rfl) (fun L9 m9 w9 hSh hAt hDn hS => ?_)
      have hT : Below _ _ w9 := hS
      have x3 : w9.cell? ⟨g, 3, none⟩ = some (.int .u64 sent) := (HN.out.ca hT).cell 3
      clear hT hS
      go_simp
      try rfl
     try simp only [Act.put, sA, sZ, sS]
     refine Pz 4 (some 11) _ rfl rfl (StepS.pure (fun _ _ _ h => h) rfl fun w9 => by go_simp; try rfl) ?_
     try simp only [Act.put, sA, sZ, sS]
     refine Pz 5 (some 12) _ rfl rfl (StepS.pure (fun _ _ _ h => h) rfl fun w9 => by go_simp; try rfl) ?_
     try simp only [Act.put, sA, sZ, sS]
     refine Pz 6 (some 13) _ rfl rfl (StepS.pure (fun _ _ _ h => h) rfl fun w9 => by go_simp; try rfl) ?_
     try simp only [Act.put, sA, sZ, sS]
     refine Pz 7 (some 14) ?uw1_8 rfl rfl ?yw1_8 ?rw1_8
     case yw1_8 =>
      refine StepS.read [] (by kernel_rfl) (fun _ _ _ h => h) (by rfl) (fun L9 m9 w9 hSh hAt hDn hS => ?_)
      have hT : Below _ _ w9 := hS
      have x1 : w9.cell? ⟨g, 1, none⟩ = some (.int .u64 base) := (HN.out.ca hT).cell 1
      clear hT hS
      go_simp
      try rfl
     try simp only [Act.put, sA, sZ, sS]
     refine Pz 8 (some 15) _ rfl rfl (StepS.pure (fun _ _ _ h => h) rfl fun w9 => by go_simp; try rfl) ?_
     try simp only [Act.put, sA, sZ, sS]
     refine Pz 9 (some 16) _ rfl rfl (StepS.pure (fun _ _ _ h => h) rfl fun w9 => by go_simp; try rfl) ?_
     try simp only [Act.put, sA, sZ, sS]
     refine Pz 10 (some 17) _ rfl rfl (StepS.pure (fun _ _ _ h => h) rfl fun w9 => by go_simp; try rfl) ?_
     try simp only [Act.put, sA, sZ, sS]
     refine Pz 11 (some 18) _ rfl rfl (StepS.pure (fun _ _ _ h => h) rfl fun w9 => by go_simp; try rfl) ?_
     try simp only [Act.put, sA, sZ, sS]
     refine Pz 12 (some 19) ?uw1_13 rfl rfl ?yw1_13 ?rw1_13
     case yw1_13 =>
      refine StepS.read [] (by kernel_rfl) (fun _ _ _ h => h) (by rfl) (fun L9 m9 w9 hSh hAt hDn hS => ?_)
      have hT : Below _ _ w9 := hS
      have x3 : w9.cell? ⟨g, 3, none⟩ = some (.int .u64 sent) := (HN.out.ca hT).cell 3
      clear hT hS
      go_simp
      try rfl
     try simp only [Act.put, sA, sZ, sS]
     refine Pz 13 (some 4) _ rfl rfl (StepS.pure (fun _ _ _ h => h) rfl fun w9 => by go_simp; try rfl) ?_
     try simp only [Act.put, sA, sZ, sS]
     refine Pz 14 (some 5) _ rfl rfl (StepS.pure (fun _ _ _ h => h) rfl fun w9 => by go_simp; try rfl) ?_
     try simp only [Act.put, sA, sZ, sS]
     refine Ps.done (by kernel_rfl) (fun w1 hS => ?_) _
     have HQ := Lib.hid (show Below w.heap.size w _ from hS)
     clear hS
     obtain ⟨w1, rfl⟩ : ∃ x, x = w1 := ⟨_, rfl⟩
     have hs1 := HQ.out.size
     have HN1 := Lib.hid (HN.out.ca HQ.out)
     have HP1 := Lib.hid (HP.out.ca HQ.out)
     have HR1 := Lib.hid (Lay.rd_below HR.out HQ.out)
     have HO1 := Lib.hid (Lay.own_below HO.out HQ.out)
     have x0 : w1.cell? ⟨g, 0, none⟩ = some (.int .u32 ses) := HN1.out.cell 0
     have x1 : w1.cell? ⟨g, 1, none⟩ = some (.int .u64 base) := HN1.out.cell 1
     have x2 : w1.cell? ⟨g, 2, none⟩ = some (.slice A n c) := HN1.out.cell 2
     have x3 : w1.cell? ⟨g, 3, none⟩ = some (.int .u64 sent) := HN1.out.cell 3
     have x4 : w1.cell? ⟨g, 4, none⟩ = some (.int .u64 lim) := HN1.out.cell 4
     have x5 : w1.cell? ⟨g, 5, none⟩ = some (.int .i64 2) := HN1.out.cell 5
     have x6 : w1.cell? ⟨g, 6, none⟩ = some (.bool ended) := HN1.out.cell 6
     clear HN HP HR HO
     go_wp2_with fail
     refine (data_any #[.int .u32 ses, .int .u64 base, .slice A n c, .int .u64 sent, .int .u64 lim, .int .i64 2, .bool ended] 0 w1).mono ?_
     rintro e w3 ⟨rfl, rfl⟩
     have q3 := bl_al (bl_al (Below.refl w1.heap.size w1) (.cells #[.int .u32 ses, .int .u64 base, .slice A n c, .int .u64 sent, .int .u64 lim, .int .i64 2, .bool ended] 29)) (.cells #[.int .u64 0] 26)
     have cN := (Blk.new w1 29 #[.int .u32 ses, .int .u64 base, .slice A n c, .int .u64 sent, .int .u64 lim, .int .i64 2, .bool ended]).ca (bl_al (Below.refl _ _) (.cells #[.int .u64 0] 26))
     have cI : Blk _ (w1.heap.size + 1) _ _ := Blk.mk' (w := w1.alloc (.cells #[.int .u32 ses, .int .u64 base, .slice A n c, .int .u64 sent, .int .u64 lim, .int .i64 2, .bool ended] 29)) (t := 26) (cs := #[.int .u64 0]) (by simp only [World.size_alloc])
     have hs3 : w1.heap.size + 2 ≤ ((w1.alloc (.cells #[.int .u32 ses, .int .u64 base, .slice A n c, .int .u64 sent, .int .u64 lim, .int .i64 2, .bool ended] 29)).alloc (.cells #[.int .u64 0] 26)).heap.size := by simp only [World.size_alloc]; omega
     have HN3 := Lib.hid (HN1.out.ca q3)
     have HP3 := Lib.hid (HP1.out.ca q3)
     have HR3 := Lib.hid (Lay.rd_below HR1.out q3)
     have HO3 := Lib.hid (Lay.own_below HO1.out q3)
     have HQ3 := Lib.hid (bl_ca HQ.out q3)
     have HQ3 := HQ3
     clear x0 x1 x2 x3 x4 x5 x6 q3 HN1 HP1 HR1 HO1
     generalize (w1.alloc (.cells #[.int .u32 ses, .int .u64 base, .slice A n c, .int .u64 sent, .int .u64 lim, .int .i64 2, .bool ended] 29)).alloc (.cells #[.int .u64 0] 26) = w3 at *
     have HT := Lib.hid (told_any  w1.heap.size (w1.heap.size + 1) A n c bx ses base sent lim 2 0 ended w3 hn8 hb0 hb1 cN (by omega) cI (by omega) (Lay.rd_weak (fun b _ hb => hb) HR3.out))
     clear cN cI
     go_wp2_with fail
     refine HT.out.mono ?_
     rintro e w4 ⟨v, rfl, ho, q4⟩
     obtain ⟨xs, hxs⟩ : ∃ xs, xs = dataX ses lim 0 base bx := ⟨_, rfl⟩
     rw [← hxs] at ho
     obtain ⟨A2, c2, rfl⟩ := own_form' ho
     obtain ⟨mm, hmm⟩ : ∃ mm, mm = xs.length := ⟨_, rfl⟩
     have ho2 := out_own hxs ho HBK.out (bl_ca HQ3.out q4) (by have := HQ3.out.size; omega)
     have hml : mm ≤ 8 := by rw [hmm, hxs]; exact Nat.le_trans dataX_le (by have := congrArg List.length HBXE.out; rw [List.length_map] at this; omega)
     rw [← hmm] at ho2 ⊢
     have HMM := Lib.hid hmm
     have HOUT := Lib.hid (show xs.map PX.p = outP ⟨ses, base, q, sent, lim, 2, ended⟩ from by rw [hxs, dataX_p, HBXE.out]; simp only [outP, aboveS, againS, underS, d1]; simp)
     have hs4 := q4.size
     have HTS4 := Lib.hid (show TS w w4 g p B w3.heap.size Fr A n c q A2 mm c2 (xs.map PX.p) #[.int .u32 ses, .int .u64 base, .slice A n c, .int .u64 sent, .int .u64 lim, .int .i64 2, .bool ended] (.slice none 0 0) from ⟨(Chg.of_below (bl_ca HQ3.out q4)), HN3.out.ca q4, Lay.own_below HO3.out q4, HP3.out.ca q4, ho2⟩)
     have hpw : p < w.heap.size := by have := hB.size; omega
     have HTS := Lib.hid (HTS4.out.setP (.slice A2 mm c2) HFR.out hFp (by omega) (by have := hB.size; omega) (by omega) (by have := HQ3.out.size; omega) (by omega))
     have HQ4 := Lib.hid (bl_ca HQ3.out q4)
     have y0 : w4.cell? ⟨p, 0, none⟩ = some (.slice none 0 0) := HTS4.out.bp.cell 0
     have f0 : w4.frozen? ⟨p, 0, none⟩ = false := HTS4.out.bp.frozen 0
     clear ho ho2 q4 hmm hxs HN3 HO3 HP3 HR3 HQ3 HTS4 HBK HT
     rcases Nat.eq_zero_or_pos mm with h0 | h0
     · subst h0
       obtain rfl : xs = [] := List.eq_nil_of_length_eq_zero HMM.out.symm
       have HSN := Lib.hid (show sentS ⟨ses, base, q, sent, lim, 2, ended⟩ = sent from sentS_nil HOUT.out.symm)
       have x5 : (w4.setCell ⟨p, 0, none⟩ (.slice A2 0 c2)).cell? ⟨g, 5, none⟩ = some (.int .i64 2) := HTS.out.bn.cell 5
       have f5 : (w4.setCell ⟨p, 0, none⟩ (.slice A2 0 c2)).frozen? ⟨g, 5, none⟩ = false := HTS.out.bn.frozen 5
       generalize hw5 : (w4.setCell ⟨p, 0, none⟩ (.slice A2 0 c2)) = w5 at *
       have y1 : w5.cell? ⟨p, 0, none⟩ = some (.slice A2 0 c2) := HTS.out.bp.cell 0
       go_wp2
       go_ret
       exact tick_fin ((HTS.out.set 5 (.int .i64 (3)) HFR.out (by omega) hgB (by omega) hpne).set 5 (.int .i64 0) HFR.out (by omega) hgB (by omega) hpne) (by rw [tickR_eq HSN.out (tm := 0) (by simp [againS, underS, hu])]; rfl) HOUT.out (by omega)
     · obtain ⟨m1, rfl⟩ : ∃ m1, mm = m1 + 1 := ⟨mm - 1, by omega⟩
       have hl : (m1 : Int) < (m1 : Int) + 1 := by omega
       have d4 : (0 : Int) < (m1 : Int) + 1 := by omega
       have hwm : IntKind.i64.wrap (m1 : Int) = (m1 : Int) := by simp [IntKind.wrap, IntKind.signed, IntKind.bits]; omega
       have y1 : (w4.setCell ⟨p, 0, none⟩ (.slice A2 (m1 + 1) c2)).cell? ⟨p, 0, none⟩ = some (.slice A2 (m1 + 1) c2) := HTS.out.bp.cell 0
       go_wp2_with fail
       generalize hw5 : w4.setCell ⟨p, 0, none⟩ (.slice A2 (m1 + 1) c2) = w5 at *
       clear y0 f0 y1 hw5
       obtain ⟨ad, x, rfl, hx, _⟩ := LP7_at2 (Lay.own_rd (F := fun _ => True) HTS.out.bt (fun _ _ _ => trivial) (fun _ _ _ => trivial)) (show m1 < m1 + 1 by omega)
       have HLX := Lib.hid (fun w9 (q9 : Below w5.heap.size w5 w9) => lp7_last (Lay.own_rd (F := fun _ => True) (HTS.out.below q9).bt (fun _ _ _ => trivial) (fun _ _ _ => trivial)) hx)
       obtain ⟨sn, hsn⟩ : ∃ sn, sn = max sent x.seq := ⟨_, rfl⟩
       have HSN := Lib.hid (show sentS ⟨ses, base, q, sent, lim, 2, ended⟩ = sn from (sentS_last (by rw [← HOUT.out]; exact hx) (by rw [← HOUT.out, List.length_map]; exact HMM.out.symm)).trans hsn.symm)
       have hmax : max sent x.seq = sn := hsn.symm
       clear hx hsn
       refine wp_region_ps (S := Seq1 15 (fun _ w' => Below w5.heap.size w5 w') (fun _ w' => ∃ w6, Below w5.heap.size w5 w6 ∧ w' = w6.setCell ⟨g, 3, none⟩ (.int .u64 sn))) (by kernel_rfl) ?spsw16 ?ppsw16
       case spsw16 =>
        exact Seq1.start (by decide) (Below.refl _ _).drew
       refine Pz 0 (some 38) _ rfl rfl (StepS.pure (Seq1.pass (by decide)) rfl fun w9 => by go_simp; try rfl) ?_
       try simp only [Act.put, sA, sZ, sS]
       refine Pz 1 (some 39) _ rfl rfl (StepS.pure (Seq1.pass (by decide)) rfl fun w9 => by go_simp; try rfl) ?_
       try simp only [Act.put, sA, sZ, sS]
       refine Pz 2 (some 40) _ rfl rfl (StepS.pure (Seq1.pass (by decide)) rfl fun w9 => by go_simp; try rfl) ?_
       try simp only [Act.put, sA, sZ, sS]
       refine Pz 3 (some 41) _ rfl rfl (StepS.pure (Seq1.pass (by decide)) rfl fun w9 => by go_simp; try rfl) ?_
       try simp only [Act.put, sA, sZ, sS]
       refine Pz 4 (some 42) ?uw16_20 rfl rfl ?yw16_20 ?rw16_20
       case yw16_20 =>
        refine StepS.read [] (by kernel_rfl) (Seq1.pass (by decide)) (by rfl) (fun L9 m9 w9 hSh hAt hDn hS => ?_)
        have hd := reach_no hSh (f := 20) (j := 15) (by kernel_rfl) hDn
        have hT : Below w5.heap.size w5 w9 := Seq1.at1 hd hS
        have x3 : w9.cell? ⟨g, 3, none⟩ = some (.int .u64 sent) := (HTS.out.below hT).bn.cell 3
        clear hT hS hd
        go_simp
        try rfl
       try simp only [Act.put, sA, sZ, sS]
       refine Pz 5 (some 43) ?uw16_21 rfl rfl ?yw16_21 ?rw16_21
       case yw16_21 =>
        refine StepS.read [] (by kernel_rfl) (Seq1.pass (by decide)) (by rfl) (fun L9 m9 w9 hSh hAt hDn hS => ?_)
        have hd := reach_no hSh (f := 20) (j := 15) (by kernel_rfl) hDn
        have hT : Below w5.heap.size w5 w9 := Seq1.at1 hd hS
        have y1 : w9.cell? ⟨p, 0, none⟩ = some (.slice (some ad) (m1 + 1) c2) := (HTS.out.below hT).bp.cell 0
        clear hT hS hd
        go_simp
        try rfl
       try simp only [Act.put, sA, sZ, sS]
       refine Pz 6 (some 44) ?uw16_22 rfl rfl ?yw16_22 ?rw16_22
       case yw16_22 =>
        refine StepS.read [] (by kernel_rfl) (Seq1.pass (by decide)) (by rfl) (fun L9 m9 w9 hSh hAt hDn hS => ?_)
        have hd := reach_no hSh (f := 20) (j := 15) (by kernel_rfl) hDn
        have hT : Below w5.heap.size w5 w9 := Seq1.at1 hd hS
        have y1 : w9.cell? ⟨p, 0, none⟩ = some (.slice (some ad) (m1 + 1) c2) := (HTS.out.below hT).bp.cell 0
        clear hT hS hd
        go_simp
        try rfl
       try simp only [Act.put, sA, sZ, sS]
       refine Pz 7 (some 45) _ rfl rfl (StepS.pure (Seq1.pass (by decide)) rfl fun w9 => by go_simp; try rfl) ?_
       try simp only [Act.put, sA, sZ, sS]
       refine Pz 8 (some 46) _ rfl rfl (StepS.pure (Seq1.pass (by decide)) rfl fun w9 => by go_simp; try rfl) ?_
       try simp only [Act.put, sA, sZ, sS]
       refine Pz 9 (some 47) _ rfl rfl (StepS.pure (Seq1.pass (by decide)) rfl fun w9 => by go_simp; try rfl) ?_
       try simp only [Act.put, sA, sZ, sS]
       refine Pz 10 (some 48) _ rfl rfl (StepS.pure (Seq1.pass (by decide)) rfl fun w9 => by go_simp; try rfl) ?_
       try simp only [Act.put, sA, sZ, sS]
       refine Pz 11 (some 49) ?uw16_27 rfl rfl ?yw16_27 ?rw16_27
       case yw16_27 =>
        refine StepS.read [] (by kernel_rfl) (Seq1.pass (by decide)) (by rfl) (fun L9 m9 w9 hSh hAt hDn hS => ?_)
        have hd := reach_no hSh (f := 20) (j := 15) (by kernel_rfl) hDn
        have hT : Below w5.heap.size w5 w9 := Seq1.at1 hd hS
        have y2 := HLX.out w9 hT
        clear hT hS hd
        go_simp
        try rfl
       try simp only [Act.put, sA, sZ, sS]
       refine Pz 12 (some 50) _ rfl rfl (StepS.pure (Seq1.pass (by decide)) rfl fun w9 => by go_simp; try rfl) ?_
       try simp only [Act.put, sA, sZ, sS]
       refine Pz 13 (some 51) _ rfl rfl (StepS.pure (Seq1.pass (by decide)) rfl fun w9 => by go_simp; try rfl) ?_
       try simp only [Act.put, sA, sZ, sS]
       refine Pz 14 (some 52) _ rfl rfl (StepS.pure (Seq1.pass (by decide)) rfl fun w9 => by go_simp; try rfl) ?_
       try simp only [Act.put, sA, sZ, sS]
       refine Pz 15 none undef rfl rfl ?yw16_31 ?rw16_31
       case yw16_31 =>
        refine StepS.store [] (by kernel_rfl) (by rfl) (fun L9 m9 w9 hSh hAt hDn hS => ?_)
        have hT : Below w5.heap.size w5 w9 := Seq1.at1 hDn hS
        have x3 : w9.cell? ⟨g, 3, none⟩ = some (.int .u64 sent) := (HTS.out.below hT).bn.cell 3
        have f3 : w9.frozen? ⟨g, 3, none⟩ = false := (HTS.out.below hT).bn.frozen 3
        refine ⟨w9.setCell ⟨g, 3, none⟩ (.int .u64 sn), ?_, Seq1.set1 ⟨w9, hT, rfl⟩⟩
        clear hT hS
        go_simp
       try simp only [Act.put]
       refine Ps.done (by kernel_rfl) (fun w16 hS => ?_) _
       obtain ⟨w6, hT, e6⟩ := Seq1.fin (by rfl) hS
       clear hS
       have HT5 := Lib.hid ((HTS.out.below hT).set 3 (.int .u64 sn) HFR.out (by omega) hgB (by omega) hpne)
       rw [← e6] at HT5
       clear e6 hT
       obtain ⟨w7, rfl⟩ : ∃ x, x = w16 := ⟨_, rfl⟩
       have x5 : w7.cell? ⟨g, 5, none⟩ = some (.int .i64 2) := HT5.out.bn.cell 5
       have f5 : w7.frozen? ⟨g, 5, none⟩ = false := HT5.out.bn.frozen 5
       go_wp2
       go_ret
       exact tick_fin ((HT5.out.set 5 (.int .i64 (3)) HFR.out (by omega) hgB (by omega) hpne).set 5 (.int .i64 0) HFR.out (by omega) hgB (by omega) hpne) (by rw [tickR_eq HSN.out (tm := 0) (by simp [againS, underS, hu])]; rfl) HOUT.out (by omega)
   · have e2 : (timer == 2) = false := by simpa using ht
     go_enter Try.func93, Try.ntmps93
     go_wp2_with fail
     refine wp_region_ps (S := fun _ _ w' => Below w.heap.size w w') (by kernel_rfl) ?spsw32 ?ppsw32
     case spsw32 =>
      exact (Below.refl _ _).drew
     refine Pz 0 (some 7) _ rfl rfl (StepS.pure (fun _ _ _ h => h) rfl fun w9 => by go_simp; try rfl) ?_
     try simp only [Act.put, sA, sZ, sS]
     refine Pz 1 (some 8) _ rfl rfl (StepS.pure (fun _ _ _ h => h) rfl fun w9 => by go_simp; try rfl) ?_
     try simp only [Act.put, sA, sZ, sS]
     refine Pz 2 (some 9) _ rfl rfl (StepS.pure (fun _ _ _ h => h) rfl fun w9 => by go_simp; try rfl) ?_
     try simp only [Act.put, sA, sZ, sS]
     refine Pz 3 (some 10) ?uw32_35 rfl rfl ?yw32_35 ?rw32_35
     case yw32_35 =>
      refine StepS.read [] (by kernel_rfl) (fun _ _ _ h => h) (by rfl) (fun L9 m9 w9 hSh hAt hDn hS => ?_)
      have hT : Below _ _ w9 := hS
      have x3 : w9.cell? ⟨g, 3, none⟩ = some (.int .u64 sent) := (HN.out.ca hT).cell 3
      clear hT hS
      go_simp
      try rfl
     try simp only [Act.put, sA, sZ, sS]
     refine Pz 4 (some 11) _ rfl rfl (StepS.pure (fun _ _ _ h => h) rfl fun w9 => by go_simp; try rfl) ?_
     try simp only [Act.put, sA, sZ, sS]
     refine Pz 5 (some 12) _ rfl rfl (StepS.pure (fun _ _ _ h => h) rfl fun w9 => by go_simp; try rfl) ?_
     try simp only [Act.put, sA, sZ, sS]
     refine Pz 6 (some 13) _ rfl rfl (StepS.pure (fun _ _ _ h => h) rfl fun w9 => by go_simp; try rfl) ?_
     try simp only [Act.put, sA, sZ, sS]
     refine Pz 7 (some 14) ?uw32_39 rfl rfl ?yw32_39 ?rw32_39
     case yw32_39 =>
      refine StepS.read [] (by kernel_rfl) (fun _ _ _ h => h) (by rfl) (fun L9 m9 w9 hSh hAt hDn hS => ?_)
      have hT : Below _ _ w9 := hS
      have x1 : w9.cell? ⟨g, 1, none⟩ = some (.int .u64 base) := (HN.out.ca hT).cell 1
      clear hT hS
      go_simp
      try rfl
     try simp only [Act.put, sA, sZ, sS]
     refine Pz 8 (some 15) _ rfl rfl (StepS.pure (fun _ _ _ h => h) rfl fun w9 => by go_simp; try rfl) ?_
     try simp only [Act.put, sA, sZ, sS]
     refine Pz 9 (some 16) _ rfl rfl (StepS.pure (fun _ _ _ h => h) rfl fun w9 => by go_simp; try rfl) ?_
     try simp only [Act.put, sA, sZ, sS]
     refine Pz 10 (some 17) _ rfl rfl (StepS.pure (fun _ _ _ h => h) rfl fun w9 => by go_simp; try rfl) ?_
     try simp only [Act.put, sA, sZ, sS]
     refine Pz 11 (some 18) _ rfl rfl (StepS.pure (fun _ _ _ h => h) rfl fun w9 => by go_simp; try rfl) ?_
     try simp only [Act.put, sA, sZ, sS]
     refine Pz 12 (some 19) ?uw32_44 rfl rfl ?yw32_44 ?rw32_44
     case yw32_44 =>
      refine StepS.read [] (by kernel_rfl) (fun _ _ _ h => h) (by rfl) (fun L9 m9 w9 hSh hAt hDn hS => ?_)
      have hT : Below _ _ w9 := hS
      have x3 : w9.cell? ⟨g, 3, none⟩ = some (.int .u64 sent) := (HN.out.ca hT).cell 3
      clear hT hS
      go_simp
      try rfl
     try simp only [Act.put, sA, sZ, sS]
     refine Pz 13 (some 4) _ rfl rfl (StepS.pure (fun _ _ _ h => h) rfl fun w9 => by go_simp; try rfl) ?_
     try simp only [Act.put, sA, sZ, sS]
     refine Pz 14 (some 5) _ rfl rfl (StepS.pure (fun _ _ _ h => h) rfl fun w9 => by go_simp; try rfl) ?_
     try simp only [Act.put, sA, sZ, sS]
     refine Ps.done (by kernel_rfl) (fun w32 hS => ?_) _
     have HQ := Lib.hid (show Below w.heap.size w _ from hS)
     clear hS
     obtain ⟨w1, rfl⟩ : ∃ x, x = w32 := ⟨_, rfl⟩
     have hs1 := HQ.out.size
     have HN1 := Lib.hid (HN.out.ca HQ.out)
     have HP1 := Lib.hid (HP.out.ca HQ.out)
     have HR1 := Lib.hid (Lay.rd_below HR.out HQ.out)
     have HO1 := Lib.hid (Lay.own_below HO.out HQ.out)
     have x0 : w1.cell? ⟨g, 0, none⟩ = some (.int .u32 ses) := HN1.out.cell 0
     have x1 : w1.cell? ⟨g, 1, none⟩ = some (.int .u64 base) := HN1.out.cell 1
     have x2 : w1.cell? ⟨g, 2, none⟩ = some (.slice A n c) := HN1.out.cell 2
     have x3 : w1.cell? ⟨g, 3, none⟩ = some (.int .u64 sent) := HN1.out.cell 3
     have x4 : w1.cell? ⟨g, 4, none⟩ = some (.int .u64 lim) := HN1.out.cell 4
     have x5 : w1.cell? ⟨g, 5, none⟩ = some (.int .i64 timer) := HN1.out.cell 5
     have x6 : w1.cell? ⟨g, 6, none⟩ = some (.bool ended) := HN1.out.cell 6
     clear HN HP HR HO
     go_wp2_with fail
     refine (data_any #[.int .u32 ses, .int .u64 base, .slice A n c, .int .u64 sent, .int .u64 lim, .int .i64 timer, .bool ended] sent w1).mono ?_
     rintro e w3 ⟨rfl, rfl⟩
     have q3 := bl_al (bl_al (Below.refl w1.heap.size w1) (.cells #[.int .u32 ses, .int .u64 base, .slice A n c, .int .u64 sent, .int .u64 lim, .int .i64 timer, .bool ended] 29)) (.cells #[.int .u64 sent] 26)
     have cN := (Blk.new w1 29 #[.int .u32 ses, .int .u64 base, .slice A n c, .int .u64 sent, .int .u64 lim, .int .i64 timer, .bool ended]).ca (bl_al (Below.refl _ _) (.cells #[.int .u64 sent] 26))
     have cI : Blk _ (w1.heap.size + 1) _ _ := Blk.mk' (w := w1.alloc (.cells #[.int .u32 ses, .int .u64 base, .slice A n c, .int .u64 sent, .int .u64 lim, .int .i64 timer, .bool ended] 29)) (t := 26) (cs := #[.int .u64 sent]) (by simp only [World.size_alloc])
     have hs3 : w1.heap.size + 2 ≤ ((w1.alloc (.cells #[.int .u32 ses, .int .u64 base, .slice A n c, .int .u64 sent, .int .u64 lim, .int .i64 timer, .bool ended] 29)).alloc (.cells #[.int .u64 sent] 26)).heap.size := by simp only [World.size_alloc]; omega
     have HN3 := Lib.hid (HN1.out.ca q3)
     have HP3 := Lib.hid (HP1.out.ca q3)
     have HR3 := Lib.hid (Lay.rd_below HR1.out q3)
     have HO3 := Lib.hid (Lay.own_below HO1.out q3)
     have HQ3 := Lib.hid (bl_ca HQ.out q3)
     have HQ3 := HQ3
     clear x0 x1 x2 x3 x4 x5 x6 q3 HN1 HP1 HR1 HO1
     generalize (w1.alloc (.cells #[.int .u32 ses, .int .u64 base, .slice A n c, .int .u64 sent, .int .u64 lim, .int .i64 timer, .bool ended] 29)).alloc (.cells #[.int .u64 sent] 26) = w3 at *
     have HT := Lib.hid (told_any  w1.heap.size (w1.heap.size + 1) A n c bx ses base sent lim timer sent ended w3 hn8 hb0 hb1 cN (by omega) cI (by omega) (Lay.rd_weak (fun b _ hb => hb) HR3.out))
     clear cN cI
     go_wp2_with fail
     refine HT.out.mono ?_
     rintro e w4 ⟨v, rfl, ho, q4⟩
     obtain ⟨xs, hxs⟩ : ∃ xs, xs = dataX ses lim sent base bx := ⟨_, rfl⟩
     rw [← hxs] at ho
     obtain ⟨A2, c2, rfl⟩ := own_form' ho
     obtain ⟨mm, hmm⟩ : ∃ mm, mm = xs.length := ⟨_, rfl⟩
     have ho2 := out_own hxs ho HBK.out (bl_ca HQ3.out q4) (by have := HQ3.out.size; omega)
     have hml : mm ≤ 8 := by rw [hmm, hxs]; exact Nat.le_trans dataX_le (by have := congrArg List.length HBXE.out; rw [List.length_map] at this; omega)
     rw [← hmm] at ho2 ⊢
     have HMM := Lib.hid hmm
     have HOUT := Lib.hid (show xs.map PX.p = outP ⟨ses, base, q, sent, lim, timer, ended⟩ from by rw [hxs, dataX_p, HBXE.out]; simp only [outP, aboveS, againS, underS, d1]; simp [ht])
     have hs4 := q4.size
     have HTS4 := Lib.hid (show TS w w4 g p B w3.heap.size Fr A n c q A2 mm c2 (xs.map PX.p) #[.int .u32 ses, .int .u64 base, .slice A n c, .int .u64 sent, .int .u64 lim, .int .i64 timer, .bool ended] (.slice none 0 0) from ⟨(Chg.of_below (bl_ca HQ3.out q4)), HN3.out.ca q4, Lay.own_below HO3.out q4, HP3.out.ca q4, ho2⟩)
     have hpw : p < w.heap.size := by have := hB.size; omega
     have HTS := Lib.hid (HTS4.out.setP (.slice A2 mm c2) HFR.out hFp (by omega) (by have := hB.size; omega) (by omega) (by have := HQ3.out.size; omega) (by omega))
     have HQ4 := Lib.hid (bl_ca HQ3.out q4)
     have y0 : w4.cell? ⟨p, 0, none⟩ = some (.slice none 0 0) := HTS4.out.bp.cell 0
     have f0 : w4.frozen? ⟨p, 0, none⟩ = false := HTS4.out.bp.frozen 0
     clear ho ho2 q4 hmm hxs HN3 HO3 HP3 HR3 HQ3 HTS4 HBK HT
     rcases Nat.eq_zero_or_pos mm with h0 | h0
     · subst h0
       obtain rfl : xs = [] := List.eq_nil_of_length_eq_zero HMM.out.symm
       have HSN := Lib.hid (show sentS ⟨ses, base, q, sent, lim, timer, ended⟩ = sent from sentS_nil HOUT.out.symm)
       have x5 : (w4.setCell ⟨p, 0, none⟩ (.slice A2 0 c2)).cell? ⟨g, 5, none⟩ = some (.int .i64 timer) := HTS.out.bn.cell 5
       have f5 : (w4.setCell ⟨p, 0, none⟩ (.slice A2 0 c2)).frozen? ⟨g, 5, none⟩ = false := HTS.out.bn.frozen 5
       generalize hw5 : (w4.setCell ⟨p, 0, none⟩ (.slice A2 0 c2)) = w5 at *
       have y1 : w5.cell? ⟨p, 0, none⟩ = some (.slice A2 0 c2) := HTS.out.bp.cell 0
       go_wp2
       go_ret
       exact tick_fin (HTS.out.set 5 (.int .i64 (timer + 1)) HFR.out (by omega) hgB (by omega) hpne) (by rw [tickR_eq HSN.out (tm := timer + 1) (by simp [againS, underS, hu, ht])]; rfl) HOUT.out (by omega)
     · obtain ⟨m1, rfl⟩ : ∃ m1, mm = m1 + 1 := ⟨mm - 1, by omega⟩
       have hl : (m1 : Int) < (m1 : Int) + 1 := by omega
       have d4 : (0 : Int) < (m1 : Int) + 1 := by omega
       have hwm : IntKind.i64.wrap (m1 : Int) = (m1 : Int) := by simp [IntKind.wrap, IntKind.signed, IntKind.bits]; omega
       have y1 : (w4.setCell ⟨p, 0, none⟩ (.slice A2 (m1 + 1) c2)).cell? ⟨p, 0, none⟩ = some (.slice A2 (m1 + 1) c2) := HTS.out.bp.cell 0
       go_wp2_with fail
       generalize hw5 : w4.setCell ⟨p, 0, none⟩ (.slice A2 (m1 + 1) c2) = w5 at *
       clear y0 f0 y1 hw5
       obtain ⟨ad, x, rfl, hx, _⟩ := LP7_at2 (Lay.own_rd (F := fun _ => True) HTS.out.bt (fun _ _ _ => trivial) (fun _ _ _ => trivial)) (show m1 < m1 + 1 by omega)
       have HLX := Lib.hid (fun w9 (q9 : Below w5.heap.size w5 w9) => lp7_last (Lay.own_rd (F := fun _ => True) (HTS.out.below q9).bt (fun _ _ _ => trivial) (fun _ _ _ => trivial)) hx)
       obtain ⟨sn, hsn⟩ : ∃ sn, sn = max sent x.seq := ⟨_, rfl⟩
       have HSN := Lib.hid (show sentS ⟨ses, base, q, sent, lim, timer, ended⟩ = sn from (sentS_last (by rw [← HOUT.out]; exact hx) (by rw [← HOUT.out, List.length_map]; exact HMM.out.symm)).trans hsn.symm)
       have hmax : max sent x.seq = sn := hsn.symm
       clear hx hsn
       refine wp_region_ps (S := Seq1 15 (fun _ w' => Below w5.heap.size w5 w') (fun _ w' => ∃ w6, Below w5.heap.size w5 w6 ∧ w' = w6.setCell ⟨g, 3, none⟩ (.int .u64 sn))) (by kernel_rfl) ?spsw47 ?ppsw47
       case spsw47 =>
        exact Seq1.start (by decide) (Below.refl _ _).drew
       refine Pz 0 (some 38) _ rfl rfl (StepS.pure (Seq1.pass (by decide)) rfl fun w9 => by go_simp; try rfl) ?_
       try simp only [Act.put, sA, sZ, sS]
       refine Pz 1 (some 39) _ rfl rfl (StepS.pure (Seq1.pass (by decide)) rfl fun w9 => by go_simp; try rfl) ?_
       try simp only [Act.put, sA, sZ, sS]
       refine Pz 2 (some 40) _ rfl rfl (StepS.pure (Seq1.pass (by decide)) rfl fun w9 => by go_simp; try rfl) ?_
       try simp only [Act.put, sA, sZ, sS]
       refine Pz 3 (some 41) _ rfl rfl (StepS.pure (Seq1.pass (by decide)) rfl fun w9 => by go_simp; try rfl) ?_
       try simp only [Act.put, sA, sZ, sS]
       refine Pz 4 (some 42) ?uw47_51 rfl rfl ?yw47_51 ?rw47_51
       case yw47_51 =>
        refine StepS.read [] (by kernel_rfl) (Seq1.pass (by decide)) (by rfl) (fun L9 m9 w9 hSh hAt hDn hS => ?_)
        have hd := reach_no hSh (f := 20) (j := 15) (by kernel_rfl) hDn
        have hT : Below w5.heap.size w5 w9 := Seq1.at1 hd hS
        have x3 : w9.cell? ⟨g, 3, none⟩ = some (.int .u64 sent) := (HTS.out.below hT).bn.cell 3
        clear hT hS hd
        go_simp
        try rfl
       try simp only [Act.put, sA, sZ, sS]
       refine Pz 5 (some 43) ?uw47_52 rfl rfl ?yw47_52 ?rw47_52
       case yw47_52 =>
        refine StepS.read [] (by kernel_rfl) (Seq1.pass (by decide)) (by rfl) (fun L9 m9 w9 hSh hAt hDn hS => ?_)
        have hd := reach_no hSh (f := 20) (j := 15) (by kernel_rfl) hDn
        have hT : Below w5.heap.size w5 w9 := Seq1.at1 hd hS
        have y1 : w9.cell? ⟨p, 0, none⟩ = some (.slice (some ad) (m1 + 1) c2) := (HTS.out.below hT).bp.cell 0
        clear hT hS hd
        go_simp
        try rfl
       try simp only [Act.put, sA, sZ, sS]
       refine Pz 6 (some 44) ?uw47_53 rfl rfl ?yw47_53 ?rw47_53
       case yw47_53 =>
        refine StepS.read [] (by kernel_rfl) (Seq1.pass (by decide)) (by rfl) (fun L9 m9 w9 hSh hAt hDn hS => ?_)
        have hd := reach_no hSh (f := 20) (j := 15) (by kernel_rfl) hDn
        have hT : Below w5.heap.size w5 w9 := Seq1.at1 hd hS
        have y1 : w9.cell? ⟨p, 0, none⟩ = some (.slice (some ad) (m1 + 1) c2) := (HTS.out.below hT).bp.cell 0
        clear hT hS hd
        go_simp
        try rfl
       try simp only [Act.put, sA, sZ, sS]
       refine Pz 7 (some 45) _ rfl rfl (StepS.pure (Seq1.pass (by decide)) rfl fun w9 => by go_simp; try rfl) ?_
       try simp only [Act.put, sA, sZ, sS]
       refine Pz 8 (some 46) _ rfl rfl (StepS.pure (Seq1.pass (by decide)) rfl fun w9 => by go_simp; try rfl) ?_
       try simp only [Act.put, sA, sZ, sS]
       refine Pz 9 (some 47) _ rfl rfl (StepS.pure (Seq1.pass (by decide)) rfl fun w9 => by go_simp; try rfl) ?_
       try simp only [Act.put, sA, sZ, sS]
       refine Pz 10 (some 48) _ rfl rfl (StepS.pure (Seq1.pass (by decide)) rfl fun w9 => by go_simp; try rfl) ?_
       try simp only [Act.put, sA, sZ, sS]
       refine Pz 11 (some 49) ?uw47_58 rfl rfl ?yw47_58 ?rw47_58
       case yw47_58 =>
        refine StepS.read [] (by kernel_rfl) (Seq1.pass (by decide)) (by rfl) (fun L9 m9 w9 hSh hAt hDn hS => ?_)
        have hd := reach_no hSh (f := 20) (j := 15) (by kernel_rfl) hDn
        have hT : Below w5.heap.size w5 w9 := Seq1.at1 hd hS
        have y2 := HLX.out w9 hT
        clear hT hS hd
        go_simp
        try rfl
       try simp only [Act.put, sA, sZ, sS]
       refine Pz 12 (some 50) _ rfl rfl (StepS.pure (Seq1.pass (by decide)) rfl fun w9 => by go_simp; try rfl) ?_
       try simp only [Act.put, sA, sZ, sS]
       refine Pz 13 (some 51) _ rfl rfl (StepS.pure (Seq1.pass (by decide)) rfl fun w9 => by go_simp; try rfl) ?_
       try simp only [Act.put, sA, sZ, sS]
       refine Pz 14 (some 52) _ rfl rfl (StepS.pure (Seq1.pass (by decide)) rfl fun w9 => by go_simp; try rfl) ?_
       try simp only [Act.put, sA, sZ, sS]
       refine Pz 15 none undef rfl rfl ?yw47_62 ?rw47_62
       case yw47_62 =>
        refine StepS.store [] (by kernel_rfl) (by rfl) (fun L9 m9 w9 hSh hAt hDn hS => ?_)
        have hT : Below w5.heap.size w5 w9 := Seq1.at1 hDn hS
        have x3 : w9.cell? ⟨g, 3, none⟩ = some (.int .u64 sent) := (HTS.out.below hT).bn.cell 3
        have f3 : w9.frozen? ⟨g, 3, none⟩ = false := (HTS.out.below hT).bn.frozen 3
        refine ⟨w9.setCell ⟨g, 3, none⟩ (.int .u64 sn), ?_, Seq1.set1 ⟨w9, hT, rfl⟩⟩
        clear hT hS
        go_simp
       try simp only [Act.put]
       refine Ps.done (by kernel_rfl) (fun w47 hS => ?_) _
       obtain ⟨w6, hT, e6⟩ := Seq1.fin (by rfl) hS
       clear hS
       have HT5 := Lib.hid ((HTS.out.below hT).set 3 (.int .u64 sn) HFR.out (by omega) hgB (by omega) hpne)
       rw [← e6] at HT5
       clear e6 hT
       obtain ⟨w7, rfl⟩ : ∃ x, x = w47 := ⟨_, rfl⟩
       have x5 : w7.cell? ⟨g, 5, none⟩ = some (.int .i64 timer) := HT5.out.bn.cell 5
       have f5 : w7.frozen? ⟨g, 5, none⟩ = false := HT5.out.bn.frozen 5
       go_wp2
       go_ret
       exact tick_fin (HT5.out.set 5 (.int .i64 (timer + 1)) HFR.out (by omega) hgB (by omega) hpne) (by rw [tickR_eq HSN.out (tm := timer + 1) (by simp [againS, underS, hu, ht])]; rfl) HOUT.out (by omega)
 · have d1 : decide (base ≤ sent) = false := by simpa using hu
   go_enter Try.func93, Try.ntmps93
   go_wp2_with fail
   refine wp_region_ps (S := fun _ _ w' => Below w.heap.size w w') (by kernel_rfl) ?spsw63 ?ppsw63
   case spsw63 =>
    exact (Below.refl _ _).drew
   refine Pz 0 (some 7) _ rfl rfl (StepS.pure (fun _ _ _ h => h) rfl fun w9 => by go_simp; try rfl) ?_
   try simp only [Act.put, sA, sZ, sS]
   refine Pz 1 (some 8) _ rfl rfl (StepS.pure (fun _ _ _ h => h) rfl fun w9 => by go_simp; try rfl) ?_
   try simp only [Act.put, sA, sZ, sS]
   refine Pz 2 (some 9) _ rfl rfl (StepS.pure (fun _ _ _ h => h) rfl fun w9 => by go_simp; try rfl) ?_
   try simp only [Act.put, sA, sZ, sS]
   refine Pz 3 (some 10) ?uw63_66 rfl rfl ?yw63_66 ?rw63_66
   case yw63_66 =>
    refine StepS.read [] (by kernel_rfl) (fun _ _ _ h => h) (by rfl) (fun L9 m9 w9 hSh hAt hDn hS => ?_)
    have hT : Below _ _ w9 := hS
    have x3 : w9.cell? ⟨g, 3, none⟩ = some (.int .u64 sent) := (HN.out.ca hT).cell 3
    clear hT hS
    go_simp
    try rfl
   try simp only [Act.put, sA, sZ, sS]
   refine Pz 4 (some 11) _ rfl rfl (StepS.pure (fun _ _ _ h => h) rfl fun w9 => by go_simp; try rfl) ?_
   try simp only [Act.put, sA, sZ, sS]
   refine Pz 5 (some 12) _ rfl rfl (StepS.pure (fun _ _ _ h => h) rfl fun w9 => by go_simp; try rfl) ?_
   try simp only [Act.put, sA, sZ, sS]
   refine Pz 6 (some 13) _ rfl rfl (StepS.pure (fun _ _ _ h => h) rfl fun w9 => by go_simp; try rfl) ?_
   try simp only [Act.put, sA, sZ, sS]
   refine Pz 7 (some 14) ?uw63_70 rfl rfl ?yw63_70 ?rw63_70
   case yw63_70 =>
    refine StepS.read [] (by kernel_rfl) (fun _ _ _ h => h) (by rfl) (fun L9 m9 w9 hSh hAt hDn hS => ?_)
    have hT : Below _ _ w9 := hS
    have x1 : w9.cell? ⟨g, 1, none⟩ = some (.int .u64 base) := (HN.out.ca hT).cell 1
    clear hT hS
    go_simp
    try rfl
   try simp only [Act.put, sA, sZ, sS]
   refine Pz 8 (some 15) _ rfl rfl (StepS.pure (fun _ _ _ h => h) rfl fun w9 => by go_simp; try rfl) ?_
   try simp only [Act.put, sA, sZ, sS]
   refine Pz 9 (some 16) _ rfl rfl (StepS.pure (fun _ _ _ h => h) rfl fun w9 => by go_simp; try rfl) ?_
   try simp only [Act.put, sA, sZ, sS]
   refine Pz 10 (some 17) _ rfl rfl (StepS.pure (fun _ _ _ h => h) rfl fun w9 => by go_simp; try rfl) ?_
   try simp only [Act.put, sA, sZ, sS]
   refine Pz 11 (some 18) _ rfl rfl (StepS.pure (fun _ _ _ h => h) rfl fun w9 => by go_simp; try rfl) ?_
   try simp only [Act.put, sA, sZ, sS]
   refine Pz 12 (some 19) ?uw63_75 rfl rfl ?yw63_75 ?rw63_75
   case yw63_75 =>
    refine StepS.read [] (by kernel_rfl) (fun _ _ _ h => h) (by rfl) (fun L9 m9 w9 hSh hAt hDn hS => ?_)
    have hT : Below _ _ w9 := hS
    have x3 : w9.cell? ⟨g, 3, none⟩ = some (.int .u64 sent) := (HN.out.ca hT).cell 3
    clear hT hS
    go_simp
    try rfl
   try simp only [Act.put, sA, sZ, sS]
   refine Pz 13 (some 4) _ rfl rfl (StepS.pure (fun _ _ _ h => h) rfl fun w9 => by go_simp; try rfl) ?_
   try simp only [Act.put, sA, sZ, sS]
   refine Pz 14 (some 5) _ rfl rfl (StepS.pure (fun _ _ _ h => h) rfl fun w9 => by go_simp; try rfl) ?_
   try simp only [Act.put, sA, sZ, sS]
   refine Ps.done (by kernel_rfl) (fun w63 hS => ?_) _
   have HQ := Lib.hid (show Below w.heap.size w _ from hS)
   clear hS
   obtain ⟨w1, rfl⟩ : ∃ x, x = w63 := ⟨_, rfl⟩
   have hs1 := HQ.out.size
   have HN1 := Lib.hid (HN.out.ca HQ.out)
   have HP1 := Lib.hid (HP.out.ca HQ.out)
   have HR1 := Lib.hid (Lay.rd_below HR.out HQ.out)
   have HO1 := Lib.hid (Lay.own_below HO.out HQ.out)
   have x0 : w1.cell? ⟨g, 0, none⟩ = some (.int .u32 ses) := HN1.out.cell 0
   have x1 : w1.cell? ⟨g, 1, none⟩ = some (.int .u64 base) := HN1.out.cell 1
   have x2 : w1.cell? ⟨g, 2, none⟩ = some (.slice A n c) := HN1.out.cell 2
   have x3 : w1.cell? ⟨g, 3, none⟩ = some (.int .u64 sent) := HN1.out.cell 3
   have x4 : w1.cell? ⟨g, 4, none⟩ = some (.int .u64 lim) := HN1.out.cell 4
   have x5 : w1.cell? ⟨g, 5, none⟩ = some (.int .i64 timer) := HN1.out.cell 5
   have x6 : w1.cell? ⟨g, 6, none⟩ = some (.bool ended) := HN1.out.cell 6
   clear HN HP HR HO
   go_wp2_with fail
   refine (data_any #[.int .u32 ses, .int .u64 base, .slice A n c, .int .u64 sent, .int .u64 lim, .int .i64 timer, .bool ended] sent w1).mono ?_
   rintro e w3 ⟨rfl, rfl⟩
   have q3 := bl_al (bl_al (Below.refl w1.heap.size w1) (.cells #[.int .u32 ses, .int .u64 base, .slice A n c, .int .u64 sent, .int .u64 lim, .int .i64 timer, .bool ended] 29)) (.cells #[.int .u64 sent] 26)
   have cN := (Blk.new w1 29 #[.int .u32 ses, .int .u64 base, .slice A n c, .int .u64 sent, .int .u64 lim, .int .i64 timer, .bool ended]).ca (bl_al (Below.refl _ _) (.cells #[.int .u64 sent] 26))
   have cI : Blk _ (w1.heap.size + 1) _ _ := Blk.mk' (w := w1.alloc (.cells #[.int .u32 ses, .int .u64 base, .slice A n c, .int .u64 sent, .int .u64 lim, .int .i64 timer, .bool ended] 29)) (t := 26) (cs := #[.int .u64 sent]) (by simp only [World.size_alloc])
   have hs3 : w1.heap.size + 2 ≤ ((w1.alloc (.cells #[.int .u32 ses, .int .u64 base, .slice A n c, .int .u64 sent, .int .u64 lim, .int .i64 timer, .bool ended] 29)).alloc (.cells #[.int .u64 sent] 26)).heap.size := by simp only [World.size_alloc]; omega
   have HN3 := Lib.hid (HN1.out.ca q3)
   have HP3 := Lib.hid (HP1.out.ca q3)
   have HR3 := Lib.hid (Lay.rd_below HR1.out q3)
   have HO3 := Lib.hid (Lay.own_below HO1.out q3)
   have HQ3 := Lib.hid (bl_ca HQ.out q3)
   have HQ3 := HQ3
   clear x0 x1 x2 x3 x4 x5 x6 q3 HN1 HP1 HR1 HO1
   generalize (w1.alloc (.cells #[.int .u32 ses, .int .u64 base, .slice A n c, .int .u64 sent, .int .u64 lim, .int .i64 timer, .bool ended] 29)).alloc (.cells #[.int .u64 sent] 26) = w3 at *
   have HT := Lib.hid (told_any  w1.heap.size (w1.heap.size + 1) A n c bx ses base sent lim timer sent ended w3 hn8 hb0 hb1 cN (by omega) cI (by omega) (Lay.rd_weak (fun b _ hb => hb) HR3.out))
   clear cN cI
   go_wp2_with fail
   refine HT.out.mono ?_
   rintro e w4 ⟨v, rfl, ho, q4⟩
   obtain ⟨xs, hxs⟩ : ∃ xs, xs = dataX ses lim sent base bx := ⟨_, rfl⟩
   rw [← hxs] at ho
   obtain ⟨A2, c2, rfl⟩ := own_form' ho
   obtain ⟨mm, hmm⟩ : ∃ mm, mm = xs.length := ⟨_, rfl⟩
   have ho2 := out_own hxs ho HBK.out (bl_ca HQ3.out q4) (by have := HQ3.out.size; omega)
   have hml : mm ≤ 8 := by rw [hmm, hxs]; exact Nat.le_trans dataX_le (by have := congrArg List.length HBXE.out; rw [List.length_map] at this; omega)
   rw [← hmm] at ho2 ⊢
   have HMM := Lib.hid hmm
   have HOUT := Lib.hid (show xs.map PX.p = outP ⟨ses, base, q, sent, lim, timer, ended⟩ from by rw [hxs, dataX_p, HBXE.out]; simp only [outP, aboveS, againS, underS, d1]; simp)
   have hs4 := q4.size
   have HTS4 := Lib.hid (show TS w w4 g p B w3.heap.size Fr A n c q A2 mm c2 (xs.map PX.p) #[.int .u32 ses, .int .u64 base, .slice A n c, .int .u64 sent, .int .u64 lim, .int .i64 timer, .bool ended] (.slice none 0 0) from ⟨(Chg.of_below (bl_ca HQ3.out q4)), HN3.out.ca q4, Lay.own_below HO3.out q4, HP3.out.ca q4, ho2⟩)
   have hpw : p < w.heap.size := by have := hB.size; omega
   have HTS := Lib.hid (HTS4.out.setP (.slice A2 mm c2) HFR.out hFp (by omega) (by have := hB.size; omega) (by omega) (by have := HQ3.out.size; omega) (by omega))
   have HQ4 := Lib.hid (bl_ca HQ3.out q4)
   have y0 : w4.cell? ⟨p, 0, none⟩ = some (.slice none 0 0) := HTS4.out.bp.cell 0
   have f0 : w4.frozen? ⟨p, 0, none⟩ = false := HTS4.out.bp.frozen 0
   clear ho ho2 q4 hmm hxs HN3 HO3 HP3 HR3 HQ3 HTS4 HBK HT
   rcases Nat.eq_zero_or_pos mm with h0 | h0
   · subst h0
     obtain rfl : xs = [] := List.eq_nil_of_length_eq_zero HMM.out.symm
     have HSN := Lib.hid (show sentS ⟨ses, base, q, sent, lim, timer, ended⟩ = sent from sentS_nil HOUT.out.symm)
     have x5 : (w4.setCell ⟨p, 0, none⟩ (.slice A2 0 c2)).cell? ⟨g, 5, none⟩ = some (.int .i64 timer) := HTS.out.bn.cell 5
     have f5 : (w4.setCell ⟨p, 0, none⟩ (.slice A2 0 c2)).frozen? ⟨g, 5, none⟩ = false := HTS.out.bn.frozen 5
     generalize hw5 : (w4.setCell ⟨p, 0, none⟩ (.slice A2 0 c2)) = w5 at *
     have y1 : w5.cell? ⟨p, 0, none⟩ = some (.slice A2 0 c2) := HTS.out.bp.cell 0
     go_wp2
     go_ret
     exact tick_fin ((HTS.out.set 5 (.int .i64 (timer + 1)) HFR.out (by omega) hgB (by omega) hpne).set 5 (.int .i64 0) HFR.out (by omega) hgB (by omega) hpne) (by rw [tickR_eq HSN.out (tm := 0) (by simp [againS, underS, hu])]; rfl) HOUT.out (by omega)
   · obtain ⟨m1, rfl⟩ : ∃ m1, mm = m1 + 1 := ⟨mm - 1, by omega⟩
     have hl : (m1 : Int) < (m1 : Int) + 1 := by omega
     have d4 : (0 : Int) < (m1 : Int) + 1 := by omega
     have hwm : IntKind.i64.wrap (m1 : Int) = (m1 : Int) := by simp [IntKind.wrap, IntKind.signed, IntKind.bits]; omega
     have y1 : (w4.setCell ⟨p, 0, none⟩ (.slice A2 (m1 + 1) c2)).cell? ⟨p, 0, none⟩ = some (.slice A2 (m1 + 1) c2) := HTS.out.bp.cell 0
     go_wp2_with fail
     generalize hw5 : w4.setCell ⟨p, 0, none⟩ (.slice A2 (m1 + 1) c2) = w5 at *
     clear y0 f0 y1 hw5
     obtain ⟨ad, x, rfl, hx, _⟩ := LP7_at2 (Lay.own_rd (F := fun _ => True) HTS.out.bt (fun _ _ _ => trivial) (fun _ _ _ => trivial)) (show m1 < m1 + 1 by omega)
     have HLX := Lib.hid (fun w9 (q9 : Below w5.heap.size w5 w9) => lp7_last (Lay.own_rd (F := fun _ => True) (HTS.out.below q9).bt (fun _ _ _ => trivial) (fun _ _ _ => trivial)) hx)
     obtain ⟨sn, hsn⟩ : ∃ sn, sn = max sent x.seq := ⟨_, rfl⟩
     have HSN := Lib.hid (show sentS ⟨ses, base, q, sent, lim, timer, ended⟩ = sn from (sentS_last (by rw [← HOUT.out]; exact hx) (by rw [← HOUT.out, List.length_map]; exact HMM.out.symm)).trans hsn.symm)
     have hmax : max sent x.seq = sn := hsn.symm
     clear hx hsn
     refine wp_region_ps (S := Seq1 15 (fun _ w' => Below w5.heap.size w5 w') (fun _ w' => ∃ w6, Below w5.heap.size w5 w6 ∧ w' = w6.setCell ⟨g, 3, none⟩ (.int .u64 sn))) (by kernel_rfl) ?spsw78 ?ppsw78
     case spsw78 =>
      exact Seq1.start (by decide) (Below.refl _ _).drew
     refine Pz 0 (some 38) _ rfl rfl (StepS.pure (Seq1.pass (by decide)) rfl fun w9 => by go_simp; try rfl) ?_
     try simp only [Act.put, sA, sZ, sS]
     refine Pz 1 (some 39) _ rfl rfl (StepS.pure (Seq1.pass (by decide)) rfl fun w9 => by go_simp; try rfl) ?_
     try simp only [Act.put, sA, sZ, sS]
     refine Pz 2 (some 40) _ rfl rfl (StepS.pure (Seq1.pass (by decide)) rfl fun w9 => by go_simp; try rfl) ?_
     try simp only [Act.put, sA, sZ, sS]
     refine Pz 3 (some 41) _ rfl rfl (StepS.pure (Seq1.pass (by decide)) rfl fun w9 => by go_simp; try rfl) ?_
     try simp only [Act.put, sA, sZ, sS]
     refine Pz 4 (some 42) ?uw78_82 rfl rfl ?yw78_82 ?rw78_82
     case yw78_82 =>
      refine StepS.read [] (by kernel_rfl) (Seq1.pass (by decide)) (by rfl) (fun L9 m9 w9 hSh hAt hDn hS => ?_)
      have hd := reach_no hSh (f := 20) (j := 15) (by kernel_rfl) hDn
      have hT : Below w5.heap.size w5 w9 := Seq1.at1 hd hS
      have x3 : w9.cell? ⟨g, 3, none⟩ = some (.int .u64 sent) := (HTS.out.below hT).bn.cell 3
      clear hT hS hd
      go_simp
      try rfl
     try simp only [Act.put, sA, sZ, sS]
     refine Pz 5 (some 43) ?uw78_83 rfl rfl ?yw78_83 ?rw78_83
     case yw78_83 =>
      refine StepS.read [] (by kernel_rfl) (Seq1.pass (by decide)) (by rfl) (fun L9 m9 w9 hSh hAt hDn hS => ?_)
      have hd := reach_no hSh (f := 20) (j := 15) (by kernel_rfl) hDn
      have hT : Below w5.heap.size w5 w9 := Seq1.at1 hd hS
      have y1 : w9.cell? ⟨p, 0, none⟩ = some (.slice (some ad) (m1 + 1) c2) := (HTS.out.below hT).bp.cell 0
      clear hT hS hd
      go_simp
      try rfl
     try simp only [Act.put, sA, sZ, sS]
     refine Pz 6 (some 44) ?uw78_84 rfl rfl ?yw78_84 ?rw78_84
     case yw78_84 =>
      refine StepS.read [] (by kernel_rfl) (Seq1.pass (by decide)) (by rfl) (fun L9 m9 w9 hSh hAt hDn hS => ?_)
      have hd := reach_no hSh (f := 20) (j := 15) (by kernel_rfl) hDn
      have hT : Below w5.heap.size w5 w9 := Seq1.at1 hd hS
      have y1 : w9.cell? ⟨p, 0, none⟩ = some (.slice (some ad) (m1 + 1) c2) := (HTS.out.below hT).bp.cell 0
      clear hT hS hd
      go_simp
      try rfl
     try simp only [Act.put, sA, sZ, sS]
     refine Pz 7 (some 45) _ rfl rfl (StepS.pure (Seq1.pass (by decide)) rfl fun w9 => by go_simp; try rfl) ?_
     try simp only [Act.put, sA, sZ, sS]
     refine Pz 8 (some 46) _ rfl rfl (StepS.pure (Seq1.pass (by decide)) rfl fun w9 => by go_simp; try rfl) ?_
     try simp only [Act.put, sA, sZ, sS]
     refine Pz 9 (some 47) _ rfl rfl (StepS.pure (Seq1.pass (by decide)) rfl fun w9 => by go_simp; try rfl) ?_
     try simp only [Act.put, sA, sZ, sS]
     refine Pz 10 (some 48) _ rfl rfl (StepS.pure (Seq1.pass (by decide)) rfl fun w9 => by go_simp; try rfl) ?_
     try simp only [Act.put, sA, sZ, sS]
     refine Pz 11 (some 49) ?uw78_89 rfl rfl ?yw78_89 ?rw78_89
     case yw78_89 =>
      refine StepS.read [] (by kernel_rfl) (Seq1.pass (by decide)) (by rfl) (fun L9 m9 w9 hSh hAt hDn hS => ?_)
      have hd := reach_no hSh (f := 20) (j := 15) (by kernel_rfl) hDn
      have hT : Below w5.heap.size w5 w9 := Seq1.at1 hd hS
      have y2 := HLX.out w9 hT
      clear hT hS hd
      go_simp
      try rfl
     try simp only [Act.put, sA, sZ, sS]
     refine Pz 12 (some 50) _ rfl rfl (StepS.pure (Seq1.pass (by decide)) rfl fun w9 => by go_simp; try rfl) ?_
     try simp only [Act.put, sA, sZ, sS]
     refine Pz 13 (some 51) _ rfl rfl (StepS.pure (Seq1.pass (by decide)) rfl fun w9 => by go_simp; try rfl) ?_
     try simp only [Act.put, sA, sZ, sS]
     refine Pz 14 (some 52) _ rfl rfl (StepS.pure (Seq1.pass (by decide)) rfl fun w9 => by go_simp; try rfl) ?_
     try simp only [Act.put, sA, sZ, sS]
     refine Pz 15 none undef rfl rfl ?yw78_93 ?rw78_93
     case yw78_93 =>
      refine StepS.store [] (by kernel_rfl) (by rfl) (fun L9 m9 w9 hSh hAt hDn hS => ?_)
      have hT : Below w5.heap.size w5 w9 := Seq1.at1 hDn hS
      have x3 : w9.cell? ⟨g, 3, none⟩ = some (.int .u64 sent) := (HTS.out.below hT).bn.cell 3
      have f3 : w9.frozen? ⟨g, 3, none⟩ = false := (HTS.out.below hT).bn.frozen 3
      refine ⟨w9.setCell ⟨g, 3, none⟩ (.int .u64 sn), ?_, Seq1.set1 ⟨w9, hT, rfl⟩⟩
      clear hT hS
      go_simp
     try simp only [Act.put]
     refine Ps.done (by kernel_rfl) (fun w78 hS => ?_) _
     obtain ⟨w6, hT, e6⟩ := Seq1.fin (by rfl) hS
     clear hS
     have HT5 := Lib.hid ((HTS.out.below hT).set 3 (.int .u64 sn) HFR.out (by omega) hgB (by omega) hpne)
     rw [← e6] at HT5
     clear e6 hT
     obtain ⟨w7, rfl⟩ : ∃ x, x = w78 := ⟨_, rfl⟩
     have x5 : w7.cell? ⟨g, 5, none⟩ = some (.int .i64 timer) := HT5.out.bn.cell 5
     have f5 : w7.frozen? ⟨g, 5, none⟩ = false := HT5.out.bn.frozen 5
     go_wp2
     go_ret
     exact tick_fin ((HT5.out.set 5 (.int .i64 (timer + 1)) HFR.out (by omega) hgB (by omega) hpne).set 5 (.int .i64 0) HFR.out (by omega) hgB (by omega) hpne) (by rw [tickR_eq HSN.out (tm := 0) (by simp [againS, underS, hu])]; rfl) HOUT.out (by omega)
end Go.Proofs.Ytojghgbaiiajfaa
