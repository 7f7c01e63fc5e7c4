/- link.data$1: the packets of the batches above a number, one by one. Conditions: the queue reads as these batches. -/
import Derived.Test.YtojghgbaiiajfaaPkH9
import Derived.RangeFuncNested
import Derived.RangeFuncBound
import Derived.RangeFuncCalls
import Derived.RangeFuncLeaves
import Derived.RangeFuncBox
import Derived.Shelf.Abstract
import Derived.Shelf.RegionOpen
import Derived.WalkKit
import Derived.OwnWalkIn
import Derived.TacticsInMore
import Derived.LoopNIn
import Derived.LoopIn
import Derived.Maps.AppendAt
import Derived.Lib.Hide
namespace Go.Proofs.Ytojghgbaiiajfaa
open Go.RowKit Go.Shelf
attribute [local go_sem] Oper.semAt_some
theorem grown_of_below {w w' : World} (h : Below w.heap.size w w') : w.grownBy w' none := ⟨h.os, h.tape, h.output, h.size, fun k hk _ => h.block k hk⟩
theorem u64_inD {x : Int} (h0 : 0 ≤ x) (h1 : x ≤ 9223372036854775807) : IntKind.u64.wrap x = x := by simp [IntKind.wrap, IntKind.signed, IntKind.bits]; omega
/-- a batch with its slice -/
structure BX where
 b : BC
 A : Option Addr
 n : Nat
 c : Nat
def LBX : Lay BX where
 size := 3
 rep := fun w F x cs => cs = [.slice x.A x.n x.c, .bool x.b.fin, .int .u64 x.b.cnt] ∧ x.n ≤ x.c ∧ x.c ≤ 9223372036854775807 ∧ LR.rd w F x.A x.n x.b.rows
 len := fun h => by obtain ⟨rfl, _⟩ := h; rfl
 one := fun h u hu => by obtain ⟨rfl, _⟩ := h; simp at hu; rcases hu with rfl | rfl | rfl <;> rfl
 keep := fun hk h => by obtain ⟨e, h1, h2, hr⟩ := h; exact ⟨e, h1, h2, Lay.rd_keep hk hr⟩
 weak := fun hk h => by obtain ⟨e, h1, h2, hr⟩ := h; exact ⟨e, h1, h2, Lay.rd_weak hk hr⟩
theorem LBX_reps {w : World} {F : Nat → Prop} : ∀ {xs : List BC} {cs : List Value}, LB3.reps w F xs cs → ∃ bx : List BX, bx.map BX.b = xs ∧ LBX.reps w F bx cs
 | [], cs, h => ⟨[], rfl, h⟩
 | x :: l, cs, h => by
  obtain ⟨ds, es, e, ⟨A, n, c, h1, h2, h3, h4⟩, hl⟩ := h
  obtain ⟨bx, hb, hr⟩ := LBX_reps hl
  exact ⟨⟨x, A, n, c⟩ :: bx, by rw [List.map_cons, hb], ds, es, e, ⟨h1, h2, h3, h4⟩, hr⟩
theorem LBX_at {w : World} {F : Nat → Prop} {A : Option Addr} {n i : Nat} {xs : List BX} (h : LBX.rd w F A n xs) (hi : i < n) : ∃ ad x, A = some ad ∧ xs[i]? = some x ∧ SB w F (ad.add (i * 3)) x.b x.A x.n x.c := by
 obtain ⟨ad, b, cs, e, hx, _, _, ⟨rfl, h1, h2, hr⟩, hc⟩ := Lay.rd_at h hi
 refine ⟨ad, b, e, hx, ⟨hc 0 _ rfl, ?_, ?_, h1, h2, hr⟩⟩
 · rw [← addr_more _ _ 1 (by omega)]; exact hc 1 _ rfl
 · rw [← addr_more _ _ 2 (by omega)]; exact hc 2 _ rfl
/-- a packet with its slice -/
structure PX where
 p : PK
 A : Option Addr
 n : Nat
 c : Nat
abbrev PX.cells (x : PX) : Array Value := x.p.cells x.A x.n x.c
def dataX (ses lim above : Int) : Int → List BX → List PX
 | _, [] => []
 | n, x :: l => if lim < n then [] else (if above < n then [⟨⟨1, ses, n, 0, x.b⟩, x.A, x.n, x.c⟩] else []) ++ dataX ses lim above (n + 1) l
theorem dataX_end {ses lim above n : Int} (l : List BX) (h : lim < n) : dataX ses lim above n l = [] := by
 cases l
 · rfl
 · unfold dataX; rw [if_pos h]
theorem dataX_yes {ses lim above n : Int} {l : List BX} {k : Nat} {x : BX} (hx : l[k]? = some x) (h : n ≤ lim) (h2 : above < n) : dataX ses lim above n (l.drop k) = ⟨⟨1, ses, n, 0, x.b⟩, x.A, x.n, x.c⟩ :: dataX ses lim above (n + 1) (l.drop (k + 1)) := by
 obtain ⟨hl, rfl⟩ := List.getElem?_eq_some_iff.1 hx
 rw [List.drop_eq_getElem_cons hl]
 rw [dataX, if_neg (by omega), if_pos h2]; rfl
theorem dataX_no {ses lim above n : Int} {l : List BX} {k : Nat} {x : BX} (hx : l[k]? = some x) (h : n ≤ lim) (h2 : n ≤ above) : dataX ses lim above n (l.drop k) = dataX ses lim above (n + 1) (l.drop (k + 1)) := by
 obtain ⟨hl, rfl⟩ := List.getElem?_eq_some_iff.1 hx
 rw [List.drop_eq_getElem_cons hl]
 rw [dataX, if_neg (by omega), if_neg (by omega)]; rfl
set_option maxRecDepth 100000 in
set_option maxHeartbeats 8000000 in
theorem data1_in (n : Nat) (hn : 1 ≤ n) (l Bs Bu n₀ : Nat) (A : Option Addr) (m c : Nat) (bx : List BX) (ses base sent lim timer above : Int) (ended : Bool) (J Jx : List PX → World → Prop) (W : World) (hJ : AbidesFrom W.heap.size J) (hm : m ≤ 8) (hb0 : 1 ≤ base) (hb1 : base ≤ 1099511627776)
 (hY : ∀ pre x W1, J pre W1 → pre.length < m → YieldAt Fence.wide (n - 1) Try.prog l #[.agg (PX.cells x)] W1 fun e W' => (e = .returned (.bool true) ∧ J (pre ++ [x]) W' ∧ Below n₀ W1 W') ∨ (e = .returned (.bool false) ∧ Jx (pre ++ [x]) W'))
 (hn₀ : n₀ ≤ W.heap.size) (hBs : Blk W Bs 29 #[.int .u32 ses, .int .u64 base, .slice A m c, .int .u64 sent, .int .u64 lim, .int .i64 timer, .bool ended]) (hBs' : Bs < n₀) (hBu : Blk W Bu 26 #[.int .u64 above]) (hBu' : Bu < n₀) (h : LBX.rd W (fun b => b < n₀) A m bx) (h0 : J [] W) :
 CallsIn Fence.wide n Try.prog 113 #[.func (.yield l) #[] #[], .pointer (some ⟨Bs, 0, none⟩), .pointer (some ⟨Bu, 0, none⟩)] W fun e W' => (∃ v, e = .returned v) ∧ ((∃ ys, ys = dataX ses lim above base bx ∧ J ys W') ∨ (∃ pre, pre <+: dataX ses lim above base bx ∧ Jx pre W')) := by
 have HLEN := Lib.hid h.1
 have HY := Lib.hid hY
 have HJ := Lib.hid hJ
 have HBS := Lib.hid hBs
 have HBU := Lib.hid hBu
 have c2 : W.cell? ⟨Bs, 2, none⟩ = some (.slice A m c) := hBs.cell 2
 clear hY hJ hBs hBu
 refine callsIn_of_wp Try.func113 rfl trivial ?_ rfl
 simp only [Try.ntmps113, List.size_toArray, List.length_cons, List.length_nil, Nat.reduceAdd, Nat.reduceSub, Array.replicate_succ, Array.replicate_zero, List.push_toArray, List.append_toArray, List.nil_append, List.cons_append]
 gi_wp2
 clear c2
 gi_loopw [10] (fun i wr => ∃ (k : Nat) (pre : List PX), k ≤ m ∧ i = .int .i64 k ∧ pre.length ≤ k ∧ pre ++ dataX ses lim above (base + k) (bx.drop k) = dataX ses lim above base bx ∧ J pre wr ∧ Below n₀ W wr) (fun i _ => m - (intOf i).toNat)
 case atStart => exact ⟨0, [], Nat.zero_le _, rfl, Nat.le_refl _, by simp, h0, Below.refl _ _⟩
 case round =>
  obtain ⟨k, pre, hk, rfl, hpl, hpre, hJs, hb⟩ := hrel
  have hbw : n₀ ≤ wr.heap.size := Nat.le_trans hn₀ hb.size
  have s0 : wr.cell? ⟨Bs, 0, none⟩ = some (.int .u32 ses) := (HBS.out.below hb hBs').cell 0
  have s1 : wr.cell? ⟨Bs, 1, none⟩ = some (.int .u64 base) := (HBS.out.below hb hBs').cell 1
  have s4 : wr.cell? ⟨Bs, 4, none⟩ = some (.int .u64 lim) := (HBS.out.below hb hBs').cell 4
  have u0 : wr.cell? ⟨Bu, 0, none⟩ = some (.int .u64 above) := (HBU.out.below hb hBu').cell 0
  have hw1 : IntKind.u64.wrap (k : Int) = k := u64_inD (by omega) (by omega)
  have hw2 : IntKind.u64.wrap (base + k) = base + k := u64_inD (by omega) (by omega)
  have HJS := Lib.hid hJs
  have HB0 := Lib.hid hb
  have HPRE := Lib.hid hpre
  by_cases hlt : k < m
  · have hi1 : (k : Int) < (m : Int) := by omega
    obtain ⟨ad, x, rfl, hx, q1⟩ := LBX_at (Lay.rd_keep (w' := wr) (fun b hb' _ => hb.block b hb') h) hlt
    have e0 := q1.c0
    have e1 := q1.c1
    have e2 := q1.c2
    have HX := Lib.hid hx
    have b1 := bl_al (Below.refl wr.heap.size wr) (.cells #[.slice x.A x.n x.c, .bool x.b.fin, .int .u64 x.b.cnt] 45)
    have bX := Blk.new wr 45 #[.slice x.A x.n x.c, .bool x.b.fin, .int .u64 x.b.cnt]
    have t0 : (wr.alloc (.cells #[.slice x.A x.n x.c, .bool x.b.fin, .int .u64 x.b.cnt] 45)).cell? ⟨Bs, 0, none⟩ = some (.int .u32 ses) := ((HBS.out.below hb hBs').ca b1).cell 0
    have t1 : (wr.alloc (.cells #[.slice x.A x.n x.c, .bool x.b.fin, .int .u64 x.b.cnt] 45)).cell? ⟨Bs, 1, none⟩ = some (.int .u64 base) := ((HBS.out.below hb hBs').ca b1).cell 1
    have t4 : (wr.alloc (.cells #[.slice x.A x.n x.c, .bool x.b.fin, .int .u64 x.b.cnt] 45)).cell? ⟨Bs, 4, none⟩ = some (.int .u64 lim) := ((HBS.out.below hb hBs').ca b1).cell 4
    have v0 : (wr.alloc (.cells #[.slice x.A x.n x.c, .bool x.b.fin, .int .u64 x.b.cnt] 45)).cell? ⟨Bu, 0, none⟩ = some (.int .u64 above) := ((HBU.out.below hb hBu').ca b1).cell 0
    have y0 : (wr.alloc (.cells #[.slice x.A x.n x.c, .bool x.b.fin, .int .u64 x.b.cnt] 45)).cell? ⟨wr.heap.size, 0, none⟩ = some (.slice x.A x.n x.c) := bX.cell 0
    have y1 : (wr.alloc (.cells #[.slice x.A x.n x.c, .bool x.b.fin, .int .u64 x.b.cnt] 45)).cell? ⟨wr.heap.size, 1, none⟩ = some (.bool x.b.fin) := bX.cell 1
    have y2 : (wr.alloc (.cells #[.slice x.A x.n x.c, .bool x.b.fin, .int .u64 x.b.cnt] 45)).cell? ⟨wr.heap.size, 2, none⟩ = some (.int .u64 x.b.cnt) := bX.cell 2
    have HT := Lib.hid (show Below wr.heap.size wr (wr.alloc (.cells #[.slice x.A x.n x.c, .bool x.b.fin, .int .u64 x.b.cnt] 45)) from b1)
    have HJ2 := Lib.hid (HJ.out _ _ _ none HJS.out (grown_of_below b1) (fun r e => by cases e))
    clear hx q1 hJs hb hpre b1 bX h
    by_cases hl : lim < base + k
    · have d1 : decide (lim < base + (k : Int)) = true := by simpa using hl
      have HE := Lib.hid (show pre = dataX ses lim above base bx from by rw [← HPRE.out, dataX_end _ hl, List.append_nil])
      gi_wp2
      refine bodyPost_ret (results_none rfl _ _ _) rfl ?_
      exact ⟨⟨_, rfl⟩, .inl ⟨_, rfl, by rw [← HE.out]; exact HJ2.out⟩⟩
    · have d1 : decide (lim < base + (k : Int)) = false := by simp; omega
      by_cases ha : above < base + k
      · have d2 : decide (above < base + (k : Int)) = true := by simpa using ha
        have HN := Lib.hid (show (pre ++ [(⟨⟨1, ses, base + k, 0, x.b⟩, x.A, x.n, x.c⟩ : PX)]) ++ dataX ses lim above (base + (k + 1 : Nat)) (bx.drop (k + 1)) = dataX ses lim above base bx from by
         rw [← HPRE.out, dataX_yes HX.out (by omega) ha, List.append_assoc, List.singleton_append, show base + ((k + 1 : Nat) : Int) = base + k + 1 from by omega])
        obtain ⟨fn, tmps, assign, body, hy, hR⟩ := HY.out _ ⟨⟨1, ses, base + k, 0, x.b⟩, x.A, x.n, x.c⟩ _ HJ2.out (by omega)
        have HRR := Lib.hid hR
        clear hR
        gi_wp2
        refine HRR.out.mono ?_
        rintro e W3 (⟨rfl, hJ3, hk3⟩ | ⟨rfl, hJx3⟩)
        · have HJ3 := Lib.hid hJ3
          have HB3 := Lib.hid ((HB0.out.trans (HT.out.mono (by omega))).trans hk3)
          clear hJ3 hk3 hy
          gi_wp2
          go_roundw
          case rel => exact ⟨k + 1, _, by omega, by go_num, by simp; omega, HN.out, HJ3.out, HB3.out⟩
          case measure => simp [intOf]; omega
        · clear hy
          gi_wp2
          refine bodyPost_ret (results_none rfl _ _ _) rfl ?_
          exact ⟨⟨_, rfl⟩, .inr ⟨_, ⟨_, HN.out⟩, hJx3⟩⟩
      · have d2 : decide (above < base + (k : Int)) = false := by simp; omega
        have HN := Lib.hid (show pre ++ dataX ses lim above (base + (k + 1 : Nat)) (bx.drop (k + 1)) = dataX ses lim above base bx from by
         rw [← HPRE.out, dataX_no HX.out (by omega) (by omega), show base + ((k + 1 : Nat) : Int) = base + k + 1 from by omega])
        have HB3 := Lib.hid (HB0.out.trans (HT.out.mono (by omega)))
        gi_wp2
        refine ⟨fun _ h => (by cases h), ?_⟩
        gi_wp2
        go_roundw
        case rel => exact ⟨k + 1, _, by omega, by go_num, by omega, HN.out, HJ2.out, HB3.out⟩
        case measure => simp [intOf]; omega
  · obtain rfl : k = m := by omega
    have hi1 : (k : Int) ≤ (k : Int) := by omega
    have HF := Lib.hid (show pre = dataX ses lim above base bx from by rw [← HPRE.out, List.drop_of_length_le (by rw [HLEN.out]; exact Nat.le_refl _)]; simp [dataX])
    gi_wp2
    go_end0
    exact ⟨⟨_, rfl⟩, .inl ⟨_, rfl, by rw [← HF.out]; exact HJS.out⟩⟩
end Go.Proofs.Ytojghgbaiiajfaa
/- link.collected: all that a function over which one ranges tells. Conditions: the function keeps to its contract. -/
namespace Go.Proofs.Ytojghgbaiiajfaa
open Go.RowKit Go.Shelf
attribute [local go_sem] Oper.semAt_some
theorem Try.pkInfo : (Try.prog.info? 47).map (fun i => (i.zero, i.size, i.bytes)) = some (some (.agg #[.int .i64 0, .int .u32 0, .int .u64 0, .int .u64 0, .slice none 0 0, .bool false, .int .u64 0]), 7, 72) := by kernel_rfl
def rowX (xs : List PX) : List Value := xs.flatMap fun x => x.cells.toList
theorem rowX_one (pre : List PX) (x : PX) : rowX (pre ++ [x]) = rowX pre ++ x.cells.toList := by unfold rowX; simp
set_option maxRecDepth 100000 in
set_option maxHeartbeats 8000000 in
theorem collected_in (n : Nat) (hn : 2 ≤ n) (gf : FuncId) (lb : Array Value) (xs : List PX) (N : Nat) (w : World) (hN : N ≤ 1000000) (eg : ∀ (args : Array Value) (w : World), (callFunc gf args).run Try.prog w = .ok (.enter gf args) w)
 (hseq : SeqStopsK Fence.wide (n - 1) Try.prog gf lb (fun x : PX => #[Value.agg x.cells]) (Below w.heap.size) (fun ys => ys = xs) (fun pre => pre <+: xs) N w) :
 CallsIn Fence.wide n Try.prog 94 #[.func (.func gf) #[] lb] w fun e W' => ∃ v, e = .returned v ∧ W'.ownsRow w.heap.size 47 7 v xs.length (rowX xs) ∧ Below w.heap.size w W' := by
 have h1 : 1 ≤ n := by omega
 obtain ⟨i0, hi, hz0, hz1, hz2⟩ := info_parts Try.pkInfo
 refine callsIn_of_wp_marks Try.func94 rfl trivial ?_ rfl
 simp only [Try.ntmps94, List.size_toArray, List.length_cons, List.length_nil, Nat.reduceAdd, Nat.reduceSub, Array.replicate_succ, Array.replicate_zero, List.push_toArray, List.append_toArray, List.nil_append, List.cons_append]
 gi_wp2
 have bO := Boxed.new w 50 (.slice none 0 0)
 have hB0 : Below w.heap.size w (w.alloc (.cells #[.slice none 0 0] 50)) := (Below.refl _ w).alloc (Nat.le_refl _) _
 refine wpIn_rangeFunc_ownH rfl h1 (gf := gf) (lb := lb) rfl trivial eg hseq (fun h k => belowK_t h k) (belowK_b (by simp)) hB0 (fun _ => rfl)
  (fun (pre : List PX) W => (∃ v, Boxed W w.heap.size 50 v ∧ W.ownsRow w.heap.size 47 7 v pre.length (rowX pre) ∧ True) ∧ Below w.heap.size w W)
  (fun _ _ _ => False)
  (OwnFrom.and (Own.from (holdsRow_own w.heap.size w.heap.size 50 47 7 (fun pre : List PX => pre.length) rowX (fun _ _ => True)) _) (ownFrom_below (Nat.le_refl _) (by simp)))
  (fun _ _ _ _ _ hs _ _ => hs)
  ⟨⟨_, bO, World.ownsRow_nil _ _ _ _, trivial⟩, hB0⟩
  (fun x a' W => ∃ g, a' = { tmps := #[.func (.func gf) #[] lb, undef, .slice none 0 0, .pointer (some ⟨w.heap.size, 0, none⟩), .pointer (some ⟨g, 0, none⟩), .func (.func gf) #[] lb, .agg x.cells, undef, undef, undef, undef, undef], defers := [] } ∧ Blk W g 47 x.cells)
  (fun x a' _ X Y row hs hg hr => by
   obtain ⟨g, e, hb⟩ := hs
   exact ⟨g, e, hb.grown hg (fun e' => by obtain ⟨o, ho, hc⟩ := (hr g e'.symm).2; rw [show X.heap[g]? = _ from hb] at ho; cases ho; cases hc)⟩) ?assign ?body ?done ?stop
 case assign =>
  intro l pre x W K hI hK
  have b1 := bl_al (Below.refl W.heap.size W) (.cells #[.int .i64 x.p.kind, .int .u32 x.p.ses, .int .u64 x.p.seq, .int .u64 x.p.lim, .slice x.A x.n x.c, .bool x.p.b.fin, .int .u64 x.p.b.cnt] 47)
  have hb := hI.2
  obtain ⟨⟨v, hv, hrow, _⟩, hB⟩ := hI
  have hbs := hB.size
  gi_wp2
  exact hK _ _ ((KeepsOthers.alloc W _).from _) (b1.mono hbs) ⟨⟨v, hv.alloc _, hrow.alloc _, trivial⟩, hB.trans (b1.mono hbs)⟩ ⟨W.heap.size, rfl, Blk.new _ _ _⟩
 case body =>
  rintro l pre x a' W _ _ ⟨⟨v, hv, hrow, _⟩, hB⟩ ⟨g, rfl, hbx⟩ hlt
  have hc := hv.cell
  have x0 := hbx.cell 0
  have x1 := hbx.cell 1
  have x2 := hbx.cell 2
  have x3 := hbx.cell 3
  have x4 := hbx.cell 4
  have x5 := hbx.cell 5
  have x6 := hbx.cell 6
  simp at x0 x1 x2 x3 x4 x5 x6
  have bT := Blk.new W 47 #[.int .i64 x.p.kind, .int .u32 x.p.ses, .int .u64 x.p.seq, .int .u64 x.p.lim, .slice x.A x.n x.c, .bool x.p.b.fin, .int .u64 x.p.b.cnt]
  have hnew : ∀ (j : Nat) (u : Value), x.cells.toList[j]? = some u → (W.alloc (.cells #[.int .i64 x.p.kind, .int .u32 x.p.ses, .int .u64 x.p.seq, .int .u64 x.p.lim, .slice x.A x.n x.c, .bool x.p.b.fin, .int .u64 x.p.b.cnt] 47)).cell? ((⟨W.heap.size, 0, none⟩ : Addr).add j) = some u := fun j u hu => (by
   have h1 := bT.cell j
   rw [show (⟨W.heap.size, 0, none⟩ : Addr).add j = ⟨W.heap.size, j, none⟩ from by unfold Addr.add; split <;> simp_all]
   rw [h1]; simpa using hu)
  have h1c : ∀ u ∈ x.cells.toList, u.oneCell' = true := fun u hu => by simp at hu; rcases hu with rfl | rfl | rfl | rfl | rfl | rfl | rfl <;> rfl
  gi_wp2_with (gi_at_builtin; refine wpListIn_append_own _ rfl _ _ 50 rfl w.heap.size 47 i0 _ 7 72 Try.underlying50 hi hz0 hz1 hz2 rfl (by decide) _ _ _ rfl (hrow.alloc _) ⟨W.heap.size, 0, none⟩ 1 1 x.cells.toList rfl rfl hnew h1c (by unfold maxLen; omega) (by omega) (by have := hB.size; simp; omega) ?_; intro v' w1 hown' hgrow _; obtain ⟨g', cap', rfl⟩ := ownsRow_succ hown'; obtain ⟨hv1, hv2, hr2, hk2, hb2⟩ := hv.appended (by decide) hrow hB.size (Nat.le_refl _) hown' hgrow; have hc1 := hv1.cell; have hf1 := hv1.frozen)
  exact ⟨hk2.from _, hb2, ⟨_, hv2, by rw [rowX_one, show (pre ++ [x]).length = pre.length + 1 from by simp]; exact hr2⟩, hB.trans hb2⟩
 case done =>
  rintro D ys W hD rfl ⟨⟨v, hv, hrow, _⟩, hB⟩ hK
  have hc := hv.cell
  gi_wp2
  refine ⟨by simp, .inl ⟨_, _, rfl, run_takeDeferred hK, ?_⟩⟩
  exact ⟨_, results_tmp rfl _ _ _, v, rfl, ownsRow_putObj hrow _ hK rfl, hB.trans (belowK_b (w := w) (Nat.le_refl _) W D _ _ (by simp at hD; omega) hK rfl rfl)⟩
 case stop =>
  rintro D c pre W _ _ h _
  exact h.elim
end Go.Proofs.Ytojghgbaiiajfaa
/- What link.Tick tells, in plain Lean; link.data and link.collected together. Conditions: the queue reads as these batches. -/
namespace Go.Proofs.Ytojghgbaiiajfaa
open Go.RowKit Go.Shelf
/-- the packets told -/
def dataP (ses lim above : Int) : Int → List BC → List PK
 | _, [] => []
 | n, x :: l => if lim < n then [] else (if above < n then [⟨1, ses, n, 0, x⟩] else []) ++ dataP ses lim above (n + 1) l
theorem dataX_p (ses lim above : Int) : ∀ (bx : List BX) (n : Int), (dataX ses lim above n bx).map PX.p = dataP ses lim above n (bx.map BX.b)
 | [], _ => rfl
 | x :: l, n => by
  have ih := dataX_p ses lim above l (n + 1)
  unfold dataX
  rw [List.map_cons, dataP]
  split
  · rfl
  · rw [List.map_append, ih]
    split <;> rfl
theorem dataX_mem {ses lim above : Int} : ∀ {bx : List BX} {n : Int} {x : PX}, x ∈ dataX ses lim above n bx → ∃ y ∈ bx, x.p.b = y.b ∧ x.A = y.A ∧ x.n = y.n ∧ x.c = y.c
 | [], _, x, h => by cases h
 | y :: l, n, x, h => by
  unfold dataX at h
  split at h
  · cases h
  · rcases List.mem_append.1 h with h | h
    · split at h
      · simp at h; subst h; exact ⟨y, by simp, rfl, rfl, rfl, rfl⟩
      · cases h
    · obtain ⟨z, hz, r⟩ := dataX_mem h
      exact ⟨z, by simp [hz], r⟩
theorem dataX_le {ses lim above : Int} : ∀ {bx : List BX} {n : Int}, (dataX ses lim above n bx).length ≤ bx.length
 | [], _ => Nat.le_refl _
 | y :: l, n => by
  have ih := dataX_le (ses := ses) (lim := lim) (above := above) (bx := l) (n := n + 1)
  unfold dataX
  split
  · simp
  · rw [List.length_append, List.length_cons]
    split <;> simp <;> omega
/-- each of them reads so -/
def BX.ok (w : World) (F : Nat → Prop) (x : BX) : Prop := x.n ≤ x.c ∧ x.c ≤ 9223372036854775807 ∧ LR.rd w F x.A x.n x.b.rows
theorem LBX_ok {w : World} {F : Nat → Prop} : ∀ {bx : List BX} {cs : List Value}, LBX.reps w F bx cs → ∀ x ∈ bx, BX.ok w F x
 | [], _, _, x, h => by cases h
 | y :: l, _, ⟨ds, es, _, ⟨_, h1, h2, h3⟩, hl⟩, x, h => by
  rcases List.mem_cons.1 h with rfl | h
  · exact ⟨h1, h2, h3⟩
  · exact LBX_ok hl x h
theorem LP7_reps {w : World} {F : Nat → Prop} : ∀ {xs : List PX}, (∀ x ∈ xs, x.n ≤ x.c ∧ x.c ≤ 9223372036854775807 ∧ LR.rd w F x.A x.n x.p.b.rows) → LP7.reps w F (xs.map PX.p) (rowX xs)
 | [], _ => rfl
 | x :: l, h => ⟨x.cells.toList, rowX l, by unfold rowX; simp, ⟨x.A, x.n, x.c, rfl, h x (by simp)⟩, LP7_reps (fun y hy => h y (by simp [hy]))⟩
theorem LP7_at2 {w : World} {F : Nat → Prop} {A : Option Addr} {n i : Nat} {xs : List PK} (h : LP7.rd w F A n xs) (hi : i < n) : ∃ ad p, A = some ad ∧ xs[i]? = some p ∧ w.cell? ⟨(ad.add (i * 7)).block, (ad.add (i * 7)).off + 2, none⟩ = some (.int .u64 p.seq) := by
 obtain ⟨ad, b, cs, e, hx, _, _, ⟨B, k, c, rfl, h1, h2, hr⟩, hc⟩ := Lay.rd_at h hi
 refine ⟨ad, b, e, hx, ?_⟩
 rw [← addr_more _ _ 2 (by omega)]; exact hc 2 _ rfl
theorem LBX_own {e : TypeId} {w : World} {B : Nat} {G : Nat → Prop} {A : Option Addr} {n c : Nat} {xs : List BC} (h : LB3.own e w B G A n c xs) : ∃ bx : List BX, bx.map BX.b = xs ∧ LBX.own e w B G A n c bx ∧ ∀ x ∈ bx, BX.ok w G x := by
 obtain ⟨hl, cs, hr, hc⟩ := h
 obtain ⟨bx, hb, hr'⟩ := LBX_reps hr
 exact ⟨bx, hb, ⟨by rw [← hb, List.length_map] at hl; exact hl, cs, hr', hc⟩, LBX_ok (Lay.reps_weak (fun b h _ => h.1) hr')⟩
def underS (s : SC) : Bool := decide (s.base ≤ s.sent)
def againS (s : SC) : Bool := underS s && s.timer == 2
def aboveS (s : SC) : Int := if againS s then 0 else s.sent
def outP (s : SC) : List PK := dataP s.ses s.lim (aboveS s) s.base s.q
def sentS (s : SC) : Int := match (outP s).getLast? with | none => s.sent | some x => max s.sent x.seq
def tickR (s : SC) : SC := ⟨s.ses, s.base, s.q, sentS s, s.lim, if againS s || !underS s then 0 else s.timer + 1, s.ended⟩
/-- the variable that it fills -/
def TickY (p : Nat) (w0 : World) (Fr : Nat → Prop) (out : List PK) (w' : World) : Prop := ∃ A n c, Blk w' p 50 #[.slice A n c] ∧ LP7.own 47 w' (w0.heap.size + 2) Fr A n c out
set_option maxRecDepth 100000 in
theorem data_any (cs : Array Value) (above : Int) (w : World) :
 Calls Try.prog 95 #[.agg cs, .int .u64 above] w fun e w' => e = .returned (.func (.func 113) #[] #[.pointer (some ⟨w.heap.size, 0, none⟩), .pointer (some ⟨w.heap.size + 1, 0, none⟩)]) ∧ w' = (w.alloc (.cells cs 29)).alloc (.cells #[.int .u64 above] 26) := by
 go_enter Try.func95, Try.ntmps95
 go_wp2
 go_ret
 exact ⟨rfl, rfl⟩
theorem told_any (Bs Bu : Nat) (A : Option Addr) (m c : Nat) (bx : List BX) (ses base sent lim timer above : Int) (ended : Bool) (w : World) (hm : m ≤ 8) (hb0 : 1 ≤ base) (hb1 : base ≤ 1099511627776)
 (hBs : Blk w Bs 29 #[.int .u32 ses, .int .u64 base, .slice A m c, .int .u64 sent, .int .u64 lim, .int .i64 timer, .bool ended]) (hBs' : Bs < w.heap.size) (hBu : Blk w Bu 26 #[.int .u64 above]) (hBu' : Bu < w.heap.size) (h : LBX.rd w (fun b => b < w.heap.size) A m bx) :
 Calls Try.prog 94 #[.func (.func 113) #[] #[.pointer (some ⟨Bs, 0, none⟩), .pointer (some ⟨Bu, 0, none⟩)]] w fun e w' => ∃ v, e = .returned v ∧ w'.ownsRow w.heap.size 47 7 v (dataX ses lim above base bx).length (rowX (dataX ses lim above base bx)) ∧ Below w.heap.size w w' := by
 have hseq : SeqStopsK Fence.wide 2 Try.prog 113 #[.pointer (some ⟨Bs, 0, none⟩), .pointer (some ⟨Bu, 0, none⟩)] (fun x : PX => #[Value.agg x.cells]) (Below w.heap.size) (fun ys => ys = dataX ses lim above base bx) (fun pre => pre <+: dataX ses lim above base bx) m w := by
  intro l J Jx W hW hJ hJx hY h0
  exact data1_in 2 (by omega) l Bs Bu w.heap.size A m c bx ses base sent lim timer above ended J Jx W hJ hm hb0 hb1 hY hW.size (hBs.below hW hBs') hBs' (hBu.below hW hBu') hBu' (Lay.rd_keep (fun b hb hlt => hW.block b hb) h) h0
 exact callsIn_wide.1 (collected_in 3 (by omega) 113 #[.pointer (some ⟨Bs, 0, none⟩), .pointer (some ⟨Bu, 0, none⟩)] _ m w (by omega) (Go.Proofs.enters_of Try.func113 (by kernel_rfl) rfl) hseq)
end Go.Proofs.Ytojghgbaiiajfaa
/- link.Put$1, link.Put. Conditions: the queue reads as these batches, the rows as these. -/
namespace Go.Proofs.Ytojghgbaiiajfaa
open Go.RowKit
def put1E (s : SC) (rows : List (List VV)) : Int := if rowsOk rows then putE s else 321
def noX : Nat → Prop := fun _ => False
def noY : World → Prop := fun _ => True
set_option maxRecDepth 100000 in
set_option maxHeartbeats 16000000 in
theorem put1_do (s : SC) (rows : List (List VV)) (p : Nat) (rA : Option Addr) (rn rc : Nat) (w0 : World) (Fr : Nat → Prop) (hFr : ∀ k, Fr k → k < w0.heap.size) (hp : Blk w0 p 43 #[.slice rA rn rc]) (hr : LR.rd w0 Fr rA rn rows) (hn : rn ≤ 9223372036854775807) :
 DoS 97 #[.pointer (some ⟨p, 0, none⟩)] w0 Fr s (put1E s rows) (putR s ⟨rows, false, 0⟩) noX noY := by
 intro hok w g B A n c hB hg hgB hBs hN ho
 have hlen := sendB_len hok
 have HL := Lay.own_len ho
 have HFR := Lib.hid hFr
 clear hFr
 have HP := Lib.hid (hp.ca hB)
 have HR := Lib.hid (Lay.rd_below hr hB)
 have HO := Lib.hid ho
 have HN := Lib.hid hN
 have HRL := Lib.hid (Lay.rd_len hr)
 have x0 : w.cell? ⟨p, 0, none⟩ = some (.slice rA rn rc) := HP.out.cell 0
 have HRW := Lib.hid (rows_any _ rA rn rc rows w HR.out hn)
 obtain ⟨E, hE⟩ : ∃ E, E = put1E s rows := ⟨_, rfl⟩
 rw [← hE]
 have HE := Lib.hid (show E = if rowsOk rows then putE s else 321 from hE)
 have HLN := Lib.hid HL
 clear hp hr ho hN hE hok HL
 show Calls Try.prog 97 #[.pointer (some ⟨g, 0, none⟩), .pointer (some ⟨p, 0, none⟩)] w _
 by_cases hrw : rowsOk rows = true
 · rw [hrw] at HRW
   rw [hrw, if_pos rfl] at HE
   have hr4 : rn ≤ 4 := by
    have := HRL.out
    unfold rowsOk at hrw
    simp only [Bool.and_eq_true, decide_eq_true_eq] at hrw
    omega
   clear hrw
   go_enter Try.func97, Try.ntmps97
   go_wp2_with fail
   refine HRW.out.mono ?_
   rintro e w2 ⟨rfl, q2⟩
   have hs2 := q2.size
   have HP2 := Lib.hid (HP.out.ca q2)
   have HN2 := Lib.hid (HN.out.ca q2)
   have HO2 := Lib.hid (Lay.own_below HO.out q2)
   have HR2 := Lib.hid (Lay.rd_below HR.out q2)
   have HQ2 := Lib.hid q2
   have HOB := Lib.hid (Lay.own_base HO.out)
   clear x0 HRW HP HN HO HR q2
   have x0 : w2.cell? ⟨p, 0, none⟩ = some (.slice rA rn rc) := HP2.out.cell 0
   have HCL := Lib.hid (cloneR _ rA rn rc rows w2 HR2.out (by omega))
   go_wp2_with fail
   refine HCL.out.mono ?_
   rintro e w3 ⟨rA', rc', rfl, ho3, q3⟩
   have hs3 := q3.size
   have hob := HOB.out
   have hcap := Lay.own_caps ho3
   have HPU := Lib.hid (puts_any s g A n c B ⟨rows, false, 0⟩ rA' rn rc' (fun k => k < w3.heap.size ∧ (Fr k ∨ B ≤ k)) w3 (HN2.out.ca q3)
    (Lay.own_weak (fun k hk hl => ⟨hl, .inl hk⟩) (Lay.own_below HO2.out q3)) hgB (by omega) (fun k h => h.1) (fun k h => by rintro rfl; exact h.2.elim (fun h => by have := HFR.out _ h; omega) (fun h => by omega))
    (Lay.own_rd ho3 (fun b hb hl => ⟨⟨hl, .inr (by omega)⟩, fun e => by have := (hob b e).2; omega⟩) (fun b hb hl => ⟨⟨hl, .inl hb.1⟩, fun e => by have := (hob b e).1; have := HFR.out b hb.1; omega⟩)) hcap.1 hcap.2 hlen.2.1 (by omega) (by have := HLN.out; omega))
   rw [← HE.out] at HPU
   have HB3 := Lib.hid (bl_ca HQ2.out q3)
   clear x0 HCL HP2 HN2 HO2 HR2 HQ2 ho3 q3 hob hcap
   go_wp2_with fail
   refine HPU.out.mono ?_
   rintro e w4 hpc
   rcases hpc with ⟨hE, rfl, q4⟩ | ⟨hE, rfl, A2, c2, hb4, ho4, hc4⟩
   · have HB4 := Lib.hid (bl_ca HB3.out q4)
     have HEN := Lib.hid hE
     clear HPU hE q4
     go_wp2
     go_ret
     exact ⟨rfl, Chg.of_below HB4.out, trivial, fun h => absurd h HEN.out⟩
   · have HC4 := Lib.hid hc4
     have HB4 := Lib.hid hb4
     have HO4 := Lib.hid ho4
     have HEN := Lib.hid hE
     clear HPU hE hc4 hb4 ho4
     go_wp2
     go_ret
     refine ⟨by rw [HEN.out]; rfl, (Chg.of_below HB3.out).trans (HC4.out.weak (fun b _ h => ?_)), trivial, fun _ => ⟨A2, n + 1, c2, HB4.out, Lay.own_weak (fun k hk _ => ⟨Nat.lt_of_lt_of_le hk.1 HC4.out.size, hk.2⟩) HO4.out⟩⟩
     rcases h with h | h
     · exact .inl h
     · exact .inr (.inl h)
 · have hf : rowsOk rows = false := by simpa using hrw
   rw [hf] at HRW
   rw [hf] at HE
   have HE2 := Lib.hid (show E = 321 from HE.out)
   clear hrw hf HE
   go_enter Try.func97, Try.ntmps97
   go_wp2_with fail
   refine HRW.out.mono ?_
   rintro e w2 ⟨rfl, q2⟩
   have HB2 := Lib.hid q2
   clear x0 q2 HRW
   go_wp2
   go_ret
   exact ⟨by rw [HE2.out]; rfl, Chg.of_below HB2.out, trivial, fun h => absurd (HE2.out.symm.trans h) (by decide)⟩
/-- what link.sends answers, with the answer's parts -/
def SendsO (Fr : Nat → Prop) (s : SC) (E : Int) (s2 : SC) (X : Nat → Prop) (Y : World → Prop) (w : World) (C : Array Value) (N : Int) (w' : World) : Prop :=
 if sendB s then Chg X w w' ∧ Y w' ∧ ((E ≠ 0 ∧ C = zeroS.cells none 0 0 ∧ N = E) ∨ (E = 0 ∧ N = 0 ∧ ∃ A2 n2 c2, C = s2.cells A2 n2 c2 ∧ LB3.own 45 w' w.heap.size (fun k => k < w'.heap.size ∧ (Fr k ∨ w.heap.size + 2 ≤ k)) A2 n2 c2 s2.q))
 else C = zeroS.cells none 0 0 ∧ N = 320 ∧ Below w.heap.size w w'
theorem sends_o {Fr : Nat → Prop} {s : SC} {E : Int} {s2 : SC} {X : Nat → Prop} {Y : World → Prop} {w w' : World} {e : Ending} (h : SendsC Fr s E s2 X Y w e w') : ∃ (t : SC) (A : Option Addr) (n c : Nat) (N : Int), e = .returned (.tuple #[.agg (t.cells A n c), .int .i64 N]) ∧ SendsO Fr s E s2 X Y w (t.cells A n c) N w' := by
 unfold SendsC at h
 cases hs : sendB s
 · rw [hs] at h
   refine ⟨zeroS, none, 0, 0, 320, h.1, ?_⟩
   unfold SendsO
   rw [hs]
   exact ⟨rfl, rfl, h.2⟩
 · rw [hs] at h
   obtain ⟨h1, h2, h3, h4⟩ := h
   by_cases hE : E = 0
   · obtain ⟨A2, n2, c2, he, ho⟩ := h4 hE
     refine ⟨s2, A2, n2, c2, 0, he, ?_⟩
     unfold SendsO
     rw [hs]
     exact ⟨h1, h2, .inr ⟨hE, rfl, A2, n2, c2, rfl, ho⟩⟩
   · refine ⟨zeroS, none, 0, 0, E, h3 hE, ?_⟩
     unfold SendsO
     rw [hs]
     exact ⟨h1, h2, .inl ⟨hE, rfl, rfl⟩⟩
/-- the caller has laid blocks of its own and stores the answer into one of them -/
theorem SendsO.out {Fr : Nat → Prop} {s : SC} {E : Int} {s2 : SC} {X X' : Nat → Prop} {Y : World → Prop} {w w1 w2 w3 : World} {C : Array Value} {N : Int} {k : Nat} (h : SendsO Fr s E s2 X Y w1 C N w2) (b1 : Below w.heap.size w w1) (gz : w2.grownBy w3 (some k))
 (hFr : ∀ b, Fr b → b < k) (hk : w.heap.size ≤ k) (hk1 : k < w1.heap.size) (h2 : w.heap.size + 2 ≤ w1.heap.size) (hX : ∀ b, X b → b < w.heap.size → X' b) (hY : ∀ w1 w2, Y w1 → w1.grownBy w2 (some k) → Y w2) : SendsO Fr s E s2 X' Y w C N w3 := by
 unfold SendsO at h ⊢
 cases hs : sendB s
 · rw [hs] at h
   exact ⟨h.1, h.2.1, bl_gr (bl_ca b1 (h.2.2)) gz hk⟩
 · rw [hs] at h
   obtain ⟨hc, hy, h3⟩ := h
   have hs1 := b1.size
   have hC : Chg X' w w2 := ⟨hc.os.trans b1.os, hc.tape.trans b1.tape, hc.output.trans b1.output, Nat.le_trans hs1 hc.size, fun b hb hx => (hc.block b (by omega) (fun h => hx (hX b h hb))).trans (b1.block b hb)⟩
   refine ⟨hC.grown gz (fun j e => .inr (by injection e with e; omega)), hY _ _ hy gz, ?_⟩
   rcases h3 with h3 | ⟨hE, hN, A2, n2, c2, hC2, ho⟩
   · exact .inl h3
   · refine .inr ⟨hE, hN, A2, n2, c2, hC2, ?_⟩
     have hob := Lay.own_base ho
     exact Lay.own_lessB (Lay.own_weak (fun j hj _ => ⟨Nat.lt_of_lt_of_le hj.1 gz.size, by rcases hj.2 with h | h; exact .inl h; exact .inr (by omega)⟩) (Lay.own_same ho (fun j e => gz.block j (hob j e).2 (fun e2 => by injection e2 with e2; have := (hob j e).1; omega)) (fun b hb _ hl => gz.block b hl (fun e2 => by injection e2 with e2; exact hb.2.elim (fun h => by have := hFr b h; omega) (fun h => by omega))))) hs1
theorem SendsO.blk {Fr : Nat → Prop} {s : SC} {E : Int} {s2 : SC} {X : Nat → Prop} {Y : World → Prop} {w w' : World} {C : Array Value} {N : Int} {g : Nat} {t : TypeId} {cs : Array Value} (h : SendsO Fr s E s2 X Y w C N w') (hb : Blk w g t cs) (hx : ¬ X g) : Blk w' g t cs := by
 unfold SendsO at h
 cases hs : sendB s
 · rw [hs] at h
   exact hb.ca h.2.2
 · rw [hs] at h
   exact hb.chg h.1 hx
set_option maxRecDepth 100000 in
set_option maxHeartbeats 16000000 in
theorem put_any (Fr : Nat → Prop) (s : SC) (A : Option Addr) (n c : Nat) (rows : List (List VV)) (rA : Option Addr) (rn rc : Nat) (w : World) (hFr : ∀ k, Fr k → k < w.heap.size) (h : LB3.rd w Fr A n s.q) (hr : LR.rd w Fr rA rn rows) (hn : n ≤ 9223372036854775807) (hrn : rn ≤ 9223372036854775807) (h0 : 0 ≤ s.base) :
 Calls Try.prog 47 #[.agg (s.cells A n c), .slice rA rn rc] w fun e w' => ∃ (t : SC) (A' : Option Addr) (n' c' : Nat) (N : Int), e = .returned (.tuple #[.agg (t.cells A' n' c'), .int .i64 N]) ∧ SendsO Fr s (put1E s rows) (putR s ⟨rows, false, 0⟩) noX noY w (t.cells A' n' c') N w' := by
 have q1 := bl_al (Below.refl w.heap.size w) (.cells (s.cells A n c) 29)
 have q2 := bl_al (Below.refl (w.alloc (.cells (s.cells A n c) 29)).heap.size (w.alloc (.cells (s.cells A n c) 29))) (.cells #[.slice rA rn rc] 43)
 have q12 := bl_ca q1 q2
 have hsz2 : ((w.alloc (.cells (s.cells A n c) 29)).alloc (.cells #[.slice rA rn rc] 43)).heap.size = w.heap.size + 2 := by simp only [World.size_alloc]
 have HS2 := (Blk.new w 29 (s.cells A n c)).ca q2
 have HP2 : Blk ((w.alloc (.cells (s.cells A n c) 29)).alloc (.cells #[.slice rA rn rc] 43)) (w.heap.size + 1) 43 #[.slice rA rn rc] := Blk.mk' (by simp only [World.size_alloc])
 generalize hw2 : (w.alloc (.cells (s.cells A n c) 29)).alloc (.cells #[.slice rA rn rc] 43) = w2 at *
 have q3 := bl_al (Below.refl w2.heap.size w2) (.cells (zeroS.cells none 0 0) 29)
 have HZ := Lib.hid (show Blk (w2.alloc (.cells (zeroS.cells none 0 0) 29)) (w.heap.size + 2) 29 (zeroS.cells none 0 0) from by rw [← hsz2]; exact Blk.new _ _ _)
 have HB := Lib.hid (bl_ca q12 q3)
 have hsz : (w2.alloc (.cells (zeroS.cells none 0 0) 29)).heap.size = w.heap.size + 3 := by simp only [World.size_alloc]; omega
 have HSE := Lib.hid (sends_any Fr s A n c 97 #[.pointer (some ⟨w.heap.size + 1, 0, none⟩)] (put1E s rows) (putR s ⟨rows, false, 0⟩) noX noY _ (Lay.rd_below (Lay.rd_below h q12) q3) (fun k h => by have := hFr k h; omega) hn h0 (Go.Proofs.enters_of Try.func97 (by kernel_rfl) rfl)
  (put1_do s rows (w.heap.size + 1) rA rn rc _ Fr (fun k h => by have := hFr k h; omega) (HP2.ca q3) (Lay.rd_below (Lay.rd_below hr q12) q3) hrn) (fun k h => h.elim) (fun _ _ h _ => h))
 have HS := Lib.hid (HS2.ca q3)
 subst hw2
 clear h hr q1 q2 q12 q3 HS2 HP2 hsz2
 go_enter Try.func47, Try.ntmps47
 go_wp2_with (refine wpList_load_blk rfl 29 (.tmp 2) rfl w.heap.size rfl 29 _ (s.cells A n c) HS.out rfl rfl senderI ?_)
 refine HSE.out.mono ?_
 clear HSE
 rintro e w4 h4
 obtain ⟨t, A', n', c', N, rfl, ho⟩ := sends_o h4
 have HZ4 := Lib.hid (ho.blk HZ.out (fun h => h))
 have HO := Lib.hid ho
 clear h4 ho HS HZ
 go_wp2_with (refine wpList_store_blk rfl 29 (.tmp 4) (.tmp 9) rfl (w.heap.size + 2) 29 _ (t.cells A' n' c') rfl rfl HZ4.out rfl senderI (by obtain ⟨s1, s2, s3, s4, s5, s6, s7⟩ := t; simp [Value.oneCell', SC.cells]) ?_; intro wz hZ gz)
 exact bodyPost_ret (res2 Try.results47 rfl rfl hZ Try.underlying29 rfl senderI) rfl ⟨t, A', n', c', N, rfl, HO.out.out HB.out gz (fun k h => by have := hFr k h; omega) (by omega) (by omega) (by omega) (fun b h _ => h.elim) (fun _ _ h _ => h)⟩
end Go.Proofs.Ytojghgbaiiajfaa
