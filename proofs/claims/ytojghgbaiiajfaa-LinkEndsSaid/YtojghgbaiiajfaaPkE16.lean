/- link.Take's heart. Conditions: the rows read as these batches; the receiver may be. -/
import Derived.Test.YtojghgbaiiajfaaPkE15
import Derived.RangeFuncNested
import Derived.RangeFuncBound
import Derived.RangeFuncCalls
import Derived.RangeFuncLeaves
import Derived.RangeFuncBox
import Derived.Shelf.Abstract
import Derived.Shelf.RegionOpen
import Derived.WalkKit
import Derived.OwnWalkIn
import Derived.TacticsInMore
import Derived.LoopNIn
import Derived.LoopIn
import Derived.Maps.AppendAt
import Derived.Lib.Hide
namespace Go.Proofs.Ytojghgbaiiajfaa
open Go.RowKit
theorem batchI2 : (Try.prog.info? 45).map (·.size) = some 3 := by kernel_rfl
theorem LB3_own_at {e : TypeId} {w : World} {B ga n c i : Nat} {G : Nat → Prop} {xs : List BC} {x : BC} (h : LB3.own e w B G (some ⟨ga, 0, none⟩) n c xs) (hx : xs[i]? = some x) :
 ∃ Bx kx kc, w.cell? ⟨ga, i * 3, none⟩ = some (.slice Bx kx kc) ∧ w.cell? ⟨ga, i * 3 + 1, none⟩ = some (.bool x.fin) ∧ w.cell? ⟨ga, i * 3 + 2, none⟩ = some (.int .u64 x.cnt) ∧ kx ≤ kc ∧ kc ≤ 9223372036854775807 ∧ LR.rd w G Bx kx x.rows := by
 obtain ⟨_, cs, hreps, hrow⟩ := h
 obtain ⟨ds, ⟨Bx, kx, kc, rfl, h1, h2, hr⟩, hd⟩ := Lay.reps_at hreps hx
 have hc : ∀ j u, ([.slice Bx kx kc, .bool x.fin, .int .u64 x.cnt] : List Value)[j]? = some u → w.cell? ⟨ga, i * 3 + j, none⟩ = some u := fun j u hu => by
  have := hrow.cells (g := ga) rfl _ u (hd j u hu)
  rw [addr_zero] at this
  exact this
 exact ⟨Bx, kx, kc, hc 0 _ rfl, hc 1 _ rfl, hc 2 _ rfl, h1, h2, Lay.rd_weak (fun b hb _ => hb.1) hr⟩
theorem gr_none {w w' : World} {row : Option Nat} (h : w.grownBy w' none) : w.grownBy w' row := ⟨h.os, h.tape, h.output, h.size, fun k hk _ => h.block k hk (fun e => by cases e)⟩
theorem SeqN.two0 {k1 k2 : Nat} {B : Nat → (Nat → Value) → World → Prop} {L : Array Bool} {m : Nat → Value} {w : World} {md : Region.Mode} {ops : Array Oper} (hsh : Shut md ops L) (h1 : Dn L k1 = false) (hr : ([k2].all fun x => reach md ops ops.size x k1) = true) (hS : SeqN [k1, k2] B L m w) : B 0 m w := by
 have hn := post_no hsh h1 hr
 unfold SeqN cntD at hS
 rw [h1, cntD_none hn] at hS
 exact hS
def zeroB : BC := ⟨[], false, 0⟩
def takB (r : RC) : BC := match r.buf with | [] => zeroB | b :: _ => b
def takE (r : RC) : Int := match r.buf with | [] => 4 | _ :: _ => 0
def takR (r : RC) : RC := match r.buf with | [] => zeroR | b :: l => ⟨r.ses, r.next, r.ahead, l, r.room, b.fin⟩
def TakY (gb : Nat) (Fr : Nat → Prop) (b : BC) (w : World) : Prop := ∃ Bx kx kc, Blk w gb 45 #[.slice Bx kx kc, .bool b.fin, .int .u64 b.cnt] ∧ kx ≤ kc ∧ kc ≤ 9223372036854775807 ∧ LR.rd w Fr Bx kx b.rows
set_option maxRecDepth 100000 in
set_option maxHeartbeats 64000000 in
theorem take1_do (r : RC) (gb : Nat) (w0 : World) (Fr : Nat → Prop) (hFr : ∀ k, Fr k → k < w0.heap.size) (hFg : ∀ k, Fr k → k ≠ gb) (hp : Blk w0 gb 45 #[.slice none 0 0, .bool false, .int .u64 0]) :
 DoR 84 #[.pointer (some ⟨gb, 0, none⟩)] w0 Fr r (takE r) (takR r) (fun k => k = gb) (TakY gb Fr (takB r)) := by
 intro hok w g B A n c A2 m d hB hg hgB hBs hN ho ho2 hne
 show Calls Try.prog 84 #[.pointer (some ⟨g, 0, none⟩), .pointer (some ⟨gb, 0, none⟩)] w _
 have hpl := hp.lt
 have hpw := hB.size
 have HP := Lib.hid (hp.ca hB)
 have HO := Lib.hid ho
 have HO2 := Lib.hid ho2
 have HN := Lib.hid hN
 have HFR := Lib.hid hFr
 have HFG := Lib.hid hFg
 have hlen := recB_len hok
 have hml := Lay.own_len ho2
 have hcapA := Lay.own_caps ho
 have hcapB := Lay.own_caps ho2
 clear hp hN ho ho2 hne hB hFr hok hFg
 obtain ⟨ses, next, ahead, buf, room, over⟩ := r
 dsimp only at *
 have x3 := HN.out.cell 3
 cases buf with
 | nil =>
  obtain rfl : m = 0 := by rw [← hml]; rfl
  go_enter Try.func84, Try.ntmps84
  go_wp2
  go_ret
  exact ⟨rfl, Chg.refl _ _, ⟨none, 0, 0, HP.out, by omega, by omega, Lay.rd_nil _⟩, fun e => by unfold takE at e; simp at e⟩
 | cons b l =>
  have hm1 : 1 ≤ m := by rw [← hml]; simp
  have hmz : ¬ (m = 0) := by omega
  have hmz2 : ¬ ((m : Int) = 0) := by omega
  obtain ⟨ga, rfl, hgb, hgl⟩ := own_some HO2.out (by omega)
  obtain ⟨Bx, kx, kc, e0, e1, e2, hk1, hk2, hxr⟩ := LB3_own_at (i := 0) HO2.out rfl
  simp only [Nat.zero_mul, Nat.zero_add] at e0 e1 e2
  have HXR := Lib.hid hxr
  clear hxr
  have hi0 : (0 : Int) < (m : Int) := by omega
  have hi1 : 0 < m := by omega
  go_enter Try.func84, Try.ntmps84
  go_upto_region 4 with (first | (refine wpList_store_blk rfl 45 (.tmp 1) (.tmp 15) rfl gb 45 #[.slice none 0 0, .bool false, .int .u64 0] #[.slice Bx kx kc, .bool b.fin, .int .u64 b.cnt] rfl rfl HP.out rfl batchI2 (by simp [Value.oneCell']) ?_; intro w1 h1 g1; have HP1 := Lib.hid h1; have HG1 := Lib.hid g1; clear h1 g1))
  have HN1 := Lib.hid (HN.out.apart HG1.out (by omega))
  have HO1 := Lib.hid (own_grownF HO.out HG1.out (by omega) HFG.out)
  have HO21 := Lib.hid (own_grownF HO2.out HG1.out (by omega) HFG.out)
  have HXR1 := Lib.hid (rd_grownH HXR.out HG1.out HFG.out)
  have hs1 := HG1.out.size
  have HGB := Lib.hid (show Chg (fun k => k = g ∨ (Value.slice A n c).ownBlock = some k ∨ (Value.slice (some ⟨ga, 0, none⟩) m d).ownBlock = some k ∨ k = gb) w w1 from (Chg.refl _ _).grown HG1.out (fun k e => .inl (by injection e with e; exact .inr (.inr (.inr e.symm)))))
  clear e0 e1 e2 x3 HN HO HO2 HP HXR HG1
  by_cases hd1 : d = 1
  · subst hd1
    obtain rfl : m = 1 := by omega
    refine wp_region_ps (S := SeqN [11, 14] (fun z _ w' => match z with | 0 => w1.grownBy w' none | 1 => w1.grownBy w' (some g) ∧ Blk w' g 36 #[.int .u32 ses, .int .u64 next, .slice A n c, .slice (some ⟨ga, 0, none⟩) 0 0, .int .i64 room, .bool over] | _ => w1.grownBy w' (some g) ∧ Blk w' g 36 #[.int .u32 ses, .int .u64 next, .slice A n c, .slice (some ⟨ga, 0, none⟩) 0 0, .int .i64 room, .bool b.fin])) (by kernel_rfl) ?spswg1 ?ppswg1
    case spswg1 =>
     exact SeqN.start (by decide) (only_drew (World.grownBy.refl _ _))
    refine Pz 0 (some 16) (.pointer (some ⟨g, 0, none⟩)) rfl rfl (by exact StepS.pure (SeqN.pass (by decide)) rfl fun _ => rfl) ?_
    try simp only [Act.put, sA, sZ, sS]
    refine Pz 1 (some 17) (.pointer (some ⟨g, 0, none⟩)) rfl rfl (by exact StepS.pure (SeqN.pass (by decide)) rfl fun _ => rfl) ?_
    try simp only [Act.put, sA, sZ, sS]
    refine Pz 2 (some 18) (.pointer (some ⟨g, 0, none⟩)) rfl rfl (by exact StepS.pure (SeqN.pass (by decide)) rfl fun _ => rfl) ?_
    try simp only [Act.put, sA, sZ, sS]
    refine Pz 3 (some 19) (.pointer (some ⟨g, 0, none⟩)) rfl rfl (by exact StepS.pure (SeqN.pass (by decide)) rfl fun _ => by first | rfl | (go_simp; done) | (go_simp; rfl)) ?_
    try simp only [Act.put, sA, sZ, sS]
    refine Pz 4 (some 20) (.pointer (some ⟨g, 3, none⟩)) rfl rfl (by exact StepS.pure (SeqN.pass (by decide)) rfl fun _ => rfl) ?_
    try simp only [Act.put, sA, sZ, sS]
    refine Pz 5 (some 21) (.slice (some ⟨ga, 0, none⟩) 1 1) rfl rfl ?ywg1_7 ?rwg1_7
    case ywg1_7 =>
     refine StepS.read [] (by kernel_rfl) (SeqN.pass (by decide)) (by rfl) (fun L9 m9 w9 hSh hAt hDn hS => ?_)
     have hT : w1.grownBy w9 none := SeqN.two0 hSh (reach_no hSh (f := 17) (j := 11) (by kernel_rfl) hDn) (by kernel_rfl) hS
     have x0 : w9.cell? ⟨g, 3, none⟩ = some (.slice (some ⟨ga, 0, none⟩) 1 1) := (HN1.out.grown hT (by simp)).cell 3
     clear hT hS
     go_simp
     try rfl
    try simp only [Act.put, sA, sZ, sS]
    refine Pz 6 (some 22) (.slice (some ⟨ga, 0, none⟩) 0 0) rfl rfl (by exact StepS.pure (SeqN.pass (by decide)) rfl fun _ => by first | rfl | (go_simp; done) | (go_simp; rfl)) ?_
    try simp only [Act.put, sA, sZ, sS]
    refine Pz 7 (some 23) (.pointer (some ⟨gb, 1, none⟩)) rfl rfl (by exact StepS.pure (SeqN.pass (by decide)) rfl fun _ => rfl) ?_
    try simp only [Act.put, sA, sZ, sS]
    refine Pz 8 (some 24) (.bool (b.fin)) rfl rfl ?ywg1_10 ?rwg1_10
    case ywg1_10 =>
     refine StepS.read [] (by kernel_rfl) (SeqN.pass (by decide)) (by rfl) (fun L9 m9 w9 hSh hAt hDn hS => ?_)
     have hT : Blk w9 gb 45 #[.slice Bx kx kc, .bool b.fin, .int .u64 b.cnt] := SeqN.any (T := fun w9 => Blk w9 gb 45 #[.slice Bx kx kc, .bool b.fin, .int .u64 b.cnt]) (fun z _ _ h => by match z, h with | 0, h => exact HP1.out.grown h (by simp) | 1, h => exact HP1.out.apart h.1 (by omega) | _ + 2, h => exact HP1.out.apart h.1 (by omega)) hS
     have x1 := hT.cell 1
     clear hT hS
     go_simp
     try rfl
    try simp only [Act.put, sA, sZ, sS]
    refine Pz 9 (some 25) (.pointer (some ⟨g, 0, none⟩)) rfl rfl (by exact StepS.pure (SeqN.pass (by decide)) rfl fun _ => by first | rfl | (go_simp; done) | (go_simp; rfl)) ?_
    try simp only [Act.put, sA, sZ, sS]
    refine Pz 10 (some 26) (.pointer (some ⟨g, 3, none⟩)) rfl rfl (by exact StepS.pure (SeqN.pass (by decide)) rfl fun _ => rfl) ?_
    try simp only [Act.put, sA, sZ, sS]
    refine Pz 11 none undef rfl rfl ?ywg1_13 ?rwg1_13
    case ywg1_13 =>
     refine StepS.store [] (by kernel_rfl) (by rfl) (fun L9 m9 w9 hSh hAt hDn hS => ?_)
     have hT := SeqN.at_ (m0 := m9) (m1 := m9) [] [14] hSh (fun d hd => by cases hd) hDn (by kernel_rfl) hS
     have hN := HN1.out.grown hT (by simp)
     have hgr : w1.grownBy w9 (some g) := gr_none hT
     have hN2 : Blk (w9.setCell ⟨g, 3, none⟩ (.slice (some ⟨ga, 0, none⟩) 0 0)) g 36 #[.int .u32 ses, .int .u64 next, .slice A n c, .slice (some ⟨ga, 0, none⟩) 0 0, .int .i64 room, .bool over] := by simpa using hN.set_ 3 (.slice (some ⟨ga, 0, none⟩) 0 0)
     have x2 := hN.cell 3
     have fx := hN.frozen 3
     refine ⟨w9.setCell ⟨g, 3, none⟩ (.slice (some ⟨ga, 0, none⟩) 0 0), ?_, SeqN.set_ (m0 := m9) (m1 := m9) [] [14] hSh (fun d hd => by cases hd) hDn (by kernel_rfl) (by decide) (by decide) ⟨only_setCell hgr (.inl rfl) _, hN2⟩⟩
     clear hT hS hN hN2 hgr
     go_simp
    try simp only [Act.put]
    refine Pz 12 (some 27) (.pointer (some ⟨g, 0, none⟩)) rfl rfl (by exact StepS.pure (SeqN.pass (by decide)) rfl fun _ => by first | rfl | (go_simp; done) | (go_simp; rfl)) ?_
    try simp only [Act.put, sA, sZ, sS]
    refine Pz 13 (some 28) (.pointer (some ⟨g, 5, none⟩)) rfl rfl (by exact StepS.pure (SeqN.pass (by decide)) rfl fun _ => rfl) ?_
    try simp only [Act.put, sA, sZ, sS]
    refine Pz 14 none undef rfl rfl ?ywg1_16 ?rwg1_16
    case ywg1_16 =>
     refine StepS.store [11] (by kernel_rfl) (by rfl) (fun L9 m9 w9 hSh hAt hDn hS => ?_)
     have hT := SeqN.at_ [11] [] hSh hAt hDn (by kernel_rfl) hS
     obtain ⟨hgr, hN⟩ := hT
     have hN2 : Blk (w9.setCell ⟨g, 5, none⟩ (.bool b.fin)) g 36 #[.int .u32 ses, .int .u64 next, .slice A n c, .slice (some ⟨ga, 0, none⟩) 0 0, .int .i64 room, .bool b.fin] := by simpa using hN.set_ 5 (.bool b.fin)
     have x2 := hN.cell 5
     have fx := hN.frozen 5
     refine ⟨w9.setCell ⟨g, 5, none⟩ (.bool b.fin), ?_, SeqN.set_ [11] [] hSh hAt hDn (by kernel_rfl) (by decide) (by decide) ⟨only_setCell hgr (.inl rfl) _, hN2⟩⟩
     clear hS hN hN2 hgr
     go_simp
    try simp only [Act.put]
    refine Ps.done (by kernel_rfl) (fun wg1 hS => ?_) _
    obtain ⟨hgr, hN⟩ := SeqN.fin (by rfl) hS
    clear hS
    have HGR := Lib.hid hgr
    have HNN := Lib.hid hN
    clear hgr hN
    obtain ⟨w5, rfl⟩ : ∃ x, x = wg1 := ⟨_, rfl⟩
    go_wp2
    go_ret
    have hoA := own_grownF HO1.out HGR.out hgB (fun k hk => by have := HFR.out k hk; omega)
    have hoB := own_grownF HO21.out HGR.out hgB (fun k hk => by have := HFR.out k hk; omega)
    have hth := own_cells hoB ga rfl
    have hbs := Lay.own_base hoB ga (by simp [Value.ownBlock])
    have hrB : LB3.rd w5 (fun k => k < w5.heap.size ∧ (Fr k ∨ B ≤ k)) (some ⟨ga, 0, none⟩) (0) l := by
     have h9 := Lay.rd_cut (k := 1) (cap := 1) (Lay.own_rd hoB (F := fun k => k < w5.heap.size ∧ (Fr k ∨ B ≤ k)) (fun b hb hl => ⟨hl, .inr hb⟩) (fun b hb hl => ⟨hl, .inl hb⟩)) (by omega) (by omega)
     have h8 : Option.map (fun x : Addr => x.add (1 * LB3.size)) (some ⟨ga, 0, none⟩) = some ⟨ga, 3, none⟩ := by show some ((⟨ga, 0, none⟩ : Addr).add 3) = _; rw [addr_zero]
     rw [if_pos rfl] at h9
     exact h9
    refine ⟨rfl, HGB.out.grown HGR.out (fun k e => .inl (by injection e with e; exact .inl e.symm)), ⟨Bx, kx, kc, HP1.out.apart HGR.out (by omega), hk1, hk2, rd_grownH HXR1.out HGR.out (fun k hk => by have := HFR.out k hk; omega)⟩, fun _ => ⟨A, n, c, (some ⟨ga, 0, none⟩), 0, 0, HNN.out, ⟨Lay.own_rd hoA (fun b hb hl => ⟨hl, .inr hb⟩) (fun b hb hl => ⟨hl, .inl hb⟩), Lay.own_caps hoA, mine_own hoA, hrB, by omega, ?_⟩⟩⟩
    rintro ad h9
    injection h9 with h9
    subst h9
    refine ⟨ga, 0, rfl, hbs.1, hbs.2, fun j hj => ?_⟩
    have h8 := hth (j) (by show _ < 1 * 3; omega)
    exact absurd hj (by omega)
  · have hd2 : ¬ (d = 1) := hd1
    have hi3 : (1 : Int) ≤ (m : Int) := by omega
    have hi4 : m ≤ d := hcapB.1
    have hi5 : (m : Int) ≤ (d : Int) := by omega
    refine wp_region_ps (S := SeqN [11, 14] (fun z _ w' => match z with | 0 => w1.grownBy w' none | 1 => w1.grownBy w' (some g) ∧ Blk w' g 36 #[.int .u32 ses, .int .u64 next, .slice A n c, .slice (some ⟨ga, 3, none⟩) (m - 1) (d - 1), .int .i64 room, .bool over] | _ => w1.grownBy w' (some g) ∧ Blk w' g 36 #[.int .u32 ses, .int .u64 next, .slice A n c, .slice (some ⟨ga, 3, none⟩) (m - 1) (d - 1), .int .i64 room, .bool b.fin])) (by kernel_rfl) ?spswg17 ?ppswg17
    case spswg17 =>
     exact SeqN.start (by decide) (only_drew (World.grownBy.refl _ _))
    refine Pz 0 (some 16) (.pointer (some ⟨g, 0, none⟩)) rfl rfl (by exact StepS.pure (SeqN.pass (by decide)) rfl fun _ => rfl) ?_
    try simp only [Act.put, sA, sZ, sS]
    refine Pz 1 (some 17) (.pointer (some ⟨g, 0, none⟩)) rfl rfl (by exact StepS.pure (SeqN.pass (by decide)) rfl fun _ => rfl) ?_
    try simp only [Act.put, sA, sZ, sS]
    refine Pz 2 (some 18) (.pointer (some ⟨g, 0, none⟩)) rfl rfl (by exact StepS.pure (SeqN.pass (by decide)) rfl fun _ => rfl) ?_
    try simp only [Act.put, sA, sZ, sS]
    refine Pz 3 (some 19) (.pointer (some ⟨g, 0, none⟩)) rfl rfl (by exact StepS.pure (SeqN.pass (by decide)) rfl fun _ => by first | rfl | (go_simp; done) | (go_simp; rfl)) ?_
    try simp only [Act.put, sA, sZ, sS]
    refine Pz 4 (some 20) (.pointer (some ⟨g, 3, none⟩)) rfl rfl (by exact StepS.pure (SeqN.pass (by decide)) rfl fun _ => rfl) ?_
    try simp only [Act.put, sA, sZ, sS]
    refine Pz 5 (some 21) (.slice (some ⟨ga, 0, none⟩) m d) rfl rfl ?ywg17_23 ?rwg17_23
    case ywg17_23 =>
     refine StepS.read [] (by kernel_rfl) (SeqN.pass (by decide)) (by rfl) (fun L9 m9 w9 hSh hAt hDn hS => ?_)
     have hT : w1.grownBy w9 none := SeqN.two0 hSh (reach_no hSh (f := 17) (j := 11) (by kernel_rfl) hDn) (by kernel_rfl) hS
     have x0 : w9.cell? ⟨g, 3, none⟩ = some (.slice (some ⟨ga, 0, none⟩) m d) := (HN1.out.grown hT (by simp)).cell 3
     clear hT hS
     go_simp
     try rfl
    try simp only [Act.put, sA, sZ, sS]
    refine Pz 6 (some 22) (.slice (some ⟨ga, 3, none⟩) (m - 1) (d - 1)) rfl rfl (by exact StepS.pure (SeqN.pass (by decide)) rfl fun _ => by first | rfl | (go_simp; done) | (go_simp; rfl)) ?_
    try simp only [Act.put, sA, sZ, sS]
    refine Pz 7 (some 23) (.pointer (some ⟨gb, 1, none⟩)) rfl rfl (by exact StepS.pure (SeqN.pass (by decide)) rfl fun _ => rfl) ?_
    try simp only [Act.put, sA, sZ, sS]
    refine Pz 8 (some 24) (.bool (b.fin)) rfl rfl ?ywg17_26 ?rwg17_26
    case ywg17_26 =>
     refine StepS.read [] (by kernel_rfl) (SeqN.pass (by decide)) (by rfl) (fun L9 m9 w9 hSh hAt hDn hS => ?_)
     have hT : Blk w9 gb 45 #[.slice Bx kx kc, .bool b.fin, .int .u64 b.cnt] := SeqN.any (T := fun w9 => Blk w9 gb 45 #[.slice Bx kx kc, .bool b.fin, .int .u64 b.cnt]) (fun z _ _ h => by match z, h with | 0, h => exact HP1.out.grown h (by simp) | 1, h => exact HP1.out.apart h.1 (by omega) | _ + 2, h => exact HP1.out.apart h.1 (by omega)) hS
     have x1 := hT.cell 1
     clear hT hS
     go_simp
     try rfl
    try simp only [Act.put, sA, sZ, sS]
    refine Pz 9 (some 25) (.pointer (some ⟨g, 0, none⟩)) rfl rfl (by exact StepS.pure (SeqN.pass (by decide)) rfl fun _ => by first | rfl | (go_simp; done) | (go_simp; rfl)) ?_
    try simp only [Act.put, sA, sZ, sS]
    refine Pz 10 (some 26) (.pointer (some ⟨g, 3, none⟩)) rfl rfl (by exact StepS.pure (SeqN.pass (by decide)) rfl fun _ => rfl) ?_
    try simp only [Act.put, sA, sZ, sS]
    refine Pz 11 none undef rfl rfl ?ywg17_29 ?rwg17_29
    case ywg17_29 =>
     refine StepS.store [] (by kernel_rfl) (by rfl) (fun L9 m9 w9 hSh hAt hDn hS => ?_)
     have hT := SeqN.at_ (m0 := m9) (m1 := m9) [] [14] hSh (fun d hd => by cases hd) hDn (by kernel_rfl) hS
     have hN := HN1.out.grown hT (by simp)
     have hgr : w1.grownBy w9 (some g) := gr_none hT
     have hN2 : Blk (w9.setCell ⟨g, 3, none⟩ (.slice (some ⟨ga, 3, none⟩) (m - 1) (d - 1))) g 36 #[.int .u32 ses, .int .u64 next, .slice A n c, .slice (some ⟨ga, 3, none⟩) (m - 1) (d - 1), .int .i64 room, .bool over] := by simpa using hN.set_ 3 (.slice (some ⟨ga, 3, none⟩) (m - 1) (d - 1))
     have x2 := hN.cell 3
     have fx := hN.frozen 3
     refine ⟨w9.setCell ⟨g, 3, none⟩ (.slice (some ⟨ga, 3, none⟩) (m - 1) (d - 1)), ?_, SeqN.set_ (m0 := m9) (m1 := m9) [] [14] hSh (fun d hd => by cases hd) hDn (by kernel_rfl) (by decide) (by decide) ⟨only_setCell hgr (.inl rfl) _, hN2⟩⟩
     clear hT hS hN hN2 hgr
     go_simp
    try simp only [Act.put]
    refine Pz 12 (some 27) (.pointer (some ⟨g, 0, none⟩)) rfl rfl (by exact StepS.pure (SeqN.pass (by decide)) rfl fun _ => by first | rfl | (go_simp; done) | (go_simp; rfl)) ?_
    try simp only [Act.put, sA, sZ, sS]
    refine Pz 13 (some 28) (.pointer (some ⟨g, 5, none⟩)) rfl rfl (by exact StepS.pure (SeqN.pass (by decide)) rfl fun _ => rfl) ?_
    try simp only [Act.put, sA, sZ, sS]
    refine Pz 14 none undef rfl rfl ?ywg17_32 ?rwg17_32
    case ywg17_32 =>
     refine StepS.store [11] (by kernel_rfl) (by rfl) (fun L9 m9 w9 hSh hAt hDn hS => ?_)
     have hT := SeqN.at_ [11] [] hSh hAt hDn (by kernel_rfl) hS
     obtain ⟨hgr, hN⟩ := hT
     have hN2 : Blk (w9.setCell ⟨g, 5, none⟩ (.bool b.fin)) g 36 #[.int .u32 ses, .int .u64 next, .slice A n c, .slice (some ⟨ga, 3, none⟩) (m - 1) (d - 1), .int .i64 room, .bool b.fin] := by simpa using hN.set_ 5 (.bool b.fin)
     have x2 := hN.cell 5
     have fx := hN.frozen 5
     refine ⟨w9.setCell ⟨g, 5, none⟩ (.bool b.fin), ?_, SeqN.set_ [11] [] hSh hAt hDn (by kernel_rfl) (by decide) (by decide) ⟨only_setCell hgr (.inl rfl) _, hN2⟩⟩
     clear hS hN hN2 hgr
     go_simp
    try simp only [Act.put]
    refine Ps.done (by kernel_rfl) (fun wg17 hS => ?_) _
    obtain ⟨hgr, hN⟩ := SeqN.fin (by rfl) hS
    clear hS
    have HGR := Lib.hid hgr
    have HNN := Lib.hid hN
    clear hgr hN
    obtain ⟨w5, rfl⟩ : ∃ x, x = wg17 := ⟨_, rfl⟩
    go_wp2
    go_ret
    have hoA := own_grownF HO1.out HGR.out hgB (fun k hk => by have := HFR.out k hk; omega)
    have hoB := own_grownF HO21.out HGR.out hgB (fun k hk => by have := HFR.out k hk; omega)
    have hth := own_cells hoB ga rfl
    have hbs := Lay.own_base hoB ga (by simp [Value.ownBlock])
    have hrB : LB3.rd w5 (fun k => k < w5.heap.size ∧ (Fr k ∨ B ≤ k)) (some ⟨ga, 3, none⟩) ((m - 1)) l := by
     have h9 := Lay.rd_cut (k := 1) (cap := d) (Lay.own_rd hoB (F := fun k => k < w5.heap.size ∧ (Fr k ∨ B ≤ k)) (fun b hb hl => ⟨hl, .inr hb⟩) (fun b hb hl => ⟨hl, .inl hb⟩)) (by omega) (by omega)
     have h8 : Option.map (fun x : Addr => x.add (1 * LB3.size)) (some ⟨ga, 0, none⟩) = some ⟨ga, 3, none⟩ := by show some ((⟨ga, 0, none⟩ : Addr).add 3) = _; rw [addr_zero]
     rw [if_neg hd1, h8] at h9
     exact h9
    refine ⟨rfl, HGB.out.grown HGR.out (fun k e => .inl (by injection e with e; exact .inl e.symm)), ⟨Bx, kx, kc, HP1.out.apart HGR.out (by omega), hk1, hk2, rd_grownH HXR1.out HGR.out (fun k hk => by have := HFR.out k hk; omega)⟩, fun _ => ⟨A, n, c, (some ⟨ga, 3, none⟩), (m - 1), (d - 1), HNN.out, ⟨Lay.own_rd hoA (fun b hb hl => ⟨hl, .inr hb⟩) (fun b hb hl => ⟨hl, .inl hb⟩), Lay.own_caps hoA, mine_own hoA, hrB, by omega, ?_⟩⟩⟩
    rintro ad h9
    injection h9 with h9
    subst h9
    refine ⟨ga, 3, rfl, hbs.1, hbs.2, fun j hj => ?_⟩
    have h8 := hth (3 + j) (by show _ < m * 3; omega)
    rwa [Nat.zero_add] at h8
end Go.Proofs.Ytojghgbaiiajfaa
/- link.Take. Conditions: the rows read as these batches. -/
namespace Go.Proofs.Ytojghgbaiiajfaa
open Go.RowKit
theorem res4 {P : Program} {fn : Func} {p q r : Tmp} {ty ty2 : TypeId} (h : fn.results = #[.cell p ty, .cell q ty2, .tmp r]) {tmps : Array Value} {w : World} {g g2 : Nat} {t t2 : TypeId} {cs cs2 : Array Value} {d d2 : TypeDesc} {u : Value}
 (hp : tmps.getD p undef = .pointer (some ⟨g, 0, none⟩)) (hq : tmps.getD q undef = .pointer (some ⟨g2, 0, none⟩)) (hr : tmps.getD r undef = u) (hg : Blk w g t cs) (hu : P.underlying ty = some d) (hd : (match d with | .struct _ | .array _ _ => true | _ => false) = true) (hi : (P.info? ty).map (·.size) = some cs.size)
 (hg2 : Blk w g2 t2 cs2) (hu2 : P.underlying ty2 = some d2) (hd2 : (match d2 with | .struct _ | .array _ _ => true | _ => false) = true) (hi2 : (P.info? ty2).map (·.size) = some cs2.size) :
 (results fn tmps).run P w = .ok (.tuple #[.agg cs, .agg cs2, u]) w := by
 have hp' : tmps[p]?.getD undef = .pointer (some ⟨g, 0, none⟩) := by simpa using hp
 have hq' : tmps[q]?.getD undef = .pointer (some ⟨g2, 0, none⟩) := by simpa using hq
 have hr' : tmps[r]?.getD undef = u := by simpa using hr
 simp [results, h, hp', hq', hr', asAddr, run_loadVar_row w g t ty cs (0, 0) d hg hu hd hi, run_loadVar_row w g2 t2 ty2 cs2 (0, 0) d2 hg2 hu2 hd2 hi2]
theorem Chg.of_gr {X : Nat → Prop} {w w' : World} (h : w.grownBy w' none) : Chg X w w' := ⟨h.os, h.tape, h.output, h.size, fun b hb _ => h.block b hb (fun e => by cases e)⟩
theorem Mine.chg {X : Nat → Prop} {w w' : World} {B k : Nat} {A : Option Addr} (h : Mine w B A k) (q : Chg X w w') (hX : ∀ b, X b → b < B) : Mine w' B A k := fun ad e => by
 obtain ⟨g', o, e1, h1, h2, h3⟩ := h ad e
 exact ⟨g', o, e1, h1, Nat.lt_of_lt_of_le h2 q.size, there_heap h3 (q.block g' h2 (fun e => by have := hX g' e; omega))⟩
theorem RecO.chg {X : Nat → Prop} {w w' : World} {B B' : Nat} {G G' : Nat → Prop} {A : Option Addr} {n c : Nat} {A2 : Option Addr} {m d : Nat} {r : RC} (h : RecO w B G A n c A2 m d r) (q : Chg X w w') (hB : B' ≤ B) (hX : ∀ b, X b → b < B) (hG : ∀ k, G k → ¬ X k ∧ G' k) : RecO w' B' G' A n c A2 m d r :=
 ⟨Lay.rd_weak (fun k hk _ => (hG k hk).2) (rd_chg h.ra q (fun k hk _ => (hG k hk).1)), h.ca, (h.ma.chg q hX).less hB, Lay.rd_weak (fun k hk _ => (hG k hk).2) (rd_chg h.rb q (fun k hk _ => (hG k hk).1)), h.cb, (h.mb.chg q hX).less hB⟩
theorem RecO.none (w : World) (B : Nat) (G : Nat → Prop) : RecO w B G none 0 0 none 0 0 zeroR := ⟨Lay.rd_nil _, ⟨by omega, by omega⟩, (fun _ e => by cases e), Lay.rd_nil _, ⟨by omega, by omega⟩, (fun _ e => by cases e)⟩
def takT (r : RC) : RC := if recB r then takR r else zeroR
def takU (r : RC) : BC := if recB r then takB r else zeroB
def takN (r : RC) : Int := if recB r then takE r else 320
def TakeO (Fr : Nat → Prop) (r : RC) (w : World) (e : Ending) (w' : World) : Prop :=
 ∃ A3 n3 c3 A4 m4 d4 Bx kx kc, e = .returned (.tuple #[.agg ((takT r).cells A3 n3 c3 A4 m4 d4), .agg #[.slice Bx kx kc, .bool (takU r).fin, .int .u64 (takU r).cnt], .int .i64 (takN r)]) ∧ Below w.heap.size w w' ∧
  RecO w' w.heap.size (fun k => k < w'.heap.size ∧ (Fr k ∨ w.heap.size ≤ k)) A3 n3 c3 A4 m4 d4 (takT r) ∧ LR.rd w' Fr Bx kx (takU r).rows ∧ kx ≤ kc ∧ kc ≤ 9223372036854775807
theorem hears_tak {Fr : Nat → Prop} {r : RC} {gb : Nat} {w w' : World} {e : Ending} (hp : Blk w gb 45 #[.slice none 0 0, .bool false, .int .u64 0]) (h : HearsC Fr r (takE r) (takR r) (fun k => k = gb) (TakY gb Fr (takB r)) w e w') :
 ∃ A3 n3 c3 A4 m4 d4 Bx kx kc, e = .returned (.tuple #[.agg ((takT r).cells A3 n3 c3 A4 m4 d4), .int .i64 (takN r)]) ∧ Chg (fun k => k = gb) w w' ∧ RecO w' (w.heap.size + 2) (fun k => k < w'.heap.size ∧ (Fr k ∨ w.heap.size + 2 ≤ k)) A3 n3 c3 A4 m4 d4 (takT r) ∧
  Blk w' gb 45 #[.slice Bx kx kc, .bool (takU r).fin, .int .u64 (takU r).cnt] ∧ kx ≤ kc ∧ kc ≤ 9223372036854775807 ∧ LR.rd w' Fr Bx kx (takU r).rows := by
 unfold HearsC at h
 unfold takT takU takN
 cases hs : recB r
 · rw [hs] at h
   obtain ⟨rfl, hb⟩ := h
   exact ⟨none, 0, 0, none, 0, 0, none, 0, 0, rfl, Chg.of_below hb, RecO.none _ _ _, hp.ca hb, by omega, by omega, Lay.rd_nil _⟩
 · rw [hs] at h
   obtain ⟨hc, ⟨Bx, kx, kc, h1, h2, h3, h4⟩, h5, h6⟩ := h
   by_cases hE : takE r = 0
   · obtain ⟨A3, n3, c3, A4, m4, d4, rfl, hr⟩ := h6 hE
     exact ⟨A3, n3, c3, A4, m4, d4, Bx, kx, kc, by rw [hE]; rfl, hc, hr, h1, h2, h3, h4⟩
   · have hR : takR r = zeroR := by
      unfold takE at hE
      unfold takR
      cases hb : r.buf with
      | nil => rfl
      | cons b l => rw [hb] at hE; exact absurd rfl hE
     exact ⟨none, 0, 0, none, 0, 0, Bx, kx, kc, by rw [h5 hE, hR]; rfl, hc, by rw [hR]; exact RecO.none _ _ _, h1, h2, h3, h4⟩
set_option maxRecDepth 100000 in
set_option maxHeartbeats 16000000 in
theorem take_any (Fr : Nat → Prop) (r : RC) (A : Option Addr) (n c : Nat) (A2 : Option Addr) (m d : Nat) (w : World) (hFr : ∀ k, Fr k → k < w.heap.size) (h : LH4.rd w Fr A n r.ahead) (h2 : LB3.rd w Fr A2 m r.buf) (hn : n ≤ 9223372036854775807) (hm : m ≤ 9223372036854775807) :
 Calls Try.prog 34 #[.agg (r.cells A n c A2 m d)] w (TakeO Fr r w) := by
 have q1 := bl_al (Below.refl w.heap.size w) (.cells (r.cells A n c A2 m d) 36)
 have q2 := bl_al (Below.refl (w.alloc (.cells (r.cells A n c A2 m d) 36)).heap.size (w.alloc (.cells (r.cells A n c A2 m d) 36))) (.cells #[.int .u32 0, .int .u64 0, .slice none 0 0, .slice none 0 0, .int .i64 0, .bool false] 36)
 have q3 := bl_al (Below.refl ((w.alloc (.cells (r.cells A n c A2 m d) 36)).alloc (.cells #[.int .u32 0, .int .u64 0, .slice none 0 0, .slice none 0 0, .int .i64 0, .bool false] 36)).heap.size ((w.alloc (.cells (r.cells A n c A2 m d) 36)).alloc (.cells #[.int .u32 0, .int .u64 0, .slice none 0 0, .slice none 0 0, .int .i64 0, .bool false] 36))) (.cells #[.slice none 0 0, .bool false, .int .u64 0] 45)
 have q4 := bl_al (Below.refl (((w.alloc (.cells (r.cells A n c A2 m d) 36)).alloc (.cells #[.int .u32 0, .int .u64 0, .slice none 0 0, .slice none 0 0, .int .i64 0, .bool false] 36)).alloc (.cells #[.slice none 0 0, .bool false, .int .u64 0] 45)).heap.size (((w.alloc (.cells (r.cells A n c A2 m d) 36)).alloc (.cells #[.int .u32 0, .int .u64 0, .slice none 0 0, .slice none 0 0, .int .i64 0, .bool false] 36)).alloc (.cells #[.slice none 0 0, .bool false, .int .u64 0] 45))) (.cells #[.slice none 0 0, .bool false, .int .u64 0] 45)
 have q34 := bl_ca q3 q4
 have q24 := bl_ca q2 q34
 have HX := Lib.hid ((Blk.new w 36 (r.cells A n c A2 m d)).ca q24)
 have H1 := Lib.hid (show Blk ((((w.alloc (.cells (r.cells A n c A2 m d) 36)).alloc (.cells #[.int .u32 0, .int .u64 0, .slice none 0 0, .slice none 0 0, .int .i64 0, .bool false] 36)).alloc (.cells #[.slice none 0 0, .bool false, .int .u64 0] 45)).alloc (.cells #[.slice none 0 0, .bool false, .int .u64 0] 45)) (w.heap.size + 1) 36 #[.int .u32 0, .int .u64 0, .slice none 0 0, .slice none 0 0, .int .i64 0, .bool false] from Blk.ca (show Blk ((w.alloc (.cells (r.cells A n c A2 m d) 36)).alloc (.cells #[.int .u32 0, .int .u64 0, .slice none 0 0, .slice none 0 0, .int .i64 0, .bool false] 36)) (w.heap.size + 1) 36 #[.int .u32 0, .int .u64 0, .slice none 0 0, .slice none 0 0, .int .i64 0, .bool false] from Blk.mk' (by simp only [World.size_alloc])) q34)
 have H2 := Lib.hid (show Blk ((((w.alloc (.cells (r.cells A n c A2 m d) 36)).alloc (.cells #[.int .u32 0, .int .u64 0, .slice none 0 0, .slice none 0 0, .int .i64 0, .bool false] 36)).alloc (.cells #[.slice none 0 0, .bool false, .int .u64 0] 45)).alloc (.cells #[.slice none 0 0, .bool false, .int .u64 0] 45)) (w.heap.size + 2) 45 #[.slice none 0 0, .bool false, .int .u64 0] from Blk.ca (show Blk (((w.alloc (.cells (r.cells A n c A2 m d) 36)).alloc (.cells #[.int .u32 0, .int .u64 0, .slice none 0 0, .slice none 0 0, .int .i64 0, .bool false] 36)).alloc (.cells #[.slice none 0 0, .bool false, .int .u64 0] 45)) (w.heap.size + 2) 45 #[.slice none 0 0, .bool false, .int .u64 0] from Blk.mk' (by simp only [World.size_alloc])) q4)
 have H3 := Lib.hid (show Blk ((((w.alloc (.cells (r.cells A n c A2 m d) 36)).alloc (.cells #[.int .u32 0, .int .u64 0, .slice none 0 0, .slice none 0 0, .int .i64 0, .bool false] 36)).alloc (.cells #[.slice none 0 0, .bool false, .int .u64 0] 45)).alloc (.cells #[.slice none 0 0, .bool false, .int .u64 0] 45)) (w.heap.size + 3) 45 #[.slice none 0 0, .bool false, .int .u64 0] from Blk.mk' (by simp only [World.size_alloc]))
 have HQ := Lib.hid (bl_ca q1 q24)
 have hsz : ((((w.alloc (.cells (r.cells A n c A2 m d) 36)).alloc (.cells #[.int .u32 0, .int .u64 0, .slice none 0 0, .slice none 0 0, .int .i64 0, .bool false] 36)).alloc (.cells #[.slice none 0 0, .bool false, .int .u64 0] 45)).alloc (.cells #[.slice none 0 0, .bool false, .int .u64 0] 45)).heap.size = w.heap.size + 4 := by simp only [World.size_alloc]
 have HSE := Lib.hid (hears_any Fr r A n c A2 m d 84 #[.pointer (some ⟨w.heap.size + 3, 0, none⟩)] (takE r) (takR r) (fun k => k = w.heap.size + 3) (TakY (w.heap.size + 3) Fr (takB r)) ((((w.alloc (.cells (r.cells A n c A2 m d) 36)).alloc (.cells #[.int .u32 0, .int .u64 0, .slice none 0 0, .slice none 0 0, .int .i64 0, .bool false] 36)).alloc (.cells #[.slice none 0 0, .bool false, .int .u64 0] 45)).alloc (.cells #[.slice none 0 0, .bool false, .int .u64 0] 45)) (Lay.rd_below (Lay.rd_below h q1) q24) (Lay.rd_below (Lay.rd_below h2 q1) q24) (fun k h => by have := hFr k h; omega) hn hm (Go.Proofs.enters_of Try.func84 (by kernel_rfl) rfl)
  (take1_do r (w.heap.size + 3) _ Fr (fun k h => by have := hFr k h; omega) (fun k h => by have := hFr k h; omega) H3.out) (fun k h => by omega) (fun w1 w2 hy gr => by
   obtain ⟨Bx, kx, kc, h1, h2, h3, h4⟩ := hy
   exact ⟨Bx, kx, kc, h1.apart gr (by omega), h2, h3, rd_grownH h4 gr (fun k hk => by have := hFr k hk; omega)⟩))
 have HFR := Lib.hid hFr
 clear h h2 q1 q2 q3 q4 q34 q24 hFr
 have x0 : ((((w.alloc (.cells (r.cells A n c A2 m d) 36)).alloc (.cells #[.int .u32 0, .int .u64 0, .slice none 0 0, .slice none 0 0, .int .i64 0, .bool false] 36)).alloc (.cells #[.slice none 0 0, .bool false, .int .u64 0] 45)).alloc (.cells #[.slice none 0 0, .bool false, .int .u64 0] 45)).cell? ⟨w.heap.size, 0, none⟩ = some (.int .u32 r.ses) := HX.out.cell 0
 have x1 : ((((w.alloc (.cells (r.cells A n c A2 m d) 36)).alloc (.cells #[.int .u32 0, .int .u64 0, .slice none 0 0, .slice none 0 0, .int .i64 0, .bool false] 36)).alloc (.cells #[.slice none 0 0, .bool false, .int .u64 0] 45)).alloc (.cells #[.slice none 0 0, .bool false, .int .u64 0] 45)).cell? ⟨w.heap.size, 1, none⟩ = some (.int .u64 r.next) := HX.out.cell 1
 have x2 : ((((w.alloc (.cells (r.cells A n c A2 m d) 36)).alloc (.cells #[.int .u32 0, .int .u64 0, .slice none 0 0, .slice none 0 0, .int .i64 0, .bool false] 36)).alloc (.cells #[.slice none 0 0, .bool false, .int .u64 0] 45)).alloc (.cells #[.slice none 0 0, .bool false, .int .u64 0] 45)).cell? ⟨w.heap.size, 2, none⟩ = some (.slice A n c) := HX.out.cell 2
 have x3 : ((((w.alloc (.cells (r.cells A n c A2 m d) 36)).alloc (.cells #[.int .u32 0, .int .u64 0, .slice none 0 0, .slice none 0 0, .int .i64 0, .bool false] 36)).alloc (.cells #[.slice none 0 0, .bool false, .int .u64 0] 45)).alloc (.cells #[.slice none 0 0, .bool false, .int .u64 0] 45)).cell? ⟨w.heap.size, 3, none⟩ = some (.slice A2 m d) := HX.out.cell 3
 have x4 : ((((w.alloc (.cells (r.cells A n c A2 m d) 36)).alloc (.cells #[.int .u32 0, .int .u64 0, .slice none 0 0, .slice none 0 0, .int .i64 0, .bool false] 36)).alloc (.cells #[.slice none 0 0, .bool false, .int .u64 0] 45)).alloc (.cells #[.slice none 0 0, .bool false, .int .u64 0] 45)).cell? ⟨w.heap.size, 4, none⟩ = some (.int .i64 r.room) := HX.out.cell 4
 have x5 : ((((w.alloc (.cells (r.cells A n c A2 m d) 36)).alloc (.cells #[.int .u32 0, .int .u64 0, .slice none 0 0, .slice none 0 0, .int .i64 0, .bool false] 36)).alloc (.cells #[.slice none 0 0, .bool false, .int .u64 0] 45)).alloc (.cells #[.slice none 0 0, .bool false, .int .u64 0] 45)).cell? ⟨w.heap.size, 5, none⟩ = some (.bool r.over) := HX.out.cell 5
 go_enter Try.func34, Try.ntmps34
 go_wp2_with fail
 clear x0 x1 x2 x3 x4 x5
 generalize ((((w.alloc (.cells (r.cells A n c A2 m d) 36)).alloc (.cells #[.int .u32 0, .int .u64 0, .slice none 0 0, .slice none 0 0, .int .i64 0, .bool false] 36)).alloc (.cells #[.slice none 0 0, .bool false, .int .u64 0] 45)).alloc (.cells #[.slice none 0 0, .bool false, .int .u64 0] 45)) = w1 at *
 refine HSE.out.mono ?_
 clear HSE
 rintro e w4 h4
 obtain ⟨A5, n5, c5, A6, m6, d6, Bx, kx, kc, rfl, hc, hrec, hbk, hk1, hk2, hrd⟩ := hears_tak H3.out h4
 have H14 := Lib.hid (H1.out.chg hc (by omega))
 have H24 := Lib.hid (H2.out.chg hc (by omega))
 have HC := Lib.hid hc
 have HREC := Lib.hid hrec
 have HBK := Lib.hid hbk
 have HRD := Lib.hid hrd
 have hs4 := hc.size
 have HN := Lib.hid (Blk.new w4 36 #[.int .u32 0, .int .u64 0, .slice none 0 0, .slice none 0 0, .int .i64 0, .bool false])
 clear h4 hc hrec hbk hrd HX H1 H2 H3
 obtain ⟨tt, htt⟩ : ∃ tt, tt = takT r := ⟨_, rfl⟩
 obtain ⟨uu, huu⟩ : ∃ uu, uu = takU r := ⟨_, rfl⟩
 obtain ⟨nn, hnn⟩ : ∃ nn, nn = takN r := ⟨_, rfl⟩
 rw [← htt] at HREC
 rw [← huu] at HBK HRD
 rw [← htt, ← hnn]
 have HTT := Lib.hid (And.intro htt (And.intro huu hnn))
 clear htt huu hnn
 go_upto_region 3 with (first | (refine wpList_store_blk rfl 36 (.tmp 6) (.tmp 12) rfl w4.heap.size 36 #[.int .u32 0, .int .u64 0, .slice none 0 0, .slice none 0 0, .int .i64 0, .bool false] (tt.cells A5 n5 c5 A6 m6 d6) rfl rfl HN.out rfl receiverI (by obtain ⟨s1, s2, s3, s4, s5, s6⟩ := tt; simp [Value.oneCell', RC.cells]) ?_; intro w6 h6 g6; have HT6 := Lib.hid h6; have HG6 := Lib.hid g6; clear h6 g6))
 have HQ6 := Lib.hid (bl_gr (bl_al (Below.refl w4.heap.size w4) (.cells #[.int .u32 0, .int .u64 0, .slice none 0 0, .slice none 0 0, .int .i64 0, .bool false] 36)) HG6.out (Nat.le_refl _))
 have H16 := Lib.hid (H14.out.ca HQ6.out)
 have H26 := Lib.hid (H24.out.ca HQ6.out)
 have HBK6 := Lib.hid (HBK.out.ca HQ6.out)
 have HRD6 := Lib.hid (Lay.rd_below HRD.out HQ6.out)
 have hs6 := HQ6.out.size
 clear HN HG6 H14 H24 HBK HRD
 refine wp_region_ps (S := SeqN [3, 4] (fun z _ w' => match z with | 0 => w6.grownBy w' none | 1 => Chg (fun k => k = w.heap.size + 1 ∨ k = w.heap.size + 2) w6 w' ∧ Blk w' (w.heap.size + 1) 36 (tt.cells A5 n5 c5 A6 m6 d6) ∧ Blk w' (w.heap.size + 2) 45 #[.slice none 0 0, .bool false, .int .u64 0] | _ => Chg (fun k => k = w.heap.size + 1 ∨ k = w.heap.size + 2) w6 w' ∧ Blk w' (w.heap.size + 1) 36 (tt.cells A5 n5 c5 A6 m6 d6) ∧ Blk w' (w.heap.size + 2) 45 #[.slice Bx kx kc, .bool uu.fin, .int .u64 uu.cnt])) (by kernel_rfl) ?spswg1 ?ppswg1
 case spswg1 =>
  exact SeqN.start (by decide) (only_drew (World.grownBy.refl _ _))
 refine Pz 0 (some 14) (.agg #[.int .u32 (tt.ses), .int .u64 (tt.next), .slice A5 n5 c5, .slice A6 m6 d6, .int .i64 (tt.room), .bool (tt.over)]) rfl rfl ?ywg1_2 ?rwg1_2
 case ywg1_2 =>
  refine StepS.read [] (by kernel_rfl) (SeqN.pass (by decide)) (by rfl) (fun L9 m9 w9 hSh hAt hDn hS => ?_)
  have hT : w6.grownBy w9 none := SeqN.two0 hSh (reach_no hSh (f := 8) (j := 3) (by kernel_rfl) hDn) (by kernel_rfl) hS
  have hT2 := HT6.out.grown hT (by simp)
  have x0 : w9.cell? ⟨w4.heap.size, 0, none⟩ = some (.int .u32 (tt.ses)) := hT2.cell 0
  have x1 : w9.cell? ⟨w4.heap.size, 1, none⟩ = some (.int .u64 (tt.next)) := hT2.cell 1
  have x2 : w9.cell? ⟨w4.heap.size, 2, none⟩ = some (.slice A5 n5 c5) := hT2.cell 2
  have x3 : w9.cell? ⟨w4.heap.size, 3, none⟩ = some (.slice A6 m6 d6) := hT2.cell 3
  have x4 : w9.cell? ⟨w4.heap.size, 4, none⟩ = some (.int .i64 (tt.room)) := hT2.cell 4
  have x5 : w9.cell? ⟨w4.heap.size, 5, none⟩ = some (.bool (tt.over)) := hT2.cell 5
  clear hT hT2 hS
  go_simp
  try rfl
 try simp only [Act.put, sA, sZ, sS]
 refine Pz 1 (some 15) (.agg #[.slice Bx kx kc, .bool (uu.fin), .int .u64 (uu.cnt)]) rfl rfl ?ywg1_3 ?rwg1_3
 case ywg1_3 =>
  refine StepS.read [] (by kernel_rfl) (SeqN.pass (by decide)) (by rfl) (fun L9 m9 w9 hSh hAt hDn hS => ?_)
  have hT : Blk w9 (w.heap.size + 3) 45 #[.slice Bx kx kc, .bool uu.fin, .int .u64 uu.cnt] := SeqN.any (T := fun w9 => Blk w9 (w.heap.size + 3) 45 #[.slice Bx kx kc, .bool uu.fin, .int .u64 uu.cnt]) (fun z _ _ h => by match z, h with | 0, h => exact HBK6.out.grown h (by simp) | 1, h => exact HBK6.out.chg h.1 (by omega) | _ + 2, h => exact HBK6.out.chg h.1 (by omega)) hS
  have x0 := hT.cell 0
  have x1 := hT.cell 1
  have x2 := hT.cell 2
  clear hT hS
  go_simp
  try rfl
 try simp only [Act.put, sA, sZ, sS]
 refine Pz 2 (some 16) (.int .i64 (nn)) rfl rfl (by exact StepS.pure (SeqN.pass (by decide)) rfl fun _ => rfl) ?_
 try simp only [Act.put, sA, sZ, sS]
 refine Pz 3 none undef rfl rfl ?ywg1_5 ?rwg1_5
 case ywg1_5 =>
  refine StepS.store [] (by kernel_rfl) (by rfl) (fun L9 m9 w9 hSh hAt hDn hS => ?_)
  have hT := SeqN.at_ (m0 := m9) (m1 := m9) [] [4] hSh (fun d hd => by cases hd) hDn (by kernel_rfl) hS
  refine (exec_store_blk (w := w9) 36 (.tmp 2) (.tmp 14) (by rfl) (w.heap.size + 1) 36 #[.int .u32 0, .int .u64 0, .slice none 0 0, .slice none 0 0, .int .i64 0, .bool false] (tt.cells A5 n5 c5 A6 m6 d6) (by rfl) (by rfl) (H16.out.grown hT (by simp)) rfl receiverI (by obtain ⟨s1, s2, s3, s4, s5, s6⟩ := tt; simp [Value.oneCell', RC.cells])).imp fun w7 hx => ⟨hx.1, SeqN.set_ (m0 := m9) (m1 := m9) [] [4] hSh (fun d hd => by cases hd) hDn (by kernel_rfl) (by decide) (by decide) ⟨Chg.grown (Chg.of_gr hT) hx.2.2 (fun k e => .inl (.inl (by injection e with e; exact e.symm))), hx.2.1, (H26.out.grown hT (by simp)).apart hx.2.2 (by omega)⟩⟩
 try simp only [Act.put]
 refine Pz 4 none undef rfl rfl ?ywg1_6 ?rwg1_6
 case ywg1_6 =>
  refine StepS.store [3] (by kernel_rfl) (by rfl) (fun L9 m9 w9 hSh hAt hDn hS => ?_)
  obtain ⟨hc, hb, hb2⟩ := SeqN.at_ [3] [] hSh hAt hDn (by kernel_rfl) hS
  refine (exec_store_blk (w := w9) 45 (.tmp 3) (.tmp 15) (by rfl) (w.heap.size + 2) 45 #[.slice none 0 0, .bool false, .int .u64 0] #[.slice Bx kx kc, .bool uu.fin, .int .u64 uu.cnt] (by rfl) (by rfl) hb2 rfl batchI2 (by simp [Value.oneCell'])).imp fun w7 hx => ⟨hx.1, SeqN.set_ [3] [] hSh hAt hDn (by kernel_rfl) (by decide) (by decide) ⟨hc.grown hx.2.2 (fun k e => .inl (.inr (by injection e with e; exact e.symm))), hb.apart hx.2.2 (by omega), hx.2.1⟩⟩
 try simp only [Act.put]
 refine Pz 5 (some 4) (.int .i64 (nn)) rfl rfl (by exact StepS.pure (SeqN.pass (by decide)) rfl fun _ => rfl) ?_
 try simp only [Act.put, sA, sZ, sS]
 refine Ps.done (by kernel_rfl) (fun wg1 hS => ?_) _
 obtain ⟨hc, hb, hb2⟩ := SeqN.fin (by rfl) hS
 clear hS
 have HCG := Lib.hid hc
 have HB7 := Lib.hid hb
 have HB8 := Lib.hid hb2
 clear hc hb hb2
 obtain ⟨w7, rfl⟩ : ∃ x, x = wg1 := ⟨_, rfl⟩
 have hbel : Below w.heap.size w w7 := by
  have h1 := HQ.out
  have h2 : Chg (fun k => w.heap.size ≤ k) w1 w4 := HC.out.weak (fun b _ h => by omega)
  have h3 : Chg (fun k => w.heap.size ≤ k) w4 w6 := Chg.of_below HQ6.out
  have h4 : Chg (fun k => w.heap.size ≤ k) w6 w7 := HCG.out.weak (fun b _ h => by omega)
  exact (((Chg.of_below h1).trans h2).trans h3 |>.trans h4).bel (Below.refl _ _) (fun b hb h => by omega) (Nat.le_refl _)
 go_wp2
 have hs7 := HCG.out.size
 refine bodyPost_ret (res4 Try.results34 rfl rfl rfl HB7.out Try.underlying36 rfl receiverI HB8.out Try.underlying45 rfl batchI2) rfl ?_
 refine ⟨A5, n5, c5, A6, m6, d6, Bx, kx, kc, by rw [HTT.out.1, HTT.out.2.1, HTT.out.2.2]; rfl, hbel, ?_, ?_, hk1, hk2⟩
 · rw [← HTT.out.1]
   have hr6 := HREC.out.chg (X := fun _ => False) (G' := fun k => k < w6.heap.size ∧ (Fr k ∨ w.heap.size + 4 ≤ k)) (Chg.of_below HQ6.out) (Nat.le_refl _) (fun _ h => h.elim) (fun k hk => ⟨fun h => h, by omega, hk.2.elim .inl (fun h => .inr (by omega))⟩)
   exact hr6.chg HCG.out (by omega) (fun k hk => by omega) (fun k hk => ⟨fun h => hk.2.elim (fun h2 => by have := HFR.out k h2; omega) (fun h2 => by omega), by omega, hk.2.elim .inl (fun h => .inr (by omega))⟩)
 · rw [← HTT.out.2.1]
   exact rd_chg HRD6.out HCG.out (fun k hk _ h => by have := HFR.out k hk; omega)
end Go.Proofs.Ytojghgbaiiajfaa
/- link.Hear, whole, as its callers need it. Conditions: the rows read as these batches. -/
namespace Go.Proofs.Ytojghgbaiiajfaa
open Go.RowKit
def heaT (r : RC) (pk : PK) : RC := if recB r then hearR r pk else zeroR
set_option maxRecDepth 100000 in
theorem hear_law_any (Fr : Nat → Prop) (r : RC) (A : Option Addr) (n c : Nat) (A2 : Option Addr) (m d : Nat) (pk : PK) (pA : Option Addr) (pn pc : Nat) (w : World) (hFr : ∀ k, Fr k → k < w.heap.size) (h : LH4.rd w Fr A n r.ahead) (h2 : LB3.rd w Fr A2 m r.buf) (hr : LR.rd w Fr pA pn pk.b.rows) (hn : n ≤ 9223372036854775807) (hm : m ≤ 9223372036854775807) (hpn : pn ≤ pc) (hpc : pc ≤ 9223372036854775807) :
 Calls Try.prog 29 #[.agg (r.cells A n c A2 m d), .agg (pk.cells pA pn pc)] w fun e w' => ∃ A3 n3 c3 B3 m3 d3, e = .returned (.tuple #[.agg ((heaT r pk).cells A3 n3 c3 B3 m3 d3), .int .i64 (if recB r then 0 else 320)]) ∧ Below w.heap.size w w' ∧ RecO w' w.heap.size (fun k => k < w'.heap.size ∧ (Fr k ∨ w.heap.size ≤ k)) A3 n3 c3 B3 m3 d3 (heaT r pk) := by
 refine (hear_do Fr r (hearR r pk) A n c A2 m d pk pA pn pc w hFr h h2 hr hn hm (fun w0 hp hr0 hF0 => hear1_do r pk (w.heap.size + 1) pA pn pc w0 Fr hF0 hp hr0 hpn hpc)).mono ?_
 rintro e w' ⟨t, A', n', c', B', m', d', N, rfl, ho⟩
 unfold HearsO at ho
 unfold heaT
 cases hs : recB r
 · rw [hs] at ho
   obtain ⟨hC, hN, hb⟩ := ho
   exact ⟨none, 0, 0, none, 0, 0, by rw [hC, hN]; rfl, hb, RecO.none _ _ _⟩
 · rw [hs] at ho
   obtain ⟨hc, _, h3⟩ := ho
   rcases h3 with ⟨h3, _⟩ | ⟨_, hN, A3, n3, c3, A4, m4, d4, hC, hR⟩
   · exact absurd rfl h3
   · exact ⟨A3, n3, c3, A4, m4, d4, by rw [hC, hN]; rfl, ⟨hc.os, hc.tape, hc.output, hc.size, fun b hb => hc.block b hb (fun e => e)⟩, hR.chg (X := fun _ => False) (Chg.refl _ _) (by omega) (fun _ h => h.elim) (fun k hk => ⟨fun h => h, hk.1, hk.2.elim .inl (fun h => .inr (by omega))⟩)⟩
end Go.Proofs.Ytojghgbaiiajfaa
/- link.data$1: the packets of the batches above a number, one by one. Conditions: the queue reads as these batches. -/
namespace Go.Proofs.Ytojghgbaiiajfaa
open Go.RowKit Go.Shelf
attribute [local go_sem] Oper.semAt_some
theorem grown_of_below {w w' : World} (h : Below w.heap.size w w') : w.grownBy w' none := ⟨h.os, h.tape, h.output, h.size, fun k hk _ => h.block k hk⟩
theorem u64_inD {x : Int} (h0 : 0 ≤ x) (h1 : x ≤ 9223372036854775807) : IntKind.u64.wrap x = x := by simp [IntKind.wrap, IntKind.signed, IntKind.bits]; omega
/-- a batch with its slice -/
structure BX where
 b : BC
 A : Option Addr
 n : Nat
 c : Nat
def LBX : Lay BX where
 size := 3
 rep := fun w F x cs => cs = [.slice x.A x.n x.c, .bool x.b.fin, .int .u64 x.b.cnt] ∧ x.n ≤ x.c ∧ x.c ≤ 9223372036854775807 ∧ LR.rd w F x.A x.n x.b.rows
 len := fun h => by obtain ⟨rfl, _⟩ := h; rfl
 one := fun h u hu => by obtain ⟨rfl, _⟩ := h; simp at hu; rcases hu with rfl | rfl | rfl <;> rfl
 keep := fun hk h => by obtain ⟨e, h1, h2, hr⟩ := h; exact ⟨e, h1, h2, Lay.rd_keep hk hr⟩
 weak := fun hk h => by obtain ⟨e, h1, h2, hr⟩ := h; exact ⟨e, h1, h2, Lay.rd_weak hk hr⟩
theorem LBX_reps {w : World} {F : Nat → Prop} : ∀ {xs : List BC} {cs : List Value}, LB3.reps w F xs cs → ∃ bx : List BX, bx.map BX.b = xs ∧ LBX.reps w F bx cs
 | [], cs, h => ⟨[], rfl, h⟩
 | x :: l, cs, h => by
  obtain ⟨ds, es, e, ⟨A, n, c, h1, h2, h3, h4⟩, hl⟩ := h
  obtain ⟨bx, hb, hr⟩ := LBX_reps hl
  exact ⟨⟨x, A, n, c⟩ :: bx, by rw [List.map_cons, hb], ds, es, e, ⟨h1, h2, h3, h4⟩, hr⟩
theorem LBX_at {w : World} {F : Nat → Prop} {A : Option Addr} {n i : Nat} {xs : List BX} (h : LBX.rd w F A n xs) (hi : i < n) : ∃ ad x, A = some ad ∧ xs[i]? = some x ∧ SB w F (ad.add (i * 3)) x.b x.A x.n x.c := by
 obtain ⟨ad, b, cs, e, hx, _, _, ⟨rfl, h1, h2, hr⟩, hc⟩ := Lay.rd_at h hi
 refine ⟨ad, b, e, hx, ⟨hc 0 _ rfl, ?_, ?_, h1, h2, hr⟩⟩
 · rw [← addr_more _ _ 1 (by omega)]; exact hc 1 _ rfl
 · rw [← addr_more _ _ 2 (by omega)]; exact hc 2 _ rfl
/-- a packet with its slice -/
structure PX where
 p : PK
 A : Option Addr
 n : Nat
 c : Nat
abbrev PX.cells (x : PX) : Array Value := x.p.cells x.A x.n x.c
def dataX (ses lim above : Int) : Int → List BX → List PX
 | _, [] => []
 | n, x :: l => if lim < n then [] else (if above < n then [⟨⟨1, ses, n, 0, x.b⟩, x.A, x.n, x.c⟩] else []) ++ dataX ses lim above (n + 1) l
theorem dataX_end {ses lim above n : Int} (l : List BX) (h : lim < n) : dataX ses lim above n l = [] := by
 cases l
 · rfl
 · unfold dataX; rw [if_pos h]
theorem dataX_yes {ses lim above n : Int} {l : List BX} {k : Nat} {x : BX} (hx : l[k]? = some x) (h : n ≤ lim) (h2 : above < n) : dataX ses lim above n (l.drop k) = ⟨⟨1, ses, n, 0, x.b⟩, x.A, x.n, x.c⟩ :: dataX ses lim above (n + 1) (l.drop (k + 1)) := by
 obtain ⟨hl, rfl⟩ := List.getElem?_eq_some_iff.1 hx
 rw [List.drop_eq_getElem_cons hl]
 rw [dataX, if_neg (by omega), if_pos h2]; rfl
theorem dataX_no {ses lim above n : Int} {l : List BX} {k : Nat} {x : BX} (hx : l[k]? = some x) (h : n ≤ lim) (h2 : n ≤ above) : dataX ses lim above n (l.drop k) = dataX ses lim above (n + 1) (l.drop (k + 1)) := by
 obtain ⟨hl, rfl⟩ := List.getElem?_eq_some_iff.1 hx
 rw [List.drop_eq_getElem_cons hl]
 rw [dataX, if_neg (by omega), if_neg (by omega)]; rfl
set_option maxRecDepth 100000 in
set_option maxHeartbeats 8000000 in
theorem data1_in (n : Nat) (hn : 1 ≤ n) (l Bs Bu n₀ : Nat) (A : Option Addr) (m c : Nat) (bx : List BX) (ses base sent lim timer above : Int) (ended : Bool) (J Jx : List PX → World → Prop) (W : World) (hJ : AbidesFrom W.heap.size J) (hm : m ≤ 8) (hb0 : 1 ≤ base) (hb1 : base ≤ 1099511627776)
 (hY : ∀ pre x W1, J pre W1 → pre.length < m → YieldAt Fence.wide (n - 1) Try.prog l #[.agg (PX.cells x)] W1 fun e W' => (e = .returned (.bool true) ∧ J (pre ++ [x]) W' ∧ Below n₀ W1 W') ∨ (e = .returned (.bool false) ∧ Jx (pre ++ [x]) W'))
 (hn₀ : n₀ ≤ W.heap.size) (hBs : Blk W Bs 29 #[.int .u32 ses, .int .u64 base, .slice A m c, .int .u64 sent, .int .u64 lim, .int .i64 timer, .bool ended]) (hBs' : Bs < n₀) (hBu : Blk W Bu 26 #[.int .u64 above]) (hBu' : Bu < n₀) (h : LBX.rd W (fun b => b < n₀) A m bx) (h0 : J [] W) :
 CallsIn Fence.wide n Try.prog 113 #[.func (.yield l) #[] #[], .pointer (some ⟨Bs, 0, none⟩), .pointer (some ⟨Bu, 0, none⟩)] W fun e W' => (∃ v, e = .returned v) ∧ ((∃ ys, ys = dataX ses lim above base bx ∧ J ys W') ∨ (∃ pre, pre <+: dataX ses lim above base bx ∧ Jx pre W')) := by
 have HLEN := Lib.hid h.1
 have HY := Lib.hid hY
 have HJ := Lib.hid hJ
 have HBS := Lib.hid hBs
 have HBU := Lib.hid hBu
 have c2 : W.cell? ⟨Bs, 2, none⟩ = some (.slice A m c) := hBs.cell 2
 clear hY hJ hBs hBu
 refine callsIn_of_wp Try.func113 rfl trivial ?_ rfl
 simp only [Try.ntmps113, List.size_toArray, List.length_cons, List.length_nil, Nat.reduceAdd, Nat.reduceSub, Array.replicate_succ, Array.replicate_zero, List.push_toArray, List.append_toArray, List.nil_append, List.cons_append]
 gi_wp2
 clear c2
 gi_loopw [10] (fun i wr => ∃ (k : Nat) (pre : List PX), k ≤ m ∧ i = .int .i64 k ∧ pre.length ≤ k ∧ pre ++ dataX ses lim above (base + k) (bx.drop k) = dataX ses lim above base bx ∧ J pre wr ∧ Below n₀ W wr) (fun i _ => m - (intOf i).toNat)
 case atStart => exact ⟨0, [], Nat.zero_le _, rfl, Nat.le_refl _, by simp, h0, Below.refl _ _⟩
 case round =>
  obtain ⟨k, pre, hk, rfl, hpl, hpre, hJs, hb⟩ := hrel
  have hbw : n₀ ≤ wr.heap.size := Nat.le_trans hn₀ hb.size
  have s0 : wr.cell? ⟨Bs, 0, none⟩ = some (.int .u32 ses) := (HBS.out.below hb hBs').cell 0
  have s1 : wr.cell? ⟨Bs, 1, none⟩ = some (.int .u64 base) := (HBS.out.below hb hBs').cell 1
  have s4 : wr.cell? ⟨Bs, 4, none⟩ = some (.int .u64 lim) := (HBS.out.below hb hBs').cell 4
  have u0 : wr.cell? ⟨Bu, 0, none⟩ = some (.int .u64 above) := (HBU.out.below hb hBu').cell 0
  have hw1 : IntKind.u64.wrap (k : Int) = k := u64_inD (by omega) (by omega)
  have hw2 : IntKind.u64.wrap (base + k) = base + k := u64_inD (by omega) (by omega)
  have HJS := Lib.hid hJs
  have HB0 := Lib.hid hb
  have HPRE := Lib.hid hpre
  by_cases hlt : k < m
  · have hi1 : (k : Int) < (m : Int) := by omega
    obtain ⟨ad, x, rfl, hx, q1⟩ := LBX_at (Lay.rd_keep (w' := wr) (fun b hb' _ => hb.block b hb') h) hlt
    have e0 := q1.c0
    have e1 := q1.c1
    have e2 := q1.c2
    have HX := Lib.hid hx
    have b1 := bl_al (Below.refl wr.heap.size wr) (.cells #[.slice x.A x.n x.c, .bool x.b.fin, .int .u64 x.b.cnt] 45)
    have bX := Blk.new wr 45 #[.slice x.A x.n x.c, .bool x.b.fin, .int .u64 x.b.cnt]
    have t0 : (wr.alloc (.cells #[.slice x.A x.n x.c, .bool x.b.fin, .int .u64 x.b.cnt] 45)).cell? ⟨Bs, 0, none⟩ = some (.int .u32 ses) := ((HBS.out.below hb hBs').ca b1).cell 0
    have t1 : (wr.alloc (.cells #[.slice x.A x.n x.c, .bool x.b.fin, .int .u64 x.b.cnt] 45)).cell? ⟨Bs, 1, none⟩ = some (.int .u64 base) := ((HBS.out.below hb hBs').ca b1).cell 1
    have t4 : (wr.alloc (.cells #[.slice x.A x.n x.c, .bool x.b.fin, .int .u64 x.b.cnt] 45)).cell? ⟨Bs, 4, none⟩ = some (.int .u64 lim) := ((HBS.out.below hb hBs').ca b1).cell 4
    have v0 : (wr.alloc (.cells #[.slice x.A x.n x.c, .bool x.b.fin, .int .u64 x.b.cnt] 45)).cell? ⟨Bu, 0, none⟩ = some (.int .u64 above) := ((HBU.out.below hb hBu').ca b1).cell 0
    have y0 : (wr.alloc (.cells #[.slice x.A x.n x.c, .bool x.b.fin, .int .u64 x.b.cnt] 45)).cell? ⟨wr.heap.size, 0, none⟩ = some (.slice x.A x.n x.c) := bX.cell 0
    have y1 : (wr.alloc (.cells #[.slice x.A x.n x.c, .bool x.b.fin, .int .u64 x.b.cnt] 45)).cell? ⟨wr.heap.size, 1, none⟩ = some (.bool x.b.fin) := bX.cell 1
    have y2 : (wr.alloc (.cells #[.slice x.A x.n x.c, .bool x.b.fin, .int .u64 x.b.cnt] 45)).cell? ⟨wr.heap.size, 2, none⟩ = some (.int .u64 x.b.cnt) := bX.cell 2
    have HT := Lib.hid (show Below wr.heap.size wr (wr.alloc (.cells #[.slice x.A x.n x.c, .bool x.b.fin, .int .u64 x.b.cnt] 45)) from b1)
    have HJ2 := Lib.hid (HJ.out _ _ _ none HJS.out (grown_of_below b1) (fun r e => by cases e))
    clear hx q1 hJs hb hpre b1 bX h
    by_cases hl : lim < base + k
    · have d1 : decide (lim < base + (k : Int)) = true := by simpa using hl
      have HE := Lib.hid (show pre = dataX ses lim above base bx from by rw [← HPRE.out, dataX_end _ hl, List.append_nil])
      gi_wp2
      refine bodyPost_ret (results_none rfl _ _ _) rfl ?_
      exact ⟨⟨_, rfl⟩, .inl ⟨_, rfl, by rw [← HE.out]; exact HJ2.out⟩⟩
    · have d1 : decide (lim < base + (k : Int)) = false := by simp; omega
      by_cases ha : above < base + k
      · have d2 : decide (above < base + (k : Int)) = true := by simpa using ha
        have HN := Lib.hid (show (pre ++ [(⟨⟨1, ses, base + k, 0, x.b⟩, x.A, x.n, x.c⟩ : PX)]) ++ dataX ses lim above (base + (k + 1 : Nat)) (bx.drop (k + 1)) = dataX ses lim above base bx from by
         rw [← HPRE.out, dataX_yes HX.out (by omega) ha, List.append_assoc, List.singleton_append, show base + ((k + 1 : Nat) : Int) = base + k + 1 from by omega])
        obtain ⟨fn, tmps, assign, body, hy, hR⟩ := HY.out _ ⟨⟨1, ses, base + k, 0, x.b⟩, x.A, x.n, x.c⟩ _ HJ2.out (by omega)
        have HRR := Lib.hid hR
        clear hR
        gi_wp2
        refine HRR.out.mono ?_
        rintro e W3 (⟨rfl, hJ3, hk3⟩ | ⟨rfl, hJx3⟩)
        · have HJ3 := Lib.hid hJ3
          have HB3 := Lib.hid ((HB0.out.trans (HT.out.mono (by omega))).trans hk3)
          clear hJ3 hk3 hy
          gi_wp2
          go_roundw
          case rel => exact ⟨k + 1, _, by omega, by go_num, by simp; omega, HN.out, HJ3.out, HB3.out⟩
          case measure => simp [intOf]; omega
        · clear hy
          gi_wp2
          refine bodyPost_ret (results_none rfl _ _ _) rfl ?_
          exact ⟨⟨_, rfl⟩, .inr ⟨_, ⟨_, HN.out⟩, hJx3⟩⟩
      · have d2 : decide (above < base + (k : Int)) = false := by simp; omega
        have HN := Lib.hid (show pre ++ dataX ses lim above (base + (k + 1 : Nat)) (bx.drop (k + 1)) = dataX ses lim above base bx from by
         rw [← HPRE.out, dataX_no HX.out (by omega) (by omega), show base + ((k + 1 : Nat) : Int) = base + k + 1 from by omega])
        have HB3 := Lib.hid (HB0.out.trans (HT.out.mono (by omega)))
        gi_wp2
        refine ⟨fun _ h => (by cases h), ?_⟩
        gi_wp2
        go_roundw
        case rel => exact ⟨k + 1, _, by omega, by go_num, by omega, HN.out, HJ2.out, HB3.out⟩
        case measure => simp [intOf]; omega
  · obtain rfl : k = m := by omega
    have hi1 : (k : Int) ≤ (k : Int) := by omega
    have HF := Lib.hid (show pre = dataX ses lim above base bx from by rw [← HPRE.out, List.drop_of_length_le (by rw [HLEN.out]; exact Nat.le_refl _)]; simp [dataX])
    gi_wp2
    go_end0
    exact ⟨⟨_, rfl⟩, .inl ⟨_, rfl, by rw [← HF.out]; exact HJS.out⟩⟩
end Go.Proofs.Ytojghgbaiiajfaa
/- link.collected: all that a function over which one ranges tells. Conditions: the function keeps to its contract. -/
namespace Go.Proofs.Ytojghgbaiiajfaa
open Go.RowKit Go.Shelf
attribute [local go_sem] Oper.semAt_some
theorem Try.pkInfo : (Try.prog.info? 47).map (fun i => (i.zero, i.size, i.bytes)) = some (some (.agg #[.int .i64 0, .int .u32 0, .int .u64 0, .int .u64 0, .slice none 0 0, .bool false, .int .u64 0]), 7, 72) := by kernel_rfl
def rowX (xs : List PX) : List Value := xs.flatMap fun x => x.cells.toList
theorem rowX_one (pre : List PX) (x : PX) : rowX (pre ++ [x]) = rowX pre ++ x.cells.toList := by unfold rowX; simp
set_option maxRecDepth 100000 in
set_option maxHeartbeats 8000000 in
theorem collected_in (n : Nat) (hn : 2 ≤ n) (gf : FuncId) (lb : Array Value) (xs : List PX) (N : Nat) (w : World) (hN : N ≤ 1000000) (eg : ∀ (args : Array Value) (w : World), (callFunc gf args).run Try.prog w = .ok (.enter gf args) w)
 (hseq : SeqStopsK Fence.wide (n - 1) Try.prog gf lb (fun x : PX => #[Value.agg x.cells]) (Below w.heap.size) (fun ys => ys = xs) (fun pre => pre <+: xs) N w) :
 CallsIn Fence.wide n Try.prog 94 #[.func (.func gf) #[] lb] w fun e W' => ∃ v, e = .returned v ∧ W'.ownsRow w.heap.size 47 7 v xs.length (rowX xs) ∧ Below w.heap.size w W' := by
 have h1 : 1 ≤ n := by omega
 obtain ⟨i0, hi, hz0, hz1, hz2⟩ := info_parts Try.pkInfo
 refine callsIn_of_wp_marks Try.func94 rfl trivial ?_ rfl
 simp only [Try.ntmps94, List.size_toArray, List.length_cons, List.length_nil, Nat.reduceAdd, Nat.reduceSub, Array.replicate_succ, Array.replicate_zero, List.push_toArray, List.append_toArray, List.nil_append, List.cons_append]
 gi_wp2
 have bO := Boxed.new w 50 (.slice none 0 0)
 have hB0 : Below w.heap.size w (w.alloc (.cells #[.slice none 0 0] 50)) := (Below.refl _ w).alloc (Nat.le_refl _) _
 refine wpIn_rangeFunc_ownH rfl h1 (gf := gf) (lb := lb) rfl trivial eg hseq (fun h k => belowK_t h k) (belowK_b (by simp)) hB0 (fun _ => rfl)
  (fun (pre : List PX) W => (∃ v, Boxed W w.heap.size 50 v ∧ W.ownsRow w.heap.size 47 7 v pre.length (rowX pre) ∧ True) ∧ Below w.heap.size w W)
  (fun _ _ _ => False)
  (OwnFrom.and (Own.from (holdsRow_own w.heap.size w.heap.size 50 47 7 (fun pre : List PX => pre.length) rowX (fun _ _ => True)) _) (ownFrom_below (Nat.le_refl _) (by simp)))
  (fun _ _ _ _ _ hs _ _ => hs)
  ⟨⟨_, bO, World.ownsRow_nil _ _ _ _, trivial⟩, hB0⟩
  (fun x a' W => ∃ g, a' = { tmps := #[.func (.func gf) #[] lb, undef, .slice none 0 0, .pointer (some ⟨w.heap.size, 0, none⟩), .pointer (some ⟨g, 0, none⟩), .func (.func gf) #[] lb, .agg x.cells, undef, undef, undef, undef, undef], defers := [] } ∧ Blk W g 47 x.cells)
  (fun x a' _ X Y row hs hg hr => by
   obtain ⟨g, e, hb⟩ := hs
   exact ⟨g, e, hb.grown hg (fun e' => by obtain ⟨o, ho, hc⟩ := (hr g e'.symm).2; rw [show X.heap[g]? = _ from hb] at ho; cases ho; cases hc)⟩) ?assign ?body ?done ?stop
 case assign =>
  intro l pre x W K hI hK
  have b1 := bl_al (Below.refl W.heap.size W) (.cells #[.int .i64 x.p.kind, .int .u32 x.p.ses, .int .u64 x.p.seq, .int .u64 x.p.lim, .slice x.A x.n x.c, .bool x.p.b.fin, .int .u64 x.p.b.cnt] 47)
  have hb := hI.2
  obtain ⟨⟨v, hv, hrow, _⟩, hB⟩ := hI
  have hbs := hB.size
  gi_wp2
  exact hK _ _ ((KeepsOthers.alloc W _).from _) (b1.mono hbs) ⟨⟨v, hv.alloc _, hrow.alloc _, trivial⟩, hB.trans (b1.mono hbs)⟩ ⟨W.heap.size, rfl, Blk.new _ _ _⟩
 case body =>
  rintro l pre x a' W _ _ ⟨⟨v, hv, hrow, _⟩, hB⟩ ⟨g, rfl, hbx⟩ hlt
  have hc := hv.cell
  have x0 := hbx.cell 0
  have x1 := hbx.cell 1
  have x2 := hbx.cell 2
  have x3 := hbx.cell 3
  have x4 := hbx.cell 4
  have x5 := hbx.cell 5
  have x6 := hbx.cell 6
  simp at x0 x1 x2 x3 x4 x5 x6
  have bT := Blk.new W 47 #[.int .i64 x.p.kind, .int .u32 x.p.ses, .int .u64 x.p.seq, .int .u64 x.p.lim, .slice x.A x.n x.c, .bool x.p.b.fin, .int .u64 x.p.b.cnt]
  have hnew : ∀ (j : Nat) (u : Value), x.cells.toList[j]? = some u → (W.alloc (.cells #[.int .i64 x.p.kind, .int .u32 x.p.ses, .int .u64 x.p.seq, .int .u64 x.p.lim, .slice x.A x.n x.c, .bool x.p.b.fin, .int .u64 x.p.b.cnt] 47)).cell? ((⟨W.heap.size, 0, none⟩ : Addr).add j) = some u := fun j u hu => (by
   have h1 := bT.cell j
   rw [show (⟨W.heap.size, 0, none⟩ : Addr).add j = ⟨W.heap.size, j, none⟩ from by unfold Addr.add; split <;> simp_all]
   rw [h1]; simpa using hu)
  have h1c : ∀ u ∈ x.cells.toList, u.oneCell' = true := fun u hu => by simp at hu; rcases hu with rfl | rfl | rfl | rfl | rfl | rfl | rfl <;> rfl
  gi_wp2_with (gi_at_builtin; refine wpListIn_append_own _ rfl _ _ 50 rfl w.heap.size 47 i0 _ 7 72 Try.underlying50 hi hz0 hz1 hz2 rfl (by decide) _ _ _ rfl (hrow.alloc _) ⟨W.heap.size, 0, none⟩ 1 1 x.cells.toList rfl rfl hnew h1c (by unfold maxLen; omega) (by omega) (by have := hB.size; simp; omega) ?_; intro v' w1 hown' hgrow _; obtain ⟨g', cap', rfl⟩ := ownsRow_succ hown'; obtain ⟨hv1, hv2, hr2, hk2, hb2⟩ := hv.appended (by decide) hrow hB.size (Nat.le_refl _) hown' hgrow; have hc1 := hv1.cell; have hf1 := hv1.frozen)
  exact ⟨hk2.from _, hb2, ⟨_, hv2, by rw [rowX_one, show (pre ++ [x]).length = pre.length + 1 from by simp]; exact hr2⟩, hB.trans hb2⟩
 case done =>
  rintro D ys W hD rfl ⟨⟨v, hv, hrow, _⟩, hB⟩ hK
  have hc := hv.cell
  gi_wp2
  refine ⟨by simp, .inl ⟨_, _, rfl, run_takeDeferred hK, ?_⟩⟩
  exact ⟨_, results_tmp rfl _ _ _, v, rfl, ownsRow_putObj hrow _ hK rfl, hB.trans (belowK_b (w := w) (Nat.le_refl _) W D _ _ (by simp at hD; omega) hK rfl rfl)⟩
 case stop =>
  rintro D c pre W _ _ h _
  exact h.elim
end Go.Proofs.Ytojghgbaiiajfaa
