/- The law's few: a query that can be gone through. Conditions: the query reads so. -/
import Derived.Test.YtoaggmldekejoaaGreatDoorPkQ10
import Derived.Deep.CutBlock
import Derived.Deep.DeepCutAuto
namespace Go.Proofs.YtoaggmldekejoaaGreatDoor
open Go.RowKit
def fewI (x : QI) : QI := ⟨shortN x.t, x.as_⟩
def fewJ (x : QJ) : QJ := ⟨x.left, x.tb, x.as_, shortN x.on⟩
def fewS (s : QS) : QS := ⟨s.dis, s.star, (s.items.take 7).map fewI, s.ftb, s.fas, (s.joins.take 3).map fewJ, shortN s.wh, shortN s.hv, s.grp.take 4⟩
def fewQ (q : QC) : QC := ⟨(q.sels.take 4).map fewS, q.keys.take 4, q.lim⟩
/-- texts that are no longer than memory is -/
def SmI (x : QI) : Prop := ∀ y ∈ x.t, SmP y.p
def SmJ (x : QJ) : Prop := ∀ y ∈ x.on, SmP y.p
def SmS (s : QS) : Prop := (∀ x ∈ s.items, SmI x) ∧ (∀ x ∈ s.joins, SmJ x) ∧ (∀ y ∈ s.wh, SmP y.p) ∧ ∀ y ∈ s.hv, SmP y.p
/-- the first ones worked on -/
def mixQ {α : Type} (f : α → α) (r : List α) (j : Nat) : List α := (r.take j).map f ++ r.drop j
section
variable {α : Type} {f : α → α} {r : List α} {j : Nat} {v : α}
theorem mixQ_zero : mixQ f r 0 = r := by simp [mixQ]
theorem mixQ_len : (mixQ f r j).length = r.length := by simp [mixQ]; omega
theorem mixQ_all (h : r.length ≤ j) : mixQ f r j = r.map f := by unfold mixQ; rw [List.take_of_length_le h, List.drop_of_length_le h, List.append_nil]
theorem mixQ_set (h : r[j]? = some v) : (mixQ f r j).set j (f v) = mixQ f r (j + 1) := by
 obtain ⟨hl, rfl⟩ := List.getElem?_eq_some_iff.1 h
 unfold mixQ
 rw [List.take_succ_eq_append_getElem hl, List.map_append, List.set_append_right _ _ (by simp; omega)]
 simp [Nat.min_eq_left (Nat.le_of_lt hl)]
 rw [List.drop_eq_getElem_cons hl, List.set_cons_zero]
theorem mixQ_at (h : (mixQ f r j)[j]? = some v) (hj : j < r.length) : r[j]? = some v := by
 unfold mixQ at h
 rw [List.getElem?_append_right (by simp; omega), List.length_map, List.length_take, Nat.min_eq_left (by omega), Nat.sub_self] at h
 simpa using h
end
theorem addr_lit0 (g i : Nat) : (⟨g, 0, none⟩ : Addr).add i = ⟨g, i, none⟩ := by unfold Addr.add; split <;> simp_all
theorem queryI : (Tryz.prog.info? 43).map (·.size) = some 3 := by kernel_rfl
theorem selectI : (Tryz.prog.info? 76).map (·.size) = some 9 := by kernel_rfl
def FA (gq s2 : Nat) (b : Nat) : Prop := b < gq ∨ s2 ≤ b
def FB (gq s2 gs s4 : Nat) (b : Nat) : Prop := FA gq s2 b ∧ (b < gs ∨ s4 ≤ b)
def CutS (gq : Nat) (w1 : World) (q : QC) (n1 : Nat) (v : Value) (w' : World) : Prop := ∃ A c, v = .slice A n1 c ∧ LQS.own 76 w' w1.heap.size (fun b => b < gq) A n1 c (q.sels.take 4)
theorem cutS_keep {gq : Nat} {w1 : World} {q : QC} {n1 : Nat} {v : Value} {w9 w8 : World} (h : CutS gq w1 q n1 v w9) (q8 : Below w9.heap.size w9 w8) : CutS gq w1 q n1 v w8 := by
 obtain ⟨A, c, e, h⟩ := h
 exact ⟨A, c, e, Lay.own_below h q8⟩
theorem cutS_lt {gq : Nat} {w1 : World} {q : QC} {n1 : Nat} {v : Value} {w9 : World} (h : CutS gq w1 q n1 v w9) : ∀ b, v.ownBlock = some b → b < w9.heap.size := by
 obtain ⟨A, c, rfl, h⟩ := h
 exact fun b e => (Lay.own_base h b e).2
def CutK (gq : Nat) (w1 : World) (q : QC) (m1 : Nat) (v0 v : Value) (w' : World) : Prop := ∃ A c G, v = .slice A m1 c ∧ LQK.own 79 w' G (fun b => b < gq) A m1 c (q.keys.take 4) ∧ w1.heap.size ≤ G ∧ ∀ b, v0.ownBlock = some b → b < G
def CutI (gq gs s2 : Nat) (w3 : World) (x : QS) (k : Nat) (v : Value) (w' : World) : Prop := ∃ A c, v = .slice A k c ∧ LQI.own 82 w' w3.heap.size (fun b => FA gq s2 b ∧ b < gs) A k c (x.items.take 7)
theorem cutI_keep {gq gs s2 : Nat} {w3 : World} {x : QS} {k : Nat} {v : Value} {w9 w8 : World} (h : CutI gq gs s2 w3 x k v w9) (q8 : Below w9.heap.size w9 w8) : CutI gq gs s2 w3 x k v w8 := by
 obtain ⟨A, c, e, h⟩ := h
 exact ⟨A, c, e, Lay.own_below h q8⟩
theorem cutI_lt {gq gs s2 : Nat} {w3 : World} {x : QS} {k : Nat} {v : Value} {w9 : World} (h : CutI gq gs s2 w3 x k v w9) : ∀ b, v.ownBlock = some b → b < w9.heap.size := by
 obtain ⟨A, c, rfl, h⟩ := h
 exact fun b e => (Lay.own_base h b e).2
def CutJ (gq gs s2 : Nat) (w3 : World) (x : QS) (k : Nat) (v0 v : Value) (w' : World) : Prop := ∃ A c G, v = .slice A k c ∧ LQJ.own 85 w' G (fun b => FA gq s2 b ∧ b < gs) A k c (x.joins.take 3) ∧ w3.heap.size ≤ G ∧ ∀ b, v0.ownBlock = some b → b < G
theorem cutJ_keep {gq gs s2 : Nat} {w3 : World} {x : QS} {k : Nat} {v0 v : Value} {w9 w8 : World} (h : CutJ gq gs s2 w3 x k v0 v w9) (q8 : Below w9.heap.size w9 w8) : CutJ gq gs s2 w3 x k v0 v w8 := by
 obtain ⟨A, c, G, e, h, h2⟩ := h
 exact ⟨A, c, G, e, Lay.own_below h q8, h2⟩
theorem cutJ_lt {gq gs s2 : Nat} {w3 : World} {x : QS} {k : Nat} {v0 v : Value} {w9 : World} (h : CutJ gq gs s2 w3 x k v0 v w9) : ∀ b, v.ownBlock = some b → b < w9.heap.size := by
 obtain ⟨A, c, G, rfl, h, _⟩ := h
 exact fun b e => (Lay.own_base h b e).2
def CutN (gq gs s2 : Nat) (w3 : World) (x : QS) (k : Nat) (v00 v0 v : Value) (w' : World) : Prop := ∃ A c G, v = .slice A k c ∧ (LQN.own 88 w' G (fun b => FA gq s2 b ∧ b < gs) A k c (x.grp.take 4) ∧ w3.heap.size ≤ G ∧ ∀ b, v0.ownBlock = some b → b < G) ∧ ∀ b, v00.ownBlock = some b → b < G
def ShT (w0 : World) (xs : List Nd) (v : Value) (w' : World) : Prop := ∃ A n c, v = .agg #[.slice A n c] ∧ LN.rd w' (fun b => w0.heap.size ≤ b) A n (shortN xs) ∧ n ≤ c ∧ c ≤ 9223372036854775807
theorem sht_keep {w0 : World} {xs : List Nd} {v : Value} {w9 w8 : World} (h : ShT w0 xs v w9) (q8 : Below w9.heap.size w9 w8) : ShT w0 xs v w8 := by
 obtain ⟨A, n, c, e, h, h2⟩ := h
 exact ⟨A, n, c, e, Lay.rd_below h q8, h2⟩
set_option maxRecDepth 100000 in
set_option maxHeartbeats 16000000 in
theorem few_any (F : Nat → Prop) (q : QC) (A : Option Addr) (n c : Nat) (B : Option Addr) (m d : Nat) (w : World) (h1 : LQS.rd w F A n q.sels) (hnc : n ≤ c) (hcm : c ≤ 9223372036854775807) (h2 : LQK.rd w F B m q.keys) (hmd : m ≤ d) (hdm : d ≤ 9223372036854775807) (hS : ∀ s ∈ q.sels, SmS s) :
 Calls Tryz.prog 16 #[q.val A n c B m d] w fun e w' => ∃ A' n' c' B' m' d', e = .returned ((fewQ q).val A' n' c' B' m' d') ∧ LQS.rd w' AllB A' n' (fewQ q).sels ∧ (n' ≤ c' ∧ c' ≤ 9223372036854775807) ∧ LQK.rd w' AllB B' m' (fewQ q).keys ∧ (m' ≤ d' ∧ d' ≤ 9223372036854775807) ∧ Below w.heap.size w w' := by
 have q1 := bl_al (Below.refl w.heap.size w) (.cells #[.slice A n c, .slice B m d, .int .i64 q.lim] 43)
 have q2 := bl_al q1 (.cells #[.slice none 0 0, .slice none 0 0, .int .i64 0] 43)
 have hz1 : (w.alloc (.cells #[.slice A n c, .slice B m d, .int .i64 q.lim] 43)).heap.size = w.heap.size + 1 := World.size_alloc _ _
 have hg1 := (Blk.new w 43 #[.slice A n c, .slice B m d, .int .i64 q.lim]).ca (bl_al (Below.refl _ (w.alloc (.cells #[.slice A n c, .slice B m d, .int .i64 q.lim] 43))) (.cells #[.slice none 0 0, .slice none 0 0, .int .i64 0] 43))
 have hr1 := Blk.new (w.alloc (.cells #[.slice A n c, .slice B m d, .int .i64 q.lim] 43)) 43 #[.slice none 0 0, .slice none 0 0, .int .i64 0]
 rw [hz1] at hr1
 have hz2 : ((w.alloc (.cells #[.slice A n c, .slice B m d, .int .i64 q.lim] 43)).alloc (.cells #[.slice none 0 0, .slice none 0 0, .int .i64 0] 43)).heap.size = w.heap.size + 2 := by simp only [World.size_alloc]
 have hs1 := Lay.rd_below (Lay.rd_weak (G := fun b => b < w.heap.size) (fun _ _ h => h) h1) q2
 have hk1 := Lay.rd_below (Lay.rd_weak (G := fun b => b < w.heap.size) (fun _ _ h => h) h2) q2
 obtain ⟨gq, hgq⟩ : ∃ gq, gq = w.heap.size := ⟨_, rfl⟩
 rw [← hgq] at hg1 hr1 hz2 hs1 hk1
 have HG1 := Lib.hid hg1
 have HR1 := Lib.hid hr1
 have HQ1 := Lib.hid q2
 have HS1 := Lib.hid hs1
 have HK1 := Lib.hid hk1
 obtain ⟨n1, hn1⟩ : ∃ n1, n1 = min n 4 := ⟨_, rfl⟩
 obtain ⟨m1, hm1⟩ : ∃ m1, m1 = min m 4 := ⟨_, rfl⟩
 have HN1 := Lib.hid hn1
 have HM1 := Lib.hid hm1
 have hn4 : n1 ≤ 4 := by omega
 have HSM := Lib.hid hS
 have hgw : w.heap.size ≤ gq := by omega
 clear q1 q2 hz1 hg1 hr1 h1 h2 hn1 hm1 hS hs1 hk1
 go_enter Tryz.func16, Tryz.ntmps16
 go_upto_region 1 with fail
 generalize (w.alloc (.cells #[.slice A n c, .slice B m d, .int .i64 q.lim] 43)).alloc (.cells #[.slice none 0 0, .slice none 0 0, .int .i64 0] 43) = w1 at *
 rw [← hgq]
 have HGQ := Lib.hid hgq
 clear hgq
 refine wp_region_ps (S := SeqN [2, 5, 7, 9] (fun z mm w' => match z with | 0 => Below w1.heap.size w1 w' | 1 => Below w1.heap.size w1 w' ∧ CutS gq w1 q n1 (mm 2) w' | 2 => Below w1.heap.size w1 w' ∧ CutS gq w1 q n1 (mm 2) w' ∧ CutK gq w1 q m1 (mm 2) (mm 5) w' | 3 => ∃ wq, Below w1.heap.size w1 wq ∧ CutS gq w1 q n1 (mm 2) wq ∧ CutK gq w1 q m1 (mm 2) (mm 5) wq ∧ wq.grownBy w' (some gq) ∧ Blk w' gq 43 #[mm 2, .slice B m d, .int .i64 (q.lim)] | _ => ∃ wq, Below w1.heap.size w1 wq ∧ CutS gq w1 q n1 (mm 2) wq ∧ CutK gq w1 q m1 (mm 2) (mm 5) wq ∧ wq.grownBy w' (some gq) ∧ Blk w' gq 43 #[mm 2, mm 5, .int .i64 (q.lim)])) (by kernel_rfl) ?spswg1 ?ppswg1
 case spswg1 =>
  exact SeqN.start (by decide) (Below.refl _ _).drew
 refine Pz 0 (some 9) (.pointer (some ⟨gq, 0, none⟩)) rfl rfl (by exact StepS.pure (SeqN.pass (by decide)) rfl fun _ => rfl) ?_
 try simp only [Act.put, sA, sZ, sS]
 refine Pz 1 (some 10) (.slice A n c) rfl rfl ?ywg1_3 ?rwg1_3
 case ywg1_3 =>
  refine StepS.read [] (by kernel_rfl) (SeqN.pass (by decide)) (by rfl) (fun L9 m9 w9 hSh hAt hDn hS => ?_)
  have hT : Below w1.heap.size w1 w9 := SeqN.le [2, 5] [7, 9] (T := fun w9 => Below w1.heap.size w1 w9) (post_no hSh hDn (by kernel_rfl)) (fun z _ _ hz h => by match z, hz, h with | 0, _, h => exact h | 1, _, h => exact h.1 | 2, _, h => exact h.1 | _ + 3, hz, _ => exact absurd hz (by simp)) hS
  have x0 : w9.cell? ⟨gq, 0, none⟩ = some (.slice A n c) := (HG1.out.ca hT).cell 0
  clear hT hS
  go_simp
  try rfl
 try simp only [Act.put, sA, sZ, sS]
 refine Pz 3 (some 12) (.pointer (some ⟨gq, 1, none⟩)) rfl rfl (by exact StepS.pure (SeqN.pass (by decide)) rfl fun _ => rfl) ?_
 try simp only [Act.put, sA, sZ, sS]
 refine Pz 4 (some 13) (.slice B m d) rfl rfl ?ywg1_5 ?rwg1_5
 case ywg1_5 =>
  refine StepS.read [] (by kernel_rfl) (SeqN.pass (by decide)) (by rfl) (fun L9 m9 w9 hSh hAt hDn hS => ?_)
  have hT : Below w1.heap.size w1 w9 := SeqN.le [2, 5] [7, 9] (T := fun w9 => Below w1.heap.size w1 w9) (post_no hSh hDn (by kernel_rfl)) (fun z _ _ hz h => by match z, hz, h with | 0, _, h => exact h | 1, _, h => exact h.1 | 2, _, h => exact h.1 | _ + 3, hz, _ => exact absurd hz (by simp)) hS
  have x0 : w9.cell? ⟨gq, 1, none⟩ = some (.slice B m d) := (HG1.out.ca hT).cell 1
  clear hT hS
  go_simp
  try rfl
 try simp only [Act.put, sA, sZ, sS]
 refine Ps.one (k := 2) (d := some 11) rfl rfl (by kernel_rfl) (TurnS.call (V := fun _ => True) ?fwg1_6 ?awg1_6 [] (by kernel_rfl) (by rfl) (fun w9 => ?hwg1_6) (fun L9 m9 w9 hSh hAt hDn hS => ?cwg1_6)) (fun v2a hVv2a => ?rwg1_6)
 case hwg1_6 => go_simp; refine ⟨?_, ?_⟩ <;> rfl
 case cwg1_6 =>
  have hT := SeqN.at_ (m0 := m9) (m1 := m9) [] [5, 7, 9] hSh (fun d hd => by cases hd) hDn (by kernel_rfl) hS
  have HC := qcutS (fun b => b < gq) A n c 4 q.sels w9 (Lay.rd_below HS1.out hT) hnc hcm (by omega)
  rw [← HN1.out] at HC
  refine HC.mono ?_
  rintro e w8 ⟨A9, c9, rfl, ho, q8⟩
  have h8 : CutS gq w1 q n1 (.slice A9 n1 c9) w8 := ⟨A9, c9, rfl, Lay.own_less (Lay.own_weak (fun b hb _ => hb.1) ho) hT.size⟩
  exact ⟨_, rfl, trivial, SeqN.set_ (m0 := m9) (m1 := m9) [] [5, 7, 9] hSh (fun d hd => by cases hd) hDn (by kernel_rfl) (by decide) (by decide) ⟨bl_ca hT q8, h8⟩⟩
 try simp only [Act.put, sA, sZ, sS]
 refine Pz 6 (some 15) (.pointer (some ⟨gq, 0, none⟩)) rfl rfl (by exact StepS.pure (SeqN.pass (by decide)) rfl fun _ => rfl) ?_
 try simp only [Act.put, sA, sZ, sS]
 refine Ps.one (k := 5) (d := some 14) rfl rfl (by kernel_rfl) (TurnS.call (V := fun _ => True) ?fwg1_8 ?awg1_8 [2] (by kernel_rfl) (by rfl) (fun w9 => ?hwg1_8) (fun L9 m9 w9 hSh hAt hDn hS => ?cwg1_8)) (fun v5a hVv5a => ?rwg1_8)
 case hwg1_8 => go_simp; refine ⟨?_, ?_⟩ <;> rfl
 case cwg1_8 =>
  obtain ⟨hT, p2⟩ := SeqN.at_ [2] [7, 9] hSh hAt hDn (by kernel_rfl) hS
  have HC := qcutK (fun b => b < gq) B m d 4 q.keys w9 (Lay.rd_below HK1.out hT) hmd hdm (by omega)
  rw [← HM1.out] at HC
  refine HC.mono ?_
  rintro e w8 ⟨B9, d9, rfl, ho, q8⟩
  have h8 : CutK gq w1 q m1 (m9 2) (.slice B9 m1 d9) w8 := ⟨B9, d9, w9.heap.size, rfl, Lay.own_weak (fun b hb _ => hb.1) ho, hT.size, cutS_lt p2⟩
  exact ⟨_, rfl, trivial, SeqN.set_ [2] [7, 9] hSh hAt hDn (by kernel_rfl) (by decide) (by decide) ⟨bl_ca hT q8, (cutS_keep p2 q8), h8⟩⟩
 try simp only [Act.put, sA, sZ, sS]
 refine Pz 7 none undef rfl rfl ?ywg1_9 ?rwg1_9
 case ywg1_9 =>
  refine StepS.store [2, 5] (by kernel_rfl) (by rfl) (fun L9 m9 w9 hSh hAt hDn hS => ?_)
  obtain ⟨hT, p2, p5⟩ := SeqN.at_ [2, 5] [9] hSh hAt hDn (by kernel_rfl) hS
  have hbk := HG1.out.ca hT
  have hg := World.grownBy.refl w9 (some gq)
  obtain ⟨A_0, c_0, ev0, pp0⟩ := p2
  have ew0 := (hAt 2 (by simp)).2.symm.trans ev0
  subst ew0
  have hbk0 : Blk w9 gq 43 #[.slice A n c, .slice B m d, .int .i64 (q.lim)] := by exact hbk
  have hN2 : Blk (w9.setCell ⟨gq, 0, none⟩ (.slice A_0 n1 c_0)) gq 43 #[.slice A_0 n1 c_0, .slice B m d, .int .i64 (q.lim)] := by simpa using hbk0.set_ 0 (.slice A_0 n1 c_0)
  have hg2 : w9.grownBy (w9.setCell ⟨gq, 0, none⟩ (.slice A_0 n1 c_0)) (some gq) := only_setCell (World.grownBy.refl _ _) (.inl rfl) _
  have y9 := hbk0.cell 0
  have fx : w9.frozen? ⟨gq, 0, none⟩ = false := hbk0.frozen 0
  refine ⟨w9.setCell ⟨gq, 0, none⟩ (.slice A_0 n1 c_0), ?_, SeqN.set_ [2, 5] [9] hSh hAt hDn (by kernel_rfl) (by decide) (by decide) ⟨w9, hT, (by first | exact p2 | exact ⟨A_0, c_0, ev0, pp0⟩), p5, grown_two2 hg hg2, ?_⟩⟩
  · clear hN2 hg2 hbk hbk0 hS pp0
    go_simp
  · first | exact hN2 | (simp only [ev0]; exact hN2)
 try simp only [Act.put]
 refine Pz 8 (some 16) (.pointer (some ⟨gq, 1, none⟩)) rfl rfl (by exact StepS.pure (SeqN.pass (by decide)) rfl fun _ => rfl) ?_
 try simp only [Act.put, sA, sZ, sS]
 refine Pz 9 none undef rfl rfl ?ywg1_11 ?rwg1_11
 case ywg1_11 =>
  refine StepS.store [2, 5, 7] (by kernel_rfl) (by rfl) (fun L9 m9 w9 hSh hAt hDn hS => ?_)
  obtain ⟨wq, hT, p2, p5, hg, hbk⟩ := SeqN.at_ [2, 5, 7] [] hSh hAt hDn (by kernel_rfl) hS
  obtain ⟨A_0, c_0, ev0, pp0⟩ := p2
  have ew0 := (hAt 2 (by simp)).2.symm.trans ev0
  subst ew0
  obtain ⟨B_1, d_1, G_1, ev1, pp1⟩ := p5
  have ew1 := (hAt 5 (by simp)).2.symm.trans ev1
  subst ew1
  have hbk0 : Blk w9 gq 43 #[.slice A_0 n1 c_0, .slice B m d, .int .i64 (q.lim)] := by first | exact hbk | (simpa only [ev0] using hbk)
  have hN2 : Blk (w9.setCell ⟨gq, 1, none⟩ (.slice B_1 m1 d_1)) gq 43 #[.slice A_0 n1 c_0, .slice B_1 m1 d_1, .int .i64 (q.lim)] := by simpa using hbk0.set_ 1 (.slice B_1 m1 d_1)
  have hg2 : w9.grownBy (w9.setCell ⟨gq, 1, none⟩ (.slice B_1 m1 d_1)) (some gq) := only_setCell (World.grownBy.refl _ _) (.inl rfl) _
  have y9 := hbk0.cell 1
  have fx : w9.frozen? ⟨gq, 1, none⟩ = false := hbk0.frozen 1
  refine ⟨w9.setCell ⟨gq, 1, none⟩ (.slice B_1 m1 d_1), ?_, SeqN.set_ [2, 5, 7] [] hSh hAt hDn (by kernel_rfl) (by decide) (by decide) ⟨wq, hT, (by first | exact p2 | exact ⟨A_0, c_0, ev0, pp0⟩), (by first | exact p5 | exact ⟨B_1, d_1, G_1, ev1, pp1⟩), grown_two2 hg hg2, ?_⟩⟩
  · clear hN2 hg2 hbk hbk0 hS pp0 pp1
    go_simp
  · first | exact hN2 | (simp only [ev0, ev1]; exact hN2)
 try simp only [Act.put]
 refine Ps.done (by kernel_rfl) (fun wg1 hS => ?_) _
 obtain ⟨wq, hT, p2, p5, hg, hbk⟩ := SeqN.fin (by rfl) hS
 clear hS
 have h2 : CutS gq w1 q n1 v2a wq := p2
 have h5 : CutK gq w1 q m1 v2a v5a wq := p5
 obtain ⟨A1, c1, rfl, ho⟩ := h2
 obtain ⟨B1, d1, G2, rfl, ho2, hG2, hL2⟩ := h5
 have hk2 : Blk wg1 gq 43 #[.slice A1 n1 c1, .slice B1 m1 d1, .int .i64 q.lim] := hbk
 have HO2 := Lib.hid (own_grownH ho hg (by omega) (fun k hk => by omega))
 have HK2 := Lib.hid (own_grownH ho2 hg (by omega) (fun k hk => by omega))
 have HL2 := Lib.hid hL2
 have hkd := Lay.own_caps ho2
 have hkc := Lay.own_caps ho
 have HG2 := Lib.hid hk2
 have HR2 := Lib.hid ((HR1.out.ca hT).grown hg (fun e => by injection e with e; omega))
 have HQ2 := Lib.hid (bl_gr (bl_ca HQ1.out hT) hg (by omega))
 have hs2 := Nat.le_trans hT.size hg.size
 clear hT hg hbk hk2 ho ho2 p2 p5 hL2
 obtain ⟨w2, rfl⟩ : ∃ x, x = wg1 := ⟨_, rfl⟩
 obtain ⟨s2, hs2e⟩ : ∃ s2, s2 = w2.heap.size := ⟨_, rfl⟩
 have HS2 := Lib.hid hs2e
 have hs2q : gq + 2 ≤ s2 := by omega
 have hs2w : s2 ≤ w2.heap.size := by omega
 clear hs2e
 have y9 := HG2.out.cell 0
 go_upto_block 0 with fail
 clear y9
 go_cut [] (fun wx => Hid (Chg (fun b => (Value.slice A1 n1 c1).ownBlock = some b) w2 wx) ∧ Hid (LQS.own 76 wx w1.heap.size (FA gq s2) A1 n1 c1 ((q.sels.take 4).map fewS)))
 case first =>
  go_wp2_with fail
  go_loopg [20] n1 (fun gk a wr => ∃ i : Nat, i + gk = n1 ∧ a = .int .i64 i ∧ Hid (Chg (fun b => (Value.slice A1 n1 c1).ownBlock = some b) w2 wr) ∧ Hid (LQS.own 76 wr w1.heap.size (FA gq s2) A1 n1 c1 (mixQ fewS (q.sels.take 4) i)))
  case atStart => exact ⟨0, by omega, rfl, Lib.hid (Chg.refl _ _), Lib.hid (by rw [mixQ_zero]; exact Lay.own_weak (fun b hb _ => .inl hb) HO2.out)⟩
  case round =>
  obtain ⟨i, hig, rfl, HCr0, HOr0⟩ := hrel
  obtain ⟨gk0, rfl⟩ : ∃ g, g = gk := ⟨_, rfl⟩
  obtain ⟨wr0, rfl⟩ : ∃ x, x = wr := ⟨_, rfl⟩
  by_cases hlt : i < n1
  · have hi1 : (i : Int) < (n1 : Int) := by omega
    have hi9 : i < n1 := hlt
    obtain ⟨g1, rfl⟩ := Lay.own_some HOr0.out (by omega)
    have hg1 := Lay.own_base HO2.out g1 (by simp [Value.ownBlock])
    obtain ⟨ad, x, I0, i0, j0, J0, u0, v0, W0, a0, b0, H0, e0, f0, G0, p0, q0, e9, hax, sp⟩ := LQS_own HOr0.out hlt
    injection e9 with e9
    subst e9
    have x0 := sp.z0
    rw [addr_lit0] at x0
    have x1 := sp.z1
    rw [addr_lit0] at x1
    have x2 := sp.z2
    rw [addr_lit0] at x2
    have x3 := sp.z3
    rw [addr_lit0] at x3
    have x4 := sp.z4
    rw [addr_lit0] at x4
    have x5 := sp.z5
    rw [addr_lit0] at x5
    have x6 := sp.z6
    rw [addr_lit0] at x6
    have x7 := sp.z7
    rw [addr_lit0] at x7
    have x8 := sp.z8
    rw [addr_lit0] at x8
    have hij := sp.k0
    have huv := sp.k1
    have hab := sp.k2
    have hef := sp.k3
    have hpq := sp.k4
    have HIr := Lib.hid sp.r0
    have HJr := Lib.hid sp.r1
    have HWr := Lib.hid sp.r2
    have HHr := Lib.hid sp.r3
    have HNr := Lib.hid sp.r4
    have hxq := mixQ_at hax (by have := Lay.own_len HOr0.out; rw [mixQ_len] at this; omega)
    have hsm := HSM.out x (List.mem_of_mem_take (List.mem_of_getElem? hxq))
    have HSI := Lib.hid hsm.1
    have HSJ := Lib.hid hsm.2.1
    have HSW := Lib.hid hsm.2.2.1
    have HSH := Lib.hid hsm.2.2.2
    have HMX := Lib.hid hax
    have HXQ := Lib.hid hxq
    have hsz0 := HCr0.out.size
    have q3 := bl_al (Below.refl wr0.heap.size wr0) (.cells (x.cells I0 i0 j0 J0 u0 v0 W0 a0 b0 H0 e0 f0 G0 p0 q0) 76)
    have hv3 := Blk.new wr0 76 (x.cells I0 i0 j0 J0 u0 v0 W0 a0 b0 H0 e0 f0 G0 p0 q0)
    have hz3 : (wr0.alloc (.cells (x.cells I0 i0 j0 J0 u0 v0 W0 a0 b0 H0 e0 f0 G0 p0 q0) 76)).heap.size = wr0.heap.size + 1 := World.size_alloc _ _
    have HQ3 := Lib.hid q3
    obtain ⟨gs, hgs⟩ : ∃ gs, gs = wr0.heap.size := ⟨_, rfl⟩
    rw [← hgs] at hv3 hz3
    have HV3 := Lib.hid hv3
    obtain ⟨k1, hk1⟩ : ∃ k1, k1 = min i0 7 := ⟨_, rfl⟩
    obtain ⟨k2, hk2⟩ : ∃ k2, k2 = min u0 3 := ⟨_, rfl⟩
    obtain ⟨k3, hk3⟩ : ∃ k3, k3 = min p0 4 := ⟨_, rfl⟩
    have hk17 : k1 ≤ 7 := by omega
    have hk27 : k2 ≤ 3 := by omega
    have HK1x := Lib.hid hk1
    have HK2x := Lib.hid hk2
    have HK3x := Lib.hid hk3
    have HGS := Lib.hid hgs
    have hgsw : gs ≤ wr0.heap.size := by omega
    have hgsl : s2 ≤ gs := by omega
    clear hax sp hxq hsm q3 hv3 hk1 hk2 hk3
    go_upto_region 5 with fail
    clear x0 x1 x2 x3 x4 x5 x6 x7 x8
    generalize wr0.alloc (.cells (x.cells I0 i0 j0 J0 u0 v0 W0 a0 b0 H0 e0 f0 G0 p0 q0) 76) = w3 at *
    rw [← hgs]
    have HI3 := Lib.hid (Lay.rd_below (Lay.rd_weak (G := fun b => FA gq s2 b ∧ b < gs) (fun b hb hl => ⟨hb, by omega⟩) HIr.out) HQ3.out)
    have HJ3 := Lib.hid (Lay.rd_below (Lay.rd_weak (G := fun b => FA gq s2 b ∧ b < gs) (fun b hb hl => ⟨hb, by omega⟩) HJr.out) HQ3.out)
    have HN3 := Lib.hid (Lay.rd_below (Lay.rd_weak (G := fun b => FA gq s2 b ∧ b < gs) (fun b hb hl => ⟨hb, by omega⟩) HNr.out) HQ3.out)
    have HW3 := Lib.hid (Lay.rd_below (Lay.rd_weak (G := fun b => FA gq s2 b ∧ b < gs) (fun b hb hl => ⟨hb, by omega⟩) HWr.out) HQ3.out)
    have HH3 := Lib.hid (Lay.rd_below (Lay.rd_weak (G := fun b => FA gq s2 b ∧ b < gs) (fun b hb hl => ⟨hb, by omega⟩) HHr.out) HQ3.out)
    clear hgs HIr HJr HNr HWr HHr
    refine wp_region_ps (S := SeqN [2, 5, 8, 10, 12, 14] (fun z mm w' => match z with | 0 => Below w3.heap.size w3 w' | 1 => Below w3.heap.size w3 w' ∧ CutI gq gs s2 w3 x k1 (mm 2) w' | 2 => Below w3.heap.size w3 w' ∧ CutI gq gs s2 w3 x k1 (mm 2) w' ∧ CutJ gq gs s2 w3 x k2 (mm 2) (mm 5) w' | 3 => Below w3.heap.size w3 w' ∧ CutI gq gs s2 w3 x k1 (mm 2) w' ∧ CutJ gq gs s2 w3 x k2 (mm 2) (mm 5) w' ∧ CutN gq gs s2 w3 x k3 (mm 2) (mm 5) (mm 8) w' | 4 => ∃ wq, Below w3.heap.size w3 wq ∧ CutI gq gs s2 w3 x k1 (mm 2) wq ∧ CutJ gq gs s2 w3 x k2 (mm 2) (mm 5) wq ∧ CutN gq gs s2 w3 x k3 (mm 2) (mm 5) (mm 8) wq ∧ wq.grownBy w' (some gs) ∧ Blk w' gs 76 #[.bool (x.dis), .bool (x.star), mm 2, .string x.ftb, .string x.fas, .slice J0 u0 v0, .slice W0 a0 b0, .slice H0 e0 f0, .slice G0 p0 q0] | 5 => ∃ wq, Below w3.heap.size w3 wq ∧ CutI gq gs s2 w3 x k1 (mm 2) wq ∧ CutJ gq gs s2 w3 x k2 (mm 2) (mm 5) wq ∧ CutN gq gs s2 w3 x k3 (mm 2) (mm 5) (mm 8) wq ∧ wq.grownBy w' (some gs) ∧ Blk w' gs 76 #[.bool (x.dis), .bool (x.star), mm 2, .string x.ftb, .string x.fas, mm 5, .slice W0 a0 b0, .slice H0 e0 f0, .slice G0 p0 q0] | _ => ∃ wq, Below w3.heap.size w3 wq ∧ CutI gq gs s2 w3 x k1 (mm 2) wq ∧ CutJ gq gs s2 w3 x k2 (mm 2) (mm 5) wq ∧ CutN gq gs s2 w3 x k3 (mm 2) (mm 5) (mm 8) wq ∧ wq.grownBy w' (some gs) ∧ Blk w' gs 76 #[.bool (x.dis), .bool (x.star), mm 2, .string x.ftb, .string x.fas, mm 5, .slice W0 a0 b0, .slice H0 e0 f0, mm 8])) (by kernel_rfl) ?spswg12 ?ppswg12
    case spswg12 =>
     exact SeqN.start (by decide) (Below.refl _ _).drew
    refine Pz 0 (some 25) (.pointer (some ⟨gs, 2, none⟩)) rfl rfl (by exact StepS.pure (SeqN.pass (by decide)) rfl fun _ => rfl) ?_
    try simp only [Act.put, sA, sZ, sS]
    refine Pz 1 (some 26) (.slice I0 i0 j0) rfl rfl ?ywg12_14 ?rwg12_14
    case ywg12_14 =>
     refine StepS.read [] (by kernel_rfl) (SeqN.pass (by decide)) (by rfl) (fun L9 m9 w9 hSh hAt hDn hS => ?_)
     have hT : Below w3.heap.size w3 w9 := SeqN.le [2, 5, 8] [10, 12, 14] (T := fun w9 => Below w3.heap.size w3 w9) (post_no hSh hDn (by kernel_rfl)) (fun z _ _ hz h => by match z, hz, h with | 0, _, h => exact h | 1, _, h => exact h.1 | 2, _, h => exact h.1 | 3, _, h => exact h.1 | _ + 4, hz, _ => exact absurd hz (by simp)) hS
     have x0 : w9.cell? ⟨gs, 2, none⟩ = some (.slice I0 i0 j0) := (HV3.out.ca hT).cell 2
     clear hT hS
     go_simp
     try rfl
    try simp only [Act.put, sA, sZ, sS]
    refine Pz 3 (some 28) (.pointer (some ⟨gs, 5, none⟩)) rfl rfl (by exact StepS.pure (SeqN.pass (by decide)) rfl fun _ => rfl) ?_
    try simp only [Act.put, sA, sZ, sS]
    refine Pz 4 (some 29) (.slice J0 u0 v0) rfl rfl ?ywg12_16 ?rwg12_16
    case ywg12_16 =>
     refine StepS.read [] (by kernel_rfl) (SeqN.pass (by decide)) (by rfl) (fun L9 m9 w9 hSh hAt hDn hS => ?_)
     have hT : Below w3.heap.size w3 w9 := SeqN.le [2, 5, 8] [10, 12, 14] (T := fun w9 => Below w3.heap.size w3 w9) (post_no hSh hDn (by kernel_rfl)) (fun z _ _ hz h => by match z, hz, h with | 0, _, h => exact h | 1, _, h => exact h.1 | 2, _, h => exact h.1 | 3, _, h => exact h.1 | _ + 4, hz, _ => exact absurd hz (by simp)) hS
     have x0 : w9.cell? ⟨gs, 5, none⟩ = some (.slice J0 u0 v0) := (HV3.out.ca hT).cell 5
     clear hT hS
     go_simp
     try rfl
    try simp only [Act.put, sA, sZ, sS]
    refine Pz 6 (some 31) (.pointer (some ⟨gs, 8, none⟩)) rfl rfl (by exact StepS.pure (SeqN.pass (by decide)) rfl fun _ => rfl) ?_
    try simp only [Act.put, sA, sZ, sS]
    refine Pz 7 (some 32) (.slice G0 p0 q0) rfl rfl ?ywg12_18 ?rwg12_18
    case ywg12_18 =>
     refine StepS.read [] (by kernel_rfl) (SeqN.pass (by decide)) (by rfl) (fun L9 m9 w9 hSh hAt hDn hS => ?_)
     have hT : Below w3.heap.size w3 w9 := SeqN.le [2, 5, 8] [10, 12, 14] (T := fun w9 => Below w3.heap.size w3 w9) (post_no hSh hDn (by kernel_rfl)) (fun z _ _ hz h => by match z, hz, h with | 0, _, h => exact h | 1, _, h => exact h.1 | 2, _, h => exact h.1 | 3, _, h => exact h.1 | _ + 4, hz, _ => exact absurd hz (by simp)) hS
     have x0 : w9.cell? ⟨gs, 8, none⟩ = some (.slice G0 p0 q0) := (HV3.out.ca hT).cell 8
     clear hT hS
     go_simp
     try rfl
    try simp only [Act.put, sA, sZ, sS]
    refine Ps.one (k := 2) (d := some 27) rfl rfl (by kernel_rfl) (TurnS.call (V := fun _ => True) ?fwg12_19 ?awg12_19 [] (by kernel_rfl) (by rfl) (fun w9 => ?hwg12_19) (fun L9 m9 w9 hSh hAt hDn hS => ?cwg12_19)) (fun v2b hVv2b => ?rwg12_19)
    case hwg12_19 => go_simp; refine ⟨?_, ?_⟩ <;> rfl
    case cwg12_19 =>
     have hT := SeqN.at_ (m0 := m9) (m1 := m9) [] [5, 8, 10, 12, 14] hSh (fun d hd => by cases hd) hDn (by kernel_rfl) hS
     have HC := qcutI (fun b => FA gq s2 b ∧ b < gs) I0 i0 j0 7 x.items w9 (Lay.rd_below HI3.out hT) hij.1 hij.2 (by omega)
     rw [← HK1x.out] at HC
     refine HC.mono ?_
     rintro e w8 ⟨A9, c9, rfl, ho, q8⟩
     have h8 : CutI gq gs s2 w3 x k1 (.slice A9 k1 c9) w8 := ⟨A9, c9, rfl, Lay.own_less (Lay.own_weak (fun b hb _ => hb.1) ho) hT.size⟩
     exact ⟨_, rfl, trivial, SeqN.set_ (m0 := m9) (m1 := m9) [] [5, 8, 10, 12, 14] hSh (fun d hd => by cases hd) hDn (by kernel_rfl) (by decide) (by decide) ⟨bl_ca hT q8, h8⟩⟩
    try simp only [Act.put, sA, sZ, sS]
    refine Pz 9 (some 34) (.pointer (some ⟨gs, 2, none⟩)) rfl rfl (by exact StepS.pure (SeqN.pass (by decide)) rfl fun _ => rfl) ?_
    try simp only [Act.put, sA, sZ, sS]
    refine Ps.one (k := 5) (d := some 30) rfl rfl (by kernel_rfl) (TurnS.call (V := fun _ => True) ?fwg12_21 ?awg12_21 [2] (by kernel_rfl) (by rfl) (fun w9 => ?hwg12_21) (fun L9 m9 w9 hSh hAt hDn hS => ?cwg12_21)) (fun v5b hVv5b => ?rwg12_21)
    case hwg12_21 => go_simp; refine ⟨?_, ?_⟩ <;> rfl
    case cwg12_21 =>
     obtain ⟨hT, p2⟩ := SeqN.at_ [2] [8, 10, 12, 14] hSh hAt hDn (by kernel_rfl) hS
     have HC := qcutJ (fun b => FA gq s2 b ∧ b < gs) J0 u0 v0 3 x.joins w9 (Lay.rd_below HJ3.out hT) huv.1 huv.2 (by omega)
     rw [← HK2x.out] at HC
     refine HC.mono ?_
     rintro e w8 ⟨A9, c9, rfl, ho, q8⟩
     have h8 : CutJ gq gs s2 w3 x k2 (m9 2) (.slice A9 k2 c9) w8 := ⟨A9, c9, w9.heap.size, rfl, Lay.own_weak (fun b hb _ => hb.1) ho, hT.size, cutI_lt p2⟩
     exact ⟨_, rfl, trivial, SeqN.set_ [2] [8, 10, 12, 14] hSh hAt hDn (by kernel_rfl) (by decide) (by decide) ⟨bl_ca hT q8, (cutI_keep p2 q8), h8⟩⟩
    try simp only [Act.put, sA, sZ, sS]
    refine Ps.one (k := 8) (d := some 33) rfl rfl (by kernel_rfl) (TurnS.call (V := fun _ => True) ?fwg12_22 ?awg12_22 [2, 5] (by kernel_rfl) (by rfl) (fun w9 => ?hwg12_22) (fun L9 m9 w9 hSh hAt hDn hS => ?cwg12_22)) (fun v8b hVv8b => ?rwg12_22)
    case hwg12_22 => go_simp; refine ⟨?_, ?_⟩ <;> rfl
    case cwg12_22 =>
     obtain ⟨hT, p2, p5⟩ := SeqN.at_ [2, 5] [10, 12, 14] hSh hAt hDn (by kernel_rfl) hS
     have HC := qcutN (fun b => FA gq s2 b ∧ b < gs) G0 p0 q0 4 x.grp w9 (Lay.rd_below HN3.out hT) hpq.1 hpq.2 (by omega)
     rw [← HK3x.out] at HC
     refine HC.mono ?_
     rintro e w8 ⟨A9, c9, rfl, ho, q8⟩
     have h8 : CutN gq gs s2 w3 x k3 (m9 2) (m9 5) (.slice A9 k3 c9) w8 := ⟨A9, c9, w9.heap.size, rfl, ⟨Lay.own_weak (fun b hb _ => hb.1) ho, hT.size, cutJ_lt p5⟩, cutI_lt p2⟩
     exact ⟨_, rfl, trivial, SeqN.set_ [2, 5] [10, 12, 14] hSh hAt hDn (by kernel_rfl) (by decide) (by decide) ⟨bl_ca hT q8, (cutI_keep p2 q8), (cutJ_keep p5 q8), h8⟩⟩
    try simp only [Act.put, sA, sZ, sS]
    refine Pz 10 none undef rfl rfl ?ywg12_23 ?rwg12_23
    case ywg12_23 =>
     refine StepS.store [2, 5, 8] (by kernel_rfl) (by rfl) (fun L9 m9 w9 hSh hAt hDn hS => ?_)
     obtain ⟨hT, p2, p5, p8⟩ := SeqN.at_ [2, 5, 8] [12, 14] hSh hAt hDn (by kernel_rfl) hS
     have hbk := HV3.out.ca hT
     have hg := World.grownBy.refl w9 (some gs)
     obtain ⟨A_0, c_0, ev0, pp0⟩ := p2
     have ew0 := (hAt 2 (by simp)).2.symm.trans ev0
     subst ew0
     have hbk0 : Blk w9 gs 76 #[.bool (x.dis), .bool (x.star), .slice I0 i0 j0, .string x.ftb, .string x.fas, .slice J0 u0 v0, .slice W0 a0 b0, .slice H0 e0 f0, .slice G0 p0 q0] := by exact hbk
     have hN2 : Blk (w9.setCell ⟨gs, 2, none⟩ (.slice A_0 k1 c_0)) gs 76 #[.bool (x.dis), .bool (x.star), .slice A_0 k1 c_0, .string x.ftb, .string x.fas, .slice J0 u0 v0, .slice W0 a0 b0, .slice H0 e0 f0, .slice G0 p0 q0] := by simpa using hbk0.set_ 2 (.slice A_0 k1 c_0)
     have hg2 : w9.grownBy (w9.setCell ⟨gs, 2, none⟩ (.slice A_0 k1 c_0)) (some gs) := only_setCell (World.grownBy.refl _ _) (.inl rfl) _
     have y9 := hbk0.cell 2
     have fx : w9.frozen? ⟨gs, 2, none⟩ = false := hbk0.frozen 2
     refine ⟨w9.setCell ⟨gs, 2, none⟩ (.slice A_0 k1 c_0), ?_, SeqN.set_ [2, 5, 8] [12, 14] hSh hAt hDn (by kernel_rfl) (by decide) (by decide) ⟨w9, hT, (by first | exact p2 | exact ⟨A_0, c_0, ev0, pp0⟩), p5, p8, grown_two2 hg hg2, ?_⟩⟩
     · clear hN2 hg2 hbk hbk0 hS pp0
       go_simp
     · first | exact hN2 | (simp only [ev0]; exact hN2)
    try simp only [Act.put]
    refine Pz 11 (some 35) (.pointer (some ⟨gs, 5, none⟩)) rfl rfl (by exact StepS.pure (SeqN.pass (by decide)) rfl fun _ => rfl) ?_
    try simp only [Act.put, sA, sZ, sS]
    refine Pz 12 none undef rfl rfl ?ywg12_25 ?rwg12_25
    case ywg12_25 =>
     refine StepS.store [2, 5, 8, 10] (by kernel_rfl) (by rfl) (fun L9 m9 w9 hSh hAt hDn hS => ?_)
     obtain ⟨wq, hT, p2, p5, p8, hg, hbk⟩ := SeqN.at_ [2, 5, 8, 10] [14] hSh hAt hDn (by kernel_rfl) hS
     obtain ⟨A_0, c_0, ev0, pp0⟩ := p2
     have ew0 := (hAt 2 (by simp)).2.symm.trans ev0
     subst ew0
     obtain ⟨A_1, c_1, G_1, ev1, pp1⟩ := p5
     have ew1 := (hAt 5 (by simp)).2.symm.trans ev1
     subst ew1
     have hbk0 : Blk w9 gs 76 #[.bool (x.dis), .bool (x.star), .slice A_0 k1 c_0, .string x.ftb, .string x.fas, .slice J0 u0 v0, .slice W0 a0 b0, .slice H0 e0 f0, .slice G0 p0 q0] := by first | exact hbk | (simpa only [ev0] using hbk)
     have hN2 : Blk (w9.setCell ⟨gs, 5, none⟩ (.slice A_1 k2 c_1)) gs 76 #[.bool (x.dis), .bool (x.star), .slice A_0 k1 c_0, .string x.ftb, .string x.fas, .slice A_1 k2 c_1, .slice W0 a0 b0, .slice H0 e0 f0, .slice G0 p0 q0] := by simpa using hbk0.set_ 5 (.slice A_1 k2 c_1)
     have hg2 : w9.grownBy (w9.setCell ⟨gs, 5, none⟩ (.slice A_1 k2 c_1)) (some gs) := only_setCell (World.grownBy.refl _ _) (.inl rfl) _
     have y9 := hbk0.cell 5
     have fx : w9.frozen? ⟨gs, 5, none⟩ = false := hbk0.frozen 5
     refine ⟨w9.setCell ⟨gs, 5, none⟩ (.slice A_1 k2 c_1), ?_, SeqN.set_ [2, 5, 8, 10] [14] hSh hAt hDn (by kernel_rfl) (by decide) (by decide) ⟨wq, hT, (by first | exact p2 | exact ⟨A_0, c_0, ev0, pp0⟩), (by first | exact p5 | exact ⟨A_1, c_1, G_1, ev1, pp1⟩), p8, grown_two2 hg hg2, ?_⟩⟩
     · clear hN2 hg2 hbk hbk0 hS pp0 pp1
       go_simp
     · first | exact hN2 | (simp only [ev0, ev1]; exact hN2)
    try simp only [Act.put]
    refine Pz 13 (some 36) (.pointer (some ⟨gs, 8, none⟩)) rfl rfl (by exact StepS.pure (SeqN.pass (by decide)) rfl fun _ => rfl) ?_
    try simp only [Act.put, sA, sZ, sS]
    refine Pz 14 none undef rfl rfl ?ywg12_27 ?rwg12_27
    case ywg12_27 =>
     refine StepS.store [2, 5, 8, 10, 12] (by kernel_rfl) (by rfl) (fun L9 m9 w9 hSh hAt hDn hS => ?_)
     obtain ⟨wq, hT, p2, p5, p8, hg, hbk⟩ := SeqN.at_ [2, 5, 8, 10, 12] [] hSh hAt hDn (by kernel_rfl) hS
     obtain ⟨A_0, c_0, ev0, pp0⟩ := p2
     have ew0 := (hAt 2 (by simp)).2.symm.trans ev0
     subst ew0
     obtain ⟨A_1, c_1, G_1, ev1, pp1⟩ := p5
     have ew1 := (hAt 5 (by simp)).2.symm.trans ev1
     subst ew1
     obtain ⟨A_2, c_2, G_2, ev2, pp2⟩ := p8
     have ew2 := (hAt 8 (by simp)).2.symm.trans ev2
     subst ew2
     have hbk0 : Blk w9 gs 76 #[.bool (x.dis), .bool (x.star), .slice A_0 k1 c_0, .string x.ftb, .string x.fas, .slice A_1 k2 c_1, .slice W0 a0 b0, .slice H0 e0 f0, .slice G0 p0 q0] := by first | exact hbk | (simpa only [ev0, ev1] using hbk)
     have hN2 : Blk (w9.setCell ⟨gs, 8, none⟩ (.slice A_2 k3 c_2)) gs 76 #[.bool (x.dis), .bool (x.star), .slice A_0 k1 c_0, .string x.ftb, .string x.fas, .slice A_1 k2 c_1, .slice W0 a0 b0, .slice H0 e0 f0, .slice A_2 k3 c_2] := by simpa using hbk0.set_ 8 (.slice A_2 k3 c_2)
     have hg2 : w9.grownBy (w9.setCell ⟨gs, 8, none⟩ (.slice A_2 k3 c_2)) (some gs) := only_setCell (World.grownBy.refl _ _) (.inl rfl) _
     have y9 := hbk0.cell 8
     have fx : w9.frozen? ⟨gs, 8, none⟩ = false := hbk0.frozen 8
     refine ⟨w9.setCell ⟨gs, 8, none⟩ (.slice A_2 k3 c_2), ?_, SeqN.set_ [2, 5, 8, 10, 12] [] hSh hAt hDn (by kernel_rfl) (by decide) (by decide) ⟨wq, hT, (by first | exact p2 | exact ⟨A_0, c_0, ev0, pp0⟩), (by first | exact p5 | exact ⟨A_1, c_1, G_1, ev1, pp1⟩), (by first | exact p8 | exact ⟨A_2, c_2, G_2, ev2, pp2⟩), grown_two2 hg hg2, ?_⟩⟩
     · clear hN2 hg2 hbk hbk0 hS pp0 pp1 pp2
       go_simp
     · first | exact hN2 | (simp only [ev0, ev1, ev2]; exact hN2)
    try simp only [Act.put]
    refine Ps.done (by kernel_rfl) (fun wg12 hS => ?_) _
    obtain ⟨wq, hT, p2, p5, p8, hg, hbk⟩ := SeqN.fin (by rfl) hS
    clear hS
    have h2 : CutI gq gs s2 w3 x k1 v2b wq := p2
    have h5 : CutJ gq gs s2 w3 x k2 v2b v5b wq := p5
    have h8 : CutN gq gs s2 w3 x k3 v2b v5b v8b wq := p8
    obtain ⟨A2, c2, rfl, ho2⟩ := h2
    obtain ⟨A3, c3, G3, rfl, ho3, hG3, hL3⟩ := h5
    obtain ⟨A4, c4, G4, rfl, ⟨ho4, hG4, hL4⟩, hM4⟩ := h8
    have hk2 : Blk wg12 gs 76 #[.bool x.dis, .bool x.star, .slice A2 k1 c2, .string x.ftb, .string x.fas, .slice A3 k2 c3, .slice W0 a0 b0, .slice H0 e0 f0, .slice A4 k3 c4] := hbk
    have HI4 := Lib.hid (own_grownH ho2 hg (by omega) (fun k hk => by have := hk.2; omega))
    have HJ4 := Lib.hid (own_grownH ho3 hg (by omega) (fun k hk => by have := hk.2; omega))
    have HN4 := Lib.hid (own_grownH ho4 hg (by omega) (fun k hk => by have := hk.2; omega))
    have HL3 := Lib.hid hL3
    have HL4 := Lib.hid hL4
    have HG34 := Lib.hid hM4
    have HV4 := Lib.hid hk2
    have HC4 := Lib.hid (show Chg (fun b => b = gs) w3 wg12 from (Chg.of_below hT).grown hg (fun k e => .inl (Option.some.inj e).symm))
    clear hT hg hbk hk2 ho2 ho3 ho4 p2 p5 p8 hL3 hL4 hM4
    obtain ⟨w4, rfl⟩ : ∃ x, x = wg12 := ⟨_, rfl⟩
    have hgse := HGS.out
    have HQ4 := Lib.hid (show Below wr0.heap.size wr0 w4 from Chg.bel HQ3.out HC4.out (fun b _ hx => by rw [hx]; exact Nat.le_of_eq hgse.symm) HQ3.out.size)
    clear hgse
    obtain ⟨s4, hs4e⟩ : ∃ s4, s4 = w4.heap.size := ⟨_, rfl⟩
    have hs4w : s4 ≤ w4.heap.size := by omega
    have hs4c := HC4.out.size
    have hs4l : gs + 1 ≤ s4 := by omega
    have HI4b := Lib.hid (Lay.own_base HI4.out)
    have HJ4b := Lib.hid (Lay.own_base HJ4.out)
    have HN4b := Lib.hid (Lay.own_base HN4.out)
    have HS4 := Lib.hid hs4e
    clear hs4e
    have y9 := HV4.out.cell 2
    go_upto_block 2 with fail
    clear y9
    go_cut [] (fun wx => Hid (Chg (fun b => (Value.slice A2 k1 c2).ownBlock = some b) w4 wx) ∧ Hid (LQI.own 82 wx w3.heap.size (FB gq s2 gs s4) A2 k1 c2 ((x.items.take 7).map fewI)))
    case first =>
     go_wp2_with fail
     go_loopg [40] k1 (fun gk a wr => ∃ k : Nat, k + gk = k1 ∧ a = .int .i64 k ∧ Hid (Chg (fun b => (Value.slice A2 k1 c2).ownBlock = some b) w4 wr) ∧ Hid (LQI.own 82 wr w3.heap.size (FB gq s2 gs s4) A2 k1 c2 (mixQ fewI (x.items.take 7) k)))
     case atStart => exact ⟨0, by omega, rfl, Lib.hid (Chg.refl _ _), Lib.hid (by rw [mixQ_zero]; exact Lay.own_weak (fun b hb _ => ⟨hb.1, .inl hb.2⟩) HI4.out)⟩
     case round =>
      obtain ⟨k, hkg, rfl, HCr, HOr⟩ := hrel
      by_cases hlt2 : k < k1
      · have hk1 : (k : Int) < (k1 : Int) := by omega
        obtain ⟨g2, rfl⟩ := Lay.own_some HOr.out (by omega)
        have hg2 := Lay.own_base HOr.out g2 (by simp [Value.ownBlock])
        obtain ⟨ad, z, T0, t0, u9, e9, hax, sp⟩ := LQI_own HOr.out hlt2
        injection e9 with e9
        subst e9
        have x0 := sp.z0
        have x1 := sp.z1
        rw [addr_lit0] at x0
        rw [addr_lit0] at x1
        have htu := sp.k0
        have hz9 := mixQ_at hax (by have := Lay.own_len HOr.out; rw [mixQ_len] at this; omega)
        have HSb := Lib.hid (HSI.out z (List.mem_of_mem_take (List.mem_of_getElem? hz9)))
        have HMb := Lib.hid hax
        have HZ9 := Lib.hid hz9
        have HTr := Lib.hid sp.r0
        have hsz4 := HCr.out.size
        have HVr := Lib.hid (HV4.out.chg HCr.out (fun e => by simp only [Value.ownBlock, Option.some.injEq] at e; omega))
        have q1 := bl_al (Below.refl wr.heap.size wr) (.cells #[.slice T0 t0 u9, .string z.as_] 82)
        have HQr := Lib.hid q1
        have HZb := Lib.hid (Blk.new wr 82 #[.slice T0 t0 u9, .string z.as_])
        clear hax sp hz9 q1
        go_upto_region 9 with fail
        clear x0 x1
        obtain ⟨gv, hgv⟩ : ∃ gv, gv = wr.heap.size := ⟨_, rfl⟩
        rw [← hgv] at HZb
        generalize wr.alloc (.cells #[.slice T0 t0 u9, .string z.as_] 82) = wb at *
        rw [← hgv]
        have HGV := Lib.hid hgv
        clear hgv
        have HVb := Lib.hid (HVr.out.ca HQr.out)
        have HTb := Lib.hid (Lay.rd_below HTr.out HQr.out)
        have HOb := Lib.hid (Lay.own_below HOr.out HQr.out)
        have HCb := Lib.hid (HCr.out.trans (Chg.of_below HQr.out))
        have hszb := HQr.out.size
        have hk9 : k < k1 := hlt2
        clear HTr HVr
        refine wp_region_ps (S := SeqN [5, 8] (fun lv mm w' => match lv with | 0 => Below wb.heap.size wb w' | 1 => Below wb.heap.size wb w' ∧ ShT wb (z.t) (mm 5) w' | _ => ∃ wq, Below wb.heap.size wb wq ∧ ShT wb (z.t) (mm 5) wq ∧ w' = wq.setCells g2 (k * 2 + 0) [cellOf (mm 5)])) (by kernel_rfl) ?spswg28 ?ppswg28
        case spswg28 =>
         exact SeqN.start (by decide) (Below.refl _ _).drew
        refine Pz 0 (some 45) (.pointer (some ⟨gs, 2, none⟩)) rfl rfl (by exact StepS.pure (SeqN.pass (by decide)) rfl fun _ => rfl) ?_
        try simp only [Act.put, sA, sZ, sS]
        refine Pz 1 (some 46) (.slice (some ⟨g2, 0, none⟩) k1 c2) rfl rfl ?ywg28_30 ?rwg28_30
        case ywg28_30 =>
         refine StepS.read [] (by kernel_rfl) (SeqN.pass (by decide)) (by rfl) (fun L9 m9 w9 hSh hAt hDn hS => ?_)
         have hT : Below wb.heap.size wb w9 := SeqN.le [5] [8] (T := fun w9 => Below wb.heap.size wb w9) (post_no hSh hDn (by kernel_rfl)) (fun z _ _ hz h => by match z, hz, h with | 0, _, h => exact h | 1, _, h => exact h.1 | _ + 2, hz, _ => exact absurd hz (by simp)) hS
         have x0 : w9.cell? ⟨gs, 2, none⟩ = some (.slice (some ⟨g2, 0, none⟩) k1 c2) := (HVb.out.ca hT).cell 2
         clear hT hS
         go_simp
         try rfl
        try simp only [Act.put, sA, sZ, sS]
        refine Pz 2 (some 47) (.int .i64 ((k : Int))) rfl rfl (by exact StepS.pure (SeqN.pass (by decide)) rfl fun _ => rfl) ?_
        try simp only [Act.put, sA, sZ, sS]
        refine Pz 3 (some 48) (.pointer (some ⟨gv, 0, none⟩)) rfl rfl (by exact StepS.pure (SeqN.pass (by decide)) rfl fun _ => rfl) ?_
        try simp only [Act.put, sA, sZ, sS]
        refine Pz 4 (some 49) (.agg #[.slice T0 t0 u9]) rfl rfl ?ywg28_33 ?rwg28_33
        case ywg28_33 =>
         refine StepS.read [] (by kernel_rfl) (SeqN.pass (by decide)) (by rfl) (fun L9 m9 w9 hSh hAt hDn hS => ?_)
         have hT : Below wb.heap.size wb w9 := SeqN.le [5] [8] (T := fun w9 => Below wb.heap.size wb w9) (post_no hSh hDn (by kernel_rfl)) (fun z _ _ hz h => by match z, hz, h with | 0, _, h => exact h | 1, _, h => exact h.1 | _ + 2, hz, _ => exact absurd hz (by simp)) hS
         have x0 : w9.cell? ⟨gv, 0, none⟩ = some (.slice T0 t0 u9) := (HZb.out.ca hT).cell 0
         clear hT hS
         go_simp
         try rfl
        try simp only [Act.put, sA, sZ, sS]
        refine Ps.one (k := 5) (d := some 50) rfl rfl (by kernel_rfl) (TurnS.call (V := fun _ => True) ?fwg28_34 ?awg28_34 [] (by kernel_rfl) (by rfl) (fun w9 => ?hwg28_34) (fun L9 m9 w9 hSh hAt hDn hS => ?cwg28_34)) (fun v5 hVv5 => ?rwg28_34)
        case hwg28_34 => go_simp; refine ⟨?_, ?_⟩ <;> rfl
        case cwg28_34 =>
         have hT := SeqN.at_ (m0 := m9) (m1 := m9) [] [8] hSh (fun d hd => by cases hd) hDn (by kernel_rfl) hS
         refine (short_any _ (z.t) T0 t0 u9 w9 (Lay.rd_below HTb.out hT) (Nat.le_trans htu.1 htu.2) HSb.out).mono ?_
         rintro e w8 ⟨A9, n9, c9, rfl, hr, h1, h2, q8⟩
         exact ⟨_, rfl, trivial, SeqN.set_ (m0 := m9) (m1 := m9) [] [8] hSh (fun d hd => by cases hd) hDn (by kernel_rfl) (by decide) (by decide) ⟨bl_ca hT q8, A9, n9, c9, rfl, Lay.rd_weak (fun b hb _ => Nat.le_trans hT.size hb) hr, h1, h2⟩⟩
        try simp only [Act.put, sA, sZ, sS]
        refine Pz 6 (some 51) (.pointer (some ⟨g2, k * 2, none⟩)) rfl rfl ?ywg28_35 ?rwg28_35
        case ywg28_35 =>
         refine StepS.pure (SeqN.pass (by decide)) (by rfl) (fun w9 => ?_)
         have h8 := hk9
         first | rfl | (go_simp; done) | (go_simp; rfl)
        try simp only [Act.put, sA, sZ, sS]
        refine Pz 7 (some 52) (.pointer (some ⟨g2, k * 2, none⟩)) rfl rfl (by exact StepS.pure (SeqN.pass (by decide)) rfl fun _ => rfl) ?_
        try simp only [Act.put, sA, sZ, sS]
        refine Pz 8 none undef rfl rfl ?ywg28_37 ?rwg28_37
        case ywg28_37 =>
         refine StepS.store [5] (by kernel_rfl) (by rfl) (fun L9 m9 w9 hSh hAt hDn hS => ?_)
         obtain ⟨hT, p5⟩ := SeqN.at_ [5] [] hSh hAt hDn (by kernel_rfl) hS
         obtain ⟨A9, n9, c9, e5, hr⟩ := p5
         have ew := (hAt 5 (by simp)).2.symm.trans e5
         subst ew
         have hth := own_there (Lay.own_below HOb.out hT) (i := k) (j := 0) (k := 1) (by omega) (by show 0 + 1 ≤ 2; omega)
         refine ⟨_, exec_store_there (w := w9) 26 (.tmp 52) (.tmp 50) (by rfl) g2 (k * 2 + 0) #[.slice A9 n9 c9] (by rfl) (by rfl) hth treeI (by simp [Value.oneCell']), SeqN.set_ [5] [] hSh hAt hDn (by kernel_rfl) (by decide) (by decide) ⟨w9, hT, ⟨A9, n9, c9, e5, hr⟩, ?_⟩⟩
         rw [e5, cellOf_agg]
        try simp only [Act.put]
        refine Ps.done (by kernel_rfl) (fun wg28 hS => ?_) _
        obtain ⟨wq, hT, ⟨A9, n9, c9, e5, hr, h1, h2⟩, e8⟩ := SeqN.fin (by rfl) hS
        clear hS
        have e5 : v5 = .agg #[.slice A9 n9 c9] := e5
        subst e5
        have e9 : wg28 = wq.setCells g2 (k * 2 + 0) [.slice A9 n9 c9] := e8
        have hg29 := (Lay.own_base HOb.out g2 (by simp [Value.ownBlock])).2
        have hset := Lay.own_part (L := LQI) (i := k) (j := 0) (vs := [.slice A9 n9 c9]) (y := z) (x := fewI z) (Lay.own_below HOb.out hT) HMb.out (by show 0 + 1 ≤ 2; omega) (fun ds hds => by obtain ⟨A8, n8, c8, rfl, _⟩ := hds; exact ⟨A9, n9, c9, rfl, h1, h2, Lay.rd_weak (fun b hb hl => by have h9 : wb.heap.size ≤ b := hb; exact ⟨⟨.inr (by omega), .inr (by omega)⟩, by omega⟩) hr⟩)
        rw [show wq.setCells g2 (k * LQI.size + 0) [.slice A9 n9 c9] = wg28 from e9.symm] at hset
        have HOc := Lib.hid hset.1
        have HCc := Lib.hid (show Chg (fun b => b = g2) wb wg28 from (Chg.of_below hT).grown hset.2 (fun k e => .inl (Option.some.inj e).symm))
        clear hset e8 e9 hT hr h1 h2 hg29
        obtain ⟨wd, rfl⟩ : ∃ x, x = wg28 := ⟨_, rfl⟩
        have HCd := Lib.hid (HCb.out.trans (HCc.out.weak (fun b _ e => by simp [Value.ownBlock, e])))
        have HOd := Lib.hid (show LQI.own 82 wd w3.heap.size (FB gq s2 gs s4) (some ⟨g2, 0, none⟩) k1 c2 (mixQ fewI (x.items.take 7) (k + 1)) from by have h9 := HOc.out; rw [mixQ_set HZ9.out] at h9; exact h9)
        clear HCb HCc HOb HOc HTb HVb HZb HCr HOr HQr
        go_wp2_with fail
        go_roundg (gk - 1)
        · exact ⟨k + 1, by omega, by go_num, HCd, HOd⟩
        · omega
      · have hk1 : ¬ ((k : Int) < (k1 : Int)) := by omega
        have hke : k = k1 := by omega
        have HOe := Lib.hid (show LQI.own 82 wr w3.heap.size (FB gq s2 gs s4) A2 k1 c2 ((x.items.take 7).map fewI) from by have h9 := HOr.out; have h8 := Lay.own_len h9; rw [mixQ_len] at h8; rw [mixQ_all (show (x.items.take 7).length ≤ k by omega)] at h9; exact h9)
        clear hke HOr
        go_wp2_with fail
        go_meet
        exact ⟨HCr, HOe⟩
    case rest =>
    obtain ⟨HC5, HO5⟩ := hcut
    obtain ⟨w5, rfl⟩ : ∃ x, x = wc := ⟨_, rfl⟩
    have hszC5 := HC5.out.size
    have HQ5 := Lib.hid (show Below wr0.heap.size wr0 w5 from Chg.bel HQ4.out HC5.out (fun b _ hx => by have := (HI4b.out b hx).1; have := HGS.out; omega) HQ4.out.size)
    have HV5 := Lib.hid (HV4.out.chg HC5.out (fun e => by have := (HI4b.out gs e).1; omega))
    have HJ5 := Lib.hid (show LQJ.own 85 w5 G3 (fun b => FA gq s2 b ∧ b < gs) A3 k2 c3 (x.joins.take 3) from Lay.own_same HJ4.out (fun k e => HC5.out.block k (HJ4b.out k e).2 (fun e2 => by have := HL3.out k e2; have := (HJ4b.out k e).1; omega)) (fun b hb _ hl => HC5.out.block b hl (fun e2 => by have := (HI4b.out b e2).1; have := hb.2; omega)))
    have y9 := HV5.out.cell 5
    go_upto_block 4 with fail
    clear y9
    go_cut [] (fun wx => Hid (Chg (fun b => (Value.slice A3 k2 c3).ownBlock = some b) w5 wx) ∧ Hid (LQJ.own 85 wx G3 (FB gq s2 gs s4) A3 k2 c3 ((x.joins.take 3).map fewJ)))
    case first =>
     go_wp2_with fail
     go_loopg [57] k2 (fun gk a wr => ∃ k : Nat, k + gk = k2 ∧ a = .int .i64 k ∧ Hid (Chg (fun b => (Value.slice A3 k2 c3).ownBlock = some b) w5 wr) ∧ Hid (LQJ.own 85 wr G3 (FB gq s2 gs s4) A3 k2 c3 (mixQ fewJ (x.joins.take 3) k)))
     case atStart => exact ⟨0, by omega, rfl, Lib.hid (Chg.refl _ _), Lib.hid (by rw [mixQ_zero]; exact Lay.own_weak (fun b hb _ => ⟨hb.1, .inl hb.2⟩) HJ5.out)⟩
     case round =>
      obtain ⟨k, hkg, rfl, HCr, HOr⟩ := hrel
      by_cases hlt2 : k < k2
      · have hk1 : (k : Int) < (k2 : Int) := by omega
        obtain ⟨g2, rfl⟩ := Lay.own_some HOr.out (by omega)
        have hg2 := Lay.own_base HOr.out g2 (by simp [Value.ownBlock])
        obtain ⟨ad, z, T0, t0, u9, e9, hax, sp⟩ := LQJ_own HOr.out hlt2
        injection e9 with e9
        subst e9
        have x0 := sp.z0
        have x1 := sp.z1
        have x2 := sp.z2
        have x3 := sp.z3
        rw [addr_lit0] at x0
        rw [addr_lit0] at x1
        rw [addr_lit0] at x2
        rw [addr_lit0] at x3
        have htu := sp.k0
        have hz9 := mixQ_at hax (by have := Lay.own_len HOr.out; rw [mixQ_len] at this; omega)
        have HSb := Lib.hid (HSJ.out z (List.mem_of_mem_take (List.mem_of_getElem? hz9)))
        have HMb := Lib.hid hax
        have HZ9 := Lib.hid hz9
        have HTr := Lib.hid sp.r0
        have hsz4 := HCr.out.size
        have HVr := Lib.hid (HV5.out.chg HCr.out (fun e => by simp only [Value.ownBlock, Option.some.injEq] at e; omega))
        have q1 := bl_al (Below.refl wr.heap.size wr) (.cells #[.bool z.left, .string z.tb, .string z.as_, .slice T0 t0 u9] 85)
        have HQr := Lib.hid q1
        have HZb := Lib.hid (Blk.new wr 85 #[.bool z.left, .string z.tb, .string z.as_, .slice T0 t0 u9])
        clear hax sp hz9 q1
        go_upto_region 14 with fail
        clear x0 x1 x2 x3
        obtain ⟨gv, hgv⟩ : ∃ gv, gv = wr.heap.size := ⟨_, rfl⟩
        rw [← hgv] at HZb
        generalize wr.alloc (.cells #[.bool z.left, .string z.tb, .string z.as_, .slice T0 t0 u9] 85) = wb at *
        rw [← hgv]
        have HGV := Lib.hid hgv
        clear hgv
        have HVb := Lib.hid (HVr.out.ca HQr.out)
        have HTb := Lib.hid (Lay.rd_below HTr.out HQr.out)
        have HOb := Lib.hid (Lay.own_below HOr.out HQr.out)
        have HCb := Lib.hid (HCr.out.trans (Chg.of_below HQr.out))
        have hszb := HQr.out.size
        have hk9 : k < k2 := hlt2
        clear HTr HVr
        refine wp_region_ps (S := SeqN [5, 8] (fun lv mm w' => match lv with | 0 => Below wb.heap.size wb w' | 1 => Below wb.heap.size wb w' ∧ ShT wb (z.on) (mm 5) w' | _ => ∃ wq, Below wb.heap.size wb wq ∧ ShT wb (z.on) (mm 5) wq ∧ w' = wq.setCells g2 (k * 4 + 3) [cellOf (mm 5)])) (by kernel_rfl) ?spswg38 ?ppswg38
        case spswg38 =>
         exact SeqN.start (by decide) (Below.refl _ _).drew
        refine Pz 0 (some 62) (.pointer (some ⟨gs, 5, none⟩)) rfl rfl (by exact StepS.pure (SeqN.pass (by decide)) rfl fun _ => rfl) ?_
        try simp only [Act.put, sA, sZ, sS]
        refine Pz 1 (some 63) (.slice (some ⟨g2, 0, none⟩) k2 c3) rfl rfl ?ywg38_40 ?rwg38_40
        case ywg38_40 =>
         refine StepS.read [] (by kernel_rfl) (SeqN.pass (by decide)) (by rfl) (fun L9 m9 w9 hSh hAt hDn hS => ?_)
         have hT : Below wb.heap.size wb w9 := SeqN.le [5] [8] (T := fun w9 => Below wb.heap.size wb w9) (post_no hSh hDn (by kernel_rfl)) (fun z _ _ hz h => by match z, hz, h with | 0, _, h => exact h | 1, _, h => exact h.1 | _ + 2, hz, _ => exact absurd hz (by simp)) hS
         have x0 : w9.cell? ⟨gs, 5, none⟩ = some (.slice (some ⟨g2, 0, none⟩) k2 c3) := (HVb.out.ca hT).cell 5
         clear hT hS
         go_simp
         try rfl
        try simp only [Act.put, sA, sZ, sS]
        refine Pz 2 (some 64) (.int .i64 ((k : Int))) rfl rfl (by exact StepS.pure (SeqN.pass (by decide)) rfl fun _ => rfl) ?_
        try simp only [Act.put, sA, sZ, sS]
        refine Pz 3 (some 65) (.pointer (some ⟨gv, 3, none⟩)) rfl rfl (by exact StepS.pure (SeqN.pass (by decide)) rfl fun _ => rfl) ?_
        try simp only [Act.put, sA, sZ, sS]
        refine Pz 4 (some 66) (.agg #[.slice T0 t0 u9]) rfl rfl ?ywg38_43 ?rwg38_43
        case ywg38_43 =>
         refine StepS.read [] (by kernel_rfl) (SeqN.pass (by decide)) (by rfl) (fun L9 m9 w9 hSh hAt hDn hS => ?_)
         have hT : Below wb.heap.size wb w9 := SeqN.le [5] [8] (T := fun w9 => Below wb.heap.size wb w9) (post_no hSh hDn (by kernel_rfl)) (fun z _ _ hz h => by match z, hz, h with | 0, _, h => exact h | 1, _, h => exact h.1 | _ + 2, hz, _ => exact absurd hz (by simp)) hS
         have x0 : w9.cell? ⟨gv, 3, none⟩ = some (.slice T0 t0 u9) := (HZb.out.ca hT).cell 3
         clear hT hS
         go_simp
         try rfl
        try simp only [Act.put, sA, sZ, sS]
        refine Ps.one (k := 5) (d := some 67) rfl rfl (by kernel_rfl) (TurnS.call (V := fun _ => True) ?fwg38_44 ?awg38_44 [] (by kernel_rfl) (by rfl) (fun w9 => ?hwg38_44) (fun L9 m9 w9 hSh hAt hDn hS => ?cwg38_44)) (fun v5 hVv5 => ?rwg38_44)
        case hwg38_44 => go_simp; refine ⟨?_, ?_⟩ <;> rfl
        case cwg38_44 =>
         have hT := SeqN.at_ (m0 := m9) (m1 := m9) [] [8] hSh (fun d hd => by cases hd) hDn (by kernel_rfl) hS
         refine (short_any _ (z.on) T0 t0 u9 w9 (Lay.rd_below HTb.out hT) (Nat.le_trans htu.1 htu.2) HSb.out).mono ?_
         rintro e w8 ⟨A9, n9, c9, rfl, hr, h1, h2, q8⟩
         exact ⟨_, rfl, trivial, SeqN.set_ (m0 := m9) (m1 := m9) [] [8] hSh (fun d hd => by cases hd) hDn (by kernel_rfl) (by decide) (by decide) ⟨bl_ca hT q8, A9, n9, c9, rfl, Lay.rd_weak (fun b hb _ => Nat.le_trans hT.size hb) hr, h1, h2⟩⟩
        try simp only [Act.put, sA, sZ, sS]
        refine Pz 6 (some 68) (.pointer (some ⟨g2, k * 4, none⟩)) rfl rfl ?ywg38_45 ?rwg38_45
        case ywg38_45 =>
         refine StepS.pure (SeqN.pass (by decide)) (by rfl) (fun w9 => ?_)
         have h8 := hk9
         first | rfl | (go_simp; done) | (go_simp; rfl)
        try simp only [Act.put, sA, sZ, sS]
        refine Pz 7 (some 69) (.pointer (some ⟨g2, k * 4 + 3, none⟩)) rfl rfl (by exact StepS.pure (SeqN.pass (by decide)) rfl fun _ => rfl) ?_
        try simp only [Act.put, sA, sZ, sS]
        refine Pz 8 none undef rfl rfl ?ywg38_47 ?rwg38_47
        case ywg38_47 =>
         refine StepS.store [5] (by kernel_rfl) (by rfl) (fun L9 m9 w9 hSh hAt hDn hS => ?_)
         obtain ⟨hT, p5⟩ := SeqN.at_ [5] [] hSh hAt hDn (by kernel_rfl) hS
         obtain ⟨A9, n9, c9, e5, hr⟩ := p5
         have ew := (hAt 5 (by simp)).2.symm.trans e5
         subst ew
         have hth := own_there (Lay.own_below HOb.out hT) (i := k) (j := 3) (k := 1) (by omega) (by show 3 + 1 ≤ 4; omega)
         refine ⟨_, exec_store_there (w := w9) 26 (.tmp 69) (.tmp 67) (by rfl) g2 (k * 4 + 3) #[.slice A9 n9 c9] (by rfl) (by rfl) hth treeI (by simp [Value.oneCell']), SeqN.set_ [5] [] hSh hAt hDn (by kernel_rfl) (by decide) (by decide) ⟨w9, hT, ⟨A9, n9, c9, e5, hr⟩, ?_⟩⟩
         rw [e5, cellOf_agg]
        try simp only [Act.put]
        refine Ps.done (by kernel_rfl) (fun wg38 hS => ?_) _
        obtain ⟨wq, hT, ⟨A9, n9, c9, e5, hr, h1, h2⟩, e8⟩ := SeqN.fin (by rfl) hS
        clear hS
        have e5 : v5 = .agg #[.slice A9 n9 c9] := e5
        subst e5
        have e9 : wg38 = wq.setCells g2 (k * 4 + 3) [.slice A9 n9 c9] := e8
        have hg29 := (Lay.own_base HOb.out g2 (by simp [Value.ownBlock])).2
        have hset := Lay.own_part (L := LQJ) (i := k) (j := 3) (vs := [.slice A9 n9 c9]) (y := z) (x := fewJ z) (Lay.own_below HOb.out hT) HMb.out (by show 3 + 1 ≤ 4; omega) (fun ds hds => by obtain ⟨A8, n8, c8, rfl, _⟩ := hds; exact ⟨A9, n9, c9, rfl, h1, h2, Lay.rd_weak (fun b hb hl => by have h9 : wb.heap.size ≤ b := hb; exact ⟨⟨.inr (by omega), .inr (by omega)⟩, by omega⟩) hr⟩)
        rw [show wq.setCells g2 (k * LQJ.size + 3) [.slice A9 n9 c9] = wg38 from e9.symm] at hset
        have HOc := Lib.hid hset.1
        have HCc := Lib.hid (show Chg (fun b => b = g2) wb wg38 from (Chg.of_below hT).grown hset.2 (fun k e => .inl (Option.some.inj e).symm))
        clear hset e8 e9 hT hr h1 h2 hg29
        obtain ⟨wd, rfl⟩ : ∃ x, x = wg38 := ⟨_, rfl⟩
        have HCd := Lib.hid (HCb.out.trans (HCc.out.weak (fun b _ e => by simp [Value.ownBlock, e])))
        have HOd := Lib.hid (show LQJ.own 85 wd G3 (FB gq s2 gs s4) (some ⟨g2, 0, none⟩) k2 c3 (mixQ fewJ (x.joins.take 3) (k + 1)) from by have h9 := HOc.out; rw [mixQ_set HZ9.out] at h9; exact h9)
        clear HCb HCc HOb HOc HTb HVb HZb HCr HOr HQr
        go_wp2_with fail
        go_roundg (gk - 1)
        · exact ⟨k + 1, by omega, by go_num, HCd, HOd⟩
        · omega
      · have hk1 : ¬ ((k : Int) < (k2 : Int)) := by omega
        have hke : k = k2 := by omega
        have HOe := Lib.hid (show LQJ.own 85 wr G3 (FB gq s2 gs s4) A3 k2 c3 ((x.joins.take 3).map fewJ) from by have h9 := HOr.out; have h8 := Lay.own_len h9; rw [mixQ_len] at h8; rw [mixQ_all (show (x.joins.take 3).length ≤ k by omega)] at h9; exact h9)
        clear hke HOr
        go_wp2_with fail
        go_meet
        exact ⟨HCr, HOe⟩
    case rest =>
    obtain ⟨HC6, HO6⟩ := hcut
    obtain ⟨w6, rfl⟩ : ∃ x, x = wc := ⟨_, rfl⟩
    have hszC6 := HC6.out.size
    have HQ6 := Lib.hid (show Below wr0.heap.size wr0 w6 from Chg.bel HQ5.out HC6.out (fun b _ hx => by have := (HJ4b.out b hx).1; have := HGS.out; omega) HQ5.out.size)
    have hcI := Lay.own_caps HO5.out
    have hcJ := Lay.own_caps HO6.out
    have hcN := Lay.own_caps HN4.out
    have HV6 := Lib.hid (HV5.out.chg HC6.out (fun e => by have := (HJ4b.out gs e).1; omega))
    have hX : ∀ b, b < w4.heap.size → (Value.slice A2 k1 c2).ownBlock ≠ some b → (Value.slice A3 k2 c3).ownBlock ≠ some b → w6.heap[b]? = w4.heap[b]? := fun b hb h2 h3 => (HC6.out.block b (by omega) h3).trans (HC5.out.block b (by omega) h2)
    have HX := Lib.hid hX
    have hfb : ∀ b, FB gq s2 gs s4 b → (Value.slice A2 k1 c2).ownBlock ≠ some b ∧ (Value.slice A3 k2 c3).ownBlock ≠ some b ∨ w4.heap.size ≤ b := fun b hb => by
     rcases hb.2 with h9 | h9
     · exact .inl ⟨fun e => by have := (HI4b.out b e).1; omega, fun e => by have := (HJ4b.out b e).1; omega⟩
     · exact .inr (by have := HS4.out; omega)
    have HJn := Lib.hid (show ∀ b, (Value.slice A3 k2 c3).ownBlock = some b → b < w4.heap.size from fun b e => (HJ4b.out b e).2)
    have HIn := Lib.hid (show ∀ b, (Value.slice A2 k1 c2).ownBlock = some b → b < w4.heap.size from fun b e => (HI4b.out b e).2)
    have HI6 := Lib.hid (show LQI.own 82 w6 w3.heap.size (FB gq s2 gs s4) A2 k1 c2 ((x.items.take 7).map fewI) from Lay.own_same HO5.out (fun k e => HC6.out.block k (by have := HIn.out k e; omega) (fun e2 => by have := HL3.out k e; have := (HJ4b.out k e2).1; omega)) (fun b hb _ hl => HC6.out.block b hl (fun e2 => by rcases hfb b hb with h9 | h9; exact h9.2 e2; have := HJn.out b e2; omega)))
    have hN6 : ∀ b, FA gq s2 b ∧ b < gs → b < w4.heap.size → w6.heap[b]? = w4.heap[b]? := fun b hb hl => hX b hl (fun e => by have := (HI4b.out b e).1; have := hb.2; omega) (fun e => by have := (HJ4b.out b e).1; have := hb.2; omega)
    have HN6 := Lib.hid (show LQN.own 88 w6 G4 (fun b => FA gq s2 b ∧ b < gs) A4 k3 c4 (x.grp.take 4) from Lay.own_same HN4.out (fun k e => hX k (HN4b.out k e).2 (fun e2 => by have h1 := HIn.out k e2; have h2 := (HN4b.out k e).1; have := HG34.out k e2; omega) (fun e2 => by have h2 := (HN4b.out k e).1; have := HL4.out k e2; omega)) (fun b hb _ hl => hN6 b hb hl))
    have hW4 := Lay.rd_keep (fun b hb hl => HC4.out.block b hl (fun e => by have := hb.2; omega)) HW3.out
    have hH4 := Lay.rd_keep (fun b hb hl => HC4.out.block b hl (fun e => by have := hb.2; omega)) HH3.out
    have HW6 := Lib.hid (Lay.rd_keep hN6 hW4)
    have HH6 := Lib.hid (Lay.rd_keep hN6 hH4)
    clear hX HX hN6 hfb HC5 HC6 hW4 hH4 HW3 HH3 HO5 HV5 HV4 HI4 HJ4 HN4
    have hg16 : gs < w6.heap.size := HV6.out.lt
    go_upto_region 16 with fail
    refine wp_region_ps (S := SeqN [2, 5, 7, 9] (fun z mm w' => match z with | 0 => Below w6.heap.size w6 w' | 1 => Below w6.heap.size w6 w' ∧ ShT w6 x.wh (mm 2) w' | 2 => Below w6.heap.size w6 w' ∧ ShT w6 x.wh (mm 2) w' ∧ ShT w6 x.hv (mm 5) w' | 3 => ∃ wq, Below w6.heap.size w6 wq ∧ ShT w6 x.wh (mm 2) wq ∧ ShT w6 x.hv (mm 5) wq ∧ wq.grownBy w' (some gs) ∧ Blk w' gs 76 #[.bool (x.dis), .bool (x.star), .slice A2 k1 c2, .string x.ftb, .string x.fas, .slice A3 k2 c3, cellOf (mm 2), .slice H0 e0 f0, .slice A4 k3 c4] | _ => ∃ wq, Below w6.heap.size w6 wq ∧ ShT w6 x.wh (mm 2) wq ∧ ShT w6 x.hv (mm 5) wq ∧ wq.grownBy w' (some gs) ∧ Blk w' gs 76 #[.bool (x.dis), .bool (x.star), .slice A2 k1 c2, .string x.ftb, .string x.fas, .slice A3 k2 c3, cellOf (mm 2), cellOf (mm 5), .slice A4 k3 c4])) (by kernel_rfl) ?spswg48 ?ppswg48
    case spswg48 =>
     exact SeqN.start (by decide) (Below.refl _ _).drew
    refine Pz 0 (some 71) (.pointer (some ⟨gs, 6, none⟩)) rfl rfl (by exact StepS.pure (SeqN.pass (by decide)) rfl fun _ => rfl) ?_
    try simp only [Act.put, sA, sZ, sS]
    refine Pz 1 (some 72) (.agg #[.slice W0 a0 b0]) rfl rfl ?ywg48_50 ?rwg48_50
    case ywg48_50 =>
     refine StepS.read [] (by kernel_rfl) (SeqN.pass (by decide)) (by rfl) (fun L9 m9 w9 hSh hAt hDn hS => ?_)
     have hT : Below w6.heap.size w6 w9 := SeqN.le [2, 5] [7, 9] (T := fun w9 => Below w6.heap.size w6 w9) (post_no hSh hDn (by kernel_rfl)) (fun z _ _ hz h => by match z, hz, h with | 0, _, h => exact h | 1, _, h => exact h.1 | 2, _, h => exact h.1 | _ + 3, hz, _ => exact absurd hz (by simp)) hS
     have x0 : w9.cell? ⟨gs, 6, none⟩ = some (.slice W0 a0 b0) := (HV6.out.ca hT).cell 6
     clear hT hS
     go_simp
     try rfl
    try simp only [Act.put, sA, sZ, sS]
    refine Pz 3 (some 74) (.pointer (some ⟨gs, 7, none⟩)) rfl rfl (by exact StepS.pure (SeqN.pass (by decide)) rfl fun _ => rfl) ?_
    try simp only [Act.put, sA, sZ, sS]
    refine Pz 4 (some 75) (.agg #[.slice H0 e0 f0]) rfl rfl ?ywg48_52 ?rwg48_52
    case ywg48_52 =>
     refine StepS.read [] (by kernel_rfl) (SeqN.pass (by decide)) (by rfl) (fun L9 m9 w9 hSh hAt hDn hS => ?_)
     have hT : Below w6.heap.size w6 w9 := SeqN.le [2, 5] [7, 9] (T := fun w9 => Below w6.heap.size w6 w9) (post_no hSh hDn (by kernel_rfl)) (fun z _ _ hz h => by match z, hz, h with | 0, _, h => exact h | 1, _, h => exact h.1 | 2, _, h => exact h.1 | _ + 3, hz, _ => exact absurd hz (by simp)) hS
     have x0 : w9.cell? ⟨gs, 7, none⟩ = some (.slice H0 e0 f0) := (HV6.out.ca hT).cell 7
     clear hT hS
     go_simp
     try rfl
    try simp only [Act.put, sA, sZ, sS]
    refine Ps.one (k := 2) (d := some 73) rfl rfl (by kernel_rfl) (TurnS.call (V := fun _ => True) ?fwg48_53 ?awg48_53 [] (by kernel_rfl) (by rfl) (fun w9 => ?hwg48_53) (fun L9 m9 w9 hSh hAt hDn hS => ?cwg48_53)) (fun v2d hVv2d => ?rwg48_53)
    case hwg48_53 => go_simp; refine ⟨?_, ?_⟩ <;> rfl
    case cwg48_53 =>
     have hT := SeqN.at_ (m0 := m9) (m1 := m9) [] [5, 7, 9] hSh (fun d hd => by cases hd) hDn (by kernel_rfl) hS
     refine (short_any _ x.wh W0 a0 b0 w9 (Lay.rd_below HW6.out hT) (Nat.le_trans hab.1 hab.2) HSW.out).mono ?_
     rintro e w8 ⟨A9, n9, c9, rfl, hr, h1, h2, q8⟩
     have h8 : ShT w6 x.wh (.agg #[.slice A9 n9 c9]) w8 := ⟨A9, n9, c9, rfl, Lay.rd_weak (fun b hb _ => Nat.le_trans hT.size hb) hr, h1, h2⟩
     exact ⟨_, rfl, trivial, SeqN.set_ (m0 := m9) (m1 := m9) [] [5, 7, 9] hSh (fun d hd => by cases hd) hDn (by kernel_rfl) (by decide) (by decide) ⟨bl_ca hT q8, h8⟩⟩
    try simp only [Act.put, sA, sZ, sS]
    refine Pz 6 (some 77) (.pointer (some ⟨gs, 6, none⟩)) rfl rfl (by exact StepS.pure (SeqN.pass (by decide)) rfl fun _ => rfl) ?_
    try simp only [Act.put, sA, sZ, sS]
    refine Ps.one (k := 5) (d := some 76) rfl rfl (by kernel_rfl) (TurnS.call (V := fun _ => True) ?fwg48_55 ?awg48_55 [2] (by kernel_rfl) (by rfl) (fun w9 => ?hwg48_55) (fun L9 m9 w9 hSh hAt hDn hS => ?cwg48_55)) (fun v5d hVv5d => ?rwg48_55)
    case hwg48_55 => go_simp; refine ⟨?_, ?_⟩ <;> rfl
    case cwg48_55 =>
     obtain ⟨hT, p2⟩ := SeqN.at_ [2] [7, 9] hSh hAt hDn (by kernel_rfl) hS
     refine (short_any _ x.hv H0 e0 f0 w9 (Lay.rd_below HH6.out hT) (Nat.le_trans hef.1 hef.2) HSH.out).mono ?_
     rintro e w8 ⟨A9, n9, c9, rfl, hr, h1, h2, q8⟩
     have h8 : ShT w6 x.hv (.agg #[.slice A9 n9 c9]) w8 := ⟨A9, n9, c9, rfl, Lay.rd_weak (fun b hb _ => Nat.le_trans hT.size hb) hr, h1, h2⟩
     exact ⟨_, rfl, trivial, SeqN.set_ [2] [7, 9] hSh hAt hDn (by kernel_rfl) (by decide) (by decide) ⟨bl_ca hT q8, (sht_keep p2 q8), h8⟩⟩
    try simp only [Act.put, sA, sZ, sS]
    refine Pz 7 none undef rfl rfl ?ywg48_56 ?rwg48_56
    case ywg48_56 =>
     refine StepS.store [2, 5] (by kernel_rfl) (by rfl) (fun L9 m9 w9 hSh hAt hDn hS => ?_)
     obtain ⟨hT, p2, p5⟩ := SeqN.at_ [2, 5] [9] hSh hAt hDn (by kernel_rfl) hS
     have hbk := HV6.out.ca hT
     have hg := World.grownBy.refl w9 (some gs)
     obtain ⟨A_0, n_0, c_0, ev0, pp0⟩ := p2
     have ew0 := (hAt 2 (by simp)).2.symm.trans ev0
     subst ew0
     have hbk0 : Blk w9 gs 76 #[.bool (x.dis), .bool (x.star), .slice A2 k1 c2, .string x.ftb, .string x.fas, .slice A3 k2 c3, .slice W0 a0 b0, .slice H0 e0 f0, .slice A4 k3 c4] := by exact hbk
     refine (exec_store_part (w := w9) 26 (.tmp 77) (.tmp 73) (by rfl) gs 6 76 #[.bool (x.dis), .bool (x.star), .slice A2 k1 c2, .string x.ftb, .string x.fas, .slice A3 k2 c3, .slice W0 a0 b0, .slice H0 e0 f0, .slice A4 k3 c4] #[.slice A_0 n_0 c_0] #[.bool (x.dis), .bool (x.star), .slice A2 k1 c2, .string x.ftb, .string x.fas, .slice A3 k2 c3, .slice A_0 n_0 c_0, .slice H0 e0 f0, .slice A4 k3 c4] (by rfl) (by rfl) hbk0 (by simp) treeI (by simp [Value.oneCell']) (by rfl)).imp fun w7 hx => ⟨hx.1, SeqN.set_ [2, 5] [9] hSh hAt hDn (by kernel_rfl) (by decide) (by decide) ⟨w9, hT, (by first | exact p2 | exact ⟨A_0, n_0, c_0, ev0, pp0⟩), p5, grown_two2 hg hx.2.2, ?_⟩⟩
     have hk7 := hx.2.1
     first | exact hk7 | (simp only [ev0, cellOf_agg]; exact hk7)
    try simp only [Act.put]
    refine Pz 8 (some 78) (.pointer (some ⟨gs, 7, none⟩)) rfl rfl (by exact StepS.pure (SeqN.pass (by decide)) rfl fun _ => rfl) ?_
    try simp only [Act.put, sA, sZ, sS]
    refine Pz 9 none undef rfl rfl ?ywg48_58 ?rwg48_58
    case ywg48_58 =>
     refine StepS.store [2, 5, 7] (by kernel_rfl) (by rfl) (fun L9 m9 w9 hSh hAt hDn hS => ?_)
     obtain ⟨wq, hT, p2, p5, hg, hbk⟩ := SeqN.at_ [2, 5, 7] [] hSh hAt hDn (by kernel_rfl) hS
     obtain ⟨A_0, n_0, c_0, ev0, pp0⟩ := p2
     have ew0 := (hAt 2 (by simp)).2.symm.trans ev0
     subst ew0
     obtain ⟨A_1, n_1, c_1, ev1, pp1⟩ := p5
     have ew1 := (hAt 5 (by simp)).2.symm.trans ev1
     subst ew1
     have hbk0 : Blk w9 gs 76 #[.bool (x.dis), .bool (x.star), .slice A2 k1 c2, .string x.ftb, .string x.fas, .slice A3 k2 c3, .slice A_0 n_0 c_0, .slice H0 e0 f0, .slice A4 k3 c4] := by first | exact hbk | (simpa only [ev0, cellOf_agg] using hbk)
     refine (exec_store_part (w := w9) 26 (.tmp 78) (.tmp 76) (by rfl) gs 7 76 #[.bool (x.dis), .bool (x.star), .slice A2 k1 c2, .string x.ftb, .string x.fas, .slice A3 k2 c3, .slice A_0 n_0 c_0, .slice H0 e0 f0, .slice A4 k3 c4] #[.slice A_1 n_1 c_1] #[.bool (x.dis), .bool (x.star), .slice A2 k1 c2, .string x.ftb, .string x.fas, .slice A3 k2 c3, .slice A_0 n_0 c_0, .slice A_1 n_1 c_1, .slice A4 k3 c4] (by rfl) (by rfl) hbk0 (by simp) treeI (by simp [Value.oneCell']) (by rfl)).imp fun w7 hx => ⟨hx.1, SeqN.set_ [2, 5, 7] [] hSh hAt hDn (by kernel_rfl) (by decide) (by decide) ⟨wq, hT, (by first | exact p2 | exact ⟨A_0, n_0, c_0, ev0, pp0⟩), (by first | exact p5 | exact ⟨A_1, n_1, c_1, ev1, pp1⟩), grown_two2 hg hx.2.2, ?_⟩⟩
     have hk7 := hx.2.1
     first | exact hk7 | (simp only [ev0, ev1, cellOf_agg]; exact hk7)
    try simp only [Act.put]
    refine Ps.done (by kernel_rfl) (fun wg48 hS => ?_) _
    obtain ⟨wq, hT, p2, p5, hg, hbk⟩ := SeqN.fin (by rfl) hS
    clear hS
    have h2 : ShT w6 x.wh v2d wq := p2
    have h5 : ShT w6 x.hv v5d wq := p5
    obtain ⟨A5, k5, c5, rfl, ho5⟩ := h2
    obtain ⟨A6, k6, c6, rfl, ho6⟩ := h5
    have hk2 : Blk wg48 gs 76 #[.bool x.dis, .bool x.star, .slice A2 k1 c2, .string x.ftb, .string x.fas, .slice A3 k2 c3, .slice A5 k5 c5, .slice A6 k6 c6, .slice A4 k3 c4] := hbk
    have HV7 := Lib.hid hk2
    have HC7 := Lib.hid (show Chg (fun b => b = gs) w6 wg48 from (Chg.of_below hT).grown hg (fun k e => .inl (Option.some.inj e).symm))
    have HW7 := Lib.hid (rd_grownH ho5.1 hg (fun b hb => by omega))
    have HH7 := Lib.hid (rd_grownH ho6.1 hg (fun b hb => by omega))
    have hk5 := ho5.2
    have hk6 := ho6.2
    clear hT hg hbk hk2 ho5 ho6 p2 p5
    obtain ⟨w7, rfl⟩ : ∃ x, x = wg48 := ⟨_, rfl⟩
    have hg9 : g1 < s2 := by have := HS2.out; omega
    have HQ7 := Lib.hid (show Below wr0.heap.size wr0 w7 from Chg.bel HQ6.out HC7.out (fun b _ hx => by rw [hx]; exact Nat.le_of_eq HGS.out.symm) HQ6.out.size)
    have hr6 : LQI.rd w6 (fun b => (FA gq s2 b ∧ b ≠ g1) ∧ b ≠ gs) A2 k1 ((x.items.take 7).map fewI) := Lay.own_rd HI6.out (fun b e hl => ⟨⟨.inr (by omega), by omega⟩, by omega⟩) (fun b hb _ => ⟨⟨hb.1, by have := hb.1; unfold FA at this; omega⟩, by have := hb.2; omega⟩)
    have HI7 := Lib.hid (Lay.rd_weak (fun b hb _ => hb.1) (rd_chg hr6 HC7.out (fun b hb _ => hb.2)))
    have hr6j : LQJ.rd w6 (fun b => (FA gq s2 b ∧ b ≠ g1) ∧ b ≠ gs) A3 k2 ((x.joins.take 3).map fewJ) := Lay.own_rd HO6.out (fun b e hl => ⟨⟨.inr (by omega), by omega⟩, by omega⟩) (fun b hb _ => ⟨⟨hb.1, by have := hb.1; unfold FA at this; omega⟩, by have := hb.2; omega⟩)
    have HJ7 := Lib.hid (Lay.rd_weak (fun b hb _ => hb.1) (rd_chg hr6j HC7.out (fun b hb _ => hb.2)))
    have hr6n : LQN.rd w6 (fun b => (FA gq s2 b ∧ b ≠ g1) ∧ b ≠ gs) A4 k3 (x.grp.take 4) := Lay.own_rd HN6.out (fun b e hl => ⟨⟨.inr (by omega), by omega⟩, by omega⟩) (fun b hb _ => ⟨⟨hb.1, by have := hb.1; unfold FA at this; omega⟩, by have := hb.2; omega⟩)
    have HN7 := Lib.hid (Lay.rd_weak (fun b hb _ => hb.1) (rd_chg hr6n HC7.out (fun b hb _ => hb.2)))
    have hs46 : s4 ≤ w6.heap.size := by omega
    have HW8 := Lib.hid (Lay.rd_weak (G := fun b => FA gq s2 b ∧ b ≠ g1) (fun b hb _ => by have h9 : w6.heap.size ≤ b := hb; exact ⟨.inr (by omega), by omega⟩) HW7.out)
    have HH8 := Lib.hid (Lay.rd_weak (G := fun b => FA gq s2 b ∧ b ≠ g1) (fun b hb _ => by have h9 : w6.heap.size ≤ b := hb; exact ⟨.inr (by omega), by omega⟩) HH7.out)
    have HO7 := Lib.hid (Lay.own_below HOr0.out HQ7.out)
    have HG7 := Lib.hid ((HG2.out.chg HCr0.out (fun e => by simp only [Value.ownBlock, Option.some.injEq] at e; omega)).ca HQ7.out)
    clear hr6 hr6j hr6n HI6 HO6 HN6 HC7 HW7 HH7 HW6 HH6 HV6
    go_upto_region 17 with fail
    refine wp_region_ps0 .text (S := SeqN [5] (fun z _ w' => match z with | 0 => Below w7.heap.size w7 w' | _ => ∃ wq, Below w7.heap.size w7 wq ∧ w' = wq.setCells g1 (i * 9 + 0) [.bool (x.dis), .bool (x.star), .slice A2 k1 c2, .string x.ftb, .string x.fas, .slice A3 k2 c3, .slice A5 k5 c5, .slice A6 k6 c6, .slice A4 k3 c4])) (by kernel_rfl) ?spswg59 ?ppswg59
    case spswg59 =>
     exact SeqN.start (by decide) (Below.refl _ _)
    refine Pz 0 (some 79) (.pointer (some ⟨gq, 0, none⟩)) rfl rfl (by exact StepS.pure (SeqN.pass (by decide)) rfl fun _ => rfl) ?_
    try simp only [Act.put, sA, sZ, sS]
    refine Pz 1 (some 80) (.slice (some ⟨g1, 0, none⟩) n1 c1) rfl rfl ?ywg59_61 ?rwg59_61
    case ywg59_61 =>
     refine StepS.read [] (by kernel_rfl) (SeqN.pass (by decide)) (by rfl) (fun L9 m9 w9 hSh hAt hDn hS => ?_)
     have hT : Below w7.heap.size w7 w9 := SeqN.le [] [5] (T := fun w9 => Below w7.heap.size w7 w9) (post_no hSh hDn (by kernel_rfl)) (fun z _ _ hz h => by match z, hz, h with | 0, _, h => exact h | _ + 1, hz, _ => exact absurd hz (by simp)) hS
     have x0 : w9.cell? ⟨gq, 0, none⟩ = some (.slice (some ⟨g1, 0, none⟩) n1 c1) := (HG7.out.ca hT).cell 0
     clear hT hS
     go_simp
     try rfl
    try simp only [Act.put, sA, sZ, sS]
    refine Pz 2 (some 81) (.int .i64 ((i : Int))) rfl rfl (by exact StepS.pure (SeqN.pass (by decide)) rfl fun _ => rfl) ?_
    try simp only [Act.put, sA, sZ, sS]
    refine Pz 3 (some 82) (.agg #[.bool (x.dis), .bool (x.star), .slice A2 k1 c2, .string x.ftb, .string x.fas, .slice A3 k2 c3, .slice A5 k5 c5, .slice A6 k6 c6, .slice A4 k3 c4]) rfl rfl ?ywg59_63 ?rwg59_63
    case ywg59_63 =>
     refine StepS.read [] (by kernel_rfl) (SeqN.pass (by decide)) (by rfl) (fun L9 m9 w9 hSh hAt hDn hS => ?_)
     have hT : Below w7.heap.size w7 w9 := SeqN.le [] [5] (T := fun w9 => Below w7.heap.size w7 w9) (post_no hSh hDn (by kernel_rfl)) (fun z _ _ hz h => by match z, hz, h with | 0, _, h => exact h | _ + 1, hz, _ => exact absurd hz (by simp)) hS
     have x0 : w9.cell? ⟨gs, 0, none⟩ = some (.bool (x.dis)) := (HV7.out.ca hT).cell 0
     have x1 : w9.cell? ⟨gs, 1, none⟩ = some (.bool (x.star)) := (HV7.out.ca hT).cell 1
     have x2 : w9.cell? ⟨gs, 2, none⟩ = some (.slice A2 k1 c2) := (HV7.out.ca hT).cell 2
     have x3 : w9.cell? ⟨gs, 3, none⟩ = some (.string x.ftb) := (HV7.out.ca hT).cell 3
     have x4 : w9.cell? ⟨gs, 4, none⟩ = some (.string x.fas) := (HV7.out.ca hT).cell 4
     have x5 : w9.cell? ⟨gs, 5, none⟩ = some (.slice A3 k2 c3) := (HV7.out.ca hT).cell 5
     have x6 : w9.cell? ⟨gs, 6, none⟩ = some (.slice A5 k5 c5) := (HV7.out.ca hT).cell 6
     have x7 : w9.cell? ⟨gs, 7, none⟩ = some (.slice A6 k6 c6) := (HV7.out.ca hT).cell 7
     have x8 : w9.cell? ⟨gs, 8, none⟩ = some (.slice A4 k3 c4) := (HV7.out.ca hT).cell 8
     clear hT hS
     go_simp
     try rfl
    try simp only [Act.put, sA, sZ, sS]
    refine Pz 4 (some 83) (.pointer (some ⟨g1, i * 9, none⟩)) rfl rfl ?ywg59_64 ?rwg59_64
    case ywg59_64 =>
     refine StepS.pure (SeqN.pass (by decide)) (by rfl) (fun w9 => ?_)
     have h8 := hi9
     first | rfl | (go_simp; done) | (go_simp; rfl)
    try simp only [Act.put, sA, sZ, sS]
    refine Pz 5 none undef rfl rfl ?ywg59_65 ?rwg59_65
    case ywg59_65 =>
     refine StepS.store [] (by kernel_rfl) (by rfl) (fun L9 m9 w9 hSh hAt hDn hS => ?_)
     have hT := SeqN.at_ (m0 := m9) (m1 := m9) [] [] hSh (fun d hd => by cases hd) hDn (by kernel_rfl) hS
     have hth := own_there (Lay.own_below HO7.out hT) (i := i) (j := 0) (k := 9) (by omega) (by show 0 + 9 ≤ 9; omega)
     exact ⟨_, exec_store_there (w := w9) 76 (.tmp 83) (.tmp 82) (by rfl) g1 (i * 9 + 0) #[.bool (x.dis), .bool (x.star), .slice A2 k1 c2, .string x.ftb, .string x.fas, .slice A3 k2 c3, .slice A5 k5 c5, .slice A6 k6 c6, .slice A4 k3 c4] (by rfl) (by rfl) hth selectI (by simp [Value.oneCell']), SeqN.set_ (m0 := m9) (m1 := m9) [] [] hSh (fun d hd => by cases hd) hDn (by kernel_rfl) (by decide) (by decide) ⟨w9, hT, rfl⟩⟩
    try simp only [Act.put]
    refine Ps.done (by kernel_rfl) (fun wg59 hS => ?_) _
    obtain ⟨wq, hT, e8⟩ := SeqN.fin (by rfl) hS
    clear hS
    have e9 : wg59 = wq.setCells g1 (i * 9 + 0) [.bool (x.dis), .bool (x.star), .slice A2 k1 c2, .string x.ftb, .string x.fas, .slice A3 k2 c3, .slice A5 k5 c5, .slice A6 k6 c6, .slice A4 k3 c4] := e8
    have hset := Lay.own_part (L := LQS) (i := i) (j := 0) (vs := [.bool (x.dis), .bool (x.star), .slice A2 k1 c2, .string x.ftb, .string x.fas, .slice A3 k2 c3, .slice A5 k5 c5, .slice A6 k6 c6, .slice A4 k3 c4]) (y := x) (x := fewS x) (Lay.own_below HO7.out hT) HMX.out (by show 0 + 9 ≤ 9; omega) (fun ds hds => by obtain ⟨_, _, _, _, _, _, _, _, _, _, _, _, _, _, _, rfl, _⟩ := hds; exact ⟨A2, k1, c2, A3, k2, c3, A5, k5, c5, A6, k6, c6, A4, k3, c4, rfl, ⟨hcI.1, hcI.2, Lay.rd_below HI7.out hT⟩, ⟨hcJ.1, hcJ.2, Lay.rd_below HJ7.out hT⟩, ⟨hk5.1, hk5.2, Lay.rd_below HW8.out hT⟩, ⟨hk6.1, hk6.2, Lay.rd_below HH8.out hT⟩, ⟨hcN.1, hcN.2, Lay.rd_below HN7.out hT⟩⟩)
    rw [show wq.setCells g1 (i * LQS.size + 0) [.bool (x.dis), .bool (x.star), .slice A2 k1 c2, .string x.ftb, .string x.fas, .slice A3 k2 c3, .slice A5 k5 c5, .slice A6 k6 c6, .slice A4 k3 c4] = wg59 from e9.symm] at hset
    have HO8 := Lib.hid hset.1
    have HC8 := Lib.hid (show Chg (fun b => b = g1) w7 wg59 from (Chg.of_below hT).grown hset.2 (fun k e => .inl (Option.some.inj e).symm))
    clear hset e8 e9 hT
    obtain ⟨w8, rfl⟩ : ∃ x, x = wg59 := ⟨_, rfl⟩
    have HO9 := Lib.hid (show LQS.own 76 w8 w1.heap.size (FA gq s2) (some ⟨g1, 0, none⟩) n1 c1 (mixQ fewS (q.sels.take 4) (i + 1)) from by have h9 := HO8.out; rw [mixQ_set HXQ.out] at h9; exact h9)
    have HC9 := Lib.hid (HCr0.out.trans ((Chg.of_below HQ7.out).trans' HC8.out (fun b _ e => by show (Value.slice (some ⟨g1, 0, none⟩) n1 c1).ownBlock = some b; simp [Value.ownBlock, e])))
    clear HO8 HC8 HO7 HG7
    go_wp2_with fail
    go_roundg (gk0 - 1)
    · exact ⟨i + 1, by omega, by go_num, HC9, HO9⟩
    · omega
  · have hi1 : ¬ ((i : Int) < (n1 : Int)) := by omega
    have hie : i = n1 := by omega
    have HOe := Lib.hid (show LQS.own 76 wr0 w1.heap.size (FA gq s2) A1 n1 c1 ((q.sels.take 4).map fewS) from by have h9 := HOr0.out; have h8 := Lay.own_len h9; rw [mixQ_len] at h8; rw [mixQ_all (show (q.sels.take 4).length ≤ i by omega)] at h9; exact h9)
    clear hie HOr0
    go_wp2_with fail
    go_meet
    exact ⟨HCr0, HOe⟩
 case rest =>
 obtain ⟨HCe, HOe⟩ := hcut
 have hb1 : ∀ b, (Value.slice A1 n1 c1).ownBlock = some b → gq + 2 ≤ b := fun b e => by have := (Lay.own_base HO2.out b e).1; omega
 have HGe := Lib.hid (HG2.out.chg HCe.out (fun e => by have := hb1 _ e; omega))
 have HRe := Lib.hid (HR2.out.chg HCe.out (fun e => by have := hb1 _ e; omega))
 have HKe := Lib.hid (show LQK.rd wc (fun b => b ≠ gq + 1) B1 m1 (q.keys.take 4) from Lay.own_rd (Lay.own_same HK2.out (fun k e => HCe.out.block k (Lay.own_base HK2.out k e).2 (fun e2 => by have h1 := HL2.out k e2; have h2 := (Lay.own_base HK2.out k e).1; omega)) (fun b hb _ hl => HCe.out.block b hl (fun e2 => by have := hb1 _ e2; omega))) (fun b h1 _ => by omega) (fun b hb _ => by omega))
 have HQe := Lib.hid (show Below w.heap.size w wc from Chg.bel HQ2.out HCe.out (fun b _ e => by have := hb1 b e; omega) HQ2.out.size)
 have HSe := Lib.hid (show LQS.rd wc (fun b => b ≠ gq + 1) A1 n1 ((q.sels.take 4).map fewS) from Lay.own_rd HOe.out (fun b h1 _ => by omega) (fun b hb _ => by have h9 := hb; unfold FA at h9; omega))
 have y0 := HGe.out.cell 0
 have y1 := HGe.out.cell 1
 have y2 := HGe.out.cell 2
 go_wp2_with (refine wpList_store_blk rfl 43 (.tmp 2) (.tmp 85) rfl (gq + 1) 43 #[.slice none 0 0, .slice none 0 0, .int .i64 0] #[.slice A1 n1 c1, .slice B1 m1 d1, .int .i64 q.lim] rfl rfl HRe.out rfl queryI (by simp [Value.oneCell']) ?_; intro w9 h9 g9; have HF9 := Lib.hid h9; have HG9 := Lib.hid g9; clear h9 g9)
 exact bodyPost_ret (res1 Tryz.results16 rfl HF9.out Tryz.underlying43 rfl queryI) rfl ⟨A1, n1, c1, B1, m1, d1, rfl, Lay.rd_weak (fun _ _ _ => trivial) (rd_grownH HSe.out HG9.out (fun b hb => hb)), hkc, Lay.rd_weak (fun _ _ _ => trivial) (rd_grownH HKe.out HG9.out (fun b hb => hb)), hkd, bl_gr HQe.out HG9.out (by omega)⟩
end Go.Proofs.YtoaggmldekejoaaGreatDoor
