/- AstUnlike: unlike queries are written unlike. Conditions: the queries read so; what the tables hold. -/
import Derived.Test.YtoaggmldekejoaaGreatDoorPkU20
namespace Go.Proofs.YtoaggmldekejoaaGreatDoor
open Go.RowKit
set_option maxRecDepth 100000 in
set_option maxHeartbeats 16000000 in
theorem unlike_walk (p : QC) (A : Option Addr) (n c : Nat) (B : Option Addr) (m d : Nat) (q : QC) (A2 : Option Addr) (n2 c2 : Nat) (B2 : Option Addr) (m2 d2 : Nat) (w : World) (hp : RQ AllB w p A n c B m d) (ap : AQ p) (hq : RQ AllB w q A2 n2 c2 B2 m2 d2) (aq : AQ q) (hT : Tab w) :
 Calls Tryz.prog 5 #[.agg #[.slice A n c, .slice B m d, .int .i64 p.lim], .agg #[.slice A2 n2 c2, .slice B2 m2 d2, .int .i64 q.lim]] w fun e w' => e = .returned (.bool true) ∧ Below w.heap.size w w' := by
 have HQ1 := Lib.hid (bl_al (bl_al (Below.refl w.heap.size w) (.cells #[.slice A n c, .slice B m d, .int .i64 p.lim] 43)) (.cells #[.slice A2 n2 c2, .slice B2 m2 d2, .int .i64 q.lim] 43))
 have HB2 := Lib.hid ((Blk.new w 43 #[.slice A n c, .slice B m d, .int .i64 p.lim]).alloc (.cells #[.slice A2 n2 c2, .slice B2 m2 d2, .int .i64 q.lim] 43))
 have HB3 := Lib.hid (show Blk ((w.alloc (.cells #[.slice A n c, .slice B m d, .int .i64 p.lim] 43)).alloc (.cells #[.slice A2 n2 c2, .slice B2 m2 d2, .int .i64 q.lim] 43)) (w.heap.size + 1) 43 #[.slice A2 n2 c2, .slice B2 m2 d2, .int .i64 q.lim] from by
  have := Blk.new (w.alloc (.cells #[.slice A n c, .slice B m d, .int .i64 p.lim] 43)) 43 #[.slice A2 n2 c2, .slice B2 m2 d2, .int .i64 q.lim]
  rwa [World.size_alloc] at this)
 have HX := Lib.hid (hp.below HQ1.out)
 have HY := Lib.hid (hq.below HQ1.out)
 have HT := Lib.hid (hT.below HQ1.out)
 have HAP := Lib.hid ap
 have HAQ := Lib.hid aq
 clear hp ap hq aq hT
 go_enter Tryz.func5, Tryz.ntmps5
 go_wp2_with fail
 generalize (w.alloc (.cells #[.slice A n c, .slice B m d, .int .i64 p.lim] 43)).alloc (.cells #[.slice A2 n2 c2, .slice B2 m2 d2, .int .i64 q.lim] 43) = w1 at *
 refine (wakes_any w1 HT.out).mono ?_
 rintro e w2 ⟨rfl, q2⟩
 have HQ2 := Lib.hid (bl_ca HQ1.out q2)
 have HX2 := Lib.hid (HX.out.below q2)
 have HY2 := Lib.hid (HY.out.below q2)
 have HT2 := Lib.hid (HT.out.below q2)
 have HC2 := Lib.hid (HB2.out.ca q2)
 have HC3 := Lib.hid (HB3.out.ca q2)
 clear q2 HX HY HT HB2 HB3 HQ1
 go_upto_region 3 with fail
 refine wp_region_psF (F := fun a1 a' w' => ∃ (g8a h8a : Nat) (V5a V6a : Array Value), (∃ v13 v14 v15 v16, a' = ((((((a1.put (some 13) v13).put (some 14) v14).put (some 15) v15).put (some 16) v16).put (some 5) (.pointer (some ⟨g8a, 0, none⟩))).put (some 6) (.pointer (some ⟨h8a, 0, none⟩)))) ∧ Below w2.heap.size w2 w' ∧ (w2.heap.size ≤ g8a ∧ w2.heap.size ≤ h8a ∧ g8a ≠ h8a) ∧ Blk w' g8a 43 V5a ∧ Blk w' h8a 43 V6a ∧ LQC.rep w' AllB (fewQ p) V5a.toList ∧ LQC.rep w' AllB (fewQ q) V6a.toList) (S := WQA (WQKA (fewQ p) (fewQ q) 43 w2)) (by kernel_rfl) ?spswg1 ?ppswg1 ?kpswg1
 case spswg1 =>
  exact WQA.start (by decide) ⟨(Below.refl w2.heap.size w2).drew, (fun g e => by cases e), (fun g e => by cases e)⟩
 case ppswg1 =>
  refine Pz 0 (some 13) (.agg #[.slice A n c, .slice B m d, .int .i64 (p.lim)]) rfl rfl ?ywg1_2 ?rwg1_2
  case ywg1_2 =>
   refine StepS.read [] (by kernel_rfl) (WQA.pass (by decide) (by decide) (by decide)) (by rfl) (fun L9 m9 w9 hSh hAt hDn hS => ?_)
   have hT : Below w2.heap.size w2 w9 := WQA.any (T := fun w9 => Below w2.heap.size w2 w9) (fun _ _ _ _ _ h => h.1) hS
   have x0 : w9.cell? ⟨w.heap.size, 0, none⟩ = some (.slice A n c) := (HC2.out.ca hT).cell 0
   have x1 : w9.cell? ⟨w.heap.size, 1, none⟩ = some (.slice B m d) := (HC2.out.ca hT).cell 1
   have x2 : w9.cell? ⟨w.heap.size, 2, none⟩ = some (.int .i64 (p.lim)) := (HC2.out.ca hT).cell 2
   clear hT hS
   go_simp
   try rfl
  try simp only [Act.put, sA, sZ, sS]
  refine Pz 2 (some 15) (.agg #[.slice A2 n2 c2, .slice B2 m2 d2, .int .i64 (q.lim)]) rfl rfl ?ywg1_3 ?rwg1_3
  case ywg1_3 =>
   refine StepS.read [] (by kernel_rfl) (WQA.pass (by decide) (by decide) (by decide)) (by rfl) (fun L9 m9 w9 hSh hAt hDn hS => ?_)
   have hT : Below w2.heap.size w2 w9 := WQA.any (T := fun w9 => Below w2.heap.size w2 w9) (fun _ _ _ _ _ h => h.1) hS
   have x0 : w9.cell? ⟨w.heap.size + 1, 0, none⟩ = some (.slice A2 n2 c2) := (HC3.out.ca hT).cell 0
   have x1 : w9.cell? ⟨w.heap.size + 1, 1, none⟩ = some (.slice B2 m2 d2) := (HC3.out.ca hT).cell 1
   have x2 : w9.cell? ⟨w.heap.size + 1, 2, none⟩ = some (.int .i64 (q.lim)) := (HC3.out.ca hT).cell 2
   clear hT hS
   go_simp
   try rfl
  try simp only [Act.put, sA, sZ, sS]
  refine Ps.some3 (i := 1) (j := 4) (k := 5) (by kernel_rfl) ?bwg1_4_1 ?bwg1_4_4 ?bwg1_4_5
  case bwg1_4_1 =>
   refine Turns.mk (i := 1) (d := some 14) rfl rfl (TurnS.call (V := fun v => ∃ V : Array Value, v = .agg V) ?fwg1_5 ?awg1_5 [] (by kernel_rfl) (by rfl) (fun w9 => ?hwg1_5) (fun L9 m9 w9 hSh hAt hDn hS => ?cwg1_5)) (fun v5a hVv5a => ?rwg1_5)
   case hwg1_5 => go_simp; refine ⟨?_, ?_⟩ <;> rfl
   case cwg1_5 =>
    obtain ⟨al, bl, hB, hset⟩ := WQA.on1 hDn (post_no (post := [3]) hSh hDn (by kernel_rfl) 3 (by simp)) (post_no (post := [6]) hSh hDn (by kernel_rfl) 6 (by simp)) (post_no (post := [7]) hSh hDn (by kernel_rfl) 7 (by simp)) hS
    have hT := hB.1
    refine (fewq_any AllB p A n c B m d w9 (HX2.out.below hT) HAP.out).mono ?_
    rintro e w6 ⟨V, rfl, hr6, q6⟩
    exact ⟨_, rfl, ⟨V, rfl⟩, hset _ _ (WQKA.c1 hB q6 hr6)⟩
   try simp only [Act.put, sA, sZ, sS]
   obtain ⟨V5a, rfl⟩ := hVv5a
   refine Ps.some3 (i := 3) (j := 4) (k := 5) (by kernel_rfl) ?bwg1_6_3 ?bwg1_6_4 ?bwg1_6_5
   case bwg1_6_3 =>
    refine Turns.mk (i := 3) (d := some 16) rfl rfl (TurnS.call (V := fun v => ∃ V : Array Value, v = .agg V) ?fwg1_7 ?awg1_7 [1] (by kernel_rfl) (by rfl) (fun w9 => ?hwg1_7) (fun L9 m9 w9 hSh hAt hDn hS => ?cwg1_7)) (fun v6a hVv6a => ?rwg1_7)
    case hwg1_7 => go_simp; refine ⟨?_, ?_⟩ <;> rfl
    case cwg1_7 =>
     obtain ⟨al, bl, hB, hset⟩ := WQA.on3 (hAt 1 (by simp)).1 hDn (post_no (post := [6]) hSh hDn (by kernel_rfl) 6 (by simp)) (post_no (post := [7]) hSh hDn (by kernel_rfl) 7 (by simp)) hS
     have hT := hB.1
     refine (fewq_any AllB q A2 n2 c2 B2 m2 d2 w9 (HY2.out.below hT) HAQ.out).mono ?_
     rintro e w6 ⟨V, rfl, hr6, q6⟩
     exact ⟨_, rfl, ⟨V, rfl⟩, hset _ _ (WQKA.c3 hB q6 hr6)⟩
    try simp only [Act.put, sA, sZ, sS]
    obtain ⟨V6a, rfl⟩ := hVv6a
    refine Ps.some2 (i := 4) (j := 5) (by kernel_rfl) ?bwg1_8_4 ?bwg1_8_5
    case bwg1_8_4 =>
     refine Turns.mk (i := 4) (d := some 5) rfl rfl (TurnS.value (V := fun v => ∃ g, v = .pointer (some ⟨g, 0, none⟩)) [] (by kernel_rfl) (by rfl) (fun L9 m9 w9 hSh hAt hDn hS => ?cwg1_9)) (fun v4a hVv4a => ?rwg1_9)
     case cwg1_9 =>
      exact ⟨.pointer (some ⟨w9.heap.size, 0, none⟩), w9.alloc (.cells zQ 43), (by clear hS; go_simp), ⟨_, rfl⟩, WQA.made4 hDn (post_no (post := [6]) hSh hDn (by kernel_rfl) 6 (by simp)) (post_no (post := [7]) hSh hDn (by kernel_rfl) 7 (by simp)) rfl (WQKA.m4) hS⟩
     try simp only [Act.put, sA, sZ, sS]
     obtain ⟨g8a, rfl⟩ := hVv4a
     refine Ps.one (k := 5) (d := some 6) rfl rfl (by kernel_rfl) (TurnS.value (V := fun v => ∃ g, v = .pointer (some ⟨g, 0, none⟩)) [] (by kernel_rfl) (by rfl) (fun L9 m9 w9 hSh hAt hDn hS => ?cwg1_10)) (fun v5a hVv5a => ?rwg1_10)
     case cwg1_10 =>
      exact ⟨.pointer (some ⟨w9.heap.size, 0, none⟩), w9.alloc (.cells zQ 43), (by clear hS; go_simp), ⟨_, rfl⟩, WQA.made5 hDn (post_no (post := [6]) hSh hDn (by kernel_rfl) 6 (by simp)) (post_no (post := [7]) hSh hDn (by kernel_rfl) 7 (by simp)) rfl (WQKA.m5) hS⟩
     try simp only [Act.put, sA, sZ, sS]
     obtain ⟨h8a, rfl⟩ := hVv5a
     refine Pz 6 none undef rfl rfl ?ywg1_11 ?rwg1_11
     case ywg1_11 =>
      refine StepS.store [1, 3, 4, 5] (by kernel_rfl) (by rfl) (fun L9 m9 w9 hSh hAt hDn hS => ?_)
      obtain ⟨g, k, hm, hk, hB, hset⟩ := WQA.on6 (hAt 1 (by simp)).1 (hAt 3 (by simp)).1 (hAt 4 (by simp)).1 (hAt 5 (by simp)).1 hDn (post_no (post := [7]) hSh hDn (by kernel_rfl) 7 (by simp)) hS
      obtain rfl : g8a = g := by have h9 : Value.pointer (some ⟨g8a, 0, none⟩) = .pointer (some ⟨g, 0, none⟩) := (hAt 4 (by simp)).2.symm.trans hm; simpa using h9
      obtain rfl : h8a = k := by have h9 : Value.pointer (some ⟨h8a, 0, none⟩) = .pointer (some ⟨k, 0, none⟩) := (hAt 5 (by simp)).2.symm.trans hk; simpa using h9
      obtain ⟨_, ⟨hA, hb2⟩, _⟩ := id hB
      have hBk := (hA g8a rfl).2.2
      obtain ⟨hz3, hz1⟩ := WQKA.sz6 hB (hAt 1 (by simp)).2
      refine (exec_store_blk (w := w9) 43 (.tmp 5) (.tmp 14) (by rfl) g8a 43 zQ V5a (by rfl) (by rfl) hBk (by rw [hz3]; rfl) (by rw [hz3]; exact qIA) hz1).imp fun w7 hx => ⟨hx.1, hset _ (WQKA.st6 hB (hAt 1 (by simp)).2 hx.2.1 hx.2.2)⟩
     try simp only [Act.put]
     refine Pz 7 none undef rfl rfl ?ywg1_12 ?rwg1_12
     case ywg1_12 =>
      refine StepS.store [1, 3, 4, 5, 6] (by kernel_rfl) (by rfl) (fun L9 m9 w9 hSh hAt hDn hS => ?_)
      obtain ⟨g, k, hm, hk, hB, hset⟩ := WQA.on7 (hAt 1 (by simp)).1 (hAt 3 (by simp)).1 (hAt 4 (by simp)).1 (hAt 5 (by simp)).1 (hAt 6 (by simp)).1 hDn  hS
      obtain rfl : g8a = g := by have h9 : Value.pointer (some ⟨g8a, 0, none⟩) = .pointer (some ⟨g, 0, none⟩) := (hAt 4 (by simp)).2.symm.trans hm; simpa using h9
      obtain rfl : h8a = k := by have h9 : Value.pointer (some ⟨h8a, 0, none⟩) = .pointer (some ⟨k, 0, none⟩) := (hAt 5 (by simp)).2.symm.trans hk; simpa using h9
      obtain ⟨_, A1, hA, hb2, _⟩ := id hB
      have hBk := (hb2 h8a rfl).2
      obtain ⟨hz3, hz1⟩ := WQKA.sz7 hB (hAt 3 (by simp)).2
      refine (exec_store_blk (w := w9) 43 (.tmp 6) (.tmp 16) (by rfl) h8a 43 zQ V6a (by rfl) (by rfl) hBk (by rw [hz3]; rfl) (by rw [hz3]; exact qIA) hz1).imp fun w7 hx => ⟨hx.1, hset _ (WQKA.st7 hB (hAt 3 (by simp)).2 hx.2.1 hx.2.2)⟩
     try simp only [Act.put]
     refine Ps.done (by kernel_rfl) (fun wg1 hS => ?_) _
     obtain ⟨g, k, hm, hk, hB⟩ := WQA.fin (by rfl) (by rfl) (by rfl) hS
     clear hS
     obtain rfl : g8a = g := by have h9 : Value.pointer (some ⟨g8a, 0, none⟩) = .pointer (some ⟨g, 0, none⟩) := hm; simpa using h9
     obtain rfl : h8a = k := by have h9 : Value.pointer (some ⟨h8a, 0, none⟩) = .pointer (some ⟨k, 0, none⟩) := hk; simpa using h9
     have hB := WQKA.pair (V := V5a) (V' := V6a) hB rfl rfl
     refine ⟨g8a, h8a, V5a, V6a, ⟨.agg #[.slice A n c, .slice B m d, .int .i64 p.lim], .agg V5a, .agg #[.slice A2 n2 c2, .slice B2 m2 d2, .int .i64 q.lim], .agg V6a, ?_⟩, hB⟩
     clear hB hm hk
     rfl
    case bwg1_8_5 =>
     refine Turns.mk (i := 5) (d := some 6) rfl rfl (TurnS.value (V := fun v => ∃ g, v = .pointer (some ⟨g, 0, none⟩)) [] (by kernel_rfl) (by rfl) (fun L9 m9 w9 hSh hAt hDn hS => ?cwg1_13)) (fun v5a hVv5a => ?rwg1_13)
     case cwg1_13 =>
      exact ⟨.pointer (some ⟨w9.heap.size, 0, none⟩), w9.alloc (.cells zQ 43), (by clear hS; go_simp), ⟨_, rfl⟩, WQA.made5 hDn (post_no (post := [6]) hSh hDn (by kernel_rfl) 6 (by simp)) (post_no (post := [7]) hSh hDn (by kernel_rfl) 7 (by simp)) rfl (WQKA.m5) hS⟩
     try simp only [Act.put, sA, sZ, sS]
     obtain ⟨h8a, rfl⟩ := hVv5a
     refine Ps.one (k := 4) (d := some 5) rfl rfl (by kernel_rfl) (TurnS.value (V := fun v => ∃ g, v = .pointer (some ⟨g, 0, none⟩)) [] (by kernel_rfl) (by rfl) (fun L9 m9 w9 hSh hAt hDn hS => ?cwg1_14)) (fun v4a hVv4a => ?rwg1_14)
     case cwg1_14 =>
      exact ⟨.pointer (some ⟨w9.heap.size, 0, none⟩), w9.alloc (.cells zQ 43), (by clear hS; go_simp), ⟨_, rfl⟩, WQA.made4 hDn (post_no (post := [6]) hSh hDn (by kernel_rfl) 6 (by simp)) (post_no (post := [7]) hSh hDn (by kernel_rfl) 7 (by simp)) rfl (WQKA.m4) hS⟩
     try simp only [Act.put, sA, sZ, sS]
     obtain ⟨g8a, rfl⟩ := hVv4a
     refine Pz 6 none undef rfl rfl ?ywg1_15 ?rwg1_15
     case ywg1_15 =>
      refine StepS.store [1, 3, 4, 5] (by kernel_rfl) (by rfl) (fun L9 m9 w9 hSh hAt hDn hS => ?_)
      obtain ⟨g, k, hm, hk, hB, hset⟩ := WQA.on6 (hAt 1 (by simp)).1 (hAt 3 (by simp)).1 (hAt 4 (by simp)).1 (hAt 5 (by simp)).1 hDn (post_no (post := [7]) hSh hDn (by kernel_rfl) 7 (by simp)) hS
      obtain rfl : g8a = g := by have h9 : Value.pointer (some ⟨g8a, 0, none⟩) = .pointer (some ⟨g, 0, none⟩) := (hAt 4 (by simp)).2.symm.trans hm; simpa using h9
      obtain rfl : h8a = k := by have h9 : Value.pointer (some ⟨h8a, 0, none⟩) = .pointer (some ⟨k, 0, none⟩) := (hAt 5 (by simp)).2.symm.trans hk; simpa using h9
      obtain ⟨_, ⟨hA, hb2⟩, _⟩ := id hB
      have hBk := (hA g8a rfl).2.2
      obtain ⟨hz3, hz1⟩ := WQKA.sz6 hB (hAt 1 (by simp)).2
      refine (exec_store_blk (w := w9) 43 (.tmp 5) (.tmp 14) (by rfl) g8a 43 zQ V5a (by rfl) (by rfl) hBk (by rw [hz3]; rfl) (by rw [hz3]; exact qIA) hz1).imp fun w7 hx => ⟨hx.1, hset _ (WQKA.st6 hB (hAt 1 (by simp)).2 hx.2.1 hx.2.2)⟩
     try simp only [Act.put]
     refine Pz 7 none undef rfl rfl ?ywg1_16 ?rwg1_16
     case ywg1_16 =>
      refine StepS.store [1, 3, 4, 5, 6] (by kernel_rfl) (by rfl) (fun L9 m9 w9 hSh hAt hDn hS => ?_)
      obtain ⟨g, k, hm, hk, hB, hset⟩ := WQA.on7 (hAt 1 (by simp)).1 (hAt 3 (by simp)).1 (hAt 4 (by simp)).1 (hAt 5 (by simp)).1 (hAt 6 (by simp)).1 hDn  hS
      obtain rfl : g8a = g := by have h9 : Value.pointer (some ⟨g8a, 0, none⟩) = .pointer (some ⟨g, 0, none⟩) := (hAt 4 (by simp)).2.symm.trans hm; simpa using h9
      obtain rfl : h8a = k := by have h9 : Value.pointer (some ⟨h8a, 0, none⟩) = .pointer (some ⟨k, 0, none⟩) := (hAt 5 (by simp)).2.symm.trans hk; simpa using h9
      obtain ⟨_, A1, hA, hb2, _⟩ := id hB
      have hBk := (hb2 h8a rfl).2
      obtain ⟨hz3, hz1⟩ := WQKA.sz7 hB (hAt 3 (by simp)).2
      refine (exec_store_blk (w := w9) 43 (.tmp 6) (.tmp 16) (by rfl) h8a 43 zQ V6a (by rfl) (by rfl) hBk (by rw [hz3]; rfl) (by rw [hz3]; exact qIA) hz1).imp fun w7 hx => ⟨hx.1, hset _ (WQKA.st7 hB (hAt 3 (by simp)).2 hx.2.1 hx.2.2)⟩
     try simp only [Act.put]
     refine Ps.done (by kernel_rfl) (fun wg1 hS => ?_) _
     obtain ⟨g, k, hm, hk, hB⟩ := WQA.fin (by rfl) (by rfl) (by rfl) hS
     clear hS
     obtain rfl : g8a = g := by have h9 : Value.pointer (some ⟨g8a, 0, none⟩) = .pointer (some ⟨g, 0, none⟩) := hm; simpa using h9
     obtain rfl : h8a = k := by have h9 : Value.pointer (some ⟨h8a, 0, none⟩) = .pointer (some ⟨k, 0, none⟩) := hk; simpa using h9
     have hB := WQKA.pair (V := V5a) (V' := V6a) hB rfl rfl
     refine ⟨g8a, h8a, V5a, V6a, ⟨.agg #[.slice A n c, .slice B m d, .int .i64 p.lim], .agg V5a, .agg #[.slice A2 n2 c2, .slice B2 m2 d2, .int .i64 q.lim], .agg V6a, ?_⟩, hB⟩
     clear hB hm hk
     rfl
   case bwg1_6_4 =>
    refine Turns.mk (i := 4) (d := some 5) rfl rfl (TurnS.value (V := fun v => ∃ g, v = .pointer (some ⟨g, 0, none⟩)) [] (by kernel_rfl) (by rfl) (fun L9 m9 w9 hSh hAt hDn hS => ?cwg1_17)) (fun v4a hVv4a => ?rwg1_17)
    case cwg1_17 =>
     exact ⟨.pointer (some ⟨w9.heap.size, 0, none⟩), w9.alloc (.cells zQ 43), (by clear hS; go_simp), ⟨_, rfl⟩, WQA.made4 hDn (post_no (post := [6]) hSh hDn (by kernel_rfl) 6 (by simp)) (post_no (post := [7]) hSh hDn (by kernel_rfl) 7 (by simp)) rfl (WQKA.m4) hS⟩
    try simp only [Act.put, sA, sZ, sS]
    obtain ⟨g8a, rfl⟩ := hVv4a
    refine Ps.some2 (i := 3) (j := 5) (by kernel_rfl) ?bwg1_18_3 ?bwg1_18_5
    case bwg1_18_3 =>
     refine Turns.mk (i := 3) (d := some 16) rfl rfl (TurnS.call (V := fun v => ∃ V : Array Value, v = .agg V) ?fwg1_19 ?awg1_19 [1] (by kernel_rfl) (by rfl) (fun w9 => ?hwg1_19) (fun L9 m9 w9 hSh hAt hDn hS => ?cwg1_19)) (fun v6a hVv6a => ?rwg1_19)
     case hwg1_19 => go_simp; refine ⟨?_, ?_⟩ <;> rfl
     case cwg1_19 =>
      obtain ⟨al, bl, hB, hset⟩ := WQA.on3 (hAt 1 (by simp)).1 hDn (post_no (post := [6]) hSh hDn (by kernel_rfl) 6 (by simp)) (post_no (post := [7]) hSh hDn (by kernel_rfl) 7 (by simp)) hS
      have hT := hB.1
      refine (fewq_any AllB q A2 n2 c2 B2 m2 d2 w9 (HY2.out.below hT) HAQ.out).mono ?_
      rintro e w6 ⟨V, rfl, hr6, q6⟩
      exact ⟨_, rfl, ⟨V, rfl⟩, hset _ _ (WQKA.c3 hB q6 hr6)⟩
     try simp only [Act.put, sA, sZ, sS]
     obtain ⟨V6a, rfl⟩ := hVv6a
     refine Ps.one (k := 5) (d := some 6) rfl rfl (by kernel_rfl) (TurnS.value (V := fun v => ∃ g, v = .pointer (some ⟨g, 0, none⟩)) [] (by kernel_rfl) (by rfl) (fun L9 m9 w9 hSh hAt hDn hS => ?cwg1_20)) (fun v5a hVv5a => ?rwg1_20)
     case cwg1_20 =>
      exact ⟨.pointer (some ⟨w9.heap.size, 0, none⟩), w9.alloc (.cells zQ 43), (by clear hS; go_simp), ⟨_, rfl⟩, WQA.made5 hDn (post_no (post := [6]) hSh hDn (by kernel_rfl) 6 (by simp)) (post_no (post := [7]) hSh hDn (by kernel_rfl) 7 (by simp)) rfl (WQKA.m5) hS⟩
     try simp only [Act.put, sA, sZ, sS]
     obtain ⟨h8a, rfl⟩ := hVv5a
     refine Pz 6 none undef rfl rfl ?ywg1_21 ?rwg1_21
     case ywg1_21 =>
      refine StepS.store [1, 3, 4, 5] (by kernel_rfl) (by rfl) (fun L9 m9 w9 hSh hAt hDn hS => ?_)
      obtain ⟨g, k, hm, hk, hB, hset⟩ := WQA.on6 (hAt 1 (by simp)).1 (hAt 3 (by simp)).1 (hAt 4 (by simp)).1 (hAt 5 (by simp)).1 hDn (post_no (post := [7]) hSh hDn (by kernel_rfl) 7 (by simp)) hS
      obtain rfl : g8a = g := by have h9 : Value.pointer (some ⟨g8a, 0, none⟩) = .pointer (some ⟨g, 0, none⟩) := (hAt 4 (by simp)).2.symm.trans hm; simpa using h9
      obtain rfl : h8a = k := by have h9 : Value.pointer (some ⟨h8a, 0, none⟩) = .pointer (some ⟨k, 0, none⟩) := (hAt 5 (by simp)).2.symm.trans hk; simpa using h9
      obtain ⟨_, ⟨hA, hb2⟩, _⟩ := id hB
      have hBk := (hA g8a rfl).2.2
      obtain ⟨hz3, hz1⟩ := WQKA.sz6 hB (hAt 1 (by simp)).2
      refine (exec_store_blk (w := w9) 43 (.tmp 5) (.tmp 14) (by rfl) g8a 43 zQ V5a (by rfl) (by rfl) hBk (by rw [hz3]; rfl) (by rw [hz3]; exact qIA) hz1).imp fun w7 hx => ⟨hx.1, hset _ (WQKA.st6 hB (hAt 1 (by simp)).2 hx.2.1 hx.2.2)⟩
     try simp only [Act.put]
     refine Pz 7 none undef rfl rfl ?ywg1_22 ?rwg1_22
     case ywg1_22 =>
      refine StepS.store [1, 3, 4, 5, 6] (by kernel_rfl) (by rfl) (fun L9 m9 w9 hSh hAt hDn hS => ?_)
      obtain ⟨g, k, hm, hk, hB, hset⟩ := WQA.on7 (hAt 1 (by simp)).1 (hAt 3 (by simp)).1 (hAt 4 (by simp)).1 (hAt 5 (by simp)).1 (hAt 6 (by simp)).1 hDn  hS
      obtain rfl : g8a = g := by have h9 : Value.pointer (some ⟨g8a, 0, none⟩) = .pointer (some ⟨g, 0, none⟩) := (hAt 4 (by simp)).2.symm.trans hm; simpa using h9
      obtain rfl : h8a = k := by have h9 : Value.pointer (some ⟨h8a, 0, none⟩) = .pointer (some ⟨k, 0, none⟩) := (hAt 5 (by simp)).2.symm.trans hk; simpa using h9
      obtain ⟨_, A1, hA, hb2, _⟩ := id hB
      have hBk := (hb2 h8a rfl).2
      obtain ⟨hz3, hz1⟩ := WQKA.sz7 hB (hAt 3 (by simp)).2
      refine (exec_store_blk (w := w9) 43 (.tmp 6) (.tmp 16) (by rfl) h8a 43 zQ V6a (by rfl) (by rfl) hBk (by rw [hz3]; rfl) (by rw [hz3]; exact qIA) hz1).imp fun w7 hx => ⟨hx.1, hset _ (WQKA.st7 hB (hAt 3 (by simp)).2 hx.2.1 hx.2.2)⟩
     try simp only [Act.put]
     refine Ps.done (by kernel_rfl) (fun wg1 hS => ?_) _
     obtain ⟨g, k, hm, hk, hB⟩ := WQA.fin (by rfl) (by rfl) (by rfl) hS
     clear hS
     obtain rfl : g8a = g := by have h9 : Value.pointer (some ⟨g8a, 0, none⟩) = .pointer (some ⟨g, 0, none⟩) := hm; simpa using h9
     obtain rfl : h8a = k := by have h9 : Value.pointer (some ⟨h8a, 0, none⟩) = .pointer (some ⟨k, 0, none⟩) := hk; simpa using h9
     have hB := WQKA.pair (V := V5a) (V' := V6a) hB rfl rfl
     refine ⟨g8a, h8a, V5a, V6a, ⟨.agg #[.slice A n c, .slice B m d, .int .i64 p.lim], .agg V5a, .agg #[.slice A2 n2 c2, .slice B2 m2 d2, .int .i64 q.lim], .agg V6a, ?_⟩, hB⟩
     clear hB hm hk
     rfl
    case bwg1_18_5 =>
     refine Turns.mk (i := 5) (d := some 6) rfl rfl (TurnS.value (V := fun v => ∃ g, v = .pointer (some ⟨g, 0, none⟩)) [] (by kernel_rfl) (by rfl) (fun L9 m9 w9 hSh hAt hDn hS => ?cwg1_23)) (fun v5a hVv5a => ?rwg1_23)
     case cwg1_23 =>
      exact ⟨.pointer (some ⟨w9.heap.size, 0, none⟩), w9.alloc (.cells zQ 43), (by clear hS; go_simp), ⟨_, rfl⟩, WQA.made5 hDn (post_no (post := [6]) hSh hDn (by kernel_rfl) 6 (by simp)) (post_no (post := [7]) hSh hDn (by kernel_rfl) 7 (by simp)) rfl (WQKA.m5) hS⟩
     try simp only [Act.put, sA, sZ, sS]
     obtain ⟨h8a, rfl⟩ := hVv5a
     refine Ps.one (k := 3) (d := some 16) rfl rfl (by kernel_rfl) (TurnS.call (V := fun v => ∃ V : Array Value, v = .agg V) ?fwg1_24 ?awg1_24 [1] (by kernel_rfl) (by rfl) (fun w9 => ?hwg1_24) (fun L9 m9 w9 hSh hAt hDn hS => ?cwg1_24)) (fun v6a hVv6a => ?rwg1_24)
     case hwg1_24 => go_simp; refine ⟨?_, ?_⟩ <;> rfl
     case cwg1_24 =>
      obtain ⟨al, bl, hB, hset⟩ := WQA.on3 (hAt 1 (by simp)).1 hDn (post_no (post := [6]) hSh hDn (by kernel_rfl) 6 (by simp)) (post_no (post := [7]) hSh hDn (by kernel_rfl) 7 (by simp)) hS
      have hT := hB.1
      refine (fewq_any AllB q A2 n2 c2 B2 m2 d2 w9 (HY2.out.below hT) HAQ.out).mono ?_
      rintro e w6 ⟨V, rfl, hr6, q6⟩
      exact ⟨_, rfl, ⟨V, rfl⟩, hset _ _ (WQKA.c3 hB q6 hr6)⟩
     try simp only [Act.put, sA, sZ, sS]
     obtain ⟨V6a, rfl⟩ := hVv6a
     refine Pz 6 none undef rfl rfl ?ywg1_25 ?rwg1_25
     case ywg1_25 =>
      refine StepS.store [1, 3, 4, 5] (by kernel_rfl) (by rfl) (fun L9 m9 w9 hSh hAt hDn hS => ?_)
      obtain ⟨g, k, hm, hk, hB, hset⟩ := WQA.on6 (hAt 1 (by simp)).1 (hAt 3 (by simp)).1 (hAt 4 (by simp)).1 (hAt 5 (by simp)).1 hDn (post_no (post := [7]) hSh hDn (by kernel_rfl) 7 (by simp)) hS
      obtain rfl : g8a = g := by have h9 : Value.pointer (some ⟨g8a, 0, none⟩) = .pointer (some ⟨g, 0, none⟩) := (hAt 4 (by simp)).2.symm.trans hm; simpa using h9
      obtain rfl : h8a = k := by have h9 : Value.pointer (some ⟨h8a, 0, none⟩) = .pointer (some ⟨k, 0, none⟩) := (hAt 5 (by simp)).2.symm.trans hk; simpa using h9
      obtain ⟨_, ⟨hA, hb2⟩, _⟩ := id hB
      have hBk := (hA g8a rfl).2.2
      obtain ⟨hz3, hz1⟩ := WQKA.sz6 hB (hAt 1 (by simp)).2
      refine (exec_store_blk (w := w9) 43 (.tmp 5) (.tmp 14) (by rfl) g8a 43 zQ V5a (by rfl) (by rfl) hBk (by rw [hz3]; rfl) (by rw [hz3]; exact qIA) hz1).imp fun w7 hx => ⟨hx.1, hset _ (WQKA.st6 hB (hAt 1 (by simp)).2 hx.2.1 hx.2.2)⟩
     try simp only [Act.put]
     refine Pz 7 none undef rfl rfl ?ywg1_26 ?rwg1_26
     case ywg1_26 =>
      refine StepS.store [1, 3, 4, 5, 6] (by kernel_rfl) (by rfl) (fun L9 m9 w9 hSh hAt hDn hS => ?_)
      obtain ⟨g, k, hm, hk, hB, hset⟩ := WQA.on7 (hAt 1 (by simp)).1 (hAt 3 (by simp)).1 (hAt 4 (by simp)).1 (hAt 5 (by simp)).1 (hAt 6 (by simp)).1 hDn  hS
      obtain rfl : g8a = g := by have h9 : Value.pointer (some ⟨g8a, 0, none⟩) = .pointer (some ⟨g, 0, none⟩) := (hAt 4 (by simp)).2.symm.trans hm; simpa using h9
      obtain rfl : h8a = k := by have h9 : Value.pointer (some ⟨h8a, 0, none⟩) = .pointer (some ⟨k, 0, none⟩) := (hAt 5 (by simp)).2.symm.trans hk; simpa using h9
      obtain ⟨_, A1, hA, hb2, _⟩ := id hB
      have hBk := (hb2 h8a rfl).2
      obtain ⟨hz3, hz1⟩ := WQKA.sz7 hB (hAt 3 (by simp)).2
      refine (exec_store_blk (w := w9) 43 (.tmp 6) (.tmp 16) (by rfl) h8a 43 zQ V6a (by rfl) (by rfl) hBk (by rw [hz3]; rfl) (by rw [hz3]; exact qIA) hz1).imp fun w7 hx => ⟨hx.1, hset _ (WQKA.st7 hB (hAt 3 (by simp)).2 hx.2.1 hx.2.2)⟩
     try simp only [Act.put]
     refine Ps.done (by kernel_rfl) (fun wg1 hS => ?_) _
     obtain ⟨g, k, hm, hk, hB⟩ := WQA.fin (by rfl) (by rfl) (by rfl) hS
     clear hS
     obtain rfl : g8a = g := by have h9 : Value.pointer (some ⟨g8a, 0, none⟩) = .pointer (some ⟨g, 0, none⟩) := hm; simpa using h9
     obtain rfl : h8a = k := by have h9 : Value.pointer (some ⟨h8a, 0, none⟩) = .pointer (some ⟨k, 0, none⟩) := hk; simpa using h9
     have hB := WQKA.pair (V := V5a) (V' := V6a) hB rfl rfl
     refine ⟨g8a, h8a, V5a, V6a, ⟨.agg #[.slice A n c, .slice B m d, .int .i64 p.lim], .agg V5a, .agg #[.slice A2 n2 c2, .slice B2 m2 d2, .int .i64 q.lim], .agg V6a, ?_⟩, hB⟩
     clear hB hm hk
     rfl
   case bwg1_6_5 =>
    refine Turns.mk (i := 5) (d := some 6) rfl rfl (TurnS.value (V := fun v => ∃ g, v = .pointer (some ⟨g, 0, none⟩)) [] (by kernel_rfl) (by rfl) (fun L9 m9 w9 hSh hAt hDn hS => ?cwg1_27)) (fun v5a hVv5a => ?rwg1_27)
    case cwg1_27 =>
     exact ⟨.pointer (some ⟨w9.heap.size, 0, none⟩), w9.alloc (.cells zQ 43), (by clear hS; go_simp), ⟨_, rfl⟩, WQA.made5 hDn (post_no (post := [6]) hSh hDn (by kernel_rfl) 6 (by simp)) (post_no (post := [7]) hSh hDn (by kernel_rfl) 7 (by simp)) rfl (WQKA.m5) hS⟩
    try simp only [Act.put, sA, sZ, sS]
    obtain ⟨h8a, rfl⟩ := hVv5a
    refine Ps.some2 (i := 3) (j := 4) (by kernel_rfl) ?bwg1_28_3 ?bwg1_28_4
    case bwg1_28_3 =>
     refine Turns.mk (i := 3) (d := some 16) rfl rfl (TurnS.call (V := fun v => ∃ V : Array Value, v = .agg V) ?fwg1_29 ?awg1_29 [1] (by kernel_rfl) (by rfl) (fun w9 => ?hwg1_29) (fun L9 m9 w9 hSh hAt hDn hS => ?cwg1_29)) (fun v6a hVv6a => ?rwg1_29)
     case hwg1_29 => go_simp; refine ⟨?_, ?_⟩ <;> rfl
     case cwg1_29 =>
      obtain ⟨al, bl, hB, hset⟩ := WQA.on3 (hAt 1 (by simp)).1 hDn (post_no (post := [6]) hSh hDn (by kernel_rfl) 6 (by simp)) (post_no (post := [7]) hSh hDn (by kernel_rfl) 7 (by simp)) hS
      have hT := hB.1
      refine (fewq_any AllB q A2 n2 c2 B2 m2 d2 w9 (HY2.out.below hT) HAQ.out).mono ?_
      rintro e w6 ⟨V, rfl, hr6, q6⟩
      exact ⟨_, rfl, ⟨V, rfl⟩, hset _ _ (WQKA.c3 hB q6 hr6)⟩
     try simp only [Act.put, sA, sZ, sS]
     obtain ⟨V6a, rfl⟩ := hVv6a
     refine Ps.one (k := 4) (d := some 5) rfl rfl (by kernel_rfl) (TurnS.value (V := fun v => ∃ g, v = .pointer (some ⟨g, 0, none⟩)) [] (by kernel_rfl) (by rfl) (fun L9 m9 w9 hSh hAt hDn hS => ?cwg1_30)) (fun v4a hVv4a => ?rwg1_30)
     case cwg1_30 =>
      exact ⟨.pointer (some ⟨w9.heap.size, 0, none⟩), w9.alloc (.cells zQ 43), (by clear hS; go_simp), ⟨_, rfl⟩, WQA.made4 hDn (post_no (post := [6]) hSh hDn (by kernel_rfl) 6 (by simp)) (post_no (post := [7]) hSh hDn (by kernel_rfl) 7 (by simp)) rfl (WQKA.m4) hS⟩
     try simp only [Act.put, sA, sZ, sS]
     obtain ⟨g8a, rfl⟩ := hVv4a
     refine Pz 6 none undef rfl rfl ?ywg1_31 ?rwg1_31
     case ywg1_31 =>
      refine StepS.store [1, 3, 4, 5] (by kernel_rfl) (by rfl) (fun L9 m9 w9 hSh hAt hDn hS => ?_)
      obtain ⟨g, k, hm, hk, hB, hset⟩ := WQA.on6 (hAt 1 (by simp)).1 (hAt 3 (by simp)).1 (hAt 4 (by simp)).1 (hAt 5 (by simp)).1 hDn (post_no (post := [7]) hSh hDn (by kernel_rfl) 7 (by simp)) hS
      obtain rfl : g8a = g := by have h9 : Value.pointer (some ⟨g8a, 0, none⟩) = .pointer (some ⟨g, 0, none⟩) := (hAt 4 (by simp)).2.symm.trans hm; simpa using h9
      obtain rfl : h8a = k := by have h9 : Value.pointer (some ⟨h8a, 0, none⟩) = .pointer (some ⟨k, 0, none⟩) := (hAt 5 (by simp)).2.symm.trans hk; simpa using h9
      obtain ⟨_, ⟨hA, hb2⟩, _⟩ := id hB
      have hBk := (hA g8a rfl).2.2
      obtain ⟨hz3, hz1⟩ := WQKA.sz6 hB (hAt 1 (by simp)).2
      refine (exec_store_blk (w := w9) 43 (.tmp 5) (.tmp 14) (by rfl) g8a 43 zQ V5a (by rfl) (by rfl) hBk (by rw [hz3]; rfl) (by rw [hz3]; exact qIA) hz1).imp fun w7 hx => ⟨hx.1, hset _ (WQKA.st6 hB (hAt 1 (by simp)).2 hx.2.1 hx.2.2)⟩
     try simp only [Act.put]
     refine Pz 7 none undef rfl rfl ?ywg1_32 ?rwg1_32
     case ywg1_32 =>
      refine StepS.store [1, 3, 4, 5, 6] (by kernel_rfl) (by rfl) (fun L9 m9 w9 hSh hAt hDn hS => ?_)
      obtain ⟨g, k, hm, hk, hB, hset⟩ := WQA.on7 (hAt 1 (by simp)).1 (hAt 3 (by simp)).1 (hAt 4 (by simp)).1 (hAt 5 (by simp)).1 (hAt 6 (by simp)).1 hDn  hS
      obtain rfl : g8a = g := by have h9 : Value.pointer (some ⟨g8a, 0, none⟩) = .pointer (some ⟨g, 0, none⟩) := (hAt 4 (by simp)).2.symm.trans hm; simpa using h9
      obtain rfl : h8a = k := by have h9 : Value.pointer (some ⟨h8a, 0, none⟩) = .pointer (some ⟨k, 0, none⟩) := (hAt 5 (by simp)).2.symm.trans hk; simpa using h9
      obtain ⟨_, A1, hA, hb2, _⟩ := id hB
      have hBk := (hb2 h8a rfl).2
      obtain ⟨hz3, hz1⟩ := WQKA.sz7 hB (hAt 3 (by simp)).2
      refine (exec_store_blk (w := w9) 43 (.tmp 6) (.tmp 16) (by rfl) h8a 43 zQ V6a (by rfl) (by rfl) hBk (by rw [hz3]; rfl) (by rw [hz3]; exact qIA) hz1).imp fun w7 hx => ⟨hx.1, hset _ (WQKA.st7 hB (hAt 3 (by simp)).2 hx.2.1 hx.2.2)⟩
     try simp only [Act.put]
     refine Ps.done (by kernel_rfl) (fun wg1 hS => ?_) _
     obtain ⟨g, k, hm, hk, hB⟩ := WQA.fin (by rfl) (by rfl) (by rfl) hS
     clear hS
     obtain rfl : g8a = g := by have h9 : Value.pointer (some ⟨g8a, 0, none⟩) = .pointer (some ⟨g, 0, none⟩) := hm; simpa using h9
     obtain rfl : h8a = k := by have h9 : Value.pointer (some ⟨h8a, 0, none⟩) = .pointer (some ⟨k, 0, none⟩) := hk; simpa using h9
     have hB := WQKA.pair (V := V5a) (V' := V6a) hB rfl rfl
     refine ⟨g8a, h8a, V5a, V6a, ⟨.agg #[.slice A n c, .slice B m d, .int .i64 p.lim], .agg V5a, .agg #[.slice A2 n2 c2, .slice B2 m2 d2, .int .i64 q.lim], .agg V6a, ?_⟩, hB⟩
     clear hB hm hk
     rfl
    case bwg1_28_4 =>
     refine Turns.mk (i := 4) (d := some 5) rfl rfl (TurnS.value (V := fun v => ∃ g, v = .pointer (some ⟨g, 0, none⟩)) [] (by kernel_rfl) (by rfl) (fun L9 m9 w9 hSh hAt hDn hS => ?cwg1_33)) (fun v4a hVv4a => ?rwg1_33)
     case cwg1_33 =>
      exact ⟨.pointer (some ⟨w9.heap.size, 0, none⟩), w9.alloc (.cells zQ 43), (by clear hS; go_simp), ⟨_, rfl⟩, WQA.made4 hDn (post_no (post := [6]) hSh hDn (by kernel_rfl) 6 (by simp)) (post_no (post := [7]) hSh hDn (by kernel_rfl) 7 (by simp)) rfl (WQKA.m4) hS⟩
     try simp only [Act.put, sA, sZ, sS]
     obtain ⟨g8a, rfl⟩ := hVv4a
     refine Ps.one (k := 3) (d := some 16) rfl rfl (by kernel_rfl) (TurnS.call (V := fun v => ∃ V : Array Value, v = .agg V) ?fwg1_34 ?awg1_34 [1] (by kernel_rfl) (by rfl) (fun w9 => ?hwg1_34) (fun L9 m9 w9 hSh hAt hDn hS => ?cwg1_34)) (fun v6a hVv6a => ?rwg1_34)
     case hwg1_34 => go_simp; refine ⟨?_, ?_⟩ <;> rfl
     case cwg1_34 =>
      obtain ⟨al, bl, hB, hset⟩ := WQA.on3 (hAt 1 (by simp)).1 hDn (post_no (post := [6]) hSh hDn (by kernel_rfl) 6 (by simp)) (post_no (post := [7]) hSh hDn (by kernel_rfl) 7 (by simp)) hS
      have hT := hB.1
      refine (fewq_any AllB q A2 n2 c2 B2 m2 d2 w9 (HY2.out.below hT) HAQ.out).mono ?_
      rintro e w6 ⟨V, rfl, hr6, q6⟩
      exact ⟨_, rfl, ⟨V, rfl⟩, hset _ _ (WQKA.c3 hB q6 hr6)⟩
     try simp only [Act.put, sA, sZ, sS]
     obtain ⟨V6a, rfl⟩ := hVv6a
     refine Pz 6 none undef rfl rfl ?ywg1_35 ?rwg1_35
     case ywg1_35 =>
      refine StepS.store [1, 3, 4, 5] (by kernel_rfl) (by rfl) (fun L9 m9 w9 hSh hAt hDn hS => ?_)
      obtain ⟨g, k, hm, hk, hB, hset⟩ := WQA.on6 (hAt 1 (by simp)).1 (hAt 3 (by simp)).1 (hAt 4 (by simp)).1 (hAt 5 (by simp)).1 hDn (post_no (post := [7]) hSh hDn (by kernel_rfl) 7 (by simp)) hS
      obtain rfl : g8a = g := by have h9 : Value.pointer (some ⟨g8a, 0, none⟩) = .pointer (some ⟨g, 0, none⟩) := (hAt 4 (by simp)).2.symm.trans hm; simpa using h9
      obtain rfl : h8a = k := by have h9 : Value.pointer (some ⟨h8a, 0, none⟩) = .pointer (some ⟨k, 0, none⟩) := (hAt 5 (by simp)).2.symm.trans hk; simpa using h9
      obtain ⟨_, ⟨hA, hb2⟩, _⟩ := id hB
      have hBk := (hA g8a rfl).2.2
      obtain ⟨hz3, hz1⟩ := WQKA.sz6 hB (hAt 1 (by simp)).2
      refine (exec_store_blk (w := w9) 43 (.tmp 5) (.tmp 14) (by rfl) g8a 43 zQ V5a (by rfl) (by rfl) hBk (by rw [hz3]; rfl) (by rw [hz3]; exact qIA) hz1).imp fun w7 hx => ⟨hx.1, hset _ (WQKA.st6 hB (hAt 1 (by simp)).2 hx.2.1 hx.2.2)⟩
     try simp only [Act.put]
     refine Pz 7 none undef rfl rfl ?ywg1_36 ?rwg1_36
     case ywg1_36 =>
      refine StepS.store [1, 3, 4, 5, 6] (by kernel_rfl) (by rfl) (fun L9 m9 w9 hSh hAt hDn hS => ?_)
      obtain ⟨g, k, hm, hk, hB, hset⟩ := WQA.on7 (hAt 1 (by simp)).1 (hAt 3 (by simp)).1 (hAt 4 (by simp)).1 (hAt 5 (by simp)).1 (hAt 6 (by simp)).1 hDn  hS
      obtain rfl : g8a = g := by have h9 : Value.pointer (some ⟨g8a, 0, none⟩) = .pointer (some ⟨g, 0, none⟩) := (hAt 4 (by simp)).2.symm.trans hm; simpa using h9
      obtain rfl : h8a = k := by have h9 : Value.pointer (some ⟨h8a, 0, none⟩) = .pointer (some ⟨k, 0, none⟩) := (hAt 5 (by simp)).2.symm.trans hk; simpa using h9
      obtain ⟨_, A1, hA, hb2, _⟩ := id hB
      have hBk := (hb2 h8a rfl).2
      obtain ⟨hz3, hz1⟩ := WQKA.sz7 hB (hAt 3 (by simp)).2
      refine (exec_store_blk (w := w9) 43 (.tmp 6) (.tmp 16) (by rfl) h8a 43 zQ V6a (by rfl) (by rfl) hBk (by rw [hz3]; rfl) (by rw [hz3]; exact qIA) hz1).imp fun w7 hx => ⟨hx.1, hset _ (WQKA.st7 hB (hAt 3 (by simp)).2 hx.2.1 hx.2.2)⟩
     try simp only [Act.put]
     refine Ps.done (by kernel_rfl) (fun wg1 hS => ?_) _
     obtain ⟨g, k, hm, hk, hB⟩ := WQA.fin (by rfl) (by rfl) (by rfl) hS
     clear hS
     obtain rfl : g8a = g := by have h9 : Value.pointer (some ⟨g8a, 0, none⟩) = .pointer (some ⟨g, 0, none⟩) := hm; simpa using h9
     obtain rfl : h8a = k := by have h9 : Value.pointer (some ⟨h8a, 0, none⟩) = .pointer (some ⟨k, 0, none⟩) := hk; simpa using h9
     have hB := WQKA.pair (V := V5a) (V' := V6a) hB rfl rfl
     refine ⟨g8a, h8a, V5a, V6a, ⟨.agg #[.slice A n c, .slice B m d, .int .i64 p.lim], .agg V5a, .agg #[.slice A2 n2 c2, .slice B2 m2 d2, .int .i64 q.lim], .agg V6a, ?_⟩, hB⟩
     clear hB hm hk
     rfl
  case bwg1_4_4 =>
   refine Turns.mk (i := 4) (d := some 5) rfl rfl (TurnS.value (V := fun v => ∃ g, v = .pointer (some ⟨g, 0, none⟩)) [] (by kernel_rfl) (by rfl) (fun L9 m9 w9 hSh hAt hDn hS => ?cwg1_37)) (fun v4a hVv4a => ?rwg1_37)
   case cwg1_37 =>
    exact ⟨.pointer (some ⟨w9.heap.size, 0, none⟩), w9.alloc (.cells zQ 43), (by clear hS; go_simp), ⟨_, rfl⟩, WQA.made4 hDn (post_no (post := [6]) hSh hDn (by kernel_rfl) 6 (by simp)) (post_no (post := [7]) hSh hDn (by kernel_rfl) 7 (by simp)) rfl (WQKA.m4) hS⟩
   try simp only [Act.put, sA, sZ, sS]
   obtain ⟨g8a, rfl⟩ := hVv4a
   refine Ps.some2 (i := 1) (j := 5) (by kernel_rfl) ?bwg1_38_1 ?bwg1_38_5
   case bwg1_38_1 =>
    refine Turns.mk (i := 1) (d := some 14) rfl rfl (TurnS.call (V := fun v => ∃ V : Array Value, v = .agg V) ?fwg1_39 ?awg1_39 [] (by kernel_rfl) (by rfl) (fun w9 => ?hwg1_39) (fun L9 m9 w9 hSh hAt hDn hS => ?cwg1_39)) (fun v5a hVv5a => ?rwg1_39)
    case hwg1_39 => go_simp; refine ⟨?_, ?_⟩ <;> rfl
    case cwg1_39 =>
     obtain ⟨al, bl, hB, hset⟩ := WQA.on1 hDn (post_no (post := [3]) hSh hDn (by kernel_rfl) 3 (by simp)) (post_no (post := [6]) hSh hDn (by kernel_rfl) 6 (by simp)) (post_no (post := [7]) hSh hDn (by kernel_rfl) 7 (by simp)) hS
     have hT := hB.1
     refine (fewq_any AllB p A n c B m d w9 (HX2.out.below hT) HAP.out).mono ?_
     rintro e w6 ⟨V, rfl, hr6, q6⟩
     exact ⟨_, rfl, ⟨V, rfl⟩, hset _ _ (WQKA.c1 hB q6 hr6)⟩
    try simp only [Act.put, sA, sZ, sS]
    obtain ⟨V5a, rfl⟩ := hVv5a
    refine Ps.some2 (i := 3) (j := 5) (by kernel_rfl) ?bwg1_40_3 ?bwg1_40_5
    case bwg1_40_3 =>
     refine Turns.mk (i := 3) (d := some 16) rfl rfl (TurnS.call (V := fun v => ∃ V : Array Value, v = .agg V) ?fwg1_41 ?awg1_41 [1] (by kernel_rfl) (by rfl) (fun w9 => ?hwg1_41) (fun L9 m9 w9 hSh hAt hDn hS => ?cwg1_41)) (fun v6a hVv6a => ?rwg1_41)
     case hwg1_41 => go_simp; refine ⟨?_, ?_⟩ <;> rfl
     case cwg1_41 =>
      obtain ⟨al, bl, hB, hset⟩ := WQA.on3 (hAt 1 (by simp)).1 hDn (post_no (post := [6]) hSh hDn (by kernel_rfl) 6 (by simp)) (post_no (post := [7]) hSh hDn (by kernel_rfl) 7 (by simp)) hS
      have hT := hB.1
      refine (fewq_any AllB q A2 n2 c2 B2 m2 d2 w9 (HY2.out.below hT) HAQ.out).mono ?_
      rintro e w6 ⟨V, rfl, hr6, q6⟩
      exact ⟨_, rfl, ⟨V, rfl⟩, hset _ _ (WQKA.c3 hB q6 hr6)⟩
     try simp only [Act.put, sA, sZ, sS]
     obtain ⟨V6a, rfl⟩ := hVv6a
     refine Ps.one (k := 5) (d := some 6) rfl rfl (by kernel_rfl) (TurnS.value (V := fun v => ∃ g, v = .pointer (some ⟨g, 0, none⟩)) [] (by kernel_rfl) (by rfl) (fun L9 m9 w9 hSh hAt hDn hS => ?cwg1_42)) (fun v5a hVv5a => ?rwg1_42)
     case cwg1_42 =>
      exact ⟨.pointer (some ⟨w9.heap.size, 0, none⟩), w9.alloc (.cells zQ 43), (by clear hS; go_simp), ⟨_, rfl⟩, WQA.made5 hDn (post_no (post := [6]) hSh hDn (by kernel_rfl) 6 (by simp)) (post_no (post := [7]) hSh hDn (by kernel_rfl) 7 (by simp)) rfl (WQKA.m5) hS⟩
     try simp only [Act.put, sA, sZ, sS]
     obtain ⟨h8a, rfl⟩ := hVv5a
     refine Pz 6 none undef rfl rfl ?ywg1_43 ?rwg1_43
     case ywg1_43 =>
      refine StepS.store [1, 3, 4, 5] (by kernel_rfl) (by rfl) (fun L9 m9 w9 hSh hAt hDn hS => ?_)
      obtain ⟨g, k, hm, hk, hB, hset⟩ := WQA.on6 (hAt 1 (by simp)).1 (hAt 3 (by simp)).1 (hAt 4 (by simp)).1 (hAt 5 (by simp)).1 hDn (post_no (post := [7]) hSh hDn (by kernel_rfl) 7 (by simp)) hS
      obtain rfl : g8a = g := by have h9 : Value.pointer (some ⟨g8a, 0, none⟩) = .pointer (some ⟨g, 0, none⟩) := (hAt 4 (by simp)).2.symm.trans hm; simpa using h9
      obtain rfl : h8a = k := by have h9 : Value.pointer (some ⟨h8a, 0, none⟩) = .pointer (some ⟨k, 0, none⟩) := (hAt 5 (by simp)).2.symm.trans hk; simpa using h9
      obtain ⟨_, ⟨hA, hb2⟩, _⟩ := id hB
      have hBk := (hA g8a rfl).2.2
      obtain ⟨hz3, hz1⟩ := WQKA.sz6 hB (hAt 1 (by simp)).2
      refine (exec_store_blk (w := w9) 43 (.tmp 5) (.tmp 14) (by rfl) g8a 43 zQ V5a (by rfl) (by rfl) hBk (by rw [hz3]; rfl) (by rw [hz3]; exact qIA) hz1).imp fun w7 hx => ⟨hx.1, hset _ (WQKA.st6 hB (hAt 1 (by simp)).2 hx.2.1 hx.2.2)⟩
     try simp only [Act.put]
     refine Pz 7 none undef rfl rfl ?ywg1_44 ?rwg1_44
     case ywg1_44 =>
      refine StepS.store [1, 3, 4, 5, 6] (by kernel_rfl) (by rfl) (fun L9 m9 w9 hSh hAt hDn hS => ?_)
      obtain ⟨g, k, hm, hk, hB, hset⟩ := WQA.on7 (hAt 1 (by simp)).1 (hAt 3 (by simp)).1 (hAt 4 (by simp)).1 (hAt 5 (by simp)).1 (hAt 6 (by simp)).1 hDn  hS
      obtain rfl : g8a = g := by have h9 : Value.pointer (some ⟨g8a, 0, none⟩) = .pointer (some ⟨g, 0, none⟩) := (hAt 4 (by simp)).2.symm.trans hm; simpa using h9
      obtain rfl : h8a = k := by have h9 : Value.pointer (some ⟨h8a, 0, none⟩) = .pointer (some ⟨k, 0, none⟩) := (hAt 5 (by simp)).2.symm.trans hk; simpa using h9
      obtain ⟨_, A1, hA, hb2, _⟩ := id hB
      have hBk := (hb2 h8a rfl).2
      obtain ⟨hz3, hz1⟩ := WQKA.sz7 hB (hAt 3 (by simp)).2
      refine (exec_store_blk (w := w9) 43 (.tmp 6) (.tmp 16) (by rfl) h8a 43 zQ V6a (by rfl) (by rfl) hBk (by rw [hz3]; rfl) (by rw [hz3]; exact qIA) hz1).imp fun w7 hx => ⟨hx.1, hset _ (WQKA.st7 hB (hAt 3 (by simp)).2 hx.2.1 hx.2.2)⟩
     try simp only [Act.put]
     refine Ps.done (by kernel_rfl) (fun wg1 hS => ?_) _
     obtain ⟨g, k, hm, hk, hB⟩ := WQA.fin (by rfl) (by rfl) (by rfl) hS
     clear hS
     obtain rfl : g8a = g := by have h9 : Value.pointer (some ⟨g8a, 0, none⟩) = .pointer (some ⟨g, 0, none⟩) := hm; simpa using h9
     obtain rfl : h8a = k := by have h9 : Value.pointer (some ⟨h8a, 0, none⟩) = .pointer (some ⟨k, 0, none⟩) := hk; simpa using h9
     have hB := WQKA.pair (V := V5a) (V' := V6a) hB rfl rfl
     refine ⟨g8a, h8a, V5a, V6a, ⟨.agg #[.slice A n c, .slice B m d, .int .i64 p.lim], .agg V5a, .agg #[.slice A2 n2 c2, .slice B2 m2 d2, .int .i64 q.lim], .agg V6a, ?_⟩, hB⟩
     clear hB hm hk
     rfl
    case bwg1_40_5 =>
     refine Turns.mk (i := 5) (d := some 6) rfl rfl (TurnS.value (V := fun v => ∃ g, v = .pointer (some ⟨g, 0, none⟩)) [] (by kernel_rfl) (by rfl) (fun L9 m9 w9 hSh hAt hDn hS => ?cwg1_45)) (fun v5a hVv5a => ?rwg1_45)
     case cwg1_45 =>
      exact ⟨.pointer (some ⟨w9.heap.size, 0, none⟩), w9.alloc (.cells zQ 43), (by clear hS; go_simp), ⟨_, rfl⟩, WQA.made5 hDn (post_no (post := [6]) hSh hDn (by kernel_rfl) 6 (by simp)) (post_no (post := [7]) hSh hDn (by kernel_rfl) 7 (by simp)) rfl (WQKA.m5) hS⟩
     try simp only [Act.put, sA, sZ, sS]
     obtain ⟨h8a, rfl⟩ := hVv5a
     refine Ps.one (k := 3) (d := some 16) rfl rfl (by kernel_rfl) (TurnS.call (V := fun v => ∃ V : Array Value, v = .agg V) ?fwg1_46 ?awg1_46 [1] (by kernel_rfl) (by rfl) (fun w9 => ?hwg1_46) (fun L9 m9 w9 hSh hAt hDn hS => ?cwg1_46)) (fun v6a hVv6a => ?rwg1_46)
     case hwg1_46 => go_simp; refine ⟨?_, ?_⟩ <;> rfl
     case cwg1_46 =>
      obtain ⟨al, bl, hB, hset⟩ := WQA.on3 (hAt 1 (by simp)).1 hDn (post_no (post := [6]) hSh hDn (by kernel_rfl) 6 (by simp)) (post_no (post := [7]) hSh hDn (by kernel_rfl) 7 (by simp)) hS
      have hT := hB.1
      refine (fewq_any AllB q A2 n2 c2 B2 m2 d2 w9 (HY2.out.below hT) HAQ.out).mono ?_
      rintro e w6 ⟨V, rfl, hr6, q6⟩
      exact ⟨_, rfl, ⟨V, rfl⟩, hset _ _ (WQKA.c3 hB q6 hr6)⟩
     try simp only [Act.put, sA, sZ, sS]
     obtain ⟨V6a, rfl⟩ := hVv6a
     refine Pz 6 none undef rfl rfl ?ywg1_47 ?rwg1_47
     case ywg1_47 =>
      refine StepS.store [1, 3, 4, 5] (by kernel_rfl) (by rfl) (fun L9 m9 w9 hSh hAt hDn hS => ?_)
      obtain ⟨g, k, hm, hk, hB, hset⟩ := WQA.on6 (hAt 1 (by simp)).1 (hAt 3 (by simp)).1 (hAt 4 (by simp)).1 (hAt 5 (by simp)).1 hDn (post_no (post := [7]) hSh hDn (by kernel_rfl) 7 (by simp)) hS
      obtain rfl : g8a = g := by have h9 : Value.pointer (some ⟨g8a, 0, none⟩) = .pointer (some ⟨g, 0, none⟩) := (hAt 4 (by simp)).2.symm.trans hm; simpa using h9
      obtain rfl : h8a = k := by have h9 : Value.pointer (some ⟨h8a, 0, none⟩) = .pointer (some ⟨k, 0, none⟩) := (hAt 5 (by simp)).2.symm.trans hk; simpa using h9
      obtain ⟨_, ⟨hA, hb2⟩, _⟩ := id hB
      have hBk := (hA g8a rfl).2.2
      obtain ⟨hz3, hz1⟩ := WQKA.sz6 hB (hAt 1 (by simp)).2
      refine (exec_store_blk (w := w9) 43 (.tmp 5) (.tmp 14) (by rfl) g8a 43 zQ V5a (by rfl) (by rfl) hBk (by rw [hz3]; rfl) (by rw [hz3]; exact qIA) hz1).imp fun w7 hx => ⟨hx.1, hset _ (WQKA.st6 hB (hAt 1 (by simp)).2 hx.2.1 hx.2.2)⟩
     try simp only [Act.put]
     refine Pz 7 none undef rfl rfl ?ywg1_48 ?rwg1_48
     case ywg1_48 =>
      refine StepS.store [1, 3, 4, 5, 6] (by kernel_rfl) (by rfl) (fun L9 m9 w9 hSh hAt hDn hS => ?_)
      obtain ⟨g, k, hm, hk, hB, hset⟩ := WQA.on7 (hAt 1 (by simp)).1 (hAt 3 (by simp)).1 (hAt 4 (by simp)).1 (hAt 5 (by simp)).1 (hAt 6 (by simp)).1 hDn  hS
      obtain rfl : g8a = g := by have h9 : Value.pointer (some ⟨g8a, 0, none⟩) = .pointer (some ⟨g, 0, none⟩) := (hAt 4 (by simp)).2.symm.trans hm; simpa using h9
      obtain rfl : h8a = k := by have h9 : Value.pointer (some ⟨h8a, 0, none⟩) = .pointer (some ⟨k, 0, none⟩) := (hAt 5 (by simp)).2.symm.trans hk; simpa using h9
      obtain ⟨_, A1, hA, hb2, _⟩ := id hB
      have hBk := (hb2 h8a rfl).2
      obtain ⟨hz3, hz1⟩ := WQKA.sz7 hB (hAt 3 (by simp)).2
      refine (exec_store_blk (w := w9) 43 (.tmp 6) (.tmp 16) (by rfl) h8a 43 zQ V6a (by rfl) (by rfl) hBk (by rw [hz3]; rfl) (by rw [hz3]; exact qIA) hz1).imp fun w7 hx => ⟨hx.1, hset _ (WQKA.st7 hB (hAt 3 (by simp)).2 hx.2.1 hx.2.2)⟩
     try simp only [Act.put]
     refine Ps.done (by kernel_rfl) (fun wg1 hS => ?_) _
     obtain ⟨g, k, hm, hk, hB⟩ := WQA.fin (by rfl) (by rfl) (by rfl) hS
     clear hS
     obtain rfl : g8a = g := by have h9 : Value.pointer (some ⟨g8a, 0, none⟩) = .pointer (some ⟨g, 0, none⟩) := hm; simpa using h9
     obtain rfl : h8a = k := by have h9 : Value.pointer (some ⟨h8a, 0, none⟩) = .pointer (some ⟨k, 0, none⟩) := hk; simpa using h9
     have hB := WQKA.pair (V := V5a) (V' := V6a) hB rfl rfl
     refine ⟨g8a, h8a, V5a, V6a, ⟨.agg #[.slice A n c, .slice B m d, .int .i64 p.lim], .agg V5a, .agg #[.slice A2 n2 c2, .slice B2 m2 d2, .int .i64 q.lim], .agg V6a, ?_⟩, hB⟩
     clear hB hm hk
     rfl
   case bwg1_38_5 =>
    refine Turns.mk (i := 5) (d := some 6) rfl rfl (TurnS.value (V := fun v => ∃ g, v = .pointer (some ⟨g, 0, none⟩)) [] (by kernel_rfl) (by rfl) (fun L9 m9 w9 hSh hAt hDn hS => ?cwg1_49)) (fun v5a hVv5a => ?rwg1_49)
    case cwg1_49 =>
     exact ⟨.pointer (some ⟨w9.heap.size, 0, none⟩), w9.alloc (.cells zQ 43), (by clear hS; go_simp), ⟨_, rfl⟩, WQA.made5 hDn (post_no (post := [6]) hSh hDn (by kernel_rfl) 6 (by simp)) (post_no (post := [7]) hSh hDn (by kernel_rfl) 7 (by simp)) rfl (WQKA.m5) hS⟩
    try simp only [Act.put, sA, sZ, sS]
    obtain ⟨h8a, rfl⟩ := hVv5a
    refine Ps.one (k := 1) (d := some 14) rfl rfl (by kernel_rfl) (TurnS.call (V := fun v => ∃ V : Array Value, v = .agg V) ?fwg1_50 ?awg1_50 [] (by kernel_rfl) (by rfl) (fun w9 => ?hwg1_50) (fun L9 m9 w9 hSh hAt hDn hS => ?cwg1_50)) (fun v5a hVv5a => ?rwg1_50)
    case hwg1_50 => go_simp; refine ⟨?_, ?_⟩ <;> rfl
    case cwg1_50 =>
     obtain ⟨al, bl, hB, hset⟩ := WQA.on1 hDn (post_no (post := [3]) hSh hDn (by kernel_rfl) 3 (by simp)) (post_no (post := [6]) hSh hDn (by kernel_rfl) 6 (by simp)) (post_no (post := [7]) hSh hDn (by kernel_rfl) 7 (by simp)) hS
     have hT := hB.1
     refine (fewq_any AllB p A n c B m d w9 (HX2.out.below hT) HAP.out).mono ?_
     rintro e w6 ⟨V, rfl, hr6, q6⟩
     exact ⟨_, rfl, ⟨V, rfl⟩, hset _ _ (WQKA.c1 hB q6 hr6)⟩
    try simp only [Act.put, sA, sZ, sS]
    obtain ⟨V5a, rfl⟩ := hVv5a
    refine Ps.one (k := 3) (d := some 16) rfl rfl (by kernel_rfl) (TurnS.call (V := fun v => ∃ V : Array Value, v = .agg V) ?fwg1_51 ?awg1_51 [1] (by kernel_rfl) (by rfl) (fun w9 => ?hwg1_51) (fun L9 m9 w9 hSh hAt hDn hS => ?cwg1_51)) (fun v6a hVv6a => ?rwg1_51)
    case hwg1_51 => go_simp; refine ⟨?_, ?_⟩ <;> rfl
    case cwg1_51 =>
     obtain ⟨al, bl, hB, hset⟩ := WQA.on3 (hAt 1 (by simp)).1 hDn (post_no (post := [6]) hSh hDn (by kernel_rfl) 6 (by simp)) (post_no (post := [7]) hSh hDn (by kernel_rfl) 7 (by simp)) hS
     have hT := hB.1
     refine (fewq_any AllB q A2 n2 c2 B2 m2 d2 w9 (HY2.out.below hT) HAQ.out).mono ?_
     rintro e w6 ⟨V, rfl, hr6, q6⟩
     exact ⟨_, rfl, ⟨V, rfl⟩, hset _ _ (WQKA.c3 hB q6 hr6)⟩
    try simp only [Act.put, sA, sZ, sS]
    obtain ⟨V6a, rfl⟩ := hVv6a
    refine Pz 6 none undef rfl rfl ?ywg1_52 ?rwg1_52
    case ywg1_52 =>
     refine StepS.store [1, 3, 4, 5] (by kernel_rfl) (by rfl) (fun L9 m9 w9 hSh hAt hDn hS => ?_)
     obtain ⟨g, k, hm, hk, hB, hset⟩ := WQA.on6 (hAt 1 (by simp)).1 (hAt 3 (by simp)).1 (hAt 4 (by simp)).1 (hAt 5 (by simp)).1 hDn (post_no (post := [7]) hSh hDn (by kernel_rfl) 7 (by simp)) hS
     obtain rfl : g8a = g := by have h9 : Value.pointer (some ⟨g8a, 0, none⟩) = .pointer (some ⟨g, 0, none⟩) := (hAt 4 (by simp)).2.symm.trans hm; simpa using h9
     obtain rfl : h8a = k := by have h9 : Value.pointer (some ⟨h8a, 0, none⟩) = .pointer (some ⟨k, 0, none⟩) := (hAt 5 (by simp)).2.symm.trans hk; simpa using h9
     obtain ⟨_, ⟨hA, hb2⟩, _⟩ := id hB
     have hBk := (hA g8a rfl).2.2
     obtain ⟨hz3, hz1⟩ := WQKA.sz6 hB (hAt 1 (by simp)).2
     refine (exec_store_blk (w := w9) 43 (.tmp 5) (.tmp 14) (by rfl) g8a 43 zQ V5a (by rfl) (by rfl) hBk (by rw [hz3]; rfl) (by rw [hz3]; exact qIA) hz1).imp fun w7 hx => ⟨hx.1, hset _ (WQKA.st6 hB (hAt 1 (by simp)).2 hx.2.1 hx.2.2)⟩
    try simp only [Act.put]
    refine Pz 7 none undef rfl rfl ?ywg1_53 ?rwg1_53
    case ywg1_53 =>
     refine StepS.store [1, 3, 4, 5, 6] (by kernel_rfl) (by rfl) (fun L9 m9 w9 hSh hAt hDn hS => ?_)
     obtain ⟨g, k, hm, hk, hB, hset⟩ := WQA.on7 (hAt 1 (by simp)).1 (hAt 3 (by simp)).1 (hAt 4 (by simp)).1 (hAt 5 (by simp)).1 (hAt 6 (by simp)).1 hDn  hS
     obtain rfl : g8a = g := by have h9 : Value.pointer (some ⟨g8a, 0, none⟩) = .pointer (some ⟨g, 0, none⟩) := (hAt 4 (by simp)).2.symm.trans hm; simpa using h9
     obtain rfl : h8a = k := by have h9 : Value.pointer (some ⟨h8a, 0, none⟩) = .pointer (some ⟨k, 0, none⟩) := (hAt 5 (by simp)).2.symm.trans hk; simpa using h9
     obtain ⟨_, A1, hA, hb2, _⟩ := id hB
     have hBk := (hb2 h8a rfl).2
     obtain ⟨hz3, hz1⟩ := WQKA.sz7 hB (hAt 3 (by simp)).2
     refine (exec_store_blk (w := w9) 43 (.tmp 6) (.tmp 16) (by rfl) h8a 43 zQ V6a (by rfl) (by rfl) hBk (by rw [hz3]; rfl) (by rw [hz3]; exact qIA) hz1).imp fun w7 hx => ⟨hx.1, hset _ (WQKA.st7 hB (hAt 3 (by simp)).2 hx.2.1 hx.2.2)⟩
    try simp only [Act.put]
    refine Ps.done (by kernel_rfl) (fun wg1 hS => ?_) _
    obtain ⟨g, k, hm, hk, hB⟩ := WQA.fin (by rfl) (by rfl) (by rfl) hS
    clear hS
    obtain rfl : g8a = g := by have h9 : Value.pointer (some ⟨g8a, 0, none⟩) = .pointer (some ⟨g, 0, none⟩) := hm; simpa using h9
    obtain rfl : h8a = k := by have h9 : Value.pointer (some ⟨h8a, 0, none⟩) = .pointer (some ⟨k, 0, none⟩) := hk; simpa using h9
    have hB := WQKA.pair (V := V5a) (V' := V6a) hB rfl rfl
    refine ⟨g8a, h8a, V5a, V6a, ⟨.agg #[.slice A n c, .slice B m d, .int .i64 p.lim], .agg V5a, .agg #[.slice A2 n2 c2, .slice B2 m2 d2, .int .i64 q.lim], .agg V6a, ?_⟩, hB⟩
    clear hB hm hk
    rfl
  case bwg1_4_5 =>
   refine Turns.mk (i := 5) (d := some 6) rfl rfl (TurnS.value (V := fun v => ∃ g, v = .pointer (some ⟨g, 0, none⟩)) [] (by kernel_rfl) (by rfl) (fun L9 m9 w9 hSh hAt hDn hS => ?cwg1_54)) (fun v5a hVv5a => ?rwg1_54)
   case cwg1_54 =>
    exact ⟨.pointer (some ⟨w9.heap.size, 0, none⟩), w9.alloc (.cells zQ 43), (by clear hS; go_simp), ⟨_, rfl⟩, WQA.made5 hDn (post_no (post := [6]) hSh hDn (by kernel_rfl) 6 (by simp)) (post_no (post := [7]) hSh hDn (by kernel_rfl) 7 (by simp)) rfl (WQKA.m5) hS⟩
   try simp only [Act.put, sA, sZ, sS]
   obtain ⟨h8a, rfl⟩ := hVv5a
   refine Ps.some2 (i := 1) (j := 4) (by kernel_rfl) ?bwg1_55_1 ?bwg1_55_4
   case bwg1_55_1 =>
    refine Turns.mk (i := 1) (d := some 14) rfl rfl (TurnS.call (V := fun v => ∃ V : Array Value, v = .agg V) ?fwg1_56 ?awg1_56 [] (by kernel_rfl) (by rfl) (fun w9 => ?hwg1_56) (fun L9 m9 w9 hSh hAt hDn hS => ?cwg1_56)) (fun v5a hVv5a => ?rwg1_56)
    case hwg1_56 => go_simp; refine ⟨?_, ?_⟩ <;> rfl
    case cwg1_56 =>
     obtain ⟨al, bl, hB, hset⟩ := WQA.on1 hDn (post_no (post := [3]) hSh hDn (by kernel_rfl) 3 (by simp)) (post_no (post := [6]) hSh hDn (by kernel_rfl) 6 (by simp)) (post_no (post := [7]) hSh hDn (by kernel_rfl) 7 (by simp)) hS
     have hT := hB.1
     refine (fewq_any AllB p A n c B m d w9 (HX2.out.below hT) HAP.out).mono ?_
     rintro e w6 ⟨V, rfl, hr6, q6⟩
     exact ⟨_, rfl, ⟨V, rfl⟩, hset _ _ (WQKA.c1 hB q6 hr6)⟩
    try simp only [Act.put, sA, sZ, sS]
    obtain ⟨V5a, rfl⟩ := hVv5a
    refine Ps.some2 (i := 3) (j := 4) (by kernel_rfl) ?bwg1_57_3 ?bwg1_57_4
    case bwg1_57_3 =>
     refine Turns.mk (i := 3) (d := some 16) rfl rfl (TurnS.call (V := fun v => ∃ V : Array Value, v = .agg V) ?fwg1_58 ?awg1_58 [1] (by kernel_rfl) (by rfl) (fun w9 => ?hwg1_58) (fun L9 m9 w9 hSh hAt hDn hS => ?cwg1_58)) (fun v6a hVv6a => ?rwg1_58)
     case hwg1_58 => go_simp; refine ⟨?_, ?_⟩ <;> rfl
     case cwg1_58 =>
      obtain ⟨al, bl, hB, hset⟩ := WQA.on3 (hAt 1 (by simp)).1 hDn (post_no (post := [6]) hSh hDn (by kernel_rfl) 6 (by simp)) (post_no (post := [7]) hSh hDn (by kernel_rfl) 7 (by simp)) hS
      have hT := hB.1
      refine (fewq_any AllB q A2 n2 c2 B2 m2 d2 w9 (HY2.out.below hT) HAQ.out).mono ?_
      rintro e w6 ⟨V, rfl, hr6, q6⟩
      exact ⟨_, rfl, ⟨V, rfl⟩, hset _ _ (WQKA.c3 hB q6 hr6)⟩
     try simp only [Act.put, sA, sZ, sS]
     obtain ⟨V6a, rfl⟩ := hVv6a
     refine Ps.one (k := 4) (d := some 5) rfl rfl (by kernel_rfl) (TurnS.value (V := fun v => ∃ g, v = .pointer (some ⟨g, 0, none⟩)) [] (by kernel_rfl) (by rfl) (fun L9 m9 w9 hSh hAt hDn hS => ?cwg1_59)) (fun v4a hVv4a => ?rwg1_59)
     case cwg1_59 =>
      exact ⟨.pointer (some ⟨w9.heap.size, 0, none⟩), w9.alloc (.cells zQ 43), (by clear hS; go_simp), ⟨_, rfl⟩, WQA.made4 hDn (post_no (post := [6]) hSh hDn (by kernel_rfl) 6 (by simp)) (post_no (post := [7]) hSh hDn (by kernel_rfl) 7 (by simp)) rfl (WQKA.m4) hS⟩
     try simp only [Act.put, sA, sZ, sS]
     obtain ⟨g8a, rfl⟩ := hVv4a
     refine Pz 6 none undef rfl rfl ?ywg1_60 ?rwg1_60
     case ywg1_60 =>
      refine StepS.store [1, 3, 4, 5] (by kernel_rfl) (by rfl) (fun L9 m9 w9 hSh hAt hDn hS => ?_)
      obtain ⟨g, k, hm, hk, hB, hset⟩ := WQA.on6 (hAt 1 (by simp)).1 (hAt 3 (by simp)).1 (hAt 4 (by simp)).1 (hAt 5 (by simp)).1 hDn (post_no (post := [7]) hSh hDn (by kernel_rfl) 7 (by simp)) hS
      obtain rfl : g8a = g := by have h9 : Value.pointer (some ⟨g8a, 0, none⟩) = .pointer (some ⟨g, 0, none⟩) := (hAt 4 (by simp)).2.symm.trans hm; simpa using h9
      obtain rfl : h8a = k := by have h9 : Value.pointer (some ⟨h8a, 0, none⟩) = .pointer (some ⟨k, 0, none⟩) := (hAt 5 (by simp)).2.symm.trans hk; simpa using h9
      obtain ⟨_, ⟨hA, hb2⟩, _⟩ := id hB
      have hBk := (hA g8a rfl).2.2
      obtain ⟨hz3, hz1⟩ := WQKA.sz6 hB (hAt 1 (by simp)).2
      refine (exec_store_blk (w := w9) 43 (.tmp 5) (.tmp 14) (by rfl) g8a 43 zQ V5a (by rfl) (by rfl) hBk (by rw [hz3]; rfl) (by rw [hz3]; exact qIA) hz1).imp fun w7 hx => ⟨hx.1, hset _ (WQKA.st6 hB (hAt 1 (by simp)).2 hx.2.1 hx.2.2)⟩
     try simp only [Act.put]
     refine Pz 7 none undef rfl rfl ?ywg1_61 ?rwg1_61
     case ywg1_61 =>
      refine StepS.store [1, 3, 4, 5, 6] (by kernel_rfl) (by rfl) (fun L9 m9 w9 hSh hAt hDn hS => ?_)
      obtain ⟨g, k, hm, hk, hB, hset⟩ := WQA.on7 (hAt 1 (by simp)).1 (hAt 3 (by simp)).1 (hAt 4 (by simp)).1 (hAt 5 (by simp)).1 (hAt 6 (by simp)).1 hDn  hS
      obtain rfl : g8a = g := by have h9 : Value.pointer (some ⟨g8a, 0, none⟩) = .pointer (some ⟨g, 0, none⟩) := (hAt 4 (by simp)).2.symm.trans hm; simpa using h9
      obtain rfl : h8a = k := by have h9 : Value.pointer (some ⟨h8a, 0, none⟩) = .pointer (some ⟨k, 0, none⟩) := (hAt 5 (by simp)).2.symm.trans hk; simpa using h9
      obtain ⟨_, A1, hA, hb2, _⟩ := id hB
      have hBk := (hb2 h8a rfl).2
      obtain ⟨hz3, hz1⟩ := WQKA.sz7 hB (hAt 3 (by simp)).2
      refine (exec_store_blk (w := w9) 43 (.tmp 6) (.tmp 16) (by rfl) h8a 43 zQ V6a (by rfl) (by rfl) hBk (by rw [hz3]; rfl) (by rw [hz3]; exact qIA) hz1).imp fun w7 hx => ⟨hx.1, hset _ (WQKA.st7 hB (hAt 3 (by simp)).2 hx.2.1 hx.2.2)⟩
     try simp only [Act.put]
     refine Ps.done (by kernel_rfl) (fun wg1 hS => ?_) _
     obtain ⟨g, k, hm, hk, hB⟩ := WQA.fin (by rfl) (by rfl) (by rfl) hS
     clear hS
     obtain rfl : g8a = g := by have h9 : Value.pointer (some ⟨g8a, 0, none⟩) = .pointer (some ⟨g, 0, none⟩) := hm; simpa using h9
     obtain rfl : h8a = k := by have h9 : Value.pointer (some ⟨h8a, 0, none⟩) = .pointer (some ⟨k, 0, none⟩) := hk; simpa using h9
     have hB := WQKA.pair (V := V5a) (V' := V6a) hB rfl rfl
     refine ⟨g8a, h8a, V5a, V6a, ⟨.agg #[.slice A n c, .slice B m d, .int .i64 p.lim], .agg V5a, .agg #[.slice A2 n2 c2, .slice B2 m2 d2, .int .i64 q.lim], .agg V6a, ?_⟩, hB⟩
     clear hB hm hk
     rfl
    case bwg1_57_4 =>
     refine Turns.mk (i := 4) (d := some 5) rfl rfl (TurnS.value (V := fun v => ∃ g, v = .pointer (some ⟨g, 0, none⟩)) [] (by kernel_rfl) (by rfl) (fun L9 m9 w9 hSh hAt hDn hS => ?cwg1_62)) (fun v4a hVv4a => ?rwg1_62)
     case cwg1_62 =>
      exact ⟨.pointer (some ⟨w9.heap.size, 0, none⟩), w9.alloc (.cells zQ 43), (by clear hS; go_simp), ⟨_, rfl⟩, WQA.made4 hDn (post_no (post := [6]) hSh hDn (by kernel_rfl) 6 (by simp)) (post_no (post := [7]) hSh hDn (by kernel_rfl) 7 (by simp)) rfl (WQKA.m4) hS⟩
     try simp only [Act.put, sA, sZ, sS]
     obtain ⟨g8a, rfl⟩ := hVv4a
     refine Ps.one (k := 3) (d := some 16) rfl rfl (by kernel_rfl) (TurnS.call (V := fun v => ∃ V : Array Value, v = .agg V) ?fwg1_63 ?awg1_63 [1] (by kernel_rfl) (by rfl) (fun w9 => ?hwg1_63) (fun L9 m9 w9 hSh hAt hDn hS => ?cwg1_63)) (fun v6a hVv6a => ?rwg1_63)
     case hwg1_63 => go_simp; refine ⟨?_, ?_⟩ <;> rfl
     case cwg1_63 =>
      obtain ⟨al, bl, hB, hset⟩ := WQA.on3 (hAt 1 (by simp)).1 hDn (post_no (post := [6]) hSh hDn (by kernel_rfl) 6 (by simp)) (post_no (post := [7]) hSh hDn (by kernel_rfl) 7 (by simp)) hS
      have hT := hB.1
      refine (fewq_any AllB q A2 n2 c2 B2 m2 d2 w9 (HY2.out.below hT) HAQ.out).mono ?_
      rintro e w6 ⟨V, rfl, hr6, q6⟩
      exact ⟨_, rfl, ⟨V, rfl⟩, hset _ _ (WQKA.c3 hB q6 hr6)⟩
     try simp only [Act.put, sA, sZ, sS]
     obtain ⟨V6a, rfl⟩ := hVv6a
     refine Pz 6 none undef rfl rfl ?ywg1_64 ?rwg1_64
     case ywg1_64 =>
      refine StepS.store [1, 3, 4, 5] (by kernel_rfl) (by rfl) (fun L9 m9 w9 hSh hAt hDn hS => ?_)
      obtain ⟨g, k, hm, hk, hB, hset⟩ := WQA.on6 (hAt 1 (by simp)).1 (hAt 3 (by simp)).1 (hAt 4 (by simp)).1 (hAt 5 (by simp)).1 hDn (post_no (post := [7]) hSh hDn (by kernel_rfl) 7 (by simp)) hS
      obtain rfl : g8a = g := by have h9 : Value.pointer (some ⟨g8a, 0, none⟩) = .pointer (some ⟨g, 0, none⟩) := (hAt 4 (by simp)).2.symm.trans hm; simpa using h9
      obtain rfl : h8a = k := by have h9 : Value.pointer (some ⟨h8a, 0, none⟩) = .pointer (some ⟨k, 0, none⟩) := (hAt 5 (by simp)).2.symm.trans hk; simpa using h9
      obtain ⟨_, ⟨hA, hb2⟩, _⟩ := id hB
      have hBk := (hA g8a rfl).2.2
      obtain ⟨hz3, hz1⟩ := WQKA.sz6 hB (hAt 1 (by simp)).2
      refine (exec_store_blk (w := w9) 43 (.tmp 5) (.tmp 14) (by rfl) g8a 43 zQ V5a (by rfl) (by rfl) hBk (by rw [hz3]; rfl) (by rw [hz3]; exact qIA) hz1).imp fun w7 hx => ⟨hx.1, hset _ (WQKA.st6 hB (hAt 1 (by simp)).2 hx.2.1 hx.2.2)⟩
     try simp only [Act.put]
     refine Pz 7 none undef rfl rfl ?ywg1_65 ?rwg1_65
     case ywg1_65 =>
      refine StepS.store [1, 3, 4, 5, 6] (by kernel_rfl) (by rfl) (fun L9 m9 w9 hSh hAt hDn hS => ?_)
      obtain ⟨g, k, hm, hk, hB, hset⟩ := WQA.on7 (hAt 1 (by simp)).1 (hAt 3 (by simp)).1 (hAt 4 (by simp)).1 (hAt 5 (by simp)).1 (hAt 6 (by simp)).1 hDn  hS
      obtain rfl : g8a = g := by have h9 : Value.pointer (some ⟨g8a, 0, none⟩) = .pointer (some ⟨g, 0, none⟩) := (hAt 4 (by simp)).2.symm.trans hm; simpa using h9
      obtain rfl : h8a = k := by have h9 : Value.pointer (some ⟨h8a, 0, none⟩) = .pointer (some ⟨k, 0, none⟩) := (hAt 5 (by simp)).2.symm.trans hk; simpa using h9
      obtain ⟨_, A1, hA, hb2, _⟩ := id hB
      have hBk := (hb2 h8a rfl).2
      obtain ⟨hz3, hz1⟩ := WQKA.sz7 hB (hAt 3 (by simp)).2
      refine (exec_store_blk (w := w9) 43 (.tmp 6) (.tmp 16) (by rfl) h8a 43 zQ V6a (by rfl) (by rfl) hBk (by rw [hz3]; rfl) (by rw [hz3]; exact qIA) hz1).imp fun w7 hx => ⟨hx.1, hset _ (WQKA.st7 hB (hAt 3 (by simp)).2 hx.2.1 hx.2.2)⟩
     try simp only [Act.put]
     refine Ps.done (by kernel_rfl) (fun wg1 hS => ?_) _
     obtain ⟨g, k, hm, hk, hB⟩ := WQA.fin (by rfl) (by rfl) (by rfl) hS
     clear hS
     obtain rfl : g8a = g := by have h9 : Value.pointer (some ⟨g8a, 0, none⟩) = .pointer (some ⟨g, 0, none⟩) := hm; simpa using h9
     obtain rfl : h8a = k := by have h9 : Value.pointer (some ⟨h8a, 0, none⟩) = .pointer (some ⟨k, 0, none⟩) := hk; simpa using h9
     have hB := WQKA.pair (V := V5a) (V' := V6a) hB rfl rfl
     refine ⟨g8a, h8a, V5a, V6a, ⟨.agg #[.slice A n c, .slice B m d, .int .i64 p.lim], .agg V5a, .agg #[.slice A2 n2 c2, .slice B2 m2 d2, .int .i64 q.lim], .agg V6a, ?_⟩, hB⟩
     clear hB hm hk
     rfl
   case bwg1_55_4 =>
    refine Turns.mk (i := 4) (d := some 5) rfl rfl (TurnS.value (V := fun v => ∃ g, v = .pointer (some ⟨g, 0, none⟩)) [] (by kernel_rfl) (by rfl) (fun L9 m9 w9 hSh hAt hDn hS => ?cwg1_66)) (fun v4a hVv4a => ?rwg1_66)
    case cwg1_66 =>
     exact ⟨.pointer (some ⟨w9.heap.size, 0, none⟩), w9.alloc (.cells zQ 43), (by clear hS; go_simp), ⟨_, rfl⟩, WQA.made4 hDn (post_no (post := [6]) hSh hDn (by kernel_rfl) 6 (by simp)) (post_no (post := [7]) hSh hDn (by kernel_rfl) 7 (by simp)) rfl (WQKA.m4) hS⟩
    try simp only [Act.put, sA, sZ, sS]
    obtain ⟨g8a, rfl⟩ := hVv4a
    refine Ps.one (k := 1) (d := some 14) rfl rfl (by kernel_rfl) (TurnS.call (V := fun v => ∃ V : Array Value, v = .agg V) ?fwg1_67 ?awg1_67 [] (by kernel_rfl) (by rfl) (fun w9 => ?hwg1_67) (fun L9 m9 w9 hSh hAt hDn hS => ?cwg1_67)) (fun v5a hVv5a => ?rwg1_67)
    case hwg1_67 => go_simp; refine ⟨?_, ?_⟩ <;> rfl
    case cwg1_67 =>
     obtain ⟨al, bl, hB, hset⟩ := WQA.on1 hDn (post_no (post := [3]) hSh hDn (by kernel_rfl) 3 (by simp)) (post_no (post := [6]) hSh hDn (by kernel_rfl) 6 (by simp)) (post_no (post := [7]) hSh hDn (by kernel_rfl) 7 (by simp)) hS
     have hT := hB.1
     refine (fewq_any AllB p A n c B m d w9 (HX2.out.below hT) HAP.out).mono ?_
     rintro e w6 ⟨V, rfl, hr6, q6⟩
     exact ⟨_, rfl, ⟨V, rfl⟩, hset _ _ (WQKA.c1 hB q6 hr6)⟩
    try simp only [Act.put, sA, sZ, sS]
    obtain ⟨V5a, rfl⟩ := hVv5a
    refine Ps.one (k := 3) (d := some 16) rfl rfl (by kernel_rfl) (TurnS.call (V := fun v => ∃ V : Array Value, v = .agg V) ?fwg1_68 ?awg1_68 [1] (by kernel_rfl) (by rfl) (fun w9 => ?hwg1_68) (fun L9 m9 w9 hSh hAt hDn hS => ?cwg1_68)) (fun v6a hVv6a => ?rwg1_68)
    case hwg1_68 => go_simp; refine ⟨?_, ?_⟩ <;> rfl
    case cwg1_68 =>
     obtain ⟨al, bl, hB, hset⟩ := WQA.on3 (hAt 1 (by simp)).1 hDn (post_no (post := [6]) hSh hDn (by kernel_rfl) 6 (by simp)) (post_no (post := [7]) hSh hDn (by kernel_rfl) 7 (by simp)) hS
     have hT := hB.1
     refine (fewq_any AllB q A2 n2 c2 B2 m2 d2 w9 (HY2.out.below hT) HAQ.out).mono ?_
     rintro e w6 ⟨V, rfl, hr6, q6⟩
     exact ⟨_, rfl, ⟨V, rfl⟩, hset _ _ (WQKA.c3 hB q6 hr6)⟩
    try simp only [Act.put, sA, sZ, sS]
    obtain ⟨V6a, rfl⟩ := hVv6a
    refine Pz 6 none undef rfl rfl ?ywg1_69 ?rwg1_69
    case ywg1_69 =>
     refine StepS.store [1, 3, 4, 5] (by kernel_rfl) (by rfl) (fun L9 m9 w9 hSh hAt hDn hS => ?_)
     obtain ⟨g, k, hm, hk, hB, hset⟩ := WQA.on6 (hAt 1 (by simp)).1 (hAt 3 (by simp)).1 (hAt 4 (by simp)).1 (hAt 5 (by simp)).1 hDn (post_no (post := [7]) hSh hDn (by kernel_rfl) 7 (by simp)) hS
     obtain rfl : g8a = g := by have h9 : Value.pointer (some ⟨g8a, 0, none⟩) = .pointer (some ⟨g, 0, none⟩) := (hAt 4 (by simp)).2.symm.trans hm; simpa using h9
     obtain rfl : h8a = k := by have h9 : Value.pointer (some ⟨h8a, 0, none⟩) = .pointer (some ⟨k, 0, none⟩) := (hAt 5 (by simp)).2.symm.trans hk; simpa using h9
     obtain ⟨_, ⟨hA, hb2⟩, _⟩ := id hB
     have hBk := (hA g8a rfl).2.2
     obtain ⟨hz3, hz1⟩ := WQKA.sz6 hB (hAt 1 (by simp)).2
     refine (exec_store_blk (w := w9) 43 (.tmp 5) (.tmp 14) (by rfl) g8a 43 zQ V5a (by rfl) (by rfl) hBk (by rw [hz3]; rfl) (by rw [hz3]; exact qIA) hz1).imp fun w7 hx => ⟨hx.1, hset _ (WQKA.st6 hB (hAt 1 (by simp)).2 hx.2.1 hx.2.2)⟩
    try simp only [Act.put]
    refine Pz 7 none undef rfl rfl ?ywg1_70 ?rwg1_70
    case ywg1_70 =>
     refine StepS.store [1, 3, 4, 5, 6] (by kernel_rfl) (by rfl) (fun L9 m9 w9 hSh hAt hDn hS => ?_)
     obtain ⟨g, k, hm, hk, hB, hset⟩ := WQA.on7 (hAt 1 (by simp)).1 (hAt 3 (by simp)).1 (hAt 4 (by simp)).1 (hAt 5 (by simp)).1 (hAt 6 (by simp)).1 hDn  hS
     obtain rfl : g8a = g := by have h9 : Value.pointer (some ⟨g8a, 0, none⟩) = .pointer (some ⟨g, 0, none⟩) := (hAt 4 (by simp)).2.symm.trans hm; simpa using h9
     obtain rfl : h8a = k := by have h9 : Value.pointer (some ⟨h8a, 0, none⟩) = .pointer (some ⟨k, 0, none⟩) := (hAt 5 (by simp)).2.symm.trans hk; simpa using h9
     obtain ⟨_, A1, hA, hb2, _⟩ := id hB
     have hBk := (hb2 h8a rfl).2
     obtain ⟨hz3, hz1⟩ := WQKA.sz7 hB (hAt 3 (by simp)).2
     refine (exec_store_blk (w := w9) 43 (.tmp 6) (.tmp 16) (by rfl) h8a 43 zQ V6a (by rfl) (by rfl) hBk (by rw [hz3]; rfl) (by rw [hz3]; exact qIA) hz1).imp fun w7 hx => ⟨hx.1, hset _ (WQKA.st7 hB (hAt 3 (by simp)).2 hx.2.1 hx.2.2)⟩
    try simp only [Act.put]
    refine Ps.done (by kernel_rfl) (fun wg1 hS => ?_) _
    obtain ⟨g, k, hm, hk, hB⟩ := WQA.fin (by rfl) (by rfl) (by rfl) hS
    clear hS
    obtain rfl : g8a = g := by have h9 : Value.pointer (some ⟨g8a, 0, none⟩) = .pointer (some ⟨g, 0, none⟩) := hm; simpa using h9
    obtain rfl : h8a = k := by have h9 : Value.pointer (some ⟨h8a, 0, none⟩) = .pointer (some ⟨k, 0, none⟩) := hk; simpa using h9
    have hB := WQKA.pair (V := V5a) (V' := V6a) hB rfl rfl
    refine ⟨g8a, h8a, V5a, V6a, ⟨.agg #[.slice A n c, .slice B m d, .int .i64 p.lim], .agg V5a, .agg #[.slice A2 n2 c2, .slice B2 m2 d2, .int .i64 q.lim], .agg V6a, ?_⟩, hB⟩
    clear hB hm hk
    rfl
 case kpswg1 =>
  intro a' w1a hF
  obtain ⟨g8a, h8a, V5a, V6a, ⟨v13, v14, v15, v16, rfl⟩, hT, hg9, hbk, hbk2, hr, hr2⟩ := hF
  have HT1a := Lib.hid hT
  have HGa := Lib.hid hg9
  have HVa := Lib.hid hbk
  have HUa := Lib.hid hbk2
  have HRVa := Lib.hid hr
  have HRUa := Lib.hid hr2
  clear hT hg9 hbk hbk2 hr hr2
  simp only [Act.put, List.setIfInBounds_toArray, List.set_cons_zero, List.set_cons_succ]
  obtain ⟨A5, n5, c5, B5, m5, d5, hV5, hr5⟩ := LQC_rq HRVa.out
  obtain ⟨A6, n6, c6, B6, m6, d6, hV6, hr6⟩ := LQC_rq HRUa.out
  subst hV5 hV6
  have HR5 := Lib.hid hr5
  have HR6 := Lib.hid hr6
  clear hr5 hr6 HRVa HRUa
  have HT3 := Lib.hid (HT2.out.below HT1a.out)
  have HQ3 := Lib.hid (bl_ca HQ2.out HT1a.out)
  have x0 := HVa.out.cell 0
  have x1 := HVa.out.cell 1
  have x2 := HVa.out.cell 2
  have HPA := Lib.hid (printq_any p A5 n5 c5 B5 m5 d5 w1a HR5.out HAP.out HT3.out)
  obtain ⟨P, hP⟩ : ∃ P, P = fewQ p := ⟨_, rfl⟩
  obtain ⟨Q, hQ⟩ : ∃ Q, Q = fewQ q := ⟨_, rfl⟩
  rw [← hP] at HPA HR5 HVa x2
  rw [← hQ] at HR6 HUa
  have HPE := Lib.hid hP
  have HQE := Lib.hid hQ
  have HLP := Lib.hid (show P.sels.length ≤ 4 ∧ P.keys.length ≤ 4 from by rw [hP]; exact few_len)
  clear hP hQ
  obtain ⟨S1, hS1⟩ : ∃ s : ByteArray, s = (if qryB P then bS (prQ P) else ⟨#[]⟩) := ⟨_, rfl⟩
  obtain ⟨E1, hE1⟩ : ∃ e : Int, e = (if qryB P then 0 else 180) := ⟨_, rfl⟩
  obtain ⟨S2, hS2⟩ : ∃ s : ByteArray, s = (if qryB Q then bS (prQ Q) else ⟨#[]⟩) := ⟨_, rfl⟩
  obtain ⟨E2, hE2⟩ : ∃ e : Int, e = (if qryB Q then 0 else 180) := ⟨_, rfl⟩
  rw [← hS1, ← hE1] at HPA
  have HS1 := Lib.hid hS1
  have HE1 := Lib.hid hE1
  have HS2 := Lib.hid hS2
  have HE2 := Lib.hid hE2
  clear hS1 hE1 hS2 hE2
  go_wp2_with fail
  refine HPA.out.mono ?_
  rintro e w3 ⟨rfl, q3⟩
  have HR53 := Lib.hid (HR5.out.below q3)
  have HR63 := Lib.hid (HR6.out.below q3)
  have HT4 := Lib.hid (HT3.out.below q3)
  have HQ4 := Lib.hid (bl_ca HQ3.out q3)
  have HV3 := Lib.hid (HVa.out.ca q3)
  have HU3 := Lib.hid (HUa.out.ca q3)
  clear q3 x0 x1 x2 HPA HR5 HR6 HT3 HQ3
  have x0 := HU3.out.cell 0
  have x1 := HU3.out.cell 1
  have x2 := HU3.out.cell 2
  have HPB := Lib.hid (show Calls Tryz.prog 21 #[.agg #[.slice A6 n6 c6, .slice B6 m6 d6, .int .i64 Q.lim]] w3 fun e w' => e = .returned (.tuple #[.string S2, .int .i64 E2]) ∧ Below w3.heap.size w3 w' from by
   rw [HS2.out, HE2.out, HQE.out]
   exact printq_any q A6 n6 c6 B6 m6 d6 w3 (by rw [← HQE.out]; exact HR63.out) HAQ.out HT4.out)
  go_wp2_with fail
  refine HPB.out.mono ?_
  rintro e w4 ⟨rfl, q4⟩
  have HR54 := Lib.hid (HR53.out.below q4)
  have HR64 := Lib.hid (HR63.out.below q4)
  have HQ5 := Lib.hid (bl_ca HQ4.out q4)
  have HV4 := Lib.hid (HV3.out.ca q4)
  have HU4 := Lib.hid (HU3.out.ca q4)
  clear q4 x0 x1 x2 HPB HR53 HR63 HT4 HQ4
  cases hbp : qryB P
  case false =>
   have hE := HE1.out
   rw [hbp] at hE
   have hE1 : E1 = 180 := hE
   subst hE1
   clear hE hbp
   go_wp2
   go_ret
   exact ⟨rfl, HQ5.out⟩
  case true =>
  have hE := HE1.out
  rw [hbp] at hE
  have hE1 : E1 = 0 := hE
  clear hE
  subst hE1
  cases hbq : qryB Q
  case false =>
   have hE := HE2.out
   rw [hbq] at hE
   have hE2 : E2 = 180 := hE
   subst hE2
   clear hE hbp hbq
   go_wp2
   go_ret
   exact ⟨rfl, HQ5.out⟩
  case true =>
  have hE := HE2.out
  rw [hbq] at hE
  have hE2 : E2 = 0 := hE
  subst hE2
  have HLW := Lib.hid (show S1 = S2 ↔ P = Q from by
   rw [HS1.out, HS2.out, hbp, hbq]
   exact unlike_law hbp hbq)
  clear hE hbp hbq HS1 HS2 HE1 HE2
  have HSM := Lib.hid (same_any AllB AllB P Q A5 n5 c5 B5 m5 d5 A6 n6 c6 B6 m6 d6 w4 HR54.out.1 HR54.out.2.2.1 HR64.out.1 HR64.out.2.2.1 (by have := Lay.rd_len HR54.out.1; have := HLP.out; omega) (by have := Lay.rd_len HR54.out.2.2.1; have := HLP.out; omega))
  obtain ⟨b, hb⟩ : ∃ b, b = decide (P = Q) := ⟨_, rfl⟩
  rw [← hb] at HSM
  have HB := Lib.hid (show b = true ↔ S1 = S2 from by rw [hb, decide_eq_true_eq, HLW.out])
  clear hb HLW
  have x0 := HV4.out.cell 0
  have x1 := HV4.out.cell 1
  have x2 := HV4.out.cell 2
  have y0 := HU4.out.cell 0
  have y1 := HU4.out.cell 1
  have y2 := HU4.out.cell 2
  go_wp2_with fail
  refine HSM.out.mono ?_
  rintro e w5 ⟨rfl, q5⟩
  have HQ6 := Lib.hid (bl_ca HQ5.out q5)
  clear q5 x0 x1 x2 y0 y1 y2
  cases b
  · have hne : ¬ S1 = S2 := fun h => by have := HB.out.2 h; cases this
    have h1 : (S1.toList == S2.toList) = false := by rw [toList_data, toList_data, beq_eq_false_iff_ne]; exact fun h => hne (ba_of h)
    have h2 : decide (S1.toList = S2.toList) = false := decide_eq_false (fun h => hne (ba_list.1 h))
    have h3 : ¬ S1.toList = S2.toList := fun h => hne (ba_list.1 h)
    clear hne
    go_wp2
    go_ret
    exact ⟨rfl, HQ6.out⟩
  · have he := HB.out.1 rfl
    subst he
    go_wp2
    go_ret
    exact ⟨rfl, HQ6.out⟩
end Go.Proofs.YtoaggmldekejoaaGreatDoor
