/- The law's wakes. Conditions: what the tables hold. -/
import Derived.Test.YtoaggmldekejoaaGreatDoorPkQ24
namespace Go.Proofs.YtoaggmldekejoaaGreatDoor
open Go.RowKit
set_option maxRecDepth 100000 in
theorem named_any (b : UInt8) (w : World) : Calls Tryz.prog 25 #[.string (bS [b])] w fun e w' => ∃ A n c, e = .returned (.agg #[.slice A n c]) ∧ LN.rd w' (fun k => w.heap.size ≤ k) A n (NA b) ∧ n ≤ c ∧ c ≤ 9223372036854775807 ∧ Below w.heap.size w w' := by
 have HQ1 := Lib.hid (bl_al (bl_al (Below.refl w.heap.size w) (.cells #[.slice (some ⟨w.heap.size + 1, 0, none⟩) 1 1] 26)) (.cells (Nd.cells ⟨pA b, -1, -1⟩) 57))
 have HB1 := Lib.hid ((Blk.new w 26 #[.slice (some ⟨w.heap.size + 1, 0, none⟩) 1 1]).alloc (.cells (Nd.cells ⟨pA b, -1, -1⟩) 57))
 have HB2 := Lib.hid (show Blk ((w.alloc (.cells #[.slice (some ⟨w.heap.size + 1, 0, none⟩) 1 1] 26)).alloc (.cells (Nd.cells ⟨pA b, -1, -1⟩) 57)) (w.heap.size + 1) 57 (Nd.cells ⟨pA b, -1, -1⟩) from by
  have := Blk.new (w.alloc (.cells #[.slice (some ⟨w.heap.size + 1, 0, none⟩) 1 1] 26)) 57 (Nd.cells ⟨pA b, -1, -1⟩)
  rwa [World.size_alloc] at this)
 go_enter Tryz.func25, Tryz.ntmps25
 go_wp2
 exact bodyPost_ret (res1 Tryz.results25 rfl HB1.out Tryz.underlying26 rfl treeI) rfl ⟨some ⟨w.heap.size + 1, 0, none⟩, 1, 1, rfl, Lay.rd_blk (L := LN) HB2.out rfl ⟨_, [], by simp, rfl, rfl⟩ (by omega), by omega, by omega, HQ1.out⟩
theorem w3F : prF N3 = bS [40, 97, 32, 43, 32, 49, 41, 32, 61, 32, 98] := by unfold prF; rw [w3T]; show bS (prT T3) = _; rw [w3P]
theorem w3C : chkE N3 = 0 := by unfold chkE; rw [w3O]; rfl
theorem rg3 : ∀ x ∈ N3, RgP x.p := fun x hx => by
 have h : N3.all (fun x => decide (x.p.n ≤ 9223372036854775807)) = true := by decide +kernel
 exact of_decide_eq_true (p := x.p.n ≤ 9223372036854775807) (List.all_eq_true.1 h x hx)
def WkB (k1 k2 : Nat) (R1 R2 : List Nd) (tr : TypeId) (W : World) : Option Nat → Nat → (Nat → Value) → World → Prop := fun al j m w' =>
 Below W.heap.size W w' ∧ match j with
 | 0 => ∀ g, al = some g → W.heap.size ≤ g ∧ Blk w' g tr #[.slice none 0 0]
 | 1 => (∀ g, al = some g → W.heap.size ≤ g ∧ Blk w' g tr #[.slice none 0 0]) ∧ ∃ A n c, m k1 = .agg #[.slice A n c] ∧ LN.rd w' (fun b => al ≠ some b) A n R1 ∧ n ≤ c ∧ c ≤ 9223372036854775807
 | 2 => (∀ g, al = some g → W.heap.size ≤ g ∧ Blk w' g tr #[.slice none 0 0]) ∧ ∃ A n c, m k2 = .tuple #[.agg #[.slice A n c], .int .i64 0] ∧ LN.rd w' (fun b => al ≠ some b) A n R2 ∧ n ≤ c ∧ c ≤ 9223372036854775807
 | _ => ∃ g A n c, al = some g ∧ W.heap.size ≤ g ∧ m k2 = .tuple #[.agg #[.slice A n c], .int .i64 0] ∧ Blk w' g tr #[.slice A n c] ∧ LN.rd w' (fun b => some g ≠ some b) A n R2 ∧ n ≤ c ∧ c ≤ 9223372036854775807
theorem sm_of {l : List Nd} (h : l.all (fun x => decide (x.p.s.size ≤ 100) && (decide (x.p.tb.size ≤ 100) && decide (x.p.nm.size ≤ 100))) = true) : ∀ x ∈ l, SmP x.p := fun x hx => by
 have := List.all_eq_true.1 h x hx
 simp only [Bool.and_eq_true, decide_eq_true_eq] at this
 exact ⟨by omega, by omega, by omega⟩
set_option maxRecDepth 100000 in
set_option maxHeartbeats 4000000 in
theorem wakes_any (w : World) (hT : Tab w) : Calls Tryz.prog 6 #[] w fun e w' => e = .returned (.bool true) ∧ Below w.heap.size w w' := by
 have HT := Lib.hid hT
 have HLF := Lib.hid (leaf_any p1 0 0 w hT ⟨by decide, by decide, by decide⟩)
 rw [w1E, w1R] at HLF
 clear hT
 go_enter Tryz.func6, Tryz.ntmps6
 go_wp2_with fail
 refine HLF.out.mono ?_
 rintro e w1 ⟨A1, n1, c1, rfl, hr1, h1a, h1b, q1⟩
 obtain rfl : n1 = 1 := (Lay.rd_len hr1).symm
 have HR1 := Lib.hid (Lay.rd_below (rd_all hr1) (bl_al (Below.refl w1.heap.size w1) (.cells #[.slice A1 1 c1] 26)))
 have HQ2 := Lib.hid (bl_al q1 (.cells #[.slice A1 1 c1] 26))
 have HV1 := Lib.hid (Blk.new w1 26 #[.slice A1 1 c1])
 have HL1 := Lib.hid (And.intro h1a h1b)
 clear hr1 q1 HLF h1a h1b
 go_upto_region 2 with fail
 generalize w1.alloc (.cells #[.slice A1 1 c1] 26) = w2 at *
 have HT2 := Lib.hid (HT.out.below HQ2.out)
 refine wp_region_psF (F := fun a1 a' w' => ∃ g8a A6a n6a c6a, (∃ v16 v17 v18 v15 v19 v20, a' = ((((((((a1.put (some 16) v16).put (some 17) v17).put (some 18) v18).put (some 15) v15).put (some 19) v19).put (some 20) v20).put (some 3) (.pointer (some ⟨g8a, 0, none⟩))).put (some 4) (.int .i64 0))) ∧ Below w2.heap.size w2 w' ∧ Blk w' g8a 26 #[.slice A6a n6a c6a] ∧ LN.rd w' AllB A6a n6a N2 ∧ n6a ≤ c6a ∧ c6a ≤ 9223372036854775807) (S := WtA (WkB 0 2 (NA 97) N2 26 w2)) (by kernel_rfl) ?spswg28 ?ppswg28 ?kpswg28
 case spswg28 =>
  exact WtA.start (by decide) ⟨(Below.refl w2.heap.size w2).drew, fun g e => by cases e⟩
 case ppswg28 =>
  refine Pz 1 (some 17) (.agg #[.slice A1 1 c1]) rfl rfl ?ywg28_29 ?rwg28_29
  case ywg28_29 =>
   refine StepS.read [] (by kernel_rfl) (WtA.pass (by decide) (by decide)) (by rfl) (fun L9 m9 w9 hSh hAt hDn hS => ?_)
   have hT : Below w2.heap.size w2 w9 := WtA.any (T := fun w9 => Below w2.heap.size w2 w9) (fun _ _ _ _ h => h.1) hS
   have x0 : w9.cell? ⟨w1.heap.size, 0, none⟩ = some (.slice A1 1 c1) := (HV1.out.ca hT).cell 0
   clear hT hS
   go_simp
   try rfl
  try simp only [Act.put, sA, sZ, sS]
  refine Ps.some2 (i := 0) (j := 6) (by kernel_rfl) ?bwg28_30_0 ?bwg28_30_6
  case bwg28_30_0 =>
   refine Turns.mk (i := 0) (d := some 16) rfl rfl (TurnS.call (V := fun v => ∃ A n c, v = .agg #[.slice A n c]) ?fwg28_31 ?awg28_31 [] (by kernel_rfl) (by rfl) (fun w9 => ?hwg28_31) (fun L9 m9 w9 hSh hAt hDn hS => ?cwg28_31)) (fun v5a hVv5a => ?rwg28_31)
   case hwg28_31 => go_simp; refine ⟨?_, ?_⟩ <;> rfl
   case cwg28_31 =>
    obtain ⟨al, hB, hset⟩ := WtA.on2 hDn (post_no (post := [2]) hSh hDn (by kernel_rfl) 2 (by simp)) (post_no (post := [7]) hSh hDn (by kernel_rfl) 7 (by simp)) hS
    obtain ⟨hT, hal⟩ := hB
    refine (named_any 97 w9).mono ?_
    rintro e w6 ⟨A, n, c, rfl, hr6, h6a, h6b, q6⟩
    exact ⟨_, rfl, ⟨A, n, c, rfl⟩, hset _ _ ⟨bl_ca hT q6, fun g e => ⟨(hal g e).1, (hal g e).2.ca q6⟩, A, n, c, upd_same _ _ _, (Lay.rd_weak (fun b hb _ => fun e => by have h1 := (hal b e).2.lt; have h2 : w9.heap.size ≤ b := hb; omega) hr6), h6a, h6b⟩⟩
   try simp only [Act.put, sA, sZ, sS]
   obtain ⟨A5a, n5a, c5a, rfl⟩ := hVv5a
   refine Ps.some2 (i := 2) (j := 6) (by kernel_rfl) ?bwg28_32_2 ?bwg28_32_6
   case bwg28_32_2 =>
    refine Turns.mk (i := 2) (d := some 18) rfl rfl (TurnS.call (V := fun v => ∃ A n c, v = .tuple #[.agg #[.slice A n c], .int .i64 0]) ?fwg28_33 ?awg28_33 [0] (by kernel_rfl) (by rfl) (fun w9 => ?hwg28_33) (fun L9 m9 w9 hSh hAt hDn hS => ?cwg28_33)) (fun v6a hVv6a => ?rwg28_33)
    case hwg28_33 => go_simp; refine ⟨?_, ?_⟩ <;> rfl
    case cwg28_33 =>
     obtain ⟨al, hB, hset⟩ := WtA.on3 (hAt 0 (by simp)).1 hDn (post_no (post := [7]) hSh hDn (by kernel_rfl) 7 (by simp)) hS
     obtain ⟨hT, hal, A, n, c, hv, hr5, h5a, h5b⟩ := hB
     obtain ⟨rfl, rfl, rfl⟩ : A5a = A ∧ n5a = n ∧ c5a = c := by have h9 : Value.agg #[.slice A5a n5a c5a] = .agg #[.slice A n c] := (hAt 0 (by simp)).2.symm.trans hv; simpa using h9
     have hcall := two_any AllB AllB 12 (NA 97) N1 A5a n5a c5a A1 1 c1 w9 (rd_all hr5) (by have h9 : n5a = 1 := (Lay.rd_len hr5).symm; omega) h5a h5b (rd_all (Lay.rd_below HR1.out hT)) (by have h9 : 1 = 1 := (Lay.rd_len HR1.out).symm; omega) HL1.out.1 HL1.out.2 (HT2.out.below hT) (sm_of (by decide +kernel)) (sm_of (by decide +kernel))
     rw [w2E, w2R] at hcall
     refine hcall.mono ?_
     rintro e w6 ⟨A, n, c, rfl, hr6, h6a, h6b, q6⟩
     exact ⟨_, rfl, ⟨A, n, c, rfl⟩, hset _ _ ⟨bl_ca hT q6, fun g e => ⟨(hal g e).1, (hal g e).2.ca q6⟩, A, n, c, upd_same _ _ _, (Lay.rd_weak (fun b hb _ => fun e => by have h1 := (hal b e).2.lt; have h2 : w9.heap.size ≤ b := hb; omega) hr6), h6a, h6b⟩⟩
    try simp only [Act.put, sA, sZ, sS]
    obtain ⟨A6a, n6a, c6a, rfl⟩ := hVv6a
    refine Pz 3 (some 15) (.tuple #[.agg #[.slice A6a n6a c6a], .int .i64 (0)]) rfl rfl (by exact StepS.pure (WtA.pass (by decide) (by decide)) rfl fun _ => rfl) ?_
    try simp only [Act.put, sA, sZ, sS]
    refine Pz 4 (some 19) (.agg #[.slice A6a n6a c6a]) rfl rfl (by exact StepS.pure (WtA.pass (by decide) (by decide)) rfl fun _ => rfl) ?_
    try simp only [Act.put, sA, sZ, sS]
    refine Pz 5 (some 20) (.int .i64 (0)) rfl rfl (by exact StepS.pure (WtA.pass (by decide) (by decide)) rfl fun _ => rfl) ?_
    try simp only [Act.put, sA, sZ, sS]
    refine Ps.one (k := 6) (d := some 3) rfl rfl (by kernel_rfl) (TurnS.value (V := fun v => ∃ g, v = .pointer (some ⟨g, 0, none⟩)) [] (by kernel_rfl) (by rfl) (fun L9 m9 w9 hSh hAt hDn hS => ?cwg28_37)) (fun v8a hVv8a => ?rwg28_37)
    case cwg28_37 =>
     refine ⟨.pointer (some ⟨w9.heap.size, 0, none⟩), w9.alloc (.cells #[.slice none 0 0] 26), ?_, ⟨_, rfl⟩, WtA.made hDn (post_no (post := [7]) hSh hDn (by kernel_rfl) 7 (by simp)) rfl (fun j hj hB => ?_) hS⟩
     · clear hS
       go_simp
     · obtain ⟨hT2, hB⟩ := hB
       refine ⟨bl_al hT2 _, ?_⟩
       have hnew : ∀ g, some w9.heap.size = some g → w2.heap.size ≤ g ∧ Blk (w9.alloc (.cells #[.slice none 0 0] 26)) g 26 #[.slice none 0 0] := fun g e => by injection e with e; subst e; exact ⟨hT2.size, Blk.new w9 _ _⟩
       match j, hj, hB with
       | 0, _, _ => exact hnew
       | 1, _, ⟨_, A, n, c, hv, hr, h1, h2⟩ => exact ⟨hnew, A, n, c, (upd_ne (by decide)).trans hv, Lay.rd_below (Lay.rd_weak (fun b _ hl => fun e => by injection e with e; omega) hr) (bl_al (Below.refl _ _) _), h1, h2⟩
       | 2, _, ⟨_, A, n, c, hv, hr, h1, h2⟩ => exact ⟨hnew, A, n, c, (upd_ne (by decide)).trans hv, Lay.rd_below (Lay.rd_weak (fun b _ hl => fun e => by injection e with e; omega) hr) (bl_al (Below.refl _ _) _), h1, h2⟩
       | _ + 3, hj, _ => exact absurd hj (by omega)
    try simp only [Act.put, sA, sZ, sS]
    obtain ⟨g8a, rfl⟩ := hVv8a
    refine Pz 7 none undef rfl rfl ?ywg28_38 ?rwg28_38
    case ywg28_38 =>
     refine StepS.store [0, 2, 6] (by kernel_rfl) (by rfl) (fun L9 m9 w9 hSh hAt hDn hS => ?_)
     obtain ⟨g, hm, hB, hset⟩ := WtA.on9 (hAt 0 (by simp)).1 (hAt 2 (by simp)).1 (hAt 6 (by simp)).1 hDn hS
     obtain rfl : g8a = g := by have h9 : Value.pointer (some ⟨g8a, 0, none⟩) = .pointer (some ⟨g, 0, none⟩) := (hAt 6 (by simp)).2.symm.trans hm; simpa using h9
     obtain ⟨hT, hal, A, n, c, hv, hr, h7a, h7b⟩ := hB
     obtain ⟨rfl, rfl, rfl⟩ : A6a = A ∧ n6a = n ∧ c6a = c := by have h9 : (.tuple #[.agg #[.slice A6a n6a c6a], .int .i64 0] : Value) = .tuple #[.agg #[.slice A n c], .int .i64 0] := (hAt 2 (by simp)).2.symm.trans hv; simpa using h9
     refine (exec_store_blk (w := w9) 26 (.tmp 3) (.tmp 19) (by rfl) g8a 26 #[.slice none 0 0] #[.slice A6a n6a c6a] (by rfl) (by rfl) (hal g8a rfl).2 rfl treeI (by simp [Value.oneCell'])).imp fun w7 hx => ⟨hx.1, hset _ ⟨bl_gr hT hx.2.2 (hal g8a rfl).1, g8a, A6a, n6a, c6a, rfl, (hal g8a rfl).1, hv, hx.2.1, rd_grownH hr hx.2.2 (fun b hb e => hb (by rw [e])), h7a, h7b⟩⟩
    try simp only [Act.put]
    refine Pz 8 (some 4) (.int .i64 (0)) rfl rfl (by exact StepS.pure (WtA.pass (by decide) (by decide)) rfl fun _ => rfl) ?_
    try simp only [Act.put, sA, sZ, sS]
    refine Ps.done (by kernel_rfl) (fun wg28 hS => ?_) _
    obtain ⟨g, hm, hT, g1, A, n, c, hg1, _, hv, hbk, hr, h7a, h7b⟩ := WtA.fin (by rfl) (by rfl) hS
    clear hS
    injection hg1 with hg1
    subst hg1
    obtain rfl : g8a = g := by have h9 : Value.pointer (some ⟨g8a, 0, none⟩) = .pointer (some ⟨g, 0, none⟩) := hm; simpa using h9
    obtain ⟨rfl, rfl, rfl⟩ : A6a = A ∧ n6a = n ∧ c6a = c := by have h9 : (.tuple #[.agg #[.slice A6a n6a c6a], .int .i64 0] : Value) = .tuple #[.agg #[.slice A n c], .int .i64 0] := hv; simpa using h9
    refine ⟨g8a, A6a, n6a, c6a, ⟨.agg #[.slice A5a n5a c5a], .agg #[.slice A1 1 c1], .tuple #[.agg #[.slice A6a n6a c6a], .int .i64 0], .tuple #[.agg #[.slice A6a n6a c6a], .int .i64 0], .agg #[.slice A6a n6a c6a], .int .i64 0, ?_⟩, hT, hbk, rd_all hr, h7a, h7b⟩
    clear hT hbk hr h7a h7b hv hm
    rfl
   case bwg28_32_6 =>
    refine Turns.mk (i := 6) (d := some 3) rfl rfl (TurnS.value (V := fun v => ∃ g, v = .pointer (some ⟨g, 0, none⟩)) [] (by kernel_rfl) (by rfl) (fun L9 m9 w9 hSh hAt hDn hS => ?cwg28_40)) (fun v8a hVv8a => ?rwg28_40)
    case cwg28_40 =>
     refine ⟨.pointer (some ⟨w9.heap.size, 0, none⟩), w9.alloc (.cells #[.slice none 0 0] 26), ?_, ⟨_, rfl⟩, WtA.made hDn (post_no (post := [7]) hSh hDn (by kernel_rfl) 7 (by simp)) rfl (fun j hj hB => ?_) hS⟩
     · clear hS
       go_simp
     · obtain ⟨hT2, hB⟩ := hB
       refine ⟨bl_al hT2 _, ?_⟩
       have hnew : ∀ g, some w9.heap.size = some g → w2.heap.size ≤ g ∧ Blk (w9.alloc (.cells #[.slice none 0 0] 26)) g 26 #[.slice none 0 0] := fun g e => by injection e with e; subst e; exact ⟨hT2.size, Blk.new w9 _ _⟩
       match j, hj, hB with
       | 0, _, _ => exact hnew
       | 1, _, ⟨_, A, n, c, hv, hr, h1, h2⟩ => exact ⟨hnew, A, n, c, (upd_ne (by decide)).trans hv, Lay.rd_below (Lay.rd_weak (fun b _ hl => fun e => by injection e with e; omega) hr) (bl_al (Below.refl _ _) _), h1, h2⟩
       | 2, _, ⟨_, A, n, c, hv, hr, h1, h2⟩ => exact ⟨hnew, A, n, c, (upd_ne (by decide)).trans hv, Lay.rd_below (Lay.rd_weak (fun b _ hl => fun e => by injection e with e; omega) hr) (bl_al (Below.refl _ _) _), h1, h2⟩
       | _ + 3, hj, _ => exact absurd hj (by omega)
    try simp only [Act.put, sA, sZ, sS]
    obtain ⟨g8a, rfl⟩ := hVv8a
    refine Ps.one (k := 2) (d := some 18) rfl rfl (by kernel_rfl) (TurnS.call (V := fun v => ∃ A n c, v = .tuple #[.agg #[.slice A n c], .int .i64 0]) ?fwg28_41 ?awg28_41 [0] (by kernel_rfl) (by rfl) (fun w9 => ?hwg28_41) (fun L9 m9 w9 hSh hAt hDn hS => ?cwg28_41)) (fun v6a hVv6a => ?rwg28_41)
    case hwg28_41 => go_simp; refine ⟨?_, ?_⟩ <;> rfl
    case cwg28_41 =>
     obtain ⟨al, hB, hset⟩ := WtA.on3 (hAt 0 (by simp)).1 hDn (post_no (post := [7]) hSh hDn (by kernel_rfl) 7 (by simp)) hS
     obtain ⟨hT, hal, A, n, c, hv, hr5, h5a, h5b⟩ := hB
     obtain ⟨rfl, rfl, rfl⟩ : A5a = A ∧ n5a = n ∧ c5a = c := by have h9 : Value.agg #[.slice A5a n5a c5a] = .agg #[.slice A n c] := (hAt 0 (by simp)).2.symm.trans hv; simpa using h9
     have hcall := two_any AllB AllB 12 (NA 97) N1 A5a n5a c5a A1 1 c1 w9 (rd_all hr5) (by have h9 : n5a = 1 := (Lay.rd_len hr5).symm; omega) h5a h5b (rd_all (Lay.rd_below HR1.out hT)) (by have h9 : 1 = 1 := (Lay.rd_len HR1.out).symm; omega) HL1.out.1 HL1.out.2 (HT2.out.below hT) (sm_of (by decide +kernel)) (sm_of (by decide +kernel))
     rw [w2E, w2R] at hcall
     refine hcall.mono ?_
     rintro e w6 ⟨A, n, c, rfl, hr6, h6a, h6b, q6⟩
     exact ⟨_, rfl, ⟨A, n, c, rfl⟩, hset _ _ ⟨bl_ca hT q6, fun g e => ⟨(hal g e).1, (hal g e).2.ca q6⟩, A, n, c, upd_same _ _ _, (Lay.rd_weak (fun b hb _ => fun e => by have h1 := (hal b e).2.lt; have h2 : w9.heap.size ≤ b := hb; omega) hr6), h6a, h6b⟩⟩
    try simp only [Act.put, sA, sZ, sS]
    obtain ⟨A6a, n6a, c6a, rfl⟩ := hVv6a
    refine Pz 3 (some 15) (.tuple #[.agg #[.slice A6a n6a c6a], .int .i64 (0)]) rfl rfl (by exact StepS.pure (WtA.pass (by decide) (by decide)) rfl fun _ => rfl) ?_
    try simp only [Act.put, sA, sZ, sS]
    refine Pz 4 (some 19) (.agg #[.slice A6a n6a c6a]) rfl rfl (by exact StepS.pure (WtA.pass (by decide) (by decide)) rfl fun _ => rfl) ?_
    try simp only [Act.put, sA, sZ, sS]
    refine Pz 5 (some 20) (.int .i64 (0)) rfl rfl (by exact StepS.pure (WtA.pass (by decide) (by decide)) rfl fun _ => rfl) ?_
    try simp only [Act.put, sA, sZ, sS]
    refine Pz 7 none undef rfl rfl ?ywg28_45 ?rwg28_45
    case ywg28_45 =>
     refine StepS.store [0, 2, 6] (by kernel_rfl) (by rfl) (fun L9 m9 w9 hSh hAt hDn hS => ?_)
     obtain ⟨g, hm, hB, hset⟩ := WtA.on9 (hAt 0 (by simp)).1 (hAt 2 (by simp)).1 (hAt 6 (by simp)).1 hDn hS
     obtain rfl : g8a = g := by have h9 : Value.pointer (some ⟨g8a, 0, none⟩) = .pointer (some ⟨g, 0, none⟩) := (hAt 6 (by simp)).2.symm.trans hm; simpa using h9
     obtain ⟨hT, hal, A, n, c, hv, hr, h7a, h7b⟩ := hB
     obtain ⟨rfl, rfl, rfl⟩ : A6a = A ∧ n6a = n ∧ c6a = c := by have h9 : (.tuple #[.agg #[.slice A6a n6a c6a], .int .i64 0] : Value) = .tuple #[.agg #[.slice A n c], .int .i64 0] := (hAt 2 (by simp)).2.symm.trans hv; simpa using h9
     refine (exec_store_blk (w := w9) 26 (.tmp 3) (.tmp 19) (by rfl) g8a 26 #[.slice none 0 0] #[.slice A6a n6a c6a] (by rfl) (by rfl) (hal g8a rfl).2 rfl treeI (by simp [Value.oneCell'])).imp fun w7 hx => ⟨hx.1, hset _ ⟨bl_gr hT hx.2.2 (hal g8a rfl).1, g8a, A6a, n6a, c6a, rfl, (hal g8a rfl).1, hv, hx.2.1, rd_grownH hr hx.2.2 (fun b hb e => hb (by rw [e])), h7a, h7b⟩⟩
    try simp only [Act.put]
    refine Pz 8 (some 4) (.int .i64 (0)) rfl rfl (by exact StepS.pure (WtA.pass (by decide) (by decide)) rfl fun _ => rfl) ?_
    try simp only [Act.put, sA, sZ, sS]
    refine Ps.done (by kernel_rfl) (fun wg28 hS => ?_) _
    obtain ⟨g, hm, hT, g1, A, n, c, hg1, _, hv, hbk, hr, h7a, h7b⟩ := WtA.fin (by rfl) (by rfl) hS
    clear hS
    injection hg1 with hg1
    subst hg1
    obtain rfl : g8a = g := by have h9 : Value.pointer (some ⟨g8a, 0, none⟩) = .pointer (some ⟨g, 0, none⟩) := hm; simpa using h9
    obtain ⟨rfl, rfl, rfl⟩ : A6a = A ∧ n6a = n ∧ c6a = c := by have h9 : (.tuple #[.agg #[.slice A6a n6a c6a], .int .i64 0] : Value) = .tuple #[.agg #[.slice A n c], .int .i64 0] := hv; simpa using h9
    refine ⟨g8a, A6a, n6a, c6a, ⟨.agg #[.slice A5a n5a c5a], .agg #[.slice A1 1 c1], .tuple #[.agg #[.slice A6a n6a c6a], .int .i64 0], .tuple #[.agg #[.slice A6a n6a c6a], .int .i64 0], .agg #[.slice A6a n6a c6a], .int .i64 0, ?_⟩, hT, hbk, rd_all hr, h7a, h7b⟩
    clear hT hbk hr h7a h7b hv hm
    rfl
  case bwg28_30_6 =>
   refine Turns.mk (i := 6) (d := some 3) rfl rfl (TurnS.value (V := fun v => ∃ g, v = .pointer (some ⟨g, 0, none⟩)) [] (by kernel_rfl) (by rfl) (fun L9 m9 w9 hSh hAt hDn hS => ?cwg28_47)) (fun v8a hVv8a => ?rwg28_47)
   case cwg28_47 =>
    refine ⟨.pointer (some ⟨w9.heap.size, 0, none⟩), w9.alloc (.cells #[.slice none 0 0] 26), ?_, ⟨_, rfl⟩, WtA.made hDn (post_no (post := [7]) hSh hDn (by kernel_rfl) 7 (by simp)) rfl (fun j hj hB => ?_) hS⟩
    · clear hS
      go_simp
    · obtain ⟨hT2, hB⟩ := hB
      refine ⟨bl_al hT2 _, ?_⟩
      have hnew : ∀ g, some w9.heap.size = some g → w2.heap.size ≤ g ∧ Blk (w9.alloc (.cells #[.slice none 0 0] 26)) g 26 #[.slice none 0 0] := fun g e => by injection e with e; subst e; exact ⟨hT2.size, Blk.new w9 _ _⟩
      match j, hj, hB with
      | 0, _, _ => exact hnew
      | 1, _, ⟨_, A, n, c, hv, hr, h1, h2⟩ => exact ⟨hnew, A, n, c, (upd_ne (by decide)).trans hv, Lay.rd_below (Lay.rd_weak (fun b _ hl => fun e => by injection e with e; omega) hr) (bl_al (Below.refl _ _) _), h1, h2⟩
      | 2, _, ⟨_, A, n, c, hv, hr, h1, h2⟩ => exact ⟨hnew, A, n, c, (upd_ne (by decide)).trans hv, Lay.rd_below (Lay.rd_weak (fun b _ hl => fun e => by injection e with e; omega) hr) (bl_al (Below.refl _ _) _), h1, h2⟩
      | _ + 3, hj, _ => exact absurd hj (by omega)
   try simp only [Act.put, sA, sZ, sS]
   obtain ⟨g8a, rfl⟩ := hVv8a
   refine Ps.one (k := 0) (d := some 16) rfl rfl (by kernel_rfl) (TurnS.call (V := fun v => ∃ A n c, v = .agg #[.slice A n c]) ?fwg28_48 ?awg28_48 [] (by kernel_rfl) (by rfl) (fun w9 => ?hwg28_48) (fun L9 m9 w9 hSh hAt hDn hS => ?cwg28_48)) (fun v5a hVv5a => ?rwg28_48)
   case hwg28_48 => go_simp; refine ⟨?_, ?_⟩ <;> rfl
   case cwg28_48 =>
    obtain ⟨al, hB, hset⟩ := WtA.on2 hDn (post_no (post := [2]) hSh hDn (by kernel_rfl) 2 (by simp)) (post_no (post := [7]) hSh hDn (by kernel_rfl) 7 (by simp)) hS
    obtain ⟨hT, hal⟩ := hB
    refine (named_any 97 w9).mono ?_
    rintro e w6 ⟨A, n, c, rfl, hr6, h6a, h6b, q6⟩
    exact ⟨_, rfl, ⟨A, n, c, rfl⟩, hset _ _ ⟨bl_ca hT q6, fun g e => ⟨(hal g e).1, (hal g e).2.ca q6⟩, A, n, c, upd_same _ _ _, (Lay.rd_weak (fun b hb _ => fun e => by have h1 := (hal b e).2.lt; have h2 : w9.heap.size ≤ b := hb; omega) hr6), h6a, h6b⟩⟩
   try simp only [Act.put, sA, sZ, sS]
   obtain ⟨A5a, n5a, c5a, rfl⟩ := hVv5a
   refine Ps.one (k := 2) (d := some 18) rfl rfl (by kernel_rfl) (TurnS.call (V := fun v => ∃ A n c, v = .tuple #[.agg #[.slice A n c], .int .i64 0]) ?fwg28_49 ?awg28_49 [0] (by kernel_rfl) (by rfl) (fun w9 => ?hwg28_49) (fun L9 m9 w9 hSh hAt hDn hS => ?cwg28_49)) (fun v6a hVv6a => ?rwg28_49)
   case hwg28_49 => go_simp; refine ⟨?_, ?_⟩ <;> rfl
   case cwg28_49 =>
    obtain ⟨al, hB, hset⟩ := WtA.on3 (hAt 0 (by simp)).1 hDn (post_no (post := [7]) hSh hDn (by kernel_rfl) 7 (by simp)) hS
    obtain ⟨hT, hal, A, n, c, hv, hr5, h5a, h5b⟩ := hB
    obtain ⟨rfl, rfl, rfl⟩ : A5a = A ∧ n5a = n ∧ c5a = c := by have h9 : Value.agg #[.slice A5a n5a c5a] = .agg #[.slice A n c] := (hAt 0 (by simp)).2.symm.trans hv; simpa using h9
    have hcall := two_any AllB AllB 12 (NA 97) N1 A5a n5a c5a A1 1 c1 w9 (rd_all hr5) (by have h9 : n5a = 1 := (Lay.rd_len hr5).symm; omega) h5a h5b (rd_all (Lay.rd_below HR1.out hT)) (by have h9 : 1 = 1 := (Lay.rd_len HR1.out).symm; omega) HL1.out.1 HL1.out.2 (HT2.out.below hT) (sm_of (by decide +kernel)) (sm_of (by decide +kernel))
    rw [w2E, w2R] at hcall
    refine hcall.mono ?_
    rintro e w6 ⟨A, n, c, rfl, hr6, h6a, h6b, q6⟩
    exact ⟨_, rfl, ⟨A, n, c, rfl⟩, hset _ _ ⟨bl_ca hT q6, fun g e => ⟨(hal g e).1, (hal g e).2.ca q6⟩, A, n, c, upd_same _ _ _, (Lay.rd_weak (fun b hb _ => fun e => by have h1 := (hal b e).2.lt; have h2 : w9.heap.size ≤ b := hb; omega) hr6), h6a, h6b⟩⟩
   try simp only [Act.put, sA, sZ, sS]
   obtain ⟨A6a, n6a, c6a, rfl⟩ := hVv6a
   refine Pz 3 (some 15) (.tuple #[.agg #[.slice A6a n6a c6a], .int .i64 (0)]) rfl rfl (by exact StepS.pure (WtA.pass (by decide) (by decide)) rfl fun _ => rfl) ?_
   try simp only [Act.put, sA, sZ, sS]
   refine Pz 4 (some 19) (.agg #[.slice A6a n6a c6a]) rfl rfl (by exact StepS.pure (WtA.pass (by decide) (by decide)) rfl fun _ => rfl) ?_
   try simp only [Act.put, sA, sZ, sS]
   refine Pz 5 (some 20) (.int .i64 (0)) rfl rfl (by exact StepS.pure (WtA.pass (by decide) (by decide)) rfl fun _ => rfl) ?_
   try simp only [Act.put, sA, sZ, sS]
   refine Pz 7 none undef rfl rfl ?ywg28_53 ?rwg28_53
   case ywg28_53 =>
    refine StepS.store [0, 2, 6] (by kernel_rfl) (by rfl) (fun L9 m9 w9 hSh hAt hDn hS => ?_)
    obtain ⟨g, hm, hB, hset⟩ := WtA.on9 (hAt 0 (by simp)).1 (hAt 2 (by simp)).1 (hAt 6 (by simp)).1 hDn hS
    obtain rfl : g8a = g := by have h9 : Value.pointer (some ⟨g8a, 0, none⟩) = .pointer (some ⟨g, 0, none⟩) := (hAt 6 (by simp)).2.symm.trans hm; simpa using h9
    obtain ⟨hT, hal, A, n, c, hv, hr, h7a, h7b⟩ := hB
    obtain ⟨rfl, rfl, rfl⟩ : A6a = A ∧ n6a = n ∧ c6a = c := by have h9 : (.tuple #[.agg #[.slice A6a n6a c6a], .int .i64 0] : Value) = .tuple #[.agg #[.slice A n c], .int .i64 0] := (hAt 2 (by simp)).2.symm.trans hv; simpa using h9
    refine (exec_store_blk (w := w9) 26 (.tmp 3) (.tmp 19) (by rfl) g8a 26 #[.slice none 0 0] #[.slice A6a n6a c6a] (by rfl) (by rfl) (hal g8a rfl).2 rfl treeI (by simp [Value.oneCell'])).imp fun w7 hx => ⟨hx.1, hset _ ⟨bl_gr hT hx.2.2 (hal g8a rfl).1, g8a, A6a, n6a, c6a, rfl, (hal g8a rfl).1, hv, hx.2.1, rd_grownH hr hx.2.2 (fun b hb e => hb (by rw [e])), h7a, h7b⟩⟩
   try simp only [Act.put]
   refine Pz 8 (some 4) (.int .i64 (0)) rfl rfl (by exact StepS.pure (WtA.pass (by decide) (by decide)) rfl fun _ => rfl) ?_
   try simp only [Act.put, sA, sZ, sS]
   refine Ps.done (by kernel_rfl) (fun wg28 hS => ?_) _
   obtain ⟨g, hm, hT, g1, A, n, c, hg1, _, hv, hbk, hr, h7a, h7b⟩ := WtA.fin (by rfl) (by rfl) hS
   clear hS
   injection hg1 with hg1
   subst hg1
   obtain rfl : g8a = g := by have h9 : Value.pointer (some ⟨g8a, 0, none⟩) = .pointer (some ⟨g, 0, none⟩) := hm; simpa using h9
   obtain ⟨rfl, rfl, rfl⟩ : A6a = A ∧ n6a = n ∧ c6a = c := by have h9 : (.tuple #[.agg #[.slice A6a n6a c6a], .int .i64 0] : Value) = .tuple #[.agg #[.slice A n c], .int .i64 0] := hv; simpa using h9
   refine ⟨g8a, A6a, n6a, c6a, ⟨.agg #[.slice A5a n5a c5a], .agg #[.slice A1 1 c1], .tuple #[.agg #[.slice A6a n6a c6a], .int .i64 0], .tuple #[.agg #[.slice A6a n6a c6a], .int .i64 0], .agg #[.slice A6a n6a c6a], .int .i64 0, ?_⟩, hT, hbk, rd_all hr, h7a, h7b⟩
   clear hT hbk hr h7a h7b hv hm
   rfl
 case kpswg28 =>
  intro a' w1a hF
  obtain ⟨g8a, A6a, n6a, c6a, ⟨v16, v17, v18, v15, v19, v20, rfl⟩, hT, hbk, hr, h7a, h7b⟩ := hF
  have HT1a := Lib.hid hT
  have HVa := Lib.hid hbk
  have HRVa := Lib.hid hr
  have HCVa := Lib.hid (And.intro h7a h7b)
  clear hT hbk hr h7a h7b
  simp only [Act.put, List.setIfInBounds_toArray, List.set_cons_zero, List.set_cons_succ]
  have HT3 := Lib.hid (HT2.out.below HT1a.out)
  go_upto_region 3 with fail
  refine wp_region_psF (F := fun a1 a' w' => ∃ g8b A6b n6b c6b, (∃ v22 v23 v24 v21 v25 v26, a' = ((((((((a1.put (some 22) v22).put (some 23) v23).put (some 24) v24).put (some 21) v21).put (some 25) v25).put (some 26) v26).put (some 5) (.pointer (some ⟨g8b, 0, none⟩))).put (some 6) (.int .i64 0))) ∧ Below w1a.heap.size w1a w' ∧ Blk w' g8b 26 #[.slice A6b n6b c6b] ∧ LN.rd w' AllB A6b n6b N3 ∧ n6b ≤ c6b ∧ c6b ≤ 9223372036854775807) (S := WtB (WkB 1 2 (NA 98) N3 26 w1a)) (by kernel_rfl) ?spswg1 ?ppswg1 ?kpswg1
  case spswg1 =>
   exact WtB.start (by decide) ⟨(Below.refl w1a.heap.size w1a).drew, fun g e => by cases e⟩
  case ppswg1 =>
   refine Pz 0 (some 22) (.agg #[.slice A6a n6a c6a]) rfl rfl ?ywg1_2 ?rwg1_2
   case ywg1_2 =>
    refine StepS.read [] (by kernel_rfl) (WtB.pass (by decide) (by decide)) (by rfl) (fun L9 m9 w9 hSh hAt hDn hS => ?_)
    have hT : Below w1a.heap.size w1a w9 := WtB.any (T := fun w9 => Below w1a.heap.size w1a w9) (fun _ _ _ _ h => h.1) hS
    have x0 : w9.cell? ⟨g8a, 0, none⟩ = some (.slice A6a n6a c6a) := (HVa.out.ca hT).cell 0
    clear hT hS
    go_simp
    try rfl
   try simp only [Act.put, sA, sZ, sS]
   refine Ps.some2 (i := 1) (j := 6) (by kernel_rfl) ?bwg1_3_1 ?bwg1_3_6
   case bwg1_3_1 =>
    refine Turns.mk (i := 1) (d := some 23) rfl rfl (TurnS.call (V := fun v => ∃ A n c, v = .agg #[.slice A n c]) ?fwg1_4 ?awg1_4 [] (by kernel_rfl) (by rfl) (fun w9 => ?hwg1_4) (fun L9 m9 w9 hSh hAt hDn hS => ?cwg1_4)) (fun v5b hVv5b => ?rwg1_4)
    case hwg1_4 => go_simp; refine ⟨?_, ?_⟩ <;> rfl
    case cwg1_4 =>
     obtain ⟨al, hB, hset⟩ := WtB.on2 hDn (post_no (post := [2]) hSh hDn (by kernel_rfl) 2 (by simp)) (post_no (post := [7]) hSh hDn (by kernel_rfl) 7 (by simp)) hS
     obtain ⟨hT, hal⟩ := hB
     refine (named_any 98 w9).mono ?_
     rintro e w6 ⟨A, n, c, rfl, hr6, h6a, h6b, q6⟩
     exact ⟨_, rfl, ⟨A, n, c, rfl⟩, hset _ _ ⟨bl_ca hT q6, fun g e => ⟨(hal g e).1, (hal g e).2.ca q6⟩, A, n, c, upd_same _ _ _, (Lay.rd_weak (fun b hb _ => fun e => by have h1 := (hal b e).2.lt; have h2 : w9.heap.size ≤ b := hb; omega) hr6), h6a, h6b⟩⟩
    try simp only [Act.put, sA, sZ, sS]
    obtain ⟨A5b, n5b, c5b, rfl⟩ := hVv5b
    refine Ps.some2 (i := 2) (j := 6) (by kernel_rfl) ?bwg1_5_2 ?bwg1_5_6
    case bwg1_5_2 =>
     refine Turns.mk (i := 2) (d := some 24) rfl rfl (TurnS.call (V := fun v => ∃ A n c, v = .tuple #[.agg #[.slice A n c], .int .i64 0]) ?fwg1_6 ?awg1_6 [1] (by kernel_rfl) (by rfl) (fun w9 => ?hwg1_6) (fun L9 m9 w9 hSh hAt hDn hS => ?cwg1_6)) (fun v6b hVv6b => ?rwg1_6)
     case hwg1_6 => go_simp; refine ⟨?_, ?_⟩ <;> rfl
     case cwg1_6 =>
      obtain ⟨al, hB, hset⟩ := WtB.on3 (hAt 1 (by simp)).1 hDn (post_no (post := [7]) hSh hDn (by kernel_rfl) 7 (by simp)) hS
      obtain ⟨hT, hal, A, n, c, hv, hr5, h5a, h5b⟩ := hB
      obtain ⟨rfl, rfl, rfl⟩ : A5b = A ∧ n5b = n ∧ c5b = c := by have h9 : Value.agg #[.slice A5b n5b c5b] = .agg #[.slice A n c] := (hAt 1 (by simp)).2.symm.trans hv; simpa using h9
      have hcall := two_any AllB AllB 16 N2 (NA 98) A6a n6a c6a A5b n5b c5b w9 (rd_all (Lay.rd_below HRVa.out hT)) (by have h9 : n6a = 3 := (Lay.rd_len HRVa.out).symm; omega) HCVa.out.1 HCVa.out.2 (rd_all hr5) (by have h9 : n5b = 1 := (Lay.rd_len hr5).symm; omega) h5a h5b (HT3.out.below hT) (sm_of (by decide +kernel)) (sm_of (by decide +kernel))
      rw [w3E, w3R] at hcall
      refine hcall.mono ?_
      rintro e w6 ⟨A, n, c, rfl, hr6, h6a, h6b, q6⟩
      exact ⟨_, rfl, ⟨A, n, c, rfl⟩, hset _ _ ⟨bl_ca hT q6, fun g e => ⟨(hal g e).1, (hal g e).2.ca q6⟩, A, n, c, upd_same _ _ _, (Lay.rd_weak (fun b hb _ => fun e => by have h1 := (hal b e).2.lt; have h2 : w9.heap.size ≤ b := hb; omega) hr6), h6a, h6b⟩⟩
     try simp only [Act.put, sA, sZ, sS]
     obtain ⟨A6b, n6b, c6b, rfl⟩ := hVv6b
     refine Pz 3 (some 21) (.tuple #[.agg #[.slice A6b n6b c6b], .int .i64 (0)]) rfl rfl (by exact StepS.pure (WtB.pass (by decide) (by decide)) rfl fun _ => rfl) ?_
     try simp only [Act.put, sA, sZ, sS]
     refine Pz 4 (some 25) (.agg #[.slice A6b n6b c6b]) rfl rfl (by exact StepS.pure (WtB.pass (by decide) (by decide)) rfl fun _ => rfl) ?_
     try simp only [Act.put, sA, sZ, sS]
     refine Pz 5 (some 26) (.int .i64 (0)) rfl rfl (by exact StepS.pure (WtB.pass (by decide) (by decide)) rfl fun _ => rfl) ?_
     try simp only [Act.put, sA, sZ, sS]
     refine Ps.one (k := 6) (d := some 5) rfl rfl (by kernel_rfl) (TurnS.value (V := fun v => ∃ g, v = .pointer (some ⟨g, 0, none⟩)) [] (by kernel_rfl) (by rfl) (fun L9 m9 w9 hSh hAt hDn hS => ?cwg1_10)) (fun v8b hVv8b => ?rwg1_10)
     case cwg1_10 =>
      refine ⟨.pointer (some ⟨w9.heap.size, 0, none⟩), w9.alloc (.cells #[.slice none 0 0] 26), ?_, ⟨_, rfl⟩, WtB.made hDn (post_no (post := [7]) hSh hDn (by kernel_rfl) 7 (by simp)) rfl (fun j hj hB => ?_) hS⟩
      · clear hS
        go_simp
      · obtain ⟨hT2, hB⟩ := hB
        refine ⟨bl_al hT2 _, ?_⟩
        have hnew : ∀ g, some w9.heap.size = some g → w1a.heap.size ≤ g ∧ Blk (w9.alloc (.cells #[.slice none 0 0] 26)) g 26 #[.slice none 0 0] := fun g e => by injection e with e; subst e; exact ⟨hT2.size, Blk.new w9 _ _⟩
        match j, hj, hB with
        | 0, _, _ => exact hnew
        | 1, _, ⟨_, A, n, c, hv, hr, h1, h2⟩ => exact ⟨hnew, A, n, c, (upd_ne (by decide)).trans hv, Lay.rd_below (Lay.rd_weak (fun b _ hl => fun e => by injection e with e; omega) hr) (bl_al (Below.refl _ _) _), h1, h2⟩
        | 2, _, ⟨_, A, n, c, hv, hr, h1, h2⟩ => exact ⟨hnew, A, n, c, (upd_ne (by decide)).trans hv, Lay.rd_below (Lay.rd_weak (fun b _ hl => fun e => by injection e with e; omega) hr) (bl_al (Below.refl _ _) _), h1, h2⟩
        | _ + 3, hj, _ => exact absurd hj (by omega)
     try simp only [Act.put, sA, sZ, sS]
     obtain ⟨g8b, rfl⟩ := hVv8b
     refine Pz 7 none undef rfl rfl ?ywg1_11 ?rwg1_11
     case ywg1_11 =>
      refine StepS.store [1, 2, 6] (by kernel_rfl) (by rfl) (fun L9 m9 w9 hSh hAt hDn hS => ?_)
      obtain ⟨g, hm, hB, hset⟩ := WtB.on9 (hAt 1 (by simp)).1 (hAt 2 (by simp)).1 (hAt 6 (by simp)).1 hDn hS
      obtain rfl : g8b = g := by have h9 : Value.pointer (some ⟨g8b, 0, none⟩) = .pointer (some ⟨g, 0, none⟩) := (hAt 6 (by simp)).2.symm.trans hm; simpa using h9
      obtain ⟨hT, hal, A, n, c, hv, hr, h7a, h7b⟩ := hB
      obtain ⟨rfl, rfl, rfl⟩ : A6b = A ∧ n6b = n ∧ c6b = c := by have h9 : (.tuple #[.agg #[.slice A6b n6b c6b], .int .i64 0] : Value) = .tuple #[.agg #[.slice A n c], .int .i64 0] := (hAt 2 (by simp)).2.symm.trans hv; simpa using h9
      refine (exec_store_blk (w := w9) 26 (.tmp 5) (.tmp 25) (by rfl) g8b 26 #[.slice none 0 0] #[.slice A6b n6b c6b] (by rfl) (by rfl) (hal g8b rfl).2 rfl treeI (by simp [Value.oneCell'])).imp fun w7 hx => ⟨hx.1, hset _ ⟨bl_gr hT hx.2.2 (hal g8b rfl).1, g8b, A6b, n6b, c6b, rfl, (hal g8b rfl).1, hv, hx.2.1, rd_grownH hr hx.2.2 (fun b hb e => hb (by rw [e])), h7a, h7b⟩⟩
     try simp only [Act.put]
     refine Pz 8 (some 6) (.int .i64 (0)) rfl rfl (by exact StepS.pure (WtB.pass (by decide) (by decide)) rfl fun _ => rfl) ?_
     try simp only [Act.put, sA, sZ, sS]
     refine Ps.done (by kernel_rfl) (fun wg1 hS => ?_) _
     obtain ⟨g, hm, hT, g1, A, n, c, hg1, _, hv, hbk, hr, h7a, h7b⟩ := WtB.fin (by rfl) (by rfl) hS
     clear hS
     injection hg1 with hg1
     subst hg1
     obtain rfl : g8b = g := by have h9 : Value.pointer (some ⟨g8b, 0, none⟩) = .pointer (some ⟨g, 0, none⟩) := hm; simpa using h9
     obtain ⟨rfl, rfl, rfl⟩ : A6b = A ∧ n6b = n ∧ c6b = c := by have h9 : (.tuple #[.agg #[.slice A6b n6b c6b], .int .i64 0] : Value) = .tuple #[.agg #[.slice A n c], .int .i64 0] := hv; simpa using h9
     refine ⟨g8b, A6b, n6b, c6b, ⟨.agg #[.slice A6a n6a c6a], .agg #[.slice A5b n5b c5b], .tuple #[.agg #[.slice A6b n6b c6b], .int .i64 0], .tuple #[.agg #[.slice A6b n6b c6b], .int .i64 0], .agg #[.slice A6b n6b c6b], .int .i64 0, ?_⟩, hT, hbk, rd_all hr, h7a, h7b⟩
     clear hT hbk hr h7a h7b hv hm
     rfl
    case bwg1_5_6 =>
     refine Turns.mk (i := 6) (d := some 5) rfl rfl (TurnS.value (V := fun v => ∃ g, v = .pointer (some ⟨g, 0, none⟩)) [] (by kernel_rfl) (by rfl) (fun L9 m9 w9 hSh hAt hDn hS => ?cwg1_13)) (fun v8b hVv8b => ?rwg1_13)
     case cwg1_13 =>
      refine ⟨.pointer (some ⟨w9.heap.size, 0, none⟩), w9.alloc (.cells #[.slice none 0 0] 26), ?_, ⟨_, rfl⟩, WtB.made hDn (post_no (post := [7]) hSh hDn (by kernel_rfl) 7 (by simp)) rfl (fun j hj hB => ?_) hS⟩
      · clear hS
        go_simp
      · obtain ⟨hT2, hB⟩ := hB
        refine ⟨bl_al hT2 _, ?_⟩
        have hnew : ∀ g, some w9.heap.size = some g → w1a.heap.size ≤ g ∧ Blk (w9.alloc (.cells #[.slice none 0 0] 26)) g 26 #[.slice none 0 0] := fun g e => by injection e with e; subst e; exact ⟨hT2.size, Blk.new w9 _ _⟩
        match j, hj, hB with
        | 0, _, _ => exact hnew
        | 1, _, ⟨_, A, n, c, hv, hr, h1, h2⟩ => exact ⟨hnew, A, n, c, (upd_ne (by decide)).trans hv, Lay.rd_below (Lay.rd_weak (fun b _ hl => fun e => by injection e with e; omega) hr) (bl_al (Below.refl _ _) _), h1, h2⟩
        | 2, _, ⟨_, A, n, c, hv, hr, h1, h2⟩ => exact ⟨hnew, A, n, c, (upd_ne (by decide)).trans hv, Lay.rd_below (Lay.rd_weak (fun b _ hl => fun e => by injection e with e; omega) hr) (bl_al (Below.refl _ _) _), h1, h2⟩
        | _ + 3, hj, _ => exact absurd hj (by omega)
     try simp only [Act.put, sA, sZ, sS]
     obtain ⟨g8b, rfl⟩ := hVv8b
     refine Ps.one (k := 2) (d := some 24) rfl rfl (by kernel_rfl) (TurnS.call (V := fun v => ∃ A n c, v = .tuple #[.agg #[.slice A n c], .int .i64 0]) ?fwg1_14 ?awg1_14 [1] (by kernel_rfl) (by rfl) (fun w9 => ?hwg1_14) (fun L9 m9 w9 hSh hAt hDn hS => ?cwg1_14)) (fun v6b hVv6b => ?rwg1_14)
     case hwg1_14 => go_simp; refine ⟨?_, ?_⟩ <;> rfl
     case cwg1_14 =>
      obtain ⟨al, hB, hset⟩ := WtB.on3 (hAt 1 (by simp)).1 hDn (post_no (post := [7]) hSh hDn (by kernel_rfl) 7 (by simp)) hS
      obtain ⟨hT, hal, A, n, c, hv, hr5, h5a, h5b⟩ := hB
      obtain ⟨rfl, rfl, rfl⟩ : A5b = A ∧ n5b = n ∧ c5b = c := by have h9 : Value.agg #[.slice A5b n5b c5b] = .agg #[.slice A n c] := (hAt 1 (by simp)).2.symm.trans hv; simpa using h9
      have hcall := two_any AllB AllB 16 N2 (NA 98) A6a n6a c6a A5b n5b c5b w9 (rd_all (Lay.rd_below HRVa.out hT)) (by have h9 : n6a = 3 := (Lay.rd_len HRVa.out).symm; omega) HCVa.out.1 HCVa.out.2 (rd_all hr5) (by have h9 : n5b = 1 := (Lay.rd_len hr5).symm; omega) h5a h5b (HT3.out.below hT) (sm_of (by decide +kernel)) (sm_of (by decide +kernel))
      rw [w3E, w3R] at hcall
      refine hcall.mono ?_
      rintro e w6 ⟨A, n, c, rfl, hr6, h6a, h6b, q6⟩
      exact ⟨_, rfl, ⟨A, n, c, rfl⟩, hset _ _ ⟨bl_ca hT q6, fun g e => ⟨(hal g e).1, (hal g e).2.ca q6⟩, A, n, c, upd_same _ _ _, (Lay.rd_weak (fun b hb _ => fun e => by have h1 := (hal b e).2.lt; have h2 : w9.heap.size ≤ b := hb; omega) hr6), h6a, h6b⟩⟩
     try simp only [Act.put, sA, sZ, sS]
     obtain ⟨A6b, n6b, c6b, rfl⟩ := hVv6b
     refine Pz 3 (some 21) (.tuple #[.agg #[.slice A6b n6b c6b], .int .i64 (0)]) rfl rfl (by exact StepS.pure (WtB.pass (by decide) (by decide)) rfl fun _ => rfl) ?_
     try simp only [Act.put, sA, sZ, sS]
     refine Pz 4 (some 25) (.agg #[.slice A6b n6b c6b]) rfl rfl (by exact StepS.pure (WtB.pass (by decide) (by decide)) rfl fun _ => rfl) ?_
     try simp only [Act.put, sA, sZ, sS]
     refine Pz 5 (some 26) (.int .i64 (0)) rfl rfl (by exact StepS.pure (WtB.pass (by decide) (by decide)) rfl fun _ => rfl) ?_
     try simp only [Act.put, sA, sZ, sS]
     refine Pz 7 none undef rfl rfl ?ywg1_18 ?rwg1_18
     case ywg1_18 =>
      refine StepS.store [1, 2, 6] (by kernel_rfl) (by rfl) (fun L9 m9 w9 hSh hAt hDn hS => ?_)
      obtain ⟨g, hm, hB, hset⟩ := WtB.on9 (hAt 1 (by simp)).1 (hAt 2 (by simp)).1 (hAt 6 (by simp)).1 hDn hS
      obtain rfl : g8b = g := by have h9 : Value.pointer (some ⟨g8b, 0, none⟩) = .pointer (some ⟨g, 0, none⟩) := (hAt 6 (by simp)).2.symm.trans hm; simpa using h9
      obtain ⟨hT, hal, A, n, c, hv, hr, h7a, h7b⟩ := hB
      obtain ⟨rfl, rfl, rfl⟩ : A6b = A ∧ n6b = n ∧ c6b = c := by have h9 : (.tuple #[.agg #[.slice A6b n6b c6b], .int .i64 0] : Value) = .tuple #[.agg #[.slice A n c], .int .i64 0] := (hAt 2 (by simp)).2.symm.trans hv; simpa using h9
      refine (exec_store_blk (w := w9) 26 (.tmp 5) (.tmp 25) (by rfl) g8b 26 #[.slice none 0 0] #[.slice A6b n6b c6b] (by rfl) (by rfl) (hal g8b rfl).2 rfl treeI (by simp [Value.oneCell'])).imp fun w7 hx => ⟨hx.1, hset _ ⟨bl_gr hT hx.2.2 (hal g8b rfl).1, g8b, A6b, n6b, c6b, rfl, (hal g8b rfl).1, hv, hx.2.1, rd_grownH hr hx.2.2 (fun b hb e => hb (by rw [e])), h7a, h7b⟩⟩
     try simp only [Act.put]
     refine Pz 8 (some 6) (.int .i64 (0)) rfl rfl (by exact StepS.pure (WtB.pass (by decide) (by decide)) rfl fun _ => rfl) ?_
     try simp only [Act.put, sA, sZ, sS]
     refine Ps.done (by kernel_rfl) (fun wg1 hS => ?_) _
     obtain ⟨g, hm, hT, g1, A, n, c, hg1, _, hv, hbk, hr, h7a, h7b⟩ := WtB.fin (by rfl) (by rfl) hS
     clear hS
     injection hg1 with hg1
     subst hg1
     obtain rfl : g8b = g := by have h9 : Value.pointer (some ⟨g8b, 0, none⟩) = .pointer (some ⟨g, 0, none⟩) := hm; simpa using h9
     obtain ⟨rfl, rfl, rfl⟩ : A6b = A ∧ n6b = n ∧ c6b = c := by have h9 : (.tuple #[.agg #[.slice A6b n6b c6b], .int .i64 0] : Value) = .tuple #[.agg #[.slice A n c], .int .i64 0] := hv; simpa using h9
     refine ⟨g8b, A6b, n6b, c6b, ⟨.agg #[.slice A6a n6a c6a], .agg #[.slice A5b n5b c5b], .tuple #[.agg #[.slice A6b n6b c6b], .int .i64 0], .tuple #[.agg #[.slice A6b n6b c6b], .int .i64 0], .agg #[.slice A6b n6b c6b], .int .i64 0, ?_⟩, hT, hbk, rd_all hr, h7a, h7b⟩
     clear hT hbk hr h7a h7b hv hm
     rfl
   case bwg1_3_6 =>
    refine Turns.mk (i := 6) (d := some 5) rfl rfl (TurnS.value (V := fun v => ∃ g, v = .pointer (some ⟨g, 0, none⟩)) [] (by kernel_rfl) (by rfl) (fun L9 m9 w9 hSh hAt hDn hS => ?cwg1_20)) (fun v8b hVv8b => ?rwg1_20)
    case cwg1_20 =>
     refine ⟨.pointer (some ⟨w9.heap.size, 0, none⟩), w9.alloc (.cells #[.slice none 0 0] 26), ?_, ⟨_, rfl⟩, WtB.made hDn (post_no (post := [7]) hSh hDn (by kernel_rfl) 7 (by simp)) rfl (fun j hj hB => ?_) hS⟩
     · clear hS
       go_simp
     · obtain ⟨hT2, hB⟩ := hB
       refine ⟨bl_al hT2 _, ?_⟩
       have hnew : ∀ g, some w9.heap.size = some g → w1a.heap.size ≤ g ∧ Blk (w9.alloc (.cells #[.slice none 0 0] 26)) g 26 #[.slice none 0 0] := fun g e => by injection e with e; subst e; exact ⟨hT2.size, Blk.new w9 _ _⟩
       match j, hj, hB with
       | 0, _, _ => exact hnew
       | 1, _, ⟨_, A, n, c, hv, hr, h1, h2⟩ => exact ⟨hnew, A, n, c, (upd_ne (by decide)).trans hv, Lay.rd_below (Lay.rd_weak (fun b _ hl => fun e => by injection e with e; omega) hr) (bl_al (Below.refl _ _) _), h1, h2⟩
       | 2, _, ⟨_, A, n, c, hv, hr, h1, h2⟩ => exact ⟨hnew, A, n, c, (upd_ne (by decide)).trans hv, Lay.rd_below (Lay.rd_weak (fun b _ hl => fun e => by injection e with e; omega) hr) (bl_al (Below.refl _ _) _), h1, h2⟩
       | _ + 3, hj, _ => exact absurd hj (by omega)
    try simp only [Act.put, sA, sZ, sS]
    obtain ⟨g8b, rfl⟩ := hVv8b
    refine Ps.one (k := 1) (d := some 23) rfl rfl (by kernel_rfl) (TurnS.call (V := fun v => ∃ A n c, v = .agg #[.slice A n c]) ?fwg1_21 ?awg1_21 [] (by kernel_rfl) (by rfl) (fun w9 => ?hwg1_21) (fun L9 m9 w9 hSh hAt hDn hS => ?cwg1_21)) (fun v5b hVv5b => ?rwg1_21)
    case hwg1_21 => go_simp; refine ⟨?_, ?_⟩ <;> rfl
    case cwg1_21 =>
     obtain ⟨al, hB, hset⟩ := WtB.on2 hDn (post_no (post := [2]) hSh hDn (by kernel_rfl) 2 (by simp)) (post_no (post := [7]) hSh hDn (by kernel_rfl) 7 (by simp)) hS
     obtain ⟨hT, hal⟩ := hB
     refine (named_any 98 w9).mono ?_
     rintro e w6 ⟨A, n, c, rfl, hr6, h6a, h6b, q6⟩
     exact ⟨_, rfl, ⟨A, n, c, rfl⟩, hset _ _ ⟨bl_ca hT q6, fun g e => ⟨(hal g e).1, (hal g e).2.ca q6⟩, A, n, c, upd_same _ _ _, (Lay.rd_weak (fun b hb _ => fun e => by have h1 := (hal b e).2.lt; have h2 : w9.heap.size ≤ b := hb; omega) hr6), h6a, h6b⟩⟩
    try simp only [Act.put, sA, sZ, sS]
    obtain ⟨A5b, n5b, c5b, rfl⟩ := hVv5b
    refine Ps.one (k := 2) (d := some 24) rfl rfl (by kernel_rfl) (TurnS.call (V := fun v => ∃ A n c, v = .tuple #[.agg #[.slice A n c], .int .i64 0]) ?fwg1_22 ?awg1_22 [1] (by kernel_rfl) (by rfl) (fun w9 => ?hwg1_22) (fun L9 m9 w9 hSh hAt hDn hS => ?cwg1_22)) (fun v6b hVv6b => ?rwg1_22)
    case hwg1_22 => go_simp; refine ⟨?_, ?_⟩ <;> rfl
    case cwg1_22 =>
     obtain ⟨al, hB, hset⟩ := WtB.on3 (hAt 1 (by simp)).1 hDn (post_no (post := [7]) hSh hDn (by kernel_rfl) 7 (by simp)) hS
     obtain ⟨hT, hal, A, n, c, hv, hr5, h5a, h5b⟩ := hB
     obtain ⟨rfl, rfl, rfl⟩ : A5b = A ∧ n5b = n ∧ c5b = c := by have h9 : Value.agg #[.slice A5b n5b c5b] = .agg #[.slice A n c] := (hAt 1 (by simp)).2.symm.trans hv; simpa using h9
     have hcall := two_any AllB AllB 16 N2 (NA 98) A6a n6a c6a A5b n5b c5b w9 (rd_all (Lay.rd_below HRVa.out hT)) (by have h9 : n6a = 3 := (Lay.rd_len HRVa.out).symm; omega) HCVa.out.1 HCVa.out.2 (rd_all hr5) (by have h9 : n5b = 1 := (Lay.rd_len hr5).symm; omega) h5a h5b (HT3.out.below hT) (sm_of (by decide +kernel)) (sm_of (by decide +kernel))
     rw [w3E, w3R] at hcall
     refine hcall.mono ?_
     rintro e w6 ⟨A, n, c, rfl, hr6, h6a, h6b, q6⟩
     exact ⟨_, rfl, ⟨A, n, c, rfl⟩, hset _ _ ⟨bl_ca hT q6, fun g e => ⟨(hal g e).1, (hal g e).2.ca q6⟩, A, n, c, upd_same _ _ _, (Lay.rd_weak (fun b hb _ => fun e => by have h1 := (hal b e).2.lt; have h2 : w9.heap.size ≤ b := hb; omega) hr6), h6a, h6b⟩⟩
    try simp only [Act.put, sA, sZ, sS]
    obtain ⟨A6b, n6b, c6b, rfl⟩ := hVv6b
    refine Pz 3 (some 21) (.tuple #[.agg #[.slice A6b n6b c6b], .int .i64 (0)]) rfl rfl (by exact StepS.pure (WtB.pass (by decide) (by decide)) rfl fun _ => rfl) ?_
    try simp only [Act.put, sA, sZ, sS]
    refine Pz 4 (some 25) (.agg #[.slice A6b n6b c6b]) rfl rfl (by exact StepS.pure (WtB.pass (by decide) (by decide)) rfl fun _ => rfl) ?_
    try simp only [Act.put, sA, sZ, sS]
    refine Pz 5 (some 26) (.int .i64 (0)) rfl rfl (by exact StepS.pure (WtB.pass (by decide) (by decide)) rfl fun _ => rfl) ?_
    try simp only [Act.put, sA, sZ, sS]
    refine Pz 7 none undef rfl rfl ?ywg1_26 ?rwg1_26
    case ywg1_26 =>
     refine StepS.store [1, 2, 6] (by kernel_rfl) (by rfl) (fun L9 m9 w9 hSh hAt hDn hS => ?_)
     obtain ⟨g, hm, hB, hset⟩ := WtB.on9 (hAt 1 (by simp)).1 (hAt 2 (by simp)).1 (hAt 6 (by simp)).1 hDn hS
     obtain rfl : g8b = g := by have h9 : Value.pointer (some ⟨g8b, 0, none⟩) = .pointer (some ⟨g, 0, none⟩) := (hAt 6 (by simp)).2.symm.trans hm; simpa using h9
     obtain ⟨hT, hal, A, n, c, hv, hr, h7a, h7b⟩ := hB
     obtain ⟨rfl, rfl, rfl⟩ : A6b = A ∧ n6b = n ∧ c6b = c := by have h9 : (.tuple #[.agg #[.slice A6b n6b c6b], .int .i64 0] : Value) = .tuple #[.agg #[.slice A n c], .int .i64 0] := (hAt 2 (by simp)).2.symm.trans hv; simpa using h9
     refine (exec_store_blk (w := w9) 26 (.tmp 5) (.tmp 25) (by rfl) g8b 26 #[.slice none 0 0] #[.slice A6b n6b c6b] (by rfl) (by rfl) (hal g8b rfl).2 rfl treeI (by simp [Value.oneCell'])).imp fun w7 hx => ⟨hx.1, hset _ ⟨bl_gr hT hx.2.2 (hal g8b rfl).1, g8b, A6b, n6b, c6b, rfl, (hal g8b rfl).1, hv, hx.2.1, rd_grownH hr hx.2.2 (fun b hb e => hb (by rw [e])), h7a, h7b⟩⟩
    try simp only [Act.put]
    refine Pz 8 (some 6) (.int .i64 (0)) rfl rfl (by exact StepS.pure (WtB.pass (by decide) (by decide)) rfl fun _ => rfl) ?_
    try simp only [Act.put, sA, sZ, sS]
    refine Ps.done (by kernel_rfl) (fun wg1 hS => ?_) _
    obtain ⟨g, hm, hT, g1, A, n, c, hg1, _, hv, hbk, hr, h7a, h7b⟩ := WtB.fin (by rfl) (by rfl) hS
    clear hS
    injection hg1 with hg1
    subst hg1
    obtain rfl : g8b = g := by have h9 : Value.pointer (some ⟨g8b, 0, none⟩) = .pointer (some ⟨g, 0, none⟩) := hm; simpa using h9
    obtain ⟨rfl, rfl, rfl⟩ : A6b = A ∧ n6b = n ∧ c6b = c := by have h9 : (.tuple #[.agg #[.slice A6b n6b c6b], .int .i64 0] : Value) = .tuple #[.agg #[.slice A n c], .int .i64 0] := hv; simpa using h9
    refine ⟨g8b, A6b, n6b, c6b, ⟨.agg #[.slice A6a n6a c6a], .agg #[.slice A5b n5b c5b], .tuple #[.agg #[.slice A6b n6b c6b], .int .i64 0], .tuple #[.agg #[.slice A6b n6b c6b], .int .i64 0], .agg #[.slice A6b n6b c6b], .int .i64 0, ?_⟩, hT, hbk, rd_all hr, h7a, h7b⟩
    clear hT hbk hr h7a h7b hv hm
    rfl
  case kpswg1 =>
   intro a' w1b hF
   obtain ⟨g8b, A6b, n6b, c6b, ⟨v22, v23, v24, v21, v25, v26, rfl⟩, hT, hbk, hr, h7a, h7b⟩ := hF
   have HT1b := Lib.hid hT
   have HVb := Lib.hid hbk
   have HRVb := Lib.hid hr
   have HCVb := Lib.hid (And.intro h7a h7b)
   clear hT hbk hr h7a h7b
   simp only [Act.put, List.setIfInBounds_toArray, List.set_cons_zero, List.set_cons_succ]
   go_upto_region 4 with fail
   have HT4 := Lib.hid (HT3.out.below HT1b.out)
   have HQF := Lib.hid (bl_ca (bl_ca HQ2.out HT1a.out) HT1b.out)
   have x5 : w1b.cell? ⟨g8b, 0, none⟩ = some (.slice A6b n6b c6b) := HVb.out.cell 0
   have hn5 : n6b = 5 := (Lay.rd_len HRVb.out).symm
   have HPT := Lib.hid (printtree_any AllB N3 A6b n6b c6b w1b HRVb.out (by omega) HT4.out (sm_of (by decide +kernel)) rg3)
   rw [w3F, w3C] at HPT
   have HND := Lib.hid hn5
   clear hn5
   go_wp2_with fail
   refine HPT.out.mono ?_
   rintro e w5 ⟨rfl, q5⟩
   have HQG := Lib.hid (bl_ca HQF.out q5)
   have y5 : w5.cell? ⟨g8b, 0, none⟩ = some (.slice A6b n6b c6b) := (HVb.out.ca q5).cell 0
   have HDP := Lib.hid (depth_any AllB N3 A6b n6b c6b w5 (Lay.rd_below HRVb.out q5) (by have := HND.out; omega) (HT4.out.below q5) (sm_of (by decide +kernel)))
   rw [w3D] at HDP
   clear x5 q5 HPT
   go_wp2_with fail
   refine HDP.out.mono ?_
   rintro e w6 ⟨rfl, q6⟩
   have HQH := Lib.hid (bl_ca HQG.out q6)
   clear q6 y5
   go_wp2
   go_ret
   exact ⟨rfl, HQH.out⟩
end Go.Proofs.YtoaggmldekejoaaGreatDoor
/- Queries as data of three cells; data that no block of a query is a part of. Conditions: none. -/
namespace Go.Proofs.YtoaggmldekejoaaGreatDoor
open Go.RowKit
def LQC : Lay QC where
 size := 3
 rep := fun w F x cs => ∃ A0 n0 c0 A1 n1 c1, cs = [.slice A0 n0 c0, .slice A1 n1 c1, .int .i64 x.lim] ∧ (n0 ≤ c0 ∧ c0 ≤ 9223372036854775807 ∧ LQS.rd w F A0 n0 x.sels) ∧ (n1 ≤ c1 ∧ c1 ≤ 9223372036854775807 ∧ LQK.rd w F A1 n1 x.keys)
 len := fun h => by obtain ⟨A0, n0, c0, A1, n1, c1, rfl, _⟩ := h; rfl
 one := fun h u hu => by obtain ⟨A0, n0, c0, A1, n1, c1, rfl, _⟩ := h; simp at hu; rcases hu with rfl | rfl | rfl <;> rfl
 keep := fun hk h => by obtain ⟨A0, n0, c0, A1, n1, c1, e, ⟨a0, b0, h0⟩, ⟨a1, b1, h1⟩⟩ := h; exact ⟨A0, n0, c0, A1, n1, c1, e, ⟨a0, b0, Lay.rd_keep hk h0⟩, ⟨a1, b1, Lay.rd_keep hk h1⟩⟩
 weak := fun hk h => by obtain ⟨A0, n0, c0, A1, n1, c1, e, ⟨a0, b0, h0⟩, ⟨a1, b1, h1⟩⟩ := h; exact ⟨A0, n0, c0, A1, n1, c1, e, ⟨a0, b0, Lay.rd_weak hk h0⟩, ⟨a1, b1, Lay.rd_weak hk h1⟩⟩
theorem LQC_at {w : World} {F : Nat → Prop} {A : Option Addr} {n i : Nat} {xs : List QC} (h : LQC.rd w F A n xs) (hi : i < n) : ∃ ad x A0 n0 c0 A1 n1 c1, A = some ad ∧ xs[i]? = some x ∧ (w.cell? (ad.add (i * 3)) = some (.slice A0 n0 c0) ∧ w.cell? ⟨(ad.add (i * 3)).block, (ad.add (i * 3)).off + 1, none⟩ = some (.slice A1 n1 c1) ∧ w.cell? ⟨(ad.add (i * 3)).block, (ad.add (i * 3)).off + 2, none⟩ = some (.int .i64 x.lim)) ∧ (n0 ≤ c0 ∧ c0 ≤ 9223372036854775807) ∧ LQS.rd w F A0 n0 x.sels ∧ (n1 ≤ c1 ∧ c1 ≤ 9223372036854775807) ∧ LQK.rd w F A1 n1 x.keys := by
 obtain ⟨ad, x, cs, e, hx, _, _, ⟨A0, n0, c0, A1, n1, c1, rfl, ⟨a0, b0, h0⟩, ⟨a1, b1, h1⟩⟩, hc⟩ := Lay.rd_at h hi
 exact ⟨ad, x, A0, n0, c0, A1, n1, c1, e, hx, ⟨hc 0 _ rfl, (by rw [← addr_more _ _ 1 (by omega)]; exact hc 1 _ rfl), (by rw [← addr_more _ _ 2 (by omega)]; exact hc 2 _ rfl)⟩, ⟨a0, b0⟩, h0, ⟨a1, b1⟩, h1⟩
/-- the cells of a query -/
def isQ (V : Array Value) : Prop := ∃ a b c d e f k v, V = #[.slice a b c, .slice d e f, .int k v]
def Shuns {α : Type} (L : Lay α) : Prop := ∀ (w : World) (F : Nat → Prop) (x : α) (cs : List Value) (g : Nat) (t : TypeId) (V : Array Value), isQ V → Blk w g t V → L.rep w F x cs → L.rep w (fun k => F k ∧ k ≠ g) x cs ∧ ∀ (o : Nat), ¬ ∀ (j : Nat) (u : Value), cs[j]? = some u → V[o + j]? = some u
theorem reps_shun {α : Type} {L : Lay α} (h : Shuns L) {w : World} {F : Nat → Prop} {g : Nat} {t : TypeId} {V : Array Value} (hV : isQ V) (hB : Blk w g t V) : ∀ {xs : List α} {cs : List Value}, L.reps w F xs cs → L.reps w (fun k => F k ∧ k ≠ g) xs cs
 | [], _, hr => hr
 | _ :: l, _, hr => by
  obtain ⟨x, y, e, hx, hy⟩ := hr
  exact ⟨x, y, e, (h w F _ x g t V hV hB hx).1, reps_shun h hV hB hy⟩
theorem rd_shun {α : Type} {L : Lay α} (h : Shuns L) {w : World} {F : Nat → Prop} {g : Nat} {t : TypeId} {V : Array Value} (hV : isQ V) (hB : Blk w g t V) {A : Option Addr} {n : Nat} {xs : List α} (hr : L.rd w F A n xs) : L.rd w (fun k => F k ∧ k ≠ g) A n xs := by
 obtain ⟨hl, cs, hreps, hc⟩ := hr
 refine ⟨hl, cs, reps_shun h hV hB hreps, fun hn => ?_⟩
 obtain ⟨ad, e, hb, hF, hh⟩ := hc hn
 refine ⟨ad, e, hb, ⟨hF, fun he => ?_⟩, hh⟩
 cases xs with
 | nil => rw [List.length_nil] at hl; omega
 | cons x l =>
  obtain ⟨c0, c1, rfl, hx, _⟩ := hreps
  refine (h w F x c0 g t V hV hB hx).2 ad.off fun j u hu => ?_
  have h1 := hh j u (by rw [List.getElem?_append_left (List.getElem?_eq_some_iff.1 hu).1]; exact hu)
  unfold World.cell? at h1
  have hbk : (ad.add j).block = g := by unfold Addr.add; split <;> exact he
  have hof : (ad.add j).off = ad.off + j := by unfold Addr.add; split; omega; rfl
  rw [hbk, show w.heap[g]? = _ from hB] at h1
  simp only at h1
  split at h1
  · cases h1
  · rw [hof] at h1; exact h1
theorem isQ_get {V : Array Value} (hV : isQ V) (o : Nat) : (∃ a b c, V[o]? = some (.slice a b c) ∧ o < 2) ∨ (∃ k v, V[o]? = some (.int k v) ∧ o = 2) ∨ V[o]? = none := by
 obtain ⟨a, b, c, d, e, f, k, v, rfl⟩ := hV
 match o with
 | 0 => exact .inl ⟨_, _, _, rfl, by omega⟩
 | 1 => exact .inl ⟨_, _, _, rfl, by omega⟩
 | 2 => exact .inr (.inl ⟨_, _, rfl, rfl⟩)
 | _ + 3 => exact .inr (.inr (by simp))
theorem isQ_bool {V : Array Value} (hV : isQ V) (o : Nat) (z : Bool) : V[o]? ≠ some (.bool z) := by
 rcases isQ_get hV o with ⟨_, _, _, h, _⟩ | ⟨_, _, h, _⟩ | h <;> rw [h] <;> intro e <;> cases e
theorem isQ_str {V : Array Value} (hV : isQ V) (o : Nat) (z : ByteArray) : V[o]? ≠ some (.string z) := by
 rcases isQ_get hV o with ⟨_, _, _, h, _⟩ | ⟨_, _, h, _⟩ | h <;> rw [h] <;> intro e <;> cases e
theorem isQ_int {V : Array Value} (hV : isQ V) (o : Nat) (k l : IntKind) (z y : Int) (h1 : V[o]? = some (.int k z)) (h2 : V[o + 1]? = some (.int l y)) : False := by
 rcases isQ_get hV o with ⟨_, _, _, h, _⟩ | ⟨_, _, h, he⟩ | h
 · rw [h] at h1; cases h1
 · rcases isQ_get hV (o + 1) with ⟨_, _, _, h, h9⟩ | ⟨_, _, _, h9⟩ | h
   · omega
   · omega
   · rw [h] at h2; cases h2
 · rw [h] at h1; cases h1
theorem shun_LN : Shuns LN := fun w F x cs g t V hV hB hr => ⟨hr, fun o hc => by
 have hr' : cs = (Nd.cells x).toList := hr
 subst hr'
 exact isQ_int hV o _ _ _ _ (hc 0 _ rfl) (hc 1 _ rfl)⟩
theorem shun_LQI : Shuns LQI := fun w F x cs g t V hV hB hr => by
 obtain ⟨A0, n0, c0, rfl, ⟨a0, b0, h0⟩⟩ := hr
 exact ⟨⟨A0, n0, c0, rfl, a0, b0, rd_shun shun_LN hV hB h0⟩, fun o hc => isQ_str hV _ _ (hc 1 _ rfl)⟩
theorem shun_LQJ : Shuns LQJ := fun w F x cs g t V hV hB hr => by
 obtain ⟨A0, n0, c0, rfl, ⟨a0, b0, h0⟩⟩ := hr
 exact ⟨⟨A0, n0, c0, rfl, a0, b0, rd_shun shun_LN hV hB h0⟩, fun o hc => isQ_bool hV _ _ (hc 0 _ rfl)⟩
theorem shun_LQN : Shuns LQN := fun w F x cs g t V hV hB hr => ⟨hr, fun o hc => by
 have hr' : cs = _ := hr
 subst hr'
 exact isQ_str hV _ _ (hc 0 _ rfl)⟩
theorem shun_LQK : Shuns LQK := fun w F x cs g t V hV hB hr => ⟨hr, fun o hc => by
 have hr' : cs = _ := hr
 subst hr'
 exact isQ_str hV _ _ (hc 0 _ rfl)⟩
theorem shun_LQS : Shuns LQS := fun w F x cs g t V hV hB hr => by
 obtain ⟨A0, n0, c0, A1, n1, c1, A2, n2, c2, A3, n3, c3, A4, n4, c4, rfl, ⟨a0, b0, h0⟩, ⟨a1, b1, h1⟩, ⟨a2, b2, h2⟩, ⟨a3, b3, h3⟩, ⟨a4, b4, h4⟩⟩ := hr
 exact ⟨⟨A0, n0, c0, A1, n1, c1, A2, n2, c2, A3, n3, c3, A4, n4, c4, rfl, ⟨a0, b0, rd_shun shun_LQI hV hB h0⟩, ⟨a1, b1, rd_shun shun_LQJ hV hB h1⟩, ⟨a2, b2, rd_shun shun_LN hV hB h2⟩, ⟨a3, b3, rd_shun shun_LN hV hB h3⟩, ⟨a4, b4, rd_shun shun_LQN hV hB h4⟩⟩, fun o hc => isQ_bool hV _ _ (hc 0 _ rfl)⟩
/-- a query's parts lie elsewhere -/
theorem LQC_shun {w : World} {F : Nat → Prop} {x : QC} {cs : List Value} {g : Nat} {t : TypeId} {V : Array Value} (hV : isQ V) (hB : Blk w g t V) (hr : LQC.rep w F x cs) : LQC.rep w (fun k => F k ∧ k ≠ g) x cs := by
 obtain ⟨A0, n0, c0, A1, n1, c1, rfl, ⟨a0, b0, h0⟩, ⟨a1, b1, h1⟩⟩ := hr
 exact ⟨A0, n0, c0, A1, n1, c1, rfl, ⟨a0, b0, rd_shun shun_LQS hV hB h0⟩, ⟨a1, b1, rd_shun shun_LQK hV hB h1⟩⟩
abbrev zQ : Array Value := #[.slice none 0 0, .slice none 0 0, .int .i64 0]
theorem zQ_is : isQ zQ := ⟨_, _, _, _, _, _, _, _, rfl⟩
theorem LQC_size {w : World} {F : Nat → Prop} {x : QC} {V : Array Value} (h : LQC.rep w F x V.toList) : V.size = 3 := by
 have := LQC.len h
 rwa [Array.length_toList] at this
theorem LQC_one {w : World} {F : Nat → Prop} {x : QC} {V : Array Value} (h : LQC.rep w F x V.toList) : V.all (·.oneCell') = true := by
 rw [Array.all_eq_true']
 intro u hu
 exact LQC.one h u (by simpa using hu)
theorem LQC_grown {w w' : World} {F : Nat → Prop} {x : QC} {cs : List Value} {g : Nat} (h : LQC.rep w F x cs) (hg : w.grownBy w' (some g)) (hF : ∀ k, F k → k ≠ g) : LQC.rep w' F x cs := LQC.keep (fun b hb hl => hg.block b hl (fun e => hF b hb (by injection e))) h
end Go.Proofs.YtoaggmldekejoaaGreatDoor
