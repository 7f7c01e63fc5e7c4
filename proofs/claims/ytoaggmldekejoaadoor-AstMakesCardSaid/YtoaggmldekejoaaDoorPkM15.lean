/- The law's wakes. Conditions: what the tables hold. -/
import Derived.Test.YtoaggmldekejoaaDoorPkM14
namespace Go.Proofs.YtoaggmldekejoaaDoor
open Go.RowKit
set_option maxRecDepth 100000 in
theorem named_any (b : UInt8) (w : World) : Calls Tryd.prog 22 #[.string (bS [b])] w fun e w' => ∃ A n c, e = .returned (.agg #[.slice A n c]) ∧ LN.rd w' (fun k => w.heap.size ≤ k) A n (NA b) ∧ n ≤ c ∧ c ≤ 9223372036854775807 ∧ Below w.heap.size w w' := by
  have HQ1 := Lib.hid (bl_al (bl_al (Below.refl w.heap.size w) (.cells #[.slice (some ⟨w.heap.size + 1, 0, none⟩) 1 1] 30)) (.cells (Nd.cells ⟨pA b, -1, -1⟩) 27))
  have HB1 := Lib.hid ((Blk.new w 30 #[.slice (some ⟨w.heap.size + 1, 0, none⟩) 1 1]).alloc (.cells (Nd.cells ⟨pA b, -1, -1⟩) 27))
  have HB2 := Lib.hid (show Blk ((w.alloc (.cells #[.slice (some ⟨w.heap.size + 1, 0, none⟩) 1 1] 30)).alloc (.cells (Nd.cells ⟨pA b, -1, -1⟩) 27)) (w.heap.size + 1) 27 (Nd.cells ⟨pA b, -1, -1⟩) from by
    have := Blk.new (w.alloc (.cells #[.slice (some ⟨w.heap.size + 1, 0, none⟩) 1 1] 30)) 27 (Nd.cells ⟨pA b, -1, -1⟩)
    rwa [World.size_alloc] at this)
  go_enter Tryd.func22, Tryd.ntmps22
  go_wp2
  exact bodyPost_ret (res1 Tryd.results22 rfl HB1.out Tryd.underlying30 rfl treeI) rfl ⟨some ⟨w.heap.size + 1, 0, none⟩, 1, 1, rfl, Lay.rd_blk (L := LN) HB2.out rfl ⟨_, [], by simp, rfl, rfl⟩ (by omega), by omega, by omega, HQ1.out⟩
theorem w3F : prF N3 = bS [40, 97, 32, 43, 32, 49, 41, 32, 61, 32, 98] := by unfold prF; rw [w3T]; show bS (prT T3) = _; rw [w3P]
theorem w3C : chkE N3 = 0 := by unfold chkE; rw [w3O]; rfl
theorem rg3 : ∀ x ∈ N3, RgP x.p := fun x hx => by
  have h : N3.all (fun x => decide (x.p.n ≤ 9223372036854775807)) = true := by decide +kernel
  exact of_decide_eq_true (p := x.p.n ≤ 9223372036854775807) (List.all_eq_true.1 h x hx)
def WkB (k1 k2 : Nat) (R1 R2 : List Nd) (tr : TypeId) (W : World) : Option Nat → Nat → (Nat → Value) → World → Prop := fun al j m w' =>
  Below W.heap.size W w' ∧ match j with
  | 0 => ∀ g, al = some g → W.heap.size ≤ g ∧ Blk w' g tr #[.slice none 0 0]
  | 1 => (∀ g, al = some g → W.heap.size ≤ g ∧ Blk w' g tr #[.slice none 0 0]) ∧ ∃ A n c, m k1 = .agg #[.slice A n c] ∧ LN.rd w' (fun b => al ≠ some b) A n R1 ∧ n ≤ c ∧ c ≤ 9223372036854775807
  | 2 => (∀ g, al = some g → W.heap.size ≤ g ∧ Blk w' g tr #[.slice none 0 0]) ∧ ∃ A n c, m k2 = .tuple #[.agg #[.slice A n c], .int .i64 0] ∧ LN.rd w' (fun b => al ≠ some b) A n R2 ∧ n ≤ c ∧ c ≤ 9223372036854775807
  | _ => ∃ g A n c, al = some g ∧ W.heap.size ≤ g ∧ m k2 = .tuple #[.agg #[.slice A n c], .int .i64 0] ∧ Blk w' g tr #[.slice A n c] ∧ LN.rd w' (fun b => some g ≠ some b) A n R2 ∧ n ≤ c ∧ c ≤ 9223372036854775807
theorem sm_of {l : List Nd} (h : l.all (fun x => decide (x.p.s.size ≤ 100) && (decide (x.p.tb.size ≤ 100) && decide (x.p.nm.size ≤ 100))) = true) : ∀ x ∈ l, SmP x.p := fun x hx => by
  have := List.all_eq_true.1 h x hx
  simp only [Bool.and_eq_true, decide_eq_true_eq] at this
  exact ⟨by omega, by omega, by omega⟩
set_option maxRecDepth 100000 in
set_option maxHeartbeats 4000000 in
theorem wakes_any (w : World) (hT : Tab w) : Calls Tryd.prog 7 #[] w fun e w' => e = .returned (.bool true) ∧ Below w.heap.size w w' := by
  have HT := Lib.hid hT
  have HLF := Lib.hid (leaf_any p1 0 0 w hT ⟨by decide, by decide, by decide⟩)
  rw [w1E, w1R] at HLF
  clear hT
  go_enter Tryd.func7, Tryd.ntmps7
  go_wp2_with fail
  refine HLF.out.mono ?_
  intro e w1 hmk
  obtain ⟨A1, n1, c1, rfl, hr1, h1a, h1b, q1⟩ := hmk.rd
  clear hmk
  obtain rfl : n1 = 1 := (Lay.rd_len hr1).symm
  have HR1 := Lib.hid (Lay.rd_below (rd_all hr1) (bl_al (Below.refl w1.heap.size w1) (.cells #[.slice A1 1 c1] 30)))
  have HQ2 := Lib.hid (bl_al q1 (.cells #[.slice A1 1 c1] 30))
  have HV1 := Lib.hid (Blk.new w1 30 #[.slice A1 1 c1])
  have HL1 := Lib.hid (And.intro h1a h1b)
  clear hr1 q1 HLF h1a h1b
  go_upto_region 2 with fail
  generalize w1.alloc (.cells #[.slice A1 1 c1] 30) = w2 at *
  have HT2 := Lib.hid (HT.out.below HQ2.out)
  refine wp_region_psF (F := fun a1 a' w' => ∃ g8a A6a n6a c6a, (∃ v16 v17 v18 v15 v19 v20, a' = ((((((((a1.put (some 16) v16).put (some 17) v17).put (some 18) v18).put (some 15) v15).put (some 19) v19).put (some 20) v20).put (some 3) (.pointer (some ⟨g8a, 0, none⟩))).put (some 4) (.int .i64 0))) ∧ Below w2.heap.size w2 w' ∧ Blk w' g8a 30 #[.slice A6a n6a c6a] ∧ LN.rd w' AllB A6a n6a N2 ∧ n6a ≤ c6a ∧ c6a ≤ 9223372036854775807) (S := WtA (WkB 0 2 (NA 97) N2 30 w2)) (by kernel_rfl) ?spswg28 ?ppswg28 ?kpswg28
  case spswg28 =>
    exact WtA.start (by decide) ⟨(Below.refl w2.heap.size w2).drew, fun g e => by cases e⟩
  case ppswg28 =>
    refine Ps.st (i := 1) (d := some 17) (u := (.agg #[.slice A1 1 c1])) rfl rfl ?ywg28_29 ?rwg28_29
    case ywg28_29 =>
      refine StepS.read [] (by kernel_rfl) (WtA.pass (by decide) (by decide)) (by rfl) (fun L9 m9 w9 hSh hAt hDn hS => ?_)
      have hT : Below w2.heap.size w2 w9 := WtA.any (T := fun w9 => Below w2.heap.size w2 w9) (fun _ _ _ _ h => h.1) hS
      have x0 : w9.cell? ⟨w1.heap.size, 0, none⟩ = some (.slice A1 1 c1) := (HV1.out.ca hT).cell 0
      clear hT hS
      go_simp
      try rfl
    try simp only [Act.put, sA, sZ, sS]
    refine Ps.some2 (i := 0) (j := 6) (by kernel_rfl) ?bwg28_30_0 ?bwg28_30_6
    case bwg28_30_0 =>
      refine Turns.mk (i := 0) (d := some 16) rfl rfl (TurnS.call (V := fun v => ∃ A n c, v = .agg #[.slice A n c]) ?fwg28_31 ?awg28_31 [] (by kernel_rfl) (by rfl) (fun w9 => ?hwg28_31) (fun L9 m9 w9 hSh hAt hDn hS => ?cwg28_31)) (fun v5a hVv5a => ?rwg28_31)
      case hwg28_31 => go_simp; refine ⟨?_, ?_⟩ <;> rfl
      case cwg28_31 =>
        obtain ⟨al, hB, hset⟩ := WtA.on2 hDn (post_no (post := [2]) hSh hDn (by kernel_rfl) 2 (by simp)) (post_no (post := [7]) hSh hDn (by kernel_rfl) 7 (by simp)) hS
        obtain ⟨hT, hal⟩ := hB
        refine (named_any 97 w9).mono ?_
        rintro e w6 ⟨A, n, c, rfl, hr6, h6a, h6b, q6⟩
        exact ⟨_, rfl, ⟨A, n, c, rfl⟩, hset _ _ ⟨bl_ca hT q6, fun g e => ⟨(hal g e).1, (hal g e).2.ca q6⟩, A, n, c, upd_same _ _ _, (Lay.rd_weak (fun b hb _ => fun e => by have h1 := (hal b e).2.lt; have h2 : w9.heap.size ≤ b := hb; omega) hr6), h6a, h6b⟩⟩
      try simp only [Act.put, sA, sZ, sS]
      obtain ⟨A5a, n5a, c5a, rfl⟩ := hVv5a
      refine Ps.some2 (i := 2) (j := 6) (by kernel_rfl) ?bwg28_32_2 ?bwg28_32_6
      case bwg28_32_2 =>
        refine Turns.mk (i := 2) (d := some 18) rfl rfl (TurnS.call (V := fun v => ∃ A n c, v = .tuple #[.agg #[.slice A n c], .int .i64 0]) ?fwg28_33 ?awg28_33 [0] (by kernel_rfl) (by rfl) (fun w9 => ?hwg28_33) (fun L9 m9 w9 hSh hAt hDn hS => ?cwg28_33)) (fun v6a hVv6a => ?rwg28_33)
        case hwg28_33 => go_simp; refine ⟨?_, ?_⟩ <;> rfl
        case cwg28_33 =>
          obtain ⟨al, hB, hset⟩ := WtA.on3 (hAt 0 (by simp)).1 hDn (post_no (post := [7]) hSh hDn (by kernel_rfl) 7 (by simp)) hS
          obtain ⟨hT, hal, A, n, c, hv, hr5, h5a, h5b⟩ := hB
          obtain ⟨rfl, rfl, rfl⟩ : A5a = A ∧ n5a = n ∧ c5a = c := by have h9 : Value.agg #[.slice A5a n5a c5a] = .agg #[.slice A n c] := (hAt 0 (by simp)).2.symm.trans hv; simpa using h9
          have hcall := two_any AllB AllB 12 (NA 97) N1 A5a n5a c5a A1 1 c1 w9 (rd_all hr5) (by have h9 : n5a = 1 := (Lay.rd_len hr5).symm; omega) h5a h5b (rd_all (Lay.rd_below HR1.out hT)) (by have h9 : 1 = 1 := (Lay.rd_len HR1.out).symm; omega) HL1.out.1 HL1.out.2 (HT2.out.below hT) (sm_of (by decide +kernel)) (sm_of (by decide +kernel))
          rw [w2E, w2R] at hcall
          refine hcall.mono ?_
          intro e w6 hmk
          obtain ⟨A, n, c, rfl, hr6, h6a, h6b, q6⟩ := hmk.rd
          exact ⟨_, rfl, ⟨A, n, c, rfl⟩, hset _ _ ⟨bl_ca hT q6, fun g e => ⟨(hal g e).1, (hal g e).2.ca q6⟩, A, n, c, upd_same _ _ _, (Lay.rd_weak (fun b hb _ => fun e => by have h1 := (hal b e).2.lt; have h2 : w9.heap.size ≤ b := hb; omega) hr6), h6a, h6b⟩⟩
        try simp only [Act.put, sA, sZ, sS]
        obtain ⟨A6a, n6a, c6a, rfl⟩ := hVv6a
        refine Ps.st (i := 3) (d := some 15) (u := (.tuple #[.agg #[.slice A6a n6a c6a], .int .i64 (0)])) rfl rfl (by exact StepS.pure (WtA.pass (by decide) (by decide)) rfl fun _ => rfl) ?_
        try simp only [Act.put, sA, sZ, sS]
        refine Ps.st (i := 4) (d := some 19) (u := (.agg #[.slice A6a n6a c6a])) rfl rfl (by exact StepS.pure (WtA.pass (by decide) (by decide)) rfl fun _ => rfl) ?_
        try simp only [Act.put, sA, sZ, sS]
        refine Ps.st (i := 5) (d := some 20) (u := (.int .i64 (0))) rfl rfl (by exact StepS.pure (WtA.pass (by decide) (by decide)) rfl fun _ => rfl) ?_
        try simp only [Act.put, sA, sZ, sS]
        refine Ps.one (k := 6) (d := some 3) rfl rfl (by kernel_rfl) (TurnS.value (V := fun v => ∃ g, v = .pointer (some ⟨g, 0, none⟩)) [] (by kernel_rfl) (by rfl) (fun L9 m9 w9 hSh hAt hDn hS => ?cwg28_37)) (fun v8a hVv8a => ?rwg28_37)
        case cwg28_37 =>
          refine ⟨.pointer (some ⟨w9.heap.size, 0, none⟩), w9.alloc (.cells #[.slice none 0 0] 30), ?_, ⟨_, rfl⟩, WtA.made hDn (post_no (post := [7]) hSh hDn (by kernel_rfl) 7 (by simp)) rfl (fun j hj hB => ?_) hS⟩
          · clear hS
            go_simp
          · obtain ⟨hT2, hB⟩ := hB
            refine ⟨bl_al hT2 _, ?_⟩
            have hnew : ∀ g, some w9.heap.size = some g → w2.heap.size ≤ g ∧ Blk (w9.alloc (.cells #[.slice none 0 0] 30)) g 30 #[.slice none 0 0] := fun g e => by injection e with e; subst e; exact ⟨hT2.size, Blk.new w9 _ _⟩
            match j, hj, hB with
            | 0, _, _ => exact hnew
            | 1, _, ⟨_, A, n, c, hv, hr, h1, h2⟩ => exact ⟨hnew, A, n, c, (upd_ne (by decide)).trans hv, Lay.rd_below (Lay.rd_weak (fun b _ hl => fun e => by injection e with e; omega) hr) (bl_al (Below.refl _ _) _), h1, h2⟩
            | 2, _, ⟨_, A, n, c, hv, hr, h1, h2⟩ => exact ⟨hnew, A, n, c, (upd_ne (by decide)).trans hv, Lay.rd_below (Lay.rd_weak (fun b _ hl => fun e => by injection e with e; omega) hr) (bl_al (Below.refl _ _) _), h1, h2⟩
            | _ + 3, hj, _ => exact absurd hj (by omega)
        try simp only [Act.put, sA, sZ, sS]
        obtain ⟨g8a, rfl⟩ := hVv8a
        refine Ps.st (i := 7) (d := none) (u := undef) rfl rfl ?ywg28_38 ?rwg28_38
        case ywg28_38 =>
          refine StepS.store [0, 2, 6] (by kernel_rfl) (by rfl) (fun L9 m9 w9 hSh hAt hDn hS => ?_)
          obtain ⟨g, hm, hB, hset⟩ := WtA.on9 (hAt 0 (by simp)).1 (hAt 2 (by simp)).1 (hAt 6 (by simp)).1 hDn hS
          obtain rfl : g8a = g := by have h9 : Value.pointer (some ⟨g8a, 0, none⟩) = .pointer (some ⟨g, 0, none⟩) := (hAt 6 (by simp)).2.symm.trans hm; simpa using h9
          obtain ⟨hT, hal, A, n, c, hv, hr, h7a, h7b⟩ := hB
          obtain ⟨rfl, rfl, rfl⟩ : A6a = A ∧ n6a = n ∧ c6a = c := by have h9 : (.tuple #[.agg #[.slice A6a n6a c6a], .int .i64 0] : Value) = .tuple #[.agg #[.slice A n c], .int .i64 0] := (hAt 2 (by simp)).2.symm.trans hv; simpa using h9
          refine (exec_store_blk (w := w9) 30 (.tmp 3) (.tmp 19) (by rfl) g8a 30 #[.slice none 0 0] #[.slice A6a n6a c6a] (by rfl) (by rfl) (hal g8a rfl).2 rfl treeI (by simp [Value.oneCell'])).imp fun w7 hx => ⟨hx.1, hset _ ⟨bl_gr hT hx.2.2 (hal g8a rfl).1, g8a, A6a, n6a, c6a, rfl, (hal g8a rfl).1, hv, hx.2.1, rd_grownH hr hx.2.2 (fun b hb e => hb (by rw [e])), h7a, h7b⟩⟩
        try simp only [Act.put]
        refine Ps.st (i := 8) (d := some 4) (u := (.int .i64 (0))) rfl rfl (by exact StepS.pure (WtA.pass (by decide) (by decide)) rfl fun _ => rfl) ?_
        try simp only [Act.put, sA, sZ, sS]
        refine Ps.done (by kernel_rfl) (fun wg28 hS => ?_) _
        obtain ⟨g, hm, hT, g1, A, n, c, hg1, _, hv, hbk, hr, h7a, h7b⟩ := WtA.fin (by rfl) (by rfl) hS
        clear hS
        injection hg1 with hg1
        subst hg1
        obtain rfl : g8a = g := by have h9 : Value.pointer (some ⟨g8a, 0, none⟩) = .pointer (some ⟨g, 0, none⟩) := hm; simpa using h9
        obtain ⟨rfl, rfl, rfl⟩ : A6a = A ∧ n6a = n ∧ c6a = c := by have h9 : (.tuple #[.agg #[.slice A6a n6a c6a], .int .i64 0] : Value) = .tuple #[.agg #[.slice A n c], .int .i64 0] := hv; simpa using h9
        refine ⟨g8a, A6a, n6a, c6a, ⟨.agg #[.slice A5a n5a c5a], .agg #[.slice A1 1 c1], .tuple #[.agg #[.slice A6a n6a c6a], .int .i64 0], .tuple #[.agg #[.slice A6a n6a c6a], .int .i64 0], .agg #[.slice A6a n6a c6a], .int .i64 0, ?_⟩, hT, hbk, rd_all hr, h7a, h7b⟩
        clear hT hbk hr h7a h7b hv hm
        rfl
      case bwg28_32_6 =>
        refine Turns.mk (i := 6) (d := some 3) rfl rfl (TurnS.value (V := fun v => ∃ g, v = .pointer (some ⟨g, 0, none⟩)) [] (by kernel_rfl) (by rfl) (fun L9 m9 w9 hSh hAt hDn hS => ?cwg28_40)) (fun v8a hVv8a => ?rwg28_40)
        case cwg28_40 =>
          refine ⟨.pointer (some ⟨w9.heap.size, 0, none⟩), w9.alloc (.cells #[.slice none 0 0] 30), ?_, ⟨_, rfl⟩, WtA.made hDn (post_no (post := [7]) hSh hDn (by kernel_rfl) 7 (by simp)) rfl (fun j hj hB => ?_) hS⟩
          · clear hS
            go_simp
          · obtain ⟨hT2, hB⟩ := hB
            refine ⟨bl_al hT2 _, ?_⟩
            have hnew : ∀ g, some w9.heap.size = some g → w2.heap.size ≤ g ∧ Blk (w9.alloc (.cells #[.slice none 0 0] 30)) g 30 #[.slice none 0 0] := fun g e => by injection e with e; subst e; exact ⟨hT2.size, Blk.new w9 _ _⟩
            match j, hj, hB with
            | 0, _, _ => exact hnew
            | 1, _, ⟨_, A, n, c, hv, hr, h1, h2⟩ => exact ⟨hnew, A, n, c, (upd_ne (by decide)).trans hv, Lay.rd_below (Lay.rd_weak (fun b _ hl => fun e => by injection e with e; omega) hr) (bl_al (Below.refl _ _) _), h1, h2⟩
            | 2, _, ⟨_, A, n, c, hv, hr, h1, h2⟩ => exact ⟨hnew, A, n, c, (upd_ne (by decide)).trans hv, Lay.rd_below (Lay.rd_weak (fun b _ hl => fun e => by injection e with e; omega) hr) (bl_al (Below.refl _ _) _), h1, h2⟩
            | _ + 3, hj, _ => exact absurd hj (by omega)
        try simp only [Act.put, sA, sZ, sS]
        obtain ⟨g8a, rfl⟩ := hVv8a
        refine Ps.one (k := 2) (d := some 18) rfl rfl (by kernel_rfl) (TurnS.call (V := fun v => ∃ A n c, v = .tuple #[.agg #[.slice A n c], .int .i64 0]) ?fwg28_41 ?awg28_41 [0] (by kernel_rfl) (by rfl) (fun w9 => ?hwg28_41) (fun L9 m9 w9 hSh hAt hDn hS => ?cwg28_41)) (fun v6a hVv6a => ?rwg28_41)
        case hwg28_41 => go_simp; refine ⟨?_, ?_⟩ <;> rfl
        case cwg28_41 =>
          obtain ⟨al, hB, hset⟩ := WtA.on3 (hAt 0 (by simp)).1 hDn (post_no (post := [7]) hSh hDn (by kernel_rfl) 7 (by simp)) hS
          obtain ⟨hT, hal, A, n, c, hv, hr5, h5a, h5b⟩ := hB
          obtain ⟨rfl, rfl, rfl⟩ : A5a = A ∧ n5a = n ∧ c5a = c := by have h9 : Value.agg #[.slice A5a n5a c5a] = .agg #[.slice A n c] := (hAt 0 (by simp)).2.symm.trans hv; simpa using h9
          have hcall := two_any AllB AllB 12 (NA 97) N1 A5a n5a c5a A1 1 c1 w9 (rd_all hr5) (by have h9 : n5a = 1 := (Lay.rd_len hr5).symm; omega) h5a h5b (rd_all (Lay.rd_below HR1.out hT)) (by have h9 : 1 = 1 := (Lay.rd_len HR1.out).symm; omega) HL1.out.1 HL1.out.2 (HT2.out.below hT) (sm_of (by decide +kernel)) (sm_of (by decide +kernel))
          rw [w2E, w2R] at hcall
          refine hcall.mono ?_
          intro e w6 hmk
          obtain ⟨A, n, c, rfl, hr6, h6a, h6b, q6⟩ := hmk.rd
          exact ⟨_, rfl, ⟨A, n, c, rfl⟩, hset _ _ ⟨bl_ca hT q6, fun g e => ⟨(hal g e).1, (hal g e).2.ca q6⟩, A, n, c, upd_same _ _ _, (Lay.rd_weak (fun b hb _ => fun e => by have h1 := (hal b e).2.lt; have h2 : w9.heap.size ≤ b := hb; omega) hr6), h6a, h6b⟩⟩
        try simp only [Act.put, sA, sZ, sS]
        obtain ⟨A6a, n6a, c6a, rfl⟩ := hVv6a
        refine Ps.st (i := 3) (d := some 15) (u := (.tuple #[.agg #[.slice A6a n6a c6a], .int .i64 (0)])) rfl rfl (by exact StepS.pure (WtA.pass (by decide) (by decide)) rfl fun _ => rfl) ?_
        try simp only [Act.put, sA, sZ, sS]
        refine Ps.st (i := 4) (d := some 19) (u := (.agg #[.slice A6a n6a c6a])) rfl rfl (by exact StepS.pure (WtA.pass (by decide) (by decide)) rfl fun _ => rfl) ?_
        try simp only [Act.put, sA, sZ, sS]
        refine Ps.st (i := 5) (d := some 20) (u := (.int .i64 (0))) rfl rfl (by exact StepS.pure (WtA.pass (by decide) (by decide)) rfl fun _ => rfl) ?_
        try simp only [Act.put, sA, sZ, sS]
        refine Ps.st (i := 7) (d := none) (u := undef) rfl rfl ?ywg28_45 ?rwg28_45
        case ywg28_45 =>
          refine StepS.store [0, 2, 6] (by kernel_rfl) (by rfl) (fun L9 m9 w9 hSh hAt hDn hS => ?_)
          obtain ⟨g, hm, hB, hset⟩ := WtA.on9 (hAt 0 (by simp)).1 (hAt 2 (by simp)).1 (hAt 6 (by simp)).1 hDn hS
          obtain rfl : g8a = g := by have h9 : Value.pointer (some ⟨g8a, 0, none⟩) = .pointer (some ⟨g, 0, none⟩) := (hAt 6 (by simp)).2.symm.trans hm; simpa using h9
          obtain ⟨hT, hal, A, n, c, hv, hr, h7a, h7b⟩ := hB
          obtain ⟨rfl, rfl, rfl⟩ : A6a = A ∧ n6a = n ∧ c6a = c := by have h9 : (.tuple #[.agg #[.slice A6a n6a c6a], .int .i64 0] : Value) = .tuple #[.agg #[.slice A n c], .int .i64 0] := (hAt 2 (by simp)).2.symm.trans hv; simpa using h9
          refine (exec_store_blk (w := w9) 30 (.tmp 3) (.tmp 19) (by rfl) g8a 30 #[.slice none 0 0] #[.slice A6a n6a c6a] (by rfl) (by rfl) (hal g8a rfl).2 rfl treeI (by simp [Value.oneCell'])).imp fun w7 hx => ⟨hx.1, hset _ ⟨bl_gr hT hx.2.2 (hal g8a rfl).1, g8a, A6a, n6a, c6a, rfl, (hal g8a rfl).1, hv, hx.2.1, rd_grownH hr hx.2.2 (fun b hb e => hb (by rw [e])), h7a, h7b⟩⟩
        try simp only [Act.put]
        refine Ps.st (i := 8) (d := some 4) (u := (.int .i64 (0))) rfl rfl (by exact StepS.pure (WtA.pass (by decide) (by decide)) rfl fun _ => rfl) ?_
        try simp only [Act.put, sA, sZ, sS]
        refine Ps.done (by kernel_rfl) (fun wg28 hS => ?_) _
        obtain ⟨g, hm, hT, g1, A, n, c, hg1, _, hv, hbk, hr, h7a, h7b⟩ := WtA.fin (by rfl) (by rfl) hS
        clear hS
        injection hg1 with hg1
        subst hg1
        obtain rfl : g8a = g := by have h9 : Value.pointer (some ⟨g8a, 0, none⟩) = .pointer (some ⟨g, 0, none⟩) := hm; simpa using h9
        obtain ⟨rfl, rfl, rfl⟩ : A6a = A ∧ n6a = n ∧ c6a = c := by have h9 : (.tuple #[.agg #[.slice A6a n6a c6a], .int .i64 0] : Value) = .tuple #[.agg #[.slice A n c], .int .i64 0] := hv; simpa using h9
        refine ⟨g8a, A6a, n6a, c6a, ⟨.agg #[.slice A5a n5a c5a], .agg #[.slice A1 1 c1], .tuple #[.agg #[.slice A6a n6a c6a], .int .i64 0], .tuple #[.agg #[.slice A6a n6a c6a], .int .i64 0], .agg #[.slice A6a n6a c6a], .int .i64 0, ?_⟩, hT, hbk, rd_all hr, h7a, h7b⟩
        clear hT hbk hr h7a h7b hv hm
        rfl
    case bwg28_30_6 =>
      refine Turns.mk (i := 6) (d := some 3) rfl rfl (TurnS.value (V := fun v => ∃ g, v = .pointer (some ⟨g, 0, none⟩)) [] (by kernel_rfl) (by rfl) (fun L9 m9 w9 hSh hAt hDn hS => ?cwg28_47)) (fun v8a hVv8a => ?rwg28_47)
      case cwg28_47 =>
        refine ⟨.pointer (some ⟨w9.heap.size, 0, none⟩), w9.alloc (.cells #[.slice none 0 0] 30), ?_, ⟨_, rfl⟩, WtA.made hDn (post_no (post := [7]) hSh hDn (by kernel_rfl) 7 (by simp)) rfl (fun j hj hB => ?_) hS⟩
        · clear hS
          go_simp
        · obtain ⟨hT2, hB⟩ := hB
          refine ⟨bl_al hT2 _, ?_⟩
          have hnew : ∀ g, some w9.heap.size = some g → w2.heap.size ≤ g ∧ Blk (w9.alloc (.cells #[.slice none 0 0] 30)) g 30 #[.slice none 0 0] := fun g e => by injection e with e; subst e; exact ⟨hT2.size, Blk.new w9 _ _⟩
          match j, hj, hB with
          | 0, _, _ => exact hnew
          | 1, _, ⟨_, A, n, c, hv, hr, h1, h2⟩ => exact ⟨hnew, A, n, c, (upd_ne (by decide)).trans hv, Lay.rd_below (Lay.rd_weak (fun b _ hl => fun e => by injection e with e; omega) hr) (bl_al (Below.refl _ _) _), h1, h2⟩
          | 2, _, ⟨_, A, n, c, hv, hr, h1, h2⟩ => exact ⟨hnew, A, n, c, (upd_ne (by decide)).trans hv, Lay.rd_below (Lay.rd_weak (fun b _ hl => fun e => by injection e with e; omega) hr) (bl_al (Below.refl _ _) _), h1, h2⟩
          | _ + 3, hj, _ => exact absurd hj (by omega)
      try simp only [Act.put, sA, sZ, sS]
      obtain ⟨g8a, rfl⟩ := hVv8a
      refine Ps.one (k := 0) (d := some 16) rfl rfl (by kernel_rfl) (TurnS.call (V := fun v => ∃ A n c, v = .agg #[.slice A n c]) ?fwg28_48 ?awg28_48 [] (by kernel_rfl) (by rfl) (fun w9 => ?hwg28_48) (fun L9 m9 w9 hSh hAt hDn hS => ?cwg28_48)) (fun v5a hVv5a => ?rwg28_48)
      case hwg28_48 => go_simp; refine ⟨?_, ?_⟩ <;> rfl
      case cwg28_48 =>
        obtain ⟨al, hB, hset⟩ := WtA.on2 hDn (post_no (post := [2]) hSh hDn (by kernel_rfl) 2 (by simp)) (post_no (post := [7]) hSh hDn (by kernel_rfl) 7 (by simp)) hS
        obtain ⟨hT, hal⟩ := hB
        refine (named_any 97 w9).mono ?_
        rintro e w6 ⟨A, n, c, rfl, hr6, h6a, h6b, q6⟩
        exact ⟨_, rfl, ⟨A, n, c, rfl⟩, hset _ _ ⟨bl_ca hT q6, fun g e => ⟨(hal g e).1, (hal g e).2.ca q6⟩, A, n, c, upd_same _ _ _, (Lay.rd_weak (fun b hb _ => fun e => by have h1 := (hal b e).2.lt; have h2 : w9.heap.size ≤ b := hb; omega) hr6), h6a, h6b⟩⟩
      try simp only [Act.put, sA, sZ, sS]
      obtain ⟨A5a, n5a, c5a, rfl⟩ := hVv5a
      refine Ps.one (k := 2) (d := some 18) rfl rfl (by kernel_rfl) (TurnS.call (V := fun v => ∃ A n c, v = .tuple #[.agg #[.slice A n c], .int .i64 0]) ?fwg28_49 ?awg28_49 [0] (by kernel_rfl) (by rfl) (fun w9 => ?hwg28_49) (fun L9 m9 w9 hSh hAt hDn hS => ?cwg28_49)) (fun v6a hVv6a => ?rwg28_49)
      case hwg28_49 => go_simp; refine ⟨?_, ?_⟩ <;> rfl
      case cwg28_49 =>
        obtain ⟨al, hB, hset⟩ := WtA.on3 (hAt 0 (by simp)).1 hDn (post_no (post := [7]) hSh hDn (by kernel_rfl) 7 (by simp)) hS
        obtain ⟨hT, hal, A, n, c, hv, hr5, h5a, h5b⟩ := hB
        obtain ⟨rfl, rfl, rfl⟩ : A5a = A ∧ n5a = n ∧ c5a = c := by have h9 : Value.agg #[.slice A5a n5a c5a] = .agg #[.slice A n c] := (hAt 0 (by simp)).2.symm.trans hv; simpa using h9
        have hcall := two_any AllB AllB 12 (NA 97) N1 A5a n5a c5a A1 1 c1 w9 (rd_all hr5) (by have h9 : n5a = 1 := (Lay.rd_len hr5).symm; omega) h5a h5b (rd_all (Lay.rd_below HR1.out hT)) (by have h9 : 1 = 1 := (Lay.rd_len HR1.out).symm; omega) HL1.out.1 HL1.out.2 (HT2.out.below hT) (sm_of (by decide +kernel)) (sm_of (by decide +kernel))
        rw [w2E, w2R] at hcall
        refine hcall.mono ?_
        intro e w6 hmk
        obtain ⟨A, n, c, rfl, hr6, h6a, h6b, q6⟩ := hmk.rd
        exact ⟨_, rfl, ⟨A, n, c, rfl⟩, hset _ _ ⟨bl_ca hT q6, fun g e => ⟨(hal g e).1, (hal g e).2.ca q6⟩, A, n, c, upd_same _ _ _, (Lay.rd_weak (fun b hb _ => fun e => by have h1 := (hal b e).2.lt; have h2 : w9.heap.size ≤ b := hb; omega) hr6), h6a, h6b⟩⟩
      try simp only [Act.put, sA, sZ, sS]
      obtain ⟨A6a, n6a, c6a, rfl⟩ := hVv6a
      refine Ps.st (i := 3) (d := some 15) (u := (.tuple #[.agg #[.slice A6a n6a c6a], .int .i64 (0)])) rfl rfl (by exact StepS.pure (WtA.pass (by decide) (by decide)) rfl fun _ => rfl) ?_
      try simp only [Act.put, sA, sZ, sS]
      refine Ps.st (i := 4) (d := some 19) (u := (.agg #[.slice A6a n6a c6a])) rfl rfl (by exact StepS.pure (WtA.pass (by decide) (by decide)) rfl fun _ => rfl) ?_
      try simp only [Act.put, sA, sZ, sS]
      refine Ps.st (i := 5) (d := some 20) (u := (.int .i64 (0))) rfl rfl (by exact StepS.pure (WtA.pass (by decide) (by decide)) rfl fun _ => rfl) ?_
      try simp only [Act.put, sA, sZ, sS]
      refine Ps.st (i := 7) (d := none) (u := undef) rfl rfl ?ywg28_53 ?rwg28_53
      case ywg28_53 =>
        refine StepS.store [0, 2, 6] (by kernel_rfl) (by rfl) (fun L9 m9 w9 hSh hAt hDn hS => ?_)
        obtain ⟨g, hm, hB, hset⟩ := WtA.on9 (hAt 0 (by simp)).1 (hAt 2 (by simp)).1 (hAt 6 (by simp)).1 hDn hS
        obtain rfl : g8a = g := by have h9 : Value.pointer (some ⟨g8a, 0, none⟩) = .pointer (some ⟨g, 0, none⟩) := (hAt 6 (by simp)).2.symm.trans hm; simpa using h9
        obtain ⟨hT, hal, A, n, c, hv, hr, h7a, h7b⟩ := hB
        obtain ⟨rfl, rfl, rfl⟩ : A6a = A ∧ n6a = n ∧ c6a = c := by have h9 : (.tuple #[.agg #[.slice A6a n6a c6a], .int .i64 0] : Value) = .tuple #[.agg #[.slice A n c], .int .i64 0] := (hAt 2 (by simp)).2.symm.trans hv; simpa using h9
        refine (exec_store_blk (w := w9) 30 (.tmp 3) (.tmp 19) (by rfl) g8a 30 #[.slice none 0 0] #[.slice A6a n6a c6a] (by rfl) (by rfl) (hal g8a rfl).2 rfl treeI (by simp [Value.oneCell'])).imp fun w7 hx => ⟨hx.1, hset _ ⟨bl_gr hT hx.2.2 (hal g8a rfl).1, g8a, A6a, n6a, c6a, rfl, (hal g8a rfl).1, hv, hx.2.1, rd_grownH hr hx.2.2 (fun b hb e => hb (by rw [e])), h7a, h7b⟩⟩
      try simp only [Act.put]
      refine Ps.st (i := 8) (d := some 4) (u := (.int .i64 (0))) rfl rfl (by exact StepS.pure (WtA.pass (by decide) (by decide)) rfl fun _ => rfl) ?_
      try simp only [Act.put, sA, sZ, sS]
      refine Ps.done (by kernel_rfl) (fun wg28 hS => ?_) _
      obtain ⟨g, hm, hT, g1, A, n, c, hg1, _, hv, hbk, hr, h7a, h7b⟩ := WtA.fin (by rfl) (by rfl) hS
      clear hS
      injection hg1 with hg1
      subst hg1
      obtain rfl : g8a = g := by have h9 : Value.pointer (some ⟨g8a, 0, none⟩) = .pointer (some ⟨g, 0, none⟩) := hm; simpa using h9
      obtain ⟨rfl, rfl, rfl⟩ : A6a = A ∧ n6a = n ∧ c6a = c := by have h9 : (.tuple #[.agg #[.slice A6a n6a c6a], .int .i64 0] : Value) = .tuple #[.agg #[.slice A n c], .int .i64 0] := hv; simpa using h9
      refine ⟨g8a, A6a, n6a, c6a, ⟨.agg #[.slice A5a n5a c5a], .agg #[.slice A1 1 c1], .tuple #[.agg #[.slice A6a n6a c6a], .int .i64 0], .tuple #[.agg #[.slice A6a n6a c6a], .int .i64 0], .agg #[.slice A6a n6a c6a], .int .i64 0, ?_⟩, hT, hbk, rd_all hr, h7a, h7b⟩
      clear hT hbk hr h7a h7b hv hm
      rfl
  case kpswg28 =>
    intro a' w1a hF
    obtain ⟨g8a, A6a, n6a, c6a, ⟨v16, v17, v18, v15, v19, v20, rfl⟩, hT, hbk, hr, h7a, h7b⟩ := hF
    have HT1a := Lib.hid hT
    have HVa := Lib.hid hbk
    have HRVa := Lib.hid hr
    have HCVa := Lib.hid (And.intro h7a h7b)
    clear hT hbk hr h7a h7b
    simp only [Act.put, List.setIfInBounds_toArray, List.set_cons_zero, List.set_cons_succ]
    have HT3 := Lib.hid (HT2.out.below HT1a.out)
    go_upto_region 3 with fail
    refine wp_region_psF (F := fun a1 a' w' => ∃ g8b A6b n6b c6b, (∃ v22 v23 v24 v21 v25 v26, a' = ((((((((a1.put (some 22) v22).put (some 23) v23).put (some 24) v24).put (some 21) v21).put (some 25) v25).put (some 26) v26).put (some 5) (.pointer (some ⟨g8b, 0, none⟩))).put (some 6) (.int .i64 0))) ∧ Below w1a.heap.size w1a w' ∧ Blk w' g8b 30 #[.slice A6b n6b c6b] ∧ LN.rd w' AllB A6b n6b N3 ∧ n6b ≤ c6b ∧ c6b ≤ 9223372036854775807) (S := WtB (WkB 1 2 (NA 98) N3 30 w1a)) (by kernel_rfl) ?spswg1 ?ppswg1 ?kpswg1
    case spswg1 =>
      exact WtB.start (by decide) ⟨(Below.refl w1a.heap.size w1a).drew, fun g e => by cases e⟩
    case ppswg1 =>
      refine Ps.st (i := 0) (d := some 22) (u := (.agg #[.slice A6a n6a c6a])) rfl rfl ?ywg1_2 ?rwg1_2
      case ywg1_2 =>
        refine StepS.read [] (by kernel_rfl) (WtB.pass (by decide) (by decide)) (by rfl) (fun L9 m9 w9 hSh hAt hDn hS => ?_)
        have hT : Below w1a.heap.size w1a w9 := WtB.any (T := fun w9 => Below w1a.heap.size w1a w9) (fun _ _ _ _ h => h.1) hS
        have x0 : w9.cell? ⟨g8a, 0, none⟩ = some (.slice A6a n6a c6a) := (HVa.out.ca hT).cell 0
        clear hT hS
        go_simp
        try rfl
      try simp only [Act.put, sA, sZ, sS]
      refine Ps.some2 (i := 1) (j := 6) (by kernel_rfl) ?bwg1_3_1 ?bwg1_3_6
      case bwg1_3_1 =>
        refine Turns.mk (i := 1) (d := some 23) rfl rfl (TurnS.call (V := fun v => ∃ A n c, v = .agg #[.slice A n c]) ?fwg1_4 ?awg1_4 [] (by kernel_rfl) (by rfl) (fun w9 => ?hwg1_4) (fun L9 m9 w9 hSh hAt hDn hS => ?cwg1_4)) (fun v5b hVv5b => ?rwg1_4)
        case hwg1_4 => go_simp; refine ⟨?_, ?_⟩ <;> rfl
        case cwg1_4 =>
          obtain ⟨al, hB, hset⟩ := WtB.on2 hDn (post_no (post := [2]) hSh hDn (by kernel_rfl) 2 (by simp)) (post_no (post := [7]) hSh hDn (by kernel_rfl) 7 (by simp)) hS
          obtain ⟨hT, hal⟩ := hB
          refine (named_any 98 w9).mono ?_
          rintro e w6 ⟨A, n, c, rfl, hr6, h6a, h6b, q6⟩
          exact ⟨_, rfl, ⟨A, n, c, rfl⟩, hset _ _ ⟨bl_ca hT q6, fun g e => ⟨(hal g e).1, (hal g e).2.ca q6⟩, A, n, c, upd_same _ _ _, (Lay.rd_weak (fun b hb _ => fun e => by have h1 := (hal b e).2.lt; have h2 : w9.heap.size ≤ b := hb; omega) hr6), h6a, h6b⟩⟩
        try simp only [Act.put, sA, sZ, sS]
        obtain ⟨A5b, n5b, c5b, rfl⟩ := hVv5b
        refine Ps.some2 (i := 2) (j := 6) (by kernel_rfl) ?bwg1_5_2 ?bwg1_5_6
        case bwg1_5_2 =>
          refine Turns.mk (i := 2) (d := some 24) rfl rfl (TurnS.call (V := fun v => ∃ A n c, v = .tuple #[.agg #[.slice A n c], .int .i64 0]) ?fwg1_6 ?awg1_6 [1] (by kernel_rfl) (by rfl) (fun w9 => ?hwg1_6) (fun L9 m9 w9 hSh hAt hDn hS => ?cwg1_6)) (fun v6b hVv6b => ?rwg1_6)
          case hwg1_6 => go_simp; refine ⟨?_, ?_⟩ <;> rfl
          case cwg1_6 =>
            obtain ⟨al, hB, hset⟩ := WtB.on3 (hAt 1 (by simp)).1 hDn (post_no (post := [7]) hSh hDn (by kernel_rfl) 7 (by simp)) hS
            obtain ⟨hT, hal, A, n, c, hv, hr5, h5a, h5b⟩ := hB
            obtain ⟨rfl, rfl, rfl⟩ : A5b = A ∧ n5b = n ∧ c5b = c := by have h9 : Value.agg #[.slice A5b n5b c5b] = .agg #[.slice A n c] := (hAt 1 (by simp)).2.symm.trans hv; simpa using h9
            have hcall := two_any AllB AllB 16 N2 (NA 98) A6a n6a c6a A5b n5b c5b w9 (rd_all (Lay.rd_below HRVa.out hT)) (by have h9 : n6a = 3 := (Lay.rd_len HRVa.out).symm; omega) HCVa.out.1 HCVa.out.2 (rd_all hr5) (by have h9 : n5b = 1 := (Lay.rd_len hr5).symm; omega) h5a h5b (HT3.out.below hT) (sm_of (by decide +kernel)) (sm_of (by decide +kernel))
            rw [w3E, w3R] at hcall
            refine hcall.mono ?_
            intro e w6 hmk
            obtain ⟨A, n, c, rfl, hr6, h6a, h6b, q6⟩ := hmk.rd
            exact ⟨_, rfl, ⟨A, n, c, rfl⟩, hset _ _ ⟨bl_ca hT q6, fun g e => ⟨(hal g e).1, (hal g e).2.ca q6⟩, A, n, c, upd_same _ _ _, (Lay.rd_weak (fun b hb _ => fun e => by have h1 := (hal b e).2.lt; have h2 : w9.heap.size ≤ b := hb; omega) hr6), h6a, h6b⟩⟩
          try simp only [Act.put, sA, sZ, sS]
          obtain ⟨A6b, n6b, c6b, rfl⟩ := hVv6b
          refine Ps.st (i := 3) (d := some 21) (u := (.tuple #[.agg #[.slice A6b n6b c6b], .int .i64 (0)])) rfl rfl (by exact StepS.pure (WtB.pass (by decide) (by decide)) rfl fun _ => rfl) ?_
          try simp only [Act.put, sA, sZ, sS]
          refine Ps.st (i := 4) (d := some 25) (u := (.agg #[.slice A6b n6b c6b])) rfl rfl (by exact StepS.pure (WtB.pass (by decide) (by decide)) rfl fun _ => rfl) ?_
          try simp only [Act.put, sA, sZ, sS]
          refine Ps.st (i := 5) (d := some 26) (u := (.int .i64 (0))) rfl rfl (by exact StepS.pure (WtB.pass (by decide) (by decide)) rfl fun _ => rfl) ?_
          try simp only [Act.put, sA, sZ, sS]
          refine Ps.one (k := 6) (d := some 5) rfl rfl (by kernel_rfl) (TurnS.value (V := fun v => ∃ g, v = .pointer (some ⟨g, 0, none⟩)) [] (by kernel_rfl) (by rfl) (fun L9 m9 w9 hSh hAt hDn hS => ?cwg1_10)) (fun v8b hVv8b => ?rwg1_10)
          case cwg1_10 =>
            refine ⟨.pointer (some ⟨w9.heap.size, 0, none⟩), w9.alloc (.cells #[.slice none 0 0] 30), ?_, ⟨_, rfl⟩, WtB.made hDn (post_no (post := [7]) hSh hDn (by kernel_rfl) 7 (by simp)) rfl (fun j hj hB => ?_) hS⟩
            · clear hS
              go_simp
            · obtain ⟨hT2, hB⟩ := hB
              refine ⟨bl_al hT2 _, ?_⟩
              have hnew : ∀ g, some w9.heap.size = some g → w1a.heap.size ≤ g ∧ Blk (w9.alloc (.cells #[.slice none 0 0] 30)) g 30 #[.slice none 0 0] := fun g e => by injection e with e; subst e; exact ⟨hT2.size, Blk.new w9 _ _⟩
              match j, hj, hB with
              | 0, _, _ => exact hnew
              | 1, _, ⟨_, A, n, c, hv, hr, h1, h2⟩ => exact ⟨hnew, A, n, c, (upd_ne (by decide)).trans hv, Lay.rd_below (Lay.rd_weak (fun b _ hl => fun e => by injection e with e; omega) hr) (bl_al (Below.refl _ _) _), h1, h2⟩
              | 2, _, ⟨_, A, n, c, hv, hr, h1, h2⟩ => exact ⟨hnew, A, n, c, (upd_ne (by decide)).trans hv, Lay.rd_below (Lay.rd_weak (fun b _ hl => fun e => by injection e with e; omega) hr) (bl_al (Below.refl _ _) _), h1, h2⟩
              | _ + 3, hj, _ => exact absurd hj (by omega)
          try simp only [Act.put, sA, sZ, sS]
          obtain ⟨g8b, rfl⟩ := hVv8b
          refine Ps.st (i := 7) (d := none) (u := undef) rfl rfl ?ywg1_11 ?rwg1_11
          case ywg1_11 =>
            refine StepS.store [1, 2, 6] (by kernel_rfl) (by rfl) (fun L9 m9 w9 hSh hAt hDn hS => ?_)
            obtain ⟨g, hm, hB, hset⟩ := WtB.on9 (hAt 1 (by simp)).1 (hAt 2 (by simp)).1 (hAt 6 (by simp)).1 hDn hS
            obtain rfl : g8b = g := by have h9 : Value.pointer (some ⟨g8b, 0, none⟩) = .pointer (some ⟨g, 0, none⟩) := (hAt 6 (by simp)).2.symm.trans hm; simpa using h9
            obtain ⟨hT, hal, A, n, c, hv, hr, h7a, h7b⟩ := hB
            obtain ⟨rfl, rfl, rfl⟩ : A6b = A ∧ n6b = n ∧ c6b = c := by have h9 : (.tuple #[.agg #[.slice A6b n6b c6b], .int .i64 0] : Value) = .tuple #[.agg #[.slice A n c], .int .i64 0] := (hAt 2 (by simp)).2.symm.trans hv; simpa using h9
            refine (exec_store_blk (w := w9) 30 (.tmp 5) (.tmp 25) (by rfl) g8b 30 #[.slice none 0 0] #[.slice A6b n6b c6b] (by rfl) (by rfl) (hal g8b rfl).2 rfl treeI (by simp [Value.oneCell'])).imp fun w7 hx => ⟨hx.1, hset _ ⟨bl_gr hT hx.2.2 (hal g8b rfl).1, g8b, A6b, n6b, c6b, rfl, (hal g8b rfl).1, hv, hx.2.1, rd_grownH hr hx.2.2 (fun b hb e => hb (by rw [e])), h7a, h7b⟩⟩
          try simp only [Act.put]
          refine Ps.st (i := 8) (d := some 6) (u := (.int .i64 (0))) rfl rfl (by exact StepS.pure (WtB.pass (by decide) (by decide)) rfl fun _ => rfl) ?_
          try simp only [Act.put, sA, sZ, sS]
          refine Ps.done (by kernel_rfl) (fun wg1 hS => ?_) _
          obtain ⟨g, hm, hT, g1, A, n, c, hg1, _, hv, hbk, hr, h7a, h7b⟩ := WtB.fin (by rfl) (by rfl) hS
          clear hS
          injection hg1 with hg1
          subst hg1
          obtain rfl : g8b = g := by have h9 : Value.pointer (some ⟨g8b, 0, none⟩) = .pointer (some ⟨g, 0, none⟩) := hm; simpa using h9
          obtain ⟨rfl, rfl, rfl⟩ : A6b = A ∧ n6b = n ∧ c6b = c := by have h9 : (.tuple #[.agg #[.slice A6b n6b c6b], .int .i64 0] : Value) = .tuple #[.agg #[.slice A n c], .int .i64 0] := hv; simpa using h9
          refine ⟨g8b, A6b, n6b, c6b, ⟨.agg #[.slice A6a n6a c6a], .agg #[.slice A5b n5b c5b], .tuple #[.agg #[.slice A6b n6b c6b], .int .i64 0], .tuple #[.agg #[.slice A6b n6b c6b], .int .i64 0], .agg #[.slice A6b n6b c6b], .int .i64 0, ?_⟩, hT, hbk, rd_all hr, h7a, h7b⟩
          clear hT hbk hr h7a h7b hv hm
          rfl
        case bwg1_5_6 =>
          refine Turns.mk (i := 6) (d := some 5) rfl rfl (TurnS.value (V := fun v => ∃ g, v = .pointer (some ⟨g, 0, none⟩)) [] (by kernel_rfl) (by rfl) (fun L9 m9 w9 hSh hAt hDn hS => ?cwg1_13)) (fun v8b hVv8b => ?rwg1_13)
          case cwg1_13 =>
            refine ⟨.pointer (some ⟨w9.heap.size, 0, none⟩), w9.alloc (.cells #[.slice none 0 0] 30), ?_, ⟨_, rfl⟩, WtB.made hDn (post_no (post := [7]) hSh hDn (by kernel_rfl) 7 (by simp)) rfl (fun j hj hB => ?_) hS⟩
            · clear hS
              go_simp
            · obtain ⟨hT2, hB⟩ := hB
              refine ⟨bl_al hT2 _, ?_⟩
              have hnew : ∀ g, some w9.heap.size = some g → w1a.heap.size ≤ g ∧ Blk (w9.alloc (.cells #[.slice none 0 0] 30)) g 30 #[.slice none 0 0] := fun g e => by injection e with e; subst e; exact ⟨hT2.size, Blk.new w9 _ _⟩
              match j, hj, hB with
              | 0, _, _ => exact hnew
              | 1, _, ⟨_, A, n, c, hv, hr, h1, h2⟩ => exact ⟨hnew, A, n, c, (upd_ne (by decide)).trans hv, Lay.rd_below (Lay.rd_weak (fun b _ hl => fun e => by injection e with e; omega) hr) (bl_al (Below.refl _ _) _), h1, h2⟩
              | 2, _, ⟨_, A, n, c, hv, hr, h1, h2⟩ => exact ⟨hnew, A, n, c, (upd_ne (by decide)).trans hv, Lay.rd_below (Lay.rd_weak (fun b _ hl => fun e => by injection e with e; omega) hr) (bl_al (Below.refl _ _) _), h1, h2⟩
              | _ + 3, hj, _ => exact absurd hj (by omega)
          try simp only [Act.put, sA, sZ, sS]
          obtain ⟨g8b, rfl⟩ := hVv8b
          refine Ps.one (k := 2) (d := some 24) rfl rfl (by kernel_rfl) (TurnS.call (V := fun v => ∃ A n c, v = .tuple #[.agg #[.slice A n c], .int .i64 0]) ?fwg1_14 ?awg1_14 [1] (by kernel_rfl) (by rfl) (fun w9 => ?hwg1_14) (fun L9 m9 w9 hSh hAt hDn hS => ?cwg1_14)) (fun v6b hVv6b => ?rwg1_14)
          case hwg1_14 => go_simp; refine ⟨?_, ?_⟩ <;> rfl
          case cwg1_14 =>
            obtain ⟨al, hB, hset⟩ := WtB.on3 (hAt 1 (by simp)).1 hDn (post_no (post := [7]) hSh hDn (by kernel_rfl) 7 (by simp)) hS
            obtain ⟨hT, hal, A, n, c, hv, hr5, h5a, h5b⟩ := hB
            obtain ⟨rfl, rfl, rfl⟩ : A5b = A ∧ n5b = n ∧ c5b = c := by have h9 : Value.agg #[.slice A5b n5b c5b] = .agg #[.slice A n c] := (hAt 1 (by simp)).2.symm.trans hv; simpa using h9
            have hcall := two_any AllB AllB 16 N2 (NA 98) A6a n6a c6a A5b n5b c5b w9 (rd_all (Lay.rd_below HRVa.out hT)) (by have h9 : n6a = 3 := (Lay.rd_len HRVa.out).symm; omega) HCVa.out.1 HCVa.out.2 (rd_all hr5) (by have h9 : n5b = 1 := (Lay.rd_len hr5).symm; omega) h5a h5b (HT3.out.below hT) (sm_of (by decide +kernel)) (sm_of (by decide +kernel))
            rw [w3E, w3R] at hcall
            refine hcall.mono ?_
            intro e w6 hmk
            obtain ⟨A, n, c, rfl, hr6, h6a, h6b, q6⟩ := hmk.rd
            exact ⟨_, rfl, ⟨A, n, c, rfl⟩, hset _ _ ⟨bl_ca hT q6, fun g e => ⟨(hal g e).1, (hal g e).2.ca q6⟩, A, n, c, upd_same _ _ _, (Lay.rd_weak (fun b hb _ => fun e => by have h1 := (hal b e).2.lt; have h2 : w9.heap.size ≤ b := hb; omega) hr6), h6a, h6b⟩⟩
          try simp only [Act.put, sA, sZ, sS]
          obtain ⟨A6b, n6b, c6b, rfl⟩ := hVv6b
          refine Ps.st (i := 3) (d := some 21) (u := (.tuple #[.agg #[.slice A6b n6b c6b], .int .i64 (0)])) rfl rfl (by exact StepS.pure (WtB.pass (by decide) (by decide)) rfl fun _ => rfl) ?_
          try simp only [Act.put, sA, sZ, sS]
          refine Ps.st (i := 4) (d := some 25) (u := (.agg #[.slice A6b n6b c6b])) rfl rfl (by exact StepS.pure (WtB.pass (by decide) (by decide)) rfl fun _ => rfl) ?_
          try simp only [Act.put, sA, sZ, sS]
          refine Ps.st (i := 5) (d := some 26) (u := (.int .i64 (0))) rfl rfl (by exact StepS.pure (WtB.pass (by decide) (by decide)) rfl fun _ => rfl) ?_
          try simp only [Act.put, sA, sZ, sS]
          refine Ps.st (i := 7) (d := none) (u := undef) rfl rfl ?ywg1_18 ?rwg1_18
          case ywg1_18 =>
            refine StepS.store [1, 2, 6] (by kernel_rfl) (by rfl) (fun L9 m9 w9 hSh hAt hDn hS => ?_)
            obtain ⟨g, hm, hB, hset⟩ := WtB.on9 (hAt 1 (by simp)).1 (hAt 2 (by simp)).1 (hAt 6 (by simp)).1 hDn hS
            obtain rfl : g8b = g := by have h9 : Value.pointer (some ⟨g8b, 0, none⟩) = .pointer (some ⟨g, 0, none⟩) := (hAt 6 (by simp)).2.symm.trans hm; simpa using h9
            obtain ⟨hT, hal, A, n, c, hv, hr, h7a, h7b⟩ := hB
            obtain ⟨rfl, rfl, rfl⟩ : A6b = A ∧ n6b = n ∧ c6b = c := by have h9 : (.tuple #[.agg #[.slice A6b n6b c6b], .int .i64 0] : Value) = .tuple #[.agg #[.slice A n c], .int .i64 0] := (hAt 2 (by simp)).2.symm.trans hv; simpa using h9
            refine (exec_store_blk (w := w9) 30 (.tmp 5) (.tmp 25) (by rfl) g8b 30 #[.slice none 0 0] #[.slice A6b n6b c6b] (by rfl) (by rfl) (hal g8b rfl).2 rfl treeI (by simp [Value.oneCell'])).imp fun w7 hx => ⟨hx.1, hset _ ⟨bl_gr hT hx.2.2 (hal g8b rfl).1, g8b, A6b, n6b, c6b, rfl, (hal g8b rfl).1, hv, hx.2.1, rd_grownH hr hx.2.2 (fun b hb e => hb (by rw [e])), h7a, h7b⟩⟩
          try simp only [Act.put]
          refine Ps.st (i := 8) (d := some 6) (u := (.int .i64 (0))) rfl rfl (by exact StepS.pure (WtB.pass (by decide) (by decide)) rfl fun _ => rfl) ?_
          try simp only [Act.put, sA, sZ, sS]
          refine Ps.done (by kernel_rfl) (fun wg1 hS => ?_) _
          obtain ⟨g, hm, hT, g1, A, n, c, hg1, _, hv, hbk, hr, h7a, h7b⟩ := WtB.fin (by rfl) (by rfl) hS
          clear hS
          injection hg1 with hg1
          subst hg1
          obtain rfl : g8b = g := by have h9 : Value.pointer (some ⟨g8b, 0, none⟩) = .pointer (some ⟨g, 0, none⟩) := hm; simpa using h9
          obtain ⟨rfl, rfl, rfl⟩ : A6b = A ∧ n6b = n ∧ c6b = c := by have h9 : (.tuple #[.agg #[.slice A6b n6b c6b], .int .i64 0] : Value) = .tuple #[.agg #[.slice A n c], .int .i64 0] := hv; simpa using h9
          refine ⟨g8b, A6b, n6b, c6b, ⟨.agg #[.slice A6a n6a c6a], .agg #[.slice A5b n5b c5b], .tuple #[.agg #[.slice A6b n6b c6b], .int .i64 0], .tuple #[.agg #[.slice A6b n6b c6b], .int .i64 0], .agg #[.slice A6b n6b c6b], .int .i64 0, ?_⟩, hT, hbk, rd_all hr, h7a, h7b⟩
          clear hT hbk hr h7a h7b hv hm
          rfl
      case bwg1_3_6 =>
        refine Turns.mk (i := 6) (d := some 5) rfl rfl (TurnS.value (V := fun v => ∃ g, v = .pointer (some ⟨g, 0, none⟩)) [] (by kernel_rfl) (by rfl) (fun L9 m9 w9 hSh hAt hDn hS => ?cwg1_20)) (fun v8b hVv8b => ?rwg1_20)
        case cwg1_20 =>
          refine ⟨.pointer (some ⟨w9.heap.size, 0, none⟩), w9.alloc (.cells #[.slice none 0 0] 30), ?_, ⟨_, rfl⟩, WtB.made hDn (post_no (post := [7]) hSh hDn (by kernel_rfl) 7 (by simp)) rfl (fun j hj hB => ?_) hS⟩
          · clear hS
            go_simp
          · obtain ⟨hT2, hB⟩ := hB
            refine ⟨bl_al hT2 _, ?_⟩
            have hnew : ∀ g, some w9.heap.size = some g → w1a.heap.size ≤ g ∧ Blk (w9.alloc (.cells #[.slice none 0 0] 30)) g 30 #[.slice none 0 0] := fun g e => by injection e with e; subst e; exact ⟨hT2.size, Blk.new w9 _ _⟩
            match j, hj, hB with
            | 0, _, _ => exact hnew
            | 1, _, ⟨_, A, n, c, hv, hr, h1, h2⟩ => exact ⟨hnew, A, n, c, (upd_ne (by decide)).trans hv, Lay.rd_below (Lay.rd_weak (fun b _ hl => fun e => by injection e with e; omega) hr) (bl_al (Below.refl _ _) _), h1, h2⟩
            | 2, _, ⟨_, A, n, c, hv, hr, h1, h2⟩ => exact ⟨hnew, A, n, c, (upd_ne (by decide)).trans hv, Lay.rd_below (Lay.rd_weak (fun b _ hl => fun e => by injection e with e; omega) hr) (bl_al (Below.refl _ _) _), h1, h2⟩
            | _ + 3, hj, _ => exact absurd hj (by omega)
        try simp only [Act.put, sA, sZ, sS]
        obtain ⟨g8b, rfl⟩ := hVv8b
        refine Ps.one (k := 1) (d := some 23) rfl rfl (by kernel_rfl) (TurnS.call (V := fun v => ∃ A n c, v = .agg #[.slice A n c]) ?fwg1_21 ?awg1_21 [] (by kernel_rfl) (by rfl) (fun w9 => ?hwg1_21) (fun L9 m9 w9 hSh hAt hDn hS => ?cwg1_21)) (fun v5b hVv5b => ?rwg1_21)
        case hwg1_21 => go_simp; refine ⟨?_, ?_⟩ <;> rfl
        case cwg1_21 =>
          obtain ⟨al, hB, hset⟩ := WtB.on2 hDn (post_no (post := [2]) hSh hDn (by kernel_rfl) 2 (by simp)) (post_no (post := [7]) hSh hDn (by kernel_rfl) 7 (by simp)) hS
          obtain ⟨hT, hal⟩ := hB
          refine (named_any 98 w9).mono ?_
          rintro e w6 ⟨A, n, c, rfl, hr6, h6a, h6b, q6⟩
          exact ⟨_, rfl, ⟨A, n, c, rfl⟩, hset _ _ ⟨bl_ca hT q6, fun g e => ⟨(hal g e).1, (hal g e).2.ca q6⟩, A, n, c, upd_same _ _ _, (Lay.rd_weak (fun b hb _ => fun e => by have h1 := (hal b e).2.lt; have h2 : w9.heap.size ≤ b := hb; omega) hr6), h6a, h6b⟩⟩
        try simp only [Act.put, sA, sZ, sS]
        obtain ⟨A5b, n5b, c5b, rfl⟩ := hVv5b
        refine Ps.one (k := 2) (d := some 24) rfl rfl (by kernel_rfl) (TurnS.call (V := fun v => ∃ A n c, v = .tuple #[.agg #[.slice A n c], .int .i64 0]) ?fwg1_22 ?awg1_22 [1] (by kernel_rfl) (by rfl) (fun w9 => ?hwg1_22) (fun L9 m9 w9 hSh hAt hDn hS => ?cwg1_22)) (fun v6b hVv6b => ?rwg1_22)
        case hwg1_22 => go_simp; refine ⟨?_, ?_⟩ <;> rfl
        case cwg1_22 =>
          obtain ⟨al, hB, hset⟩ := WtB.on3 (hAt 1 (by simp)).1 hDn (post_no (post := [7]) hSh hDn (by kernel_rfl) 7 (by simp)) hS
          obtain ⟨hT, hal, A, n, c, hv, hr5, h5a, h5b⟩ := hB
          obtain ⟨rfl, rfl, rfl⟩ : A5b = A ∧ n5b = n ∧ c5b = c := by have h9 : Value.agg #[.slice A5b n5b c5b] = .agg #[.slice A n c] := (hAt 1 (by simp)).2.symm.trans hv; simpa using h9
          have hcall := two_any AllB AllB 16 N2 (NA 98) A6a n6a c6a A5b n5b c5b w9 (rd_all (Lay.rd_below HRVa.out hT)) (by have h9 : n6a = 3 := (Lay.rd_len HRVa.out).symm; omega) HCVa.out.1 HCVa.out.2 (rd_all hr5) (by have h9 : n5b = 1 := (Lay.rd_len hr5).symm; omega) h5a h5b (HT3.out.below hT) (sm_of (by decide +kernel)) (sm_of (by decide +kernel))
          rw [w3E, w3R] at hcall
          refine hcall.mono ?_
          intro e w6 hmk
          obtain ⟨A, n, c, rfl, hr6, h6a, h6b, q6⟩ := hmk.rd
          exact ⟨_, rfl, ⟨A, n, c, rfl⟩, hset _ _ ⟨bl_ca hT q6, fun g e => ⟨(hal g e).1, (hal g e).2.ca q6⟩, A, n, c, upd_same _ _ _, (Lay.rd_weak (fun b hb _ => fun e => by have h1 := (hal b e).2.lt; have h2 : w9.heap.size ≤ b := hb; omega) hr6), h6a, h6b⟩⟩
        try simp only [Act.put, sA, sZ, sS]
        obtain ⟨A6b, n6b, c6b, rfl⟩ := hVv6b
        refine Ps.st (i := 3) (d := some 21) (u := (.tuple #[.agg #[.slice A6b n6b c6b], .int .i64 (0)])) rfl rfl (by exact StepS.pure (WtB.pass (by decide) (by decide)) rfl fun _ => rfl) ?_
        try simp only [Act.put, sA, sZ, sS]
        refine Ps.st (i := 4) (d := some 25) (u := (.agg #[.slice A6b n6b c6b])) rfl rfl (by exact StepS.pure (WtB.pass (by decide) (by decide)) rfl fun _ => rfl) ?_
        try simp only [Act.put, sA, sZ, sS]
        refine Ps.st (i := 5) (d := some 26) (u := (.int .i64 (0))) rfl rfl (by exact StepS.pure (WtB.pass (by decide) (by decide)) rfl fun _ => rfl) ?_
        try simp only [Act.put, sA, sZ, sS]
        refine Ps.st (i := 7) (d := none) (u := undef) rfl rfl ?ywg1_26 ?rwg1_26
        case ywg1_26 =>
          refine StepS.store [1, 2, 6] (by kernel_rfl) (by rfl) (fun L9 m9 w9 hSh hAt hDn hS => ?_)
          obtain ⟨g, hm, hB, hset⟩ := WtB.on9 (hAt 1 (by simp)).1 (hAt 2 (by simp)).1 (hAt 6 (by simp)).1 hDn hS
          obtain rfl : g8b = g := by have h9 : Value.pointer (some ⟨g8b, 0, none⟩) = .pointer (some ⟨g, 0, none⟩) := (hAt 6 (by simp)).2.symm.trans hm; simpa using h9
          obtain ⟨hT, hal, A, n, c, hv, hr, h7a, h7b⟩ := hB
          obtain ⟨rfl, rfl, rfl⟩ : A6b = A ∧ n6b = n ∧ c6b = c := by have h9 : (.tuple #[.agg #[.slice A6b n6b c6b], .int .i64 0] : Value) = .tuple #[.agg #[.slice A n c], .int .i64 0] := (hAt 2 (by simp)).2.symm.trans hv; simpa using h9
          refine (exec_store_blk (w := w9) 30 (.tmp 5) (.tmp 25) (by rfl) g8b 30 #[.slice none 0 0] #[.slice A6b n6b c6b] (by rfl) (by rfl) (hal g8b rfl).2 rfl treeI (by simp [Value.oneCell'])).imp fun w7 hx => ⟨hx.1, hset _ ⟨bl_gr hT hx.2.2 (hal g8b rfl).1, g8b, A6b, n6b, c6b, rfl, (hal g8b rfl).1, hv, hx.2.1, rd_grownH hr hx.2.2 (fun b hb e => hb (by rw [e])), h7a, h7b⟩⟩
        try simp only [Act.put]
        refine Ps.st (i := 8) (d := some 6) (u := (.int .i64 (0))) rfl rfl (by exact StepS.pure (WtB.pass (by decide) (by decide)) rfl fun _ => rfl) ?_
        try simp only [Act.put, sA, sZ, sS]
        refine Ps.done (by kernel_rfl) (fun wg1 hS => ?_) _
        obtain ⟨g, hm, hT, g1, A, n, c, hg1, _, hv, hbk, hr, h7a, h7b⟩ := WtB.fin (by rfl) (by rfl) hS
        clear hS
        injection hg1 with hg1
        subst hg1
        obtain rfl : g8b = g := by have h9 : Value.pointer (some ⟨g8b, 0, none⟩) = .pointer (some ⟨g, 0, none⟩) := hm; simpa using h9
        obtain ⟨rfl, rfl, rfl⟩ : A6b = A ∧ n6b = n ∧ c6b = c := by have h9 : (.tuple #[.agg #[.slice A6b n6b c6b], .int .i64 0] : Value) = .tuple #[.agg #[.slice A n c], .int .i64 0] := hv; simpa using h9
        refine ⟨g8b, A6b, n6b, c6b, ⟨.agg #[.slice A6a n6a c6a], .agg #[.slice A5b n5b c5b], .tuple #[.agg #[.slice A6b n6b c6b], .int .i64 0], .tuple #[.agg #[.slice A6b n6b c6b], .int .i64 0], .agg #[.slice A6b n6b c6b], .int .i64 0, ?_⟩, hT, hbk, rd_all hr, h7a, h7b⟩
        clear hT hbk hr h7a h7b hv hm
        rfl
    case kpswg1 =>
      intro a' w1b hF
      obtain ⟨g8b, A6b, n6b, c6b, ⟨v22, v23, v24, v21, v25, v26, rfl⟩, hT, hbk, hr, h7a, h7b⟩ := hF
      have HT1b := Lib.hid hT
      have HVb := Lib.hid hbk
      have HRVb := Lib.hid hr
      have HCVb := Lib.hid (And.intro h7a h7b)
      clear hT hbk hr h7a h7b
      simp only [Act.put, List.setIfInBounds_toArray, List.set_cons_zero, List.set_cons_succ]
      go_upto_region 4 with fail
      have HT4 := Lib.hid (HT3.out.below HT1b.out)
      have HQF := Lib.hid (bl_ca (bl_ca HQ2.out HT1a.out) HT1b.out)
      have x5 : w1b.cell? ⟨g8b, 0, none⟩ = some (.slice A6b n6b c6b) := HVb.out.cell 0
      have hn5 : n6b = 5 := (Lay.rd_len HRVb.out).symm
      have HPT := Lib.hid (printtree_any AllB N3 A6b n6b c6b w1b HRVb.out (by omega) HT4.out (sm_of (by decide +kernel)) rg3)
      rw [w3F, w3C] at HPT
      have HND := Lib.hid hn5
      clear hn5
      go_wp2_with fail
      refine HPT.out.mono ?_
      rintro e w5 ⟨rfl, q5⟩
      have HQG := Lib.hid (bl_ca HQF.out q5)
      have y5 : w5.cell? ⟨g8b, 0, none⟩ = some (.slice A6b n6b c6b) := (HVb.out.ca q5).cell 0
      have HDP := Lib.hid (depth_any AllB N3 A6b n6b c6b w5 (Lay.rd_below HRVb.out q5) (by have := HND.out; omega) (HT4.out.below q5) (sm_of (by decide +kernel)))
      rw [w3D] at HDP
      clear x5 q5 HPT
      go_wp2_with fail
      refine HDP.out.mono ?_
      rintro e w6 ⟨rfl, q6⟩
      have HQH := Lib.hid (bl_ca HQG.out q6)
      clear q6 y5
      go_wp2
      go_ret
      exact ⟨rfl, HQH.out⟩
end Go.Proofs.YtoaggmldekejoaaDoor
