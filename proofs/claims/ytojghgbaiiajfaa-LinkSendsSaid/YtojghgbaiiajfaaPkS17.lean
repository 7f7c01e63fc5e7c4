/- bowspritref22.Put. Conditions: the slices read so; the sender's numbers are in their range. -/
import Derived.Test.YtojghgbaiiajfaaPkS16
namespace Go.Proofs.Ytojghgbaiiajfaa
open Go.RowKit
theorem run_appLs {α : Type} {L : Lay α} {e : TypeId} {P : Program} {w : World} (t ty : TypeId)
    (z : Value) (k bytes : Nat) (ht : P.underlying t = some (.slice e)) (hi : (P.info? e).map (fun i => (i.zero, i.size, i.bytes)) = some (some z, k, bytes)) (hk : L.size = k) (hzs : z.cells.size = k) (hk0 : 0 < k)
    (B : Nat) (G F : Nat → Prop) (A : Option Addr) (n c : Nat) (xs : List α) (A2 : Option Addr) (m c2 : Nat) (ys : List α)
    (hown : L.own e w B G A n c xs) (hr : L.rd w F A2 m ys)
    (hFG : ∀ b, F b → b < w.heap.size → G b ∧ (Value.slice A n c).ownBlock ≠ some b) (hG : ∀ b, G b → b < w.heap.size) (hb : (n + m) * bytes ≤ 140737488355328) (hn : n + m ≤ maxLen) (hB : B ≤ w.heap.size) :
    ∃ A' c' w', (Builtin.append_ #[t, t] ty #[.slice A n c, .slice A2 m c2]).run P w = .ok (.slice A' (n + m) c') w' ∧ L.own e w' B G A' (n + m) c' (xs ++ ys) ∧ w.grownBy w' (Value.slice A n c).ownBlock := by
  obtain ⟨hl, cs, hreps, hrow⟩ := hown
  obtain ⟨ds, hys, hrd⟩ := Lay.reads hr
  obtain ⟨i0, hi0, hz0, hz1, hz2⟩ := info_parts hi
  subst hk
  have hyl := Lay.rd_len hr
  obtain ⟨v', w', hrun, hown', hg, hat⟩ := run_append_any (P := P) w B t ty e i0 _ L.size bytes ht hi0 hz0 hz1 hz2 hzs hk0 (.slice A n c) n cs hrow w.heap.size A2 m c2 ds hrd (Lay.reps_one hys) hn hb hB
  obtain ⟨A', c', rfl⟩ := own_form' hown'
  have hne : ∀ b, G b → (Value.slice A n c).ownBlock ≠ some b → (Value.slice A' (n + m) c').ownBlock ≠ some b := fun b hb hne => by
    rcases hat with hat | hat
    · rw [hat]; exact hne
    · rw [hat]; intro e; injection e with e; have := hG b hb; omega
  have hkeep : ∀ b, (G b ∧ (Value.slice A n c).ownBlock ≠ some b) → b < w.heap.size → w'.heap[b]? = w.heap[b]? := fun b hb hlt => hg.block b hlt (fun e => hb.2 e.symm)
  have hys2 := Lay.reps_keep hkeep (Lay.reps_weak hFG hys)
  exact ⟨A', c', w', hrun, ⟨by rw [List.length_append, hl, hyl], cs ++ ds, Lay.reps_append (Lay.reps_weak (fun b hb _ => ⟨hb.1, hne b hb.1 hb.2⟩) (Lay.reps_keep hkeep hreps)) (Lay.reps_weak (fun b hb _ => ⟨hb.1, hne b hb.1 hb.2⟩) hys2), hown'⟩, hg⟩
theorem SeqN.lt3p {k1 k3 k5 k8 : Nat} {B : Nat → (Nat → Value) → World → Prop} {L : Array Bool} {m : Nat → Value} {w : World} {T : World → Prop} (h8 : Dn L k8 = false) (t : ∀ z m w, z < 4 → B z m w → T w) (hS : SeqN [k1, k3, k5, k8] B L m w) : T w := by
  unfold SeqN cntD cntD cntD cntD cntD at hS
  rw [h8] at hS
  refine t _ _ _ ?_ hS
  cases Dn L k1 <;> cases Dn L k3 <;> cases Dn L k5 <;> simp
theorem SeqN.early1 {k1 k3 k5 k8 : Nat} {B : Nat → (Nat → Value) → World → Prop} {L : Array Bool} {m : Nat → Value} {w : World} {T : World → Prop} (h8 : Dn L k8 = false) (t : ∀ z m w, z < 4 → B z m w → T w) (hS : SeqN [k1, k3, k5, k8] B L m w) : T w := SeqN.lt3p h8 t hS
theorem SeqN.early2 {k1 k3 k8 : Nat} {B : Nat → (Nat → Value) → World → Prop} {L : Array Bool} {m : Nat → Value} {w : World} {T : World → Prop} (h8 : Dn L k8 = false) (t : ∀ z m w, z < 3 → B z m w → T w) (hS : SeqN [k1, k3, k8] B L m w) : T w := by
  unfold SeqN cntD cntD cntD cntD at hS
  rw [h8] at hS
  refine t _ _ _ ?_ hS
  cases Dn L k1 <;> cases Dn L k3 <;> simp
theorem SeqN.moveB {k1 k3 k8 i : Nat} {B : Nat → (Nat → Value) → World → Prop} {L : Array Bool} {m : Nat → Value} {w w' : World} (hn : ([k1, k3, k8].all fun k => k != i) = true) (h8 : Dn L k8 = false) (t : ∀ z m, z < 3 → B z m w → B z m w') (hS : SeqN [k1, k3, k8] B L m w) : SeqN [k1, k3, k8] B (L.setIfInBounds i true) m w' := by
  have hS2 := SeqN.pass hn L m w hS
  simp only [List.all_cons, List.all_nil, Bool.and_true, Bool.and_eq_true, bne_iff_ne] at hn
  unfold SeqN cntD cntD cntD cntD at *
  rw [dn_ne hn.1, dn_ne hn.2.1, dn_ne hn.2.2, h8] at *
  refine t _ _ ?_ hS2
  cases Dn L k1 <;> cases Dn L k3 <;> simp
theorem SeqN.atL {k1 k3 k8 : Nat} {B : Nat → (Nat → Value) → World → Prop} {L : Array Bool} {m : Nat → Value} {w : World} (h1 : Dn L k1 = true) (h3 : Dn L k3 = true) (h8 : Dn L k8 = false) (hS : SeqN [k1, k3, k8] B L m w) : B 2 m w := by
  unfold SeqN cntD cntD cntD cntD at hS
  rw [h1, h3, h8] at hS
  exact hS
set_option maxRecDepth 100000 in
set_option maxHeartbeats 16000000 in
theorem rput_any (Fr : Nat → Prop) (s : SC) (A : Option Addr) (n c : Nat) (rows : List (List VV)) (rA : Option Addr) (rn rc : Nat) (w : World) (h : LB3.rd w Fr A n s.q) (hr : LR.rd w Fr rA rn rows) (hn : n ≤ 100) (hrn : rn ≤ 100) (h1 : 1 ≤ s.base) (h2 : s.base ≤ 2000000000000) :
    Calls Try.prog 54 #[.agg (s.cells A n c), .slice rA rn rc] w (PutW w Fr (put1E s rows) (putR s ⟨rows, false, 0⟩)) := by
  obtain ⟨E, hE⟩ : ∃ E, E = put1E s rows := ⟨_, rfl⟩
  rw [← hE]
  have HE := Lib.hid hE
  clear hE
  have q1 := bl_al (Below.refl w.heap.size w) (.cells #[.int .u32 s.ses, .int .u64 s.base, .slice A n c, .int .u64 s.sent, .int .u64 s.lim, .int .i64 s.timer, .bool s.ended] 29)
  have q2 := bl_al q1 (.cells #[.int .u32 0, .int .u64 0, .slice none 0 0, .int .u64 0, .int .u64 0, .int .i64 0, .bool false] 29)
  have HRD := Lib.hid h
  have HK1 := Lib.hid ((Blk.new w 29 #[.int .u32 s.ses, .int .u64 s.base, .slice A n c, .int .u64 s.sent, .int .u64 s.lim, .int .i64 s.timer, .bool s.ended]).alloc (.cells #[.int .u32 0, .int .u64 0, .slice none 0 0, .int .u64 0, .int .u64 0, .int .i64 0, .bool false] 29))
  have HK2 := Lib.hid (show Blk ((w.alloc (.cells #[.int .u32 s.ses, .int .u64 s.base, .slice A n c, .int .u64 s.sent, .int .u64 s.lim, .int .i64 s.timer, .bool s.ended] 29)).alloc (.cells #[.int .u32 0, .int .u64 0, .slice none 0 0, .int .u64 0, .int .u64 0, .int .i64 0, .bool false] 29)) (w.heap.size + 1) 29 #[.int .u32 0, .int .u64 0, .slice none 0 0, .int .u64 0, .int .u64 0, .int .i64 0, .bool false] from by have := Blk.new (w.alloc (.cells #[.int .u32 s.ses, .int .u64 s.base, .slice A n c, .int .u64 s.sent, .int .u64 s.lim, .int .i64 s.timer, .bool s.ended] 29)) 29 #[.int .u32 0, .int .u64 0, .slice none 0 0, .int .u64 0, .int .u64 0, .int .i64 0, .bool false]; simp only [World.size_alloc] at this; exact this)
  have HQ2 := Lib.hid q2
  have hs2 : ((w.alloc (.cells #[.int .u32 s.ses, .int .u64 s.base, .slice A n c, .int .u64 s.sent, .int .u64 s.lim, .int .i64 s.timer, .bool s.ended] 29)).alloc (.cells #[.int .u32 0, .int .u64 0, .slice none 0 0, .int .u64 0, .int .u64 0, .int .i64 0, .bool false] 29)).heap.size = w.heap.size + 2 := by simp only [World.size_alloc]
  have HRR := Lib.hid hr
  have HC := Lib.hid (rrows_any Fr rA rn rc rows ((w.alloc (.cells #[.int .u32 s.ses, .int .u64 s.base, .slice A n c, .int .u64 s.sent, .int .u64 s.lim, .int .i64 s.timer, .bool s.ended] 29)).alloc (.cells #[.int .u32 0, .int .u64 0, .slice none 0 0, .int .u64 0, .int .u64 0, .int .i64 0, .bool false] 29)) (Lay.rd_below hr q2) (by omega))
  clear h hr q1 q2
  cases hR : rowsOk rows
  · rw [hR] at HC
    obtain rfl : E = 321 := by rw [HE.out]; unfold put1E; rw [hR]; rfl
    clear hR
    go_enter Try.func54, Try.ntmps54
    go_wp2_with fail
    generalize ((w.alloc (.cells #[.int .u32 s.ses, .int .u64 s.base, .slice A n c, .int .u64 s.sent, .int .u64 s.lim, .int .i64 s.timer, .bool s.ended] 29)).alloc (.cells #[.int .u32 0, .int .u64 0, .slice none 0 0, .int .u64 0, .int .u64 0, .int .i64 0, .bool false] 29)) = w2 at *
    refine HC.out.mono ?_
    rintro e w3 ⟨rfl, q3⟩
    have HK3 := Lib.hid (HK2.out.ca q3)
    have HQ3 := Lib.hid (bl_ca HQ2.out q3)
    clear q3
    go_wp2_with (refine wpList_store_blk rfl 29 (.tmp 4) (.tmp 9) rfl (w.heap.size + 1) 29 _ #[.int .u32 0, .int .u64 0, .slice none 0 0, .int .u64 0, .int .u64 0, .int .i64 0, .bool false] rfl rfl HK3.out rfl senderI (by simp [Value.oneCell']) ?_; intro wz hZ gz)
    exact bodyPost_ret (res2 Try.results54 rfl rfl hZ Try.underlying29 rfl senderI) rfl ⟨_, 321, rfl, rfl, bl_gr HQ3.out gz (by omega), .inl ⟨by decide, rfl⟩⟩
  · rw [hR] at HC
    replace HE := Lib.hid (show E = putE s from by rw [HE.out]; unfold put1E; rw [hR]; rfl)
    clear hR
    by_cases h0 : E = 0
    · subst h0
      go_enter Try.func54, Try.ntmps54
      go_wp2_with fail
      generalize ((w.alloc (.cells #[.int .u32 s.ses, .int .u64 s.base, .slice A n c, .int .u64 s.sent, .int .u64 s.lim, .int .i64 s.timer, .bool s.ended] 29)).alloc (.cells #[.int .u32 0, .int .u64 0, .slice none 0 0, .int .u64 0, .int .u64 0, .int .i64 0, .bool false] 29)) = w2 at *
      refine HC.out.mono ?_
      rintro e w3 ⟨rfl, q3⟩
      have HWW := Lib.hid q3
      clear q3
      go_wp2_with fail
      refine wp_region_ps (S := SeqN [1, 3, 5, 8] (fun z m w' => match z with | 0 => Below w2.heap.size w2 w' | 1 => Below w2.heap.size w2 w' ∧ ∃ g1, m 1 = .slice (some ⟨g1, 0, none⟩) 0 0 ∧ LR.own 89 w' w2.heap.size (fun k => Fr k ∧ k < w.heap.size) (some ⟨g1, 0, none⟩) 0 0 [] | 2 => Below w2.heap.size w2 w' ∧ ∃ A6 c6, m 3 = .slice A6 rn c6 ∧ LR.rd w' (fun k => (Fr k ∧ k < w.heap.size) ∨ w2.heap.size ≤ k) A6 rn rows ∧ rn ≤ c6 ∧ c6 ≤ 9223372036854775807 | 3 => Below w2.heap.size w2 w' ∧ ∃ A2 c2, m 5 = .tuple #[.agg ((putR s ⟨rows, false, 0⟩).cells A2 (n + 1) c2), .int .i64 0] ∧ LB3.rd w' (fun k => (Fr k ∧ k < w.heap.size) ∨ w2.heap.size ≤ k) A2 (n + 1) (s.q ++ [⟨rows, false, 0⟩]) ∧ n + 1 ≤ c2 ∧ c2 ≤ 9223372036854775807 | _ => Below w.heap.size w w' ∧ ∃ A2 c2, m 5 = .tuple #[.agg ((putR s ⟨rows, false, 0⟩).cells A2 (n + 1) c2), .int .i64 0] ∧ Blk w' (w.heap.size + 1) 29 ((putR s ⟨rows, false, 0⟩).cells A2 (n + 1) c2) ∧ LB3.rd w' (fun k => (Fr k ∧ k < w.heap.size) ∨ w2.heap.size ≤ k) A2 (n + 1) (s.q ++ [⟨rows, false, 0⟩]) ∧ n + 1 ≤ c2 ∧ c2 ≤ 9223372036854775807)) (by kernel_rfl) ?spswpl ?ppswpl
      case spswpl =>
        exact SeqN.start (by decide) HWW.out.drew
      refine Ps.st (i := 0) (d := some 10) (u := ?uwpl_1) rfl rfl ?ywpl_1 ?rwpl_1
      case ywpl_1 =>
        refine StepS.read [] (by kernel_rfl) (SeqN.pass (by decide)) (by rfl) (fun L9 m9 w9 hSh hAt hDn hS => ?_)
        have hT : Below w2.heap.size w2 w9 := SeqN.early1 (T := fun w9 => Below w2.heap.size w2 w9) (reach_no hSh (f := 11) (j := 8) (by kernel_rfl) hDn) (fun z _ _ hz h => by match z, hz, h with | 0, _, h => exact h | 1, _, h => exact h.1 | 2, _, h => exact h.1 | 3, _, h => exact h.1 | _ + 4, hz, _ => exact absurd hz (by omega)) hS
        have x0 : w9.cell? ⟨w.heap.size, 0, none⟩ = some (.int .u32 s.ses) := (HK1.out.ca hT).cell 0
        have x1 : w9.cell? ⟨w.heap.size, 1, none⟩ = some (.int .u64 s.base) := (HK1.out.ca hT).cell 1
        have x2 : w9.cell? ⟨w.heap.size, 2, none⟩ = some (.slice A n c) := (HK1.out.ca hT).cell 2
        have x3 : w9.cell? ⟨w.heap.size, 3, none⟩ = some (.int .u64 s.sent) := (HK1.out.ca hT).cell 3
        have x4 : w9.cell? ⟨w.heap.size, 4, none⟩ = some (.int .u64 s.lim) := (HK1.out.ca hT).cell 4
        have x5 : w9.cell? ⟨w.heap.size, 5, none⟩ = some (.int .i64 s.timer) := (HK1.out.ca hT).cell 5
        have x6 : w9.cell? ⟨w.heap.size, 6, none⟩ = some (.bool s.ended) := (HK1.out.ca hT).cell 6
        clear hT hS
        go_simp
        try rfl
      try simp only [Act.put, sA, sZ, sS]
      refine Ps.st (i := 2) (d := some 12) (u := _) rfl rfl (StepS.pure (SeqN.pass (by decide)) rfl fun w9 => by go_simp; try rfl) ?_
      try simp only [Act.put, sA, sZ, sS]
      refine Ps.one (k := 1) (d := some 11) rfl rfl (by kernel_rfl) (TurnS.value (V := fun v => ∃ g, v = .slice (some ⟨g, 0, none⟩) 0 0) [] (by kernel_rfl) (by rfl) (fun L9 m9 w9 hSh hAt hDn hS => ?cwpl_3)) (fun v1 hVv1 => ?rwpl_3)
      case cwpl_3 =>
        have hT : Below w2.heap.size w2 w9 := SeqN.at_ (m0 := m9) (m1 := m9) [] [3, 5, 8] hSh (fun d hd => by cases hd) hDn (by kernel_rfl) hS
        refine ⟨.slice (some ⟨w9.heap.size, 0, none⟩) 0 0, w9.alloc (.cells #[] 89), ?_, ⟨_, rfl⟩, SeqN.set_ (m0 := m9) (m1 := m9) [] [3, 5, 8] hSh (fun d hd => by cases hd) hDn (by kernel_rfl) (by decide) (by decide) ⟨bl_al hT _, _, upd_same _ _ _, Lay.own_lessB (Lay.own_empty LR w9 89 (fun k => Fr k ∧ k < w.heap.size) (by decide)) hT.size⟩⟩
        clear hT hS
        go_simp
      try simp only [Act.put, sA, sZ, sS]
      obtain ⟨g1, rfl⟩ := hVv1
      refine Ps.one (k := 3) (d := some 13) rfl rfl (by kernel_rfl) (TurnS.value (V := fun v => ∃ A6 c6, v = .slice A6 rn c6) [1] (by kernel_rfl) (by rfl) (fun L9 m9 w9 hSh hAt hDn hS => ?cwpl_4)) (fun v3 hVv3 => ?rwpl_4)
      case cwpl_4 =>
        obtain ⟨hT, g5, hv, ho⟩ := SeqN.at_ [1] [5, 8] hSh hAt hDn (by kernel_rfl) hS
        obtain rfl : g1 = g5 := by have h9 : Value.slice (some ⟨g1, 0, none⟩) 0 0 = .slice (some ⟨g5, 0, none⟩) 0 0 := (hAt 1 (by simp)).2.symm.trans hv; simpa using h9
        have hsz := hT.size
        have hg1 := (Lay.own_base ho g1 (by simp [Value.ownBlock])).1
        obtain ⟨A6, c6, w8, hrun, hown, hgr⟩ := run_appLs (L := LR) (e := 89) (P := Try.prog) (w := w9) 43 43 (.slice none 0 0) 1 24 Try.underlying43 infoR rfl rfl (by decide) w2.heap.size (fun k => Fr k ∧ k < w.heap.size) (fun k => Fr k ∧ k < w.heap.size) (some ⟨g1, 0, none⟩) 0 0 [] rA rn rc rows ho (Lay.rd_below (Lay.rd_weak (fun b h1 h2 => ⟨h1, h2⟩) HRR.out) (bl_ca HQ2.out hT)) (fun b hb _ => ⟨hb, fun e => by simp [Value.ownBlock] at e; have := hb.2; omega⟩) (fun b hb => by have := hb.2; omega) (by omega) (by unfold maxLen; omega) hsz
        rw [Nat.zero_add, List.nil_append] at hown
        rw [Nat.zero_add] at hrun
        have hcp := Lay.own_caps hown
        exact ⟨_, w8, exec_append (.tmp 11) (.tmp 12) 43 rfl rfl rfl hrun, ⟨A6, c6, rfl⟩, SeqN.set_ [1] [5, 8] hSh hAt hDn (by kernel_rfl) (by decide) (by decide) ⟨hT.grown hgr hsz (fun k e => by simp [Value.ownBlock] at e; omega), A6, c6, upd_same _ _ _, Lay.own_rd hown (fun b h1 _ => .inr h1) (fun b hb _ => .inl hb), hcp.1, hcp.2⟩⟩
      try simp only [Act.put, sA, sZ, sS]
      obtain ⟨A6, c6, rfl⟩ := hVv3
      refine Ps.st (i := 4) (d := some 14) (u := _) rfl rfl (StepS.pure (SeqN.pass (by decide)) rfl fun w9 => by go_simp; try rfl) ?_
      try simp only [Act.put, sA, sZ, sS]
      refine Ps.one (k := 5) (d := some 15) rfl rfl (by kernel_rfl) (TurnS.call (V := fun v => ∃ A2 c2, v = .tuple #[.agg ((putR s ⟨rows, false, 0⟩).cells A2 (n + 1) c2), .int .i64 0]) ?fwpl_6 ?awpl_6 [1, 3] (by kernel_rfl) (by rfl) (fun w9 => ?hwpl_6) (fun L9 m9 w9 hSh hAt hDn hS => ?cwpl_6)) (fun v5 hVv5 => ?rwpl_6)
      case hwpl_6 => go_simp; refine ⟨?_, ?_⟩ <;> rfl
      case cwpl_6 =>
        obtain ⟨hT, A7, c7, hv, hr6, hk6, hk7⟩ := SeqN.at_ [1, 3] [8] hSh hAt hDn (by kernel_rfl) hS
        obtain ⟨rfl, rfl⟩ : A6 = A7 ∧ c6 = c7 := by have h9 : Value.slice A6 rn c6 = .slice A7 rn c7 := (hAt 3 (by simp)).2.symm.trans hv; simpa using h9
        refine (rwith_any (fun k => (Fr k ∧ k < w.heap.size) ∨ w2.heap.size ≤ k) s A n c ⟨rows, false, 0⟩ A6 rn c6 w9 (Lay.rd_below (Lay.rd_weak (fun b h1 h2 => .inl ⟨h1, h2⟩) HRD.out) (bl_ca HQ2.out hT)) hr6 (by omega) hk6 hk7 h1 h2).mono ?_
        rintro e w8 (⟨hne, _⟩ | ⟨_, A2, c2, rfl, hrd, hk1, hk2, q8⟩)
        · exact absurd HE.out.symm hne
        · exact ⟨_, rfl, ⟨A2, c2, rfl⟩, SeqN.set_ [1, 3] [8] hSh hAt hDn (by kernel_rfl) (by decide) (by decide) ⟨bl_ca hT q8, A2, c2, upd_same _ _ _, Lay.rd_weak (fun b hb _ => hb.elim id (fun h => .inr (Nat.le_trans hT.size h))) hrd, hk1, hk2⟩⟩
      try simp only [Act.put, sA, sZ, sS]
      obtain ⟨A2, c2, rfl⟩ := hVv5
      refine Ps.st (i := 6) (d := some 16) (u := _) rfl rfl (StepS.pure (SeqN.pass (by decide)) rfl fun w9 => by go_simp; try rfl) ?_
      try simp only [Act.put, sA, sZ, sS]
      refine Ps.st (i := 7) (d := some 17) (u := _) rfl rfl (StepS.pure (SeqN.pass (by decide)) rfl fun w9 => by go_simp; try rfl) ?_
      try simp only [Act.put, sA, sZ, sS]
      refine Ps.st (i := 8) (d := none) (u := undef) rfl rfl ?ywpl_9 ?rwpl_9
      case ywpl_9 =>
        refine StepS.store [1, 3, 5] (by kernel_rfl) (by rfl) (fun L9 m9 w9 hSh hAt hDn hS => ?_)
        obtain ⟨hT, A3, c3, hv, hrd, hk1, hk2⟩ := SeqN.at_ [1, 3, 5] [] hSh hAt hDn (by kernel_rfl) hS
        obtain ⟨rfl, rfl⟩ : A2 = A3 ∧ c2 = c3 := by have h9 : Value.tuple #[.agg ((putR s ⟨rows, false, 0⟩).cells A2 (n + 1) c2), .int .i64 0] = .tuple #[.agg ((putR s ⟨rows, false, 0⟩).cells A3 (n + 1) c3), .int .i64 0] := (hAt 5 (by simp)).2.symm.trans hv; simpa using h9
        refine (exec_store_blk (w := w9) 29 (.tmp 4) (.tmp 16) (by rfl) (w.heap.size + 1) 29 #[.int .u32 0, .int .u64 0, .slice none 0 0, .int .u64 0, .int .u64 0, .int .i64 0, .bool false] ((putR s ⟨rows, false, 0⟩).cells A2 (n + 1) c2) (by rfl) (by rfl) (HK2.out.ca hT) rfl senderI (by simp [Value.oneCell'])).imp fun w7 hx => ⟨hx.1, SeqN.set_ [1, 3, 5] [] hSh hAt hDn (by kernel_rfl) (by decide) (by decide) ⟨bl_gr (bl_ca HQ2.out hT) hx.2.2 (by omega), A2, c2, hv, hx.2.1, rd_grown hrd hx.2.2 (fun b hb => hb.elim (fun h => by have := h.2; omega) (fun h => by omega)), hk1, hk2⟩⟩
      try simp only [Act.put]
      refine Ps.st (i := 9) (d := some 5) (u := _) rfl rfl (StepS.pure (SeqN.pass (by decide)) rfl fun w9 => by go_simp; try rfl) ?_
      try simp only [Act.put, sA, sZ, sS]
      refine Ps.done (by kernel_rfl) (fun wpl hS => ?_) _
      obtain ⟨hT, A3, c3, hv, hb, hrd, hk1, hk2⟩ := SeqN.fin (by rfl) hS
      clear hS
      obtain ⟨rfl, rfl⟩ : A2 = A3 ∧ c2 = c3 := by have h9 : Value.tuple #[.agg ((putR s ⟨rows, false, 0⟩).cells A2 (n + 1) c2), .int .i64 0] = .tuple #[.agg ((putR s ⟨rows, false, 0⟩).cells A3 (n + 1) c3), .int .i64 0] := hv; simpa using h9
      have HBB := Lib.hid hb
      have HRF := Lib.hid hrd
      have HTT := Lib.hid hT
      have HKK := Lib.hid (And.intro hk1 hk2)
      clear hT hv hb hrd hk1 hk2
      obtain ⟨w4, rfl⟩ : ∃ x, x = wpl := ⟨_, rfl⟩
      go_wp2_with fail
      exact bodyPost_ret (res2 Try.results54 rfl rfl HBB.out Try.underlying29 rfl senderI) rfl ⟨_, 0, rfl, rfl, HTT.out, .inr ⟨rfl, A2, n + 1, c2, rfl, Lay.rd_weak (fun b hb _ => hb.elim (fun h => .inl h.1) (fun h => .inr (by omega))) HRF.out, HKK.out.1, HKK.out.2⟩⟩
    · have HNE := Lib.hid h0
      clear h0
      go_enter Try.func54, Try.ntmps54
      go_wp2_with fail
      generalize ((w.alloc (.cells #[.int .u32 s.ses, .int .u64 s.base, .slice A n c, .int .u64 s.sent, .int .u64 s.lim, .int .i64 s.timer, .bool s.ended] 29)).alloc (.cells #[.int .u32 0, .int .u64 0, .slice none 0 0, .int .u64 0, .int .u64 0, .int .i64 0, .bool false] 29)) = w2 at *
      refine HC.out.mono ?_
      rintro e w3 ⟨rfl, q3⟩
      have HWW := Lib.hid q3
      clear q3
      go_wp2_with fail
      refine wp_region_ps (S := SeqN [1, 3, 8] (fun z m w' => match z with | 0 => Below w2.heap.size w2 w' | 1 => Below w2.heap.size w2 w' ∧ ∃ g1, m 1 = .slice (some ⟨g1, 0, none⟩) 0 0 ∧ LR.own 89 w' w2.heap.size (fun k => Fr k ∧ k < w.heap.size) (some ⟨g1, 0, none⟩) 0 0 [] | 2 => Below w2.heap.size w2 w' ∧ ∃ A6 c6, m 3 = .slice A6 rn c6 ∧ LR.rd w' (fun k => (Fr k ∧ k < w.heap.size) ∨ w2.heap.size ≤ k) A6 rn rows ∧ rn ≤ c6 ∧ c6 ≤ 9223372036854775807 | _ => Below w.heap.size w w' ∧ Blk w' (w.heap.size + 1) 29 (zeroS.cells none 0 0))) (by kernel_rfl) ?spswpm ?ppswpm
      case spswpm =>
        exact SeqN.start (by decide) HWW.out.drew
      refine Ps.st (i := 0) (d := some 10) (u := ?uwpm_11) rfl rfl ?ywpm_11 ?rwpm_11
      case ywpm_11 =>
        refine StepS.read [] (by kernel_rfl) (SeqN.pass (by decide)) (by rfl) (fun L9 m9 w9 hSh hAt hDn hS => ?_)
        have hT : Below w2.heap.size w2 w9 := SeqN.early2 (T := fun w9 => Below w2.heap.size w2 w9) (reach_no hSh (f := 11) (j := 8) (by kernel_rfl) hDn) (fun z _ _ hz h => by match z, hz, h with | 0, _, h => exact h | 1, _, h => exact h.1 | 2, _, h => exact h.1 | _ + 3, hz, _ => exact absurd hz (by omega)) hS
        have x0 : w9.cell? ⟨w.heap.size, 0, none⟩ = some (.int .u32 s.ses) := (HK1.out.ca hT).cell 0
        have x1 : w9.cell? ⟨w.heap.size, 1, none⟩ = some (.int .u64 s.base) := (HK1.out.ca hT).cell 1
        have x2 : w9.cell? ⟨w.heap.size, 2, none⟩ = some (.slice A n c) := (HK1.out.ca hT).cell 2
        have x3 : w9.cell? ⟨w.heap.size, 3, none⟩ = some (.int .u64 s.sent) := (HK1.out.ca hT).cell 3
        have x4 : w9.cell? ⟨w.heap.size, 4, none⟩ = some (.int .u64 s.lim) := (HK1.out.ca hT).cell 4
        have x5 : w9.cell? ⟨w.heap.size, 5, none⟩ = some (.int .i64 s.timer) := (HK1.out.ca hT).cell 5
        have x6 : w9.cell? ⟨w.heap.size, 6, none⟩ = some (.bool s.ended) := (HK1.out.ca hT).cell 6
        clear hT hS
        go_simp
        try rfl
      try simp only [Act.put, sA, sZ, sS]
      refine Ps.st (i := 2) (d := some 12) (u := _) rfl rfl (StepS.pure (SeqN.pass (by decide)) rfl fun w9 => by go_simp; try rfl) ?_
      try simp only [Act.put, sA, sZ, sS]
      refine Ps.one (k := 1) (d := some 11) rfl rfl (by kernel_rfl) (TurnS.value (V := fun v => ∃ g, v = .slice (some ⟨g, 0, none⟩) 0 0) [] (by kernel_rfl) (by rfl) (fun L9 m9 w9 hSh hAt hDn hS => ?cwpm_13)) (fun v1 hVv1 => ?rwpm_13)
      case cwpm_13 =>
        have hT : Below w2.heap.size w2 w9 := SeqN.at_ (m0 := m9) (m1 := m9) [] [3, 8] hSh (fun d hd => by cases hd) hDn (by kernel_rfl) hS
        refine ⟨.slice (some ⟨w9.heap.size, 0, none⟩) 0 0, w9.alloc (.cells #[] 89), ?_, ⟨_, rfl⟩, SeqN.set_ (m0 := m9) (m1 := m9) [] [3, 8] hSh (fun d hd => by cases hd) hDn (by kernel_rfl) (by decide) (by decide) ⟨bl_al hT _, _, upd_same _ _ _, Lay.own_lessB (Lay.own_empty LR w9 89 (fun k => Fr k ∧ k < w.heap.size) (by decide)) hT.size⟩⟩
        clear hT hS
        go_simp
      try simp only [Act.put, sA, sZ, sS]
      obtain ⟨g1, rfl⟩ := hVv1
      refine Ps.one (k := 3) (d := some 13) rfl rfl (by kernel_rfl) (TurnS.value (V := fun v => ∃ A6 c6, v = .slice A6 rn c6) [1] (by kernel_rfl) (by rfl) (fun L9 m9 w9 hSh hAt hDn hS => ?cwpm_14)) (fun v3 hVv3 => ?rwpm_14)
      case cwpm_14 =>
        obtain ⟨hT, g5, hv, ho⟩ := SeqN.at_ [1] [8] hSh hAt hDn (by kernel_rfl) hS
        obtain rfl : g1 = g5 := by have h9 : Value.slice (some ⟨g1, 0, none⟩) 0 0 = .slice (some ⟨g5, 0, none⟩) 0 0 := (hAt 1 (by simp)).2.symm.trans hv; simpa using h9
        have hsz := hT.size
        have hg1 := (Lay.own_base ho g1 (by simp [Value.ownBlock])).1
        obtain ⟨A6, c6, w8, hrun, hown, hgr⟩ := run_appLs (L := LR) (e := 89) (P := Try.prog) (w := w9) 43 43 (.slice none 0 0) 1 24 Try.underlying43 infoR rfl rfl (by decide) w2.heap.size (fun k => Fr k ∧ k < w.heap.size) (fun k => Fr k ∧ k < w.heap.size) (some ⟨g1, 0, none⟩) 0 0 [] rA rn rc rows ho (Lay.rd_below (Lay.rd_weak (fun b h1 h2 => ⟨h1, h2⟩) HRR.out) (bl_ca HQ2.out hT)) (fun b hb _ => ⟨hb, fun e => by simp [Value.ownBlock] at e; have := hb.2; omega⟩) (fun b hb => by have := hb.2; omega) (by omega) (by unfold maxLen; omega) hsz
        rw [Nat.zero_add, List.nil_append] at hown
        rw [Nat.zero_add] at hrun
        have hcp := Lay.own_caps hown
        exact ⟨_, w8, exec_append (.tmp 11) (.tmp 12) 43 rfl rfl rfl hrun, ⟨A6, c6, rfl⟩, SeqN.set_ [1] [8] hSh hAt hDn (by kernel_rfl) (by decide) (by decide) ⟨hT.grown hgr hsz (fun k e => by simp [Value.ownBlock] at e; omega), A6, c6, upd_same _ _ _, Lay.own_rd hown (fun b h1 _ => .inr h1) (fun b hb _ => .inl hb), hcp.1, hcp.2⟩⟩
      try simp only [Act.put, sA, sZ, sS]
      obtain ⟨A6, c6, rfl⟩ := hVv3
      refine Ps.st (i := 4) (d := some 14) (u := _) rfl rfl (StepS.pure (SeqN.pass (by decide)) rfl fun w9 => by go_simp; try rfl) ?_
      try simp only [Act.put, sA, sZ, sS]
      refine Ps.st (i := 5) (d := some 15) (u := (.tuple #[.agg (zeroS.cells none 0 0), .int .i64 E])) rfl rfl ?ywpm_16 ?rwpm_16
      case ywpm_16 =>
        refine StepS.call ?fwpm_16 ?awpm_16 [1, 3] (by kernel_rfl) (by rfl) (fun w9 => ?hwpm_16) (fun L9 m9 w9 hSh hAt hDn hS => ?cwpm_16)
        case hwpm_16 => go_simp; refine ⟨?_, ?_⟩ <;> rfl
        case cwpm_16 =>
          obtain ⟨hT, A7, c7, hv, hr6, hk6, hk7⟩ := SeqN.atL (hAt 1 (by simp)).1 (hAt 3 (by simp)).1 (reach_no hSh (f := 11) (j := 8) (by kernel_rfl) hDn) hS
          obtain ⟨rfl, rfl⟩ : A6 = A7 ∧ c6 = c7 := by have h9 : Value.slice A6 rn c6 = .slice A7 rn c7 := (hAt 3 (by simp)).2.symm.trans hv; simpa using h9
          refine (rwith_any (fun k => (Fr k ∧ k < w.heap.size) ∨ w2.heap.size ≤ k) s A n c ⟨rows, false, 0⟩ A6 rn c6 w9 (Lay.rd_below (Lay.rd_weak (fun b h1 h2 => .inl ⟨h1, h2⟩) HRD.out) (bl_ca HQ2.out hT)) hr6 (by omega) hk6 hk7 h1 h2).mono ?_
          rintro e w8 (⟨_, rfl, q8⟩ | ⟨h0, _⟩)
          · exact ⟨by rw [HE.out], (SeqN.moveB (by decide) (reach_no hSh (f := 11) (j := 8) (by kernel_rfl) hDn) (fun z m hz h => by match z, hz, h with | 0, _, h => exact bl_ca h q8 | 1, _, ⟨h, g, e, ho⟩ => exact ⟨bl_ca h q8, g, e, Lay.own_below ho q8⟩ | 2, _, ⟨h, A7, c7, e, r, h3⟩ => exact ⟨bl_ca h q8, A7, c7, e, Lay.rd_below r q8, h3⟩ | _ + 3, hz, _ => exact absurd hz (by omega)) hS)⟩
          · exact absurd (HE.out.trans h0) HNE.out
      try simp only [Act.put, sA, sZ, sS]
      refine Ps.st (i := 6) (d := some 16) (u := _) rfl rfl (StepS.pure (SeqN.pass (by decide)) rfl fun w9 => by go_simp; try rfl) ?_
      try simp only [Act.put, sA, sZ, sS]
      refine Ps.st (i := 7) (d := some 17) (u := _) rfl rfl (StepS.pure (SeqN.pass (by decide)) rfl fun w9 => by go_simp; try rfl) ?_
      try simp only [Act.put, sA, sZ, sS]
      refine Ps.st (i := 8) (d := none) (u := undef) rfl rfl ?ywpm_19 ?rwpm_19
      case ywpm_19 =>
        refine StepS.store [1, 3] (by kernel_rfl) (by rfl) (fun L9 m9 w9 hSh hAt hDn hS => ?_)
        have hT : Below w2.heap.size w2 w9 := (SeqN.atL (hAt 1 (by simp)).1 (hAt 3 (by simp)).1 hDn hS).1
        refine (exec_store_blk (w := w9) 29 (.tmp 4) (.tmp 16) (by rfl) (w.heap.size + 1) 29 #[.int .u32 0, .int .u64 0, .slice none 0 0, .int .u64 0, .int .u64 0, .int .i64 0, .bool false] (zeroS.cells none 0 0) (by rfl) (by rfl) (HK2.out.ca hT) rfl senderI (by simp [Value.oneCell'])).imp fun w7 hx => ⟨hx.1, SeqN.set_ [1, 3] [] hSh hAt hDn (by kernel_rfl) (by decide) (by decide) ⟨bl_gr (bl_ca HQ2.out hT) hx.2.2 (by omega), hx.2.1⟩⟩
      try simp only [Act.put]
      refine Ps.st (i := 9) (d := some 5) (u := _) rfl rfl (StepS.pure (SeqN.pass (by decide)) rfl fun w9 => by go_simp; try rfl) ?_
      try simp only [Act.put, sA, sZ, sS]
      refine Ps.done (by kernel_rfl) (fun wpm hS => ?_) _
      obtain ⟨hT, hb⟩ := SeqN.fin (by rfl) hS
      clear hS
      have HBB := Lib.hid hb
      have HTT := Lib.hid hT
      clear hT hb
      obtain ⟨w4, rfl⟩ : ∃ x, x = wpm := ⟨_, rfl⟩
      go_wp2_with fail
      exact bodyPost_ret (res2 Try.results54 rfl rfl HBB.out Try.underlying29 rfl senderI) rfl ⟨_, E, rfl, rfl, HTT.out, .inl ⟨HNE.out, rfl⟩⟩
end Go.Proofs.Ytojghgbaiiajfaa
/- link.Close$1, link.Close. Conditions: the queue reads as these batches. -/
namespace Go.Proofs.Ytojghgbaiiajfaa
open Go.RowKit
def lastB (s : SC) : BC := ⟨[], true, s.base - 1 + (s.q.length : Int)⟩
theorem LR_nil (w : World) (F : Nat → Prop) : LR.rd w F none 0 [] := Lay.rd_nil _
set_option maxRecDepth 100000 in
set_option maxHeartbeats 16000000 in
theorem close1_do (s : SC) (w0 : World) (Fr : Nat → Prop) (hFr : ∀ k, Fr k → k < w0.heap.size) : DoS 91 #[] w0 Fr s (putE s) (putR s (lastB s)) noX noY := by
  intro hok w g B A n c hB hg hgB hBs hN ho
  have hlen := sendB_len hok
  have HL := Lay.own_len ho
  have HO := Lib.hid ho
  have HN := Lib.hid hN
  obtain ⟨E, hE⟩ : ∃ E, E = putE s := ⟨_, rfl⟩
  have HLA := Lib.hid (last_any s A n c w hlen.2.1 (by omega) (by omega))
  have HPU := fun (w3 : World) (q3 : Below w.heap.size w w3) => puts_any s g A n c B (lastB s) none 0 0 (fun k => k < w3.heap.size ∧ (Fr k ∨ B ≤ k)) w3 (HN.out.ca q3)
      (Lay.own_weak (fun k hk hl => ⟨hl, .inl hk⟩) (Lay.own_below HO.out q3)) hgB (by have := q3.size; omega) (fun k h => h.1) (fun k h => by rintro rfl; exact h.2.elim (fun h => by have := hFr _ h; omega) (fun h => by omega))
      (LR_nil _ _) (Nat.le_refl _) (by omega) hlen.2.1 (by omega) (by omega)
  have HPU := Lib.hid HPU
  rw [← hE] at HPU ⊢
  have HLB := Lib.hid (show (lastB s).cells none 0 0 = #[.slice none 0 0, .bool true, .int .u64 (s.base - 1 + (n : Int))] from by unfold lastB; rw [HL])
  clear ho hN hE hok HL HO hFr
  show Calls Try.prog 91 #[.pointer (some ⟨g, 0, none⟩)] w _
  have x0 : w.cell? ⟨g, 0, none⟩ = some (.int .u32 s.ses) := HN.out.cell 0
  have x1 : w.cell? ⟨g, 1, none⟩ = some (.int .u64 s.base) := HN.out.cell 1
  have x2 : w.cell? ⟨g, 2, none⟩ = some (.slice A n c) := HN.out.cell 2
  have x3 : w.cell? ⟨g, 3, none⟩ = some (.int .u64 s.sent) := HN.out.cell 3
  have x4 : w.cell? ⟨g, 4, none⟩ = some (.int .u64 s.lim) := HN.out.cell 4
  have x5 : w.cell? ⟨g, 5, none⟩ = some (.int .i64 s.timer) := HN.out.cell 5
  have x6 : w.cell? ⟨g, 6, none⟩ = some (.bool s.ended) := HN.out.cell 6
  go_enter Try.func91, Try.ntmps91
  go_wp2_with fail
  refine HLA.out.mono ?_
  clear HLA
  rintro e w2 ⟨rfl, q2⟩
  have HP := Lib.hid (HPU.out w2 q2)
  rw [HLB.out] at HP
  have HQ := Lib.hid q2
  clear HPU q2 HN x0 x1 x2 x3 x4 x5 x6
  go_wp2_with fail
  refine HP.out.mono ?_
  clear HP
  rintro e w4 hpc
  rcases hpc with ⟨hE, rfl, q4⟩ | ⟨hE, rfl, A2, c2, hb4, ho4, hc4⟩
  · have HB4 := Lib.hid (bl_ca HQ.out q4)
    have HEN := Lib.hid hE
    clear hE q4
    go_wp2
    go_ret
    exact ⟨rfl, Chg.of_below HB4.out, trivial, fun h => absurd h HEN.out⟩
  · have HC4 := Lib.hid hc4
    have HB4 := Lib.hid hb4
    have HO4 := Lib.hid ho4
    have HEN := Lib.hid hE
    clear hE hc4 hb4 ho4
    go_wp2
    go_ret
    refine ⟨by rw [HEN.out]; rfl, (Chg.of_below HQ.out).trans (HC4.out.weak (fun b _ h => ?_)), trivial, fun _ => ⟨A2, n + 1, c2, HB4.out, Lay.own_weak (fun k hk _ => ⟨Nat.lt_of_lt_of_le hk.1 HC4.out.size, hk.2⟩) HO4.out⟩⟩
    rcases h with h | h
    · exact .inl h
    · exact .inr (.inl h)
set_option maxRecDepth 100000 in
set_option maxHeartbeats 16000000 in
theorem close_any (Fr : Nat → Prop) (s : SC) (A : Option Addr) (n c : Nat) (w : World) (hFr : ∀ k, Fr k → k < w.heap.size) (h : LB3.rd w Fr A n s.q) (hn : n ≤ 9223372036854775807) (h0 : 0 ≤ s.base) :
    Calls Try.prog 42 #[.agg (s.cells A n c)] w fun e w' => ∃ (t : SC) (A' : Option Addr) (n' c' : Nat) (N : Int), e = .returned (.tuple #[.agg (t.cells A' n' c'), .int .i64 N]) ∧ SendsO Fr s (putE s) (putR s (lastB s)) noX noY w (t.cells A' n' c') N w' := by
  have q1 := bl_al (Below.refl w.heap.size w) (.cells (s.cells A n c) 29)
  have q2 := bl_al (Below.refl (w.alloc (.cells (s.cells A n c) 29)).heap.size (w.alloc (.cells (s.cells A n c) 29))) (.cells (zeroS.cells none 0 0) 29)
  have HB := Lib.hid (bl_ca q1 q2)
  have HS := Lib.hid ((Blk.new w 29 (s.cells A n c)).ca q2)
  have HZ := Lib.hid (show Blk ((w.alloc (.cells (s.cells A n c) 29)).alloc (.cells (zeroS.cells none 0 0) 29)) (w.heap.size + 1) 29 (zeroS.cells none 0 0) from Blk.mk' (by simp only [World.size_alloc]))
  have hsz : ((w.alloc (.cells (s.cells A n c) 29)).alloc (.cells (zeroS.cells none 0 0) 29)).heap.size = w.heap.size + 2 := by simp only [World.size_alloc]
  have HSE := Lib.hid (sends_any Fr s A n c 91 #[] (putE s) (putR s (lastB s)) noX noY _ (Lay.rd_below (Lay.rd_below h q1) q2) (fun k h => by have := hFr k h; omega) hn h0 (Go.Proofs.enters_of Try.func91 (by kernel_rfl) rfl)
    (close1_do s _ Fr (fun k h => by have := hFr k h; omega)) (fun k h => h.elim) (fun _ _ h _ => h))
  clear h q1 q2
  go_enter Try.func42, Try.ntmps42
  go_wp2_with (refine wpList_load_blk rfl 29 (.tmp 1) rfl w.heap.size rfl 29 _ (s.cells A n c) HS.out rfl rfl senderI ?_)
  refine HSE.out.mono ?_
  clear HSE
  rintro e w4 h4
  obtain ⟨t, A', n', c', N, rfl, ho⟩ := sends_o h4
  have HZ4 := Lib.hid (ho.blk HZ.out (fun h => h))
  have HO := Lib.hid ho
  clear h4 ho HS HZ
  go_wp2_with (refine wpList_store_blk rfl 29 (.tmp 2) (.tmp 6) rfl (w.heap.size + 1) 29 _ (t.cells A' n' c') rfl rfl HZ4.out rfl senderI (by obtain ⟨s1, s2, s3, s4, s5, s6, s7⟩ := t; simp [Value.oneCell', SC.cells]) ?_; intro wz hZ gz)
  exact bodyPost_ret (res2 Try.results42 rfl rfl hZ Try.underlying29 rfl senderI) rfl ⟨t, A', n', c', N, rfl, HO.out.out HB.out gz (fun k h => by have := hFr k h; omega) (by omega) (by omega) (by omega) (fun b h _ => h.elim) (fun _ _ h _ => h)⟩
end Go.Proofs.Ytojghgbaiiajfaa
/- (Act).packet of bowspritlaw22: what an act's sender hears. Conditions: the rows read so. -/
namespace Go.Proofs.Ytojghgbaiiajfaa
open Go.RowKit
structure AC where
  kind : Int
  rows : List (List VV)
  pk : PK
  near : Bool
def AC.cells (a : AC) (rA : Option Addr) (rn rc : Nat) (pA : Option Addr) (pn pc : Nat) : Array Value := #[.int .i64 a.kind, .slice rA rn rc, .int .i64 a.pk.kind, .int .u32 a.pk.ses, .int .u64 a.pk.seq, .int .u64 a.pk.lim, .slice pA pn pc, .bool a.pk.b.fin, .int .u64 a.pk.b.cnt, .bool a.near]
def nearP (s : SC) (p : PK) : PK := ⟨2, s.ses, IntKind.u64.wrap (s.base + Int.tmod p.seq 10), IntKind.u64.wrap (s.base + Int.tmod p.lim 12), ⟨[], false, 0⟩⟩
def actPk (a : AC) (s : SC) : PK := if a.near then nearP s a.pk else pakC a.pk
set_option maxRecDepth 100000 in
set_option maxHeartbeats 16000000 in
theorem actpk_any (Fr : Nat → Prop) (a : AC) (s : SC) (rA : Option Addr) (rn rc : Nat) (pA : Option Addr) (pn pc : Nat) (A : Option Addr) (n c : Nat) (w : World) (hr : LR.rd w Fr pA pn a.pk.b.rows) (hpc : pn ≤ pc) (hpm : pc ≤ 9223372036854775807) :
    Calls Try.prog 53 #[.agg (a.cells rA rn rc pA pn pc), .agg (s.cells A n c)] w fun e w' => ∃ A2 k2 c2, e = .returned (.agg ((actPk a s).cells A2 k2 c2)) ∧ LR.rd w' (Since w w') A2 k2 (actPk a s).b.rows ∧ k2 ≤ c2 ∧ c2 ≤ 9223372036854775807 ∧ Below w.heap.size w w' := by
  obtain ⟨kd, rows, ⟨kind, ses, seq, lim, ⟨prows, fin, cnt⟩⟩, near⟩ := a
  obtain ⟨sses, sbase, sq, ssent, slim, stimer, sended⟩ := s
  dsimp only at hr
  have q1 := bl_al (Below.refl w.heap.size w) (.cells #[.int .i64 kd, .slice rA rn rc, .int .i64 kind, .int .u32 ses, .int .u64 seq, .int .u64 lim, .slice pA pn pc, .bool fin, .int .u64 cnt, .bool near] 49)
  have q2 := bl_al q1 (.cells #[.int .u32 sses, .int .u64 sbase, .slice A n c, .int .u64 ssent, .int .u64 slim, .int .i64 stimer, .bool sended] 29)
  have q3 := bl_al q2 (.cells #[.int .i64 0, .int .u32 0, .int .u64 0, .int .u64 0, .slice none 0 0, .bool false, .int .u64 0] 47)
  have HC := Lib.hid (packetC_any Fr ⟨kind, ses, seq, lim, ⟨prows, fin, cnt⟩⟩ pA pn pc (((w.alloc (.cells #[.int .i64 kd, .slice rA rn rc, .int .i64 kind, .int .u32 ses, .int .u64 seq, .int .u64 lim, .slice pA pn pc, .bool fin, .int .u64 cnt, .bool near] 49)).alloc (.cells #[.int .u32 sses, .int .u64 sbase, .slice A n c, .int .u64 ssent, .int .u64 slim, .int .i64 stimer, .bool sended] 29)).alloc (.cells #[.int .i64 0, .int .u32 0, .int .u64 0, .int .u64 0, .slice none 0 0, .bool false, .int .u64 0] 47)) (Lay.rd_below hr q3) hpc hpm)
  have HB1 := Lib.hid (((Blk.new w 49 #[.int .i64 kd, .slice rA rn rc, .int .i64 kind, .int .u32 ses, .int .u64 seq, .int .u64 lim, .slice pA pn pc, .bool fin, .int .u64 cnt, .bool near]).alloc (.cells #[.int .u32 sses, .int .u64 sbase, .slice A n c, .int .u64 ssent, .int .u64 slim, .int .i64 stimer, .bool sended] 29)).alloc (.cells #[.int .i64 0, .int .u32 0, .int .u64 0, .int .u64 0, .slice none 0 0, .bool false, .int .u64 0] 47))
  have HB2 := Lib.hid (show Blk (((w.alloc (.cells #[.int .i64 kd, .slice rA rn rc, .int .i64 kind, .int .u32 ses, .int .u64 seq, .int .u64 lim, .slice pA pn pc, .bool fin, .int .u64 cnt, .bool near] 49)).alloc (.cells #[.int .u32 sses, .int .u64 sbase, .slice A n c, .int .u64 ssent, .int .u64 slim, .int .i64 stimer, .bool sended] 29)).alloc (.cells #[.int .i64 0, .int .u32 0, .int .u64 0, .int .u64 0, .slice none 0 0, .bool false, .int .u64 0] 47)) (w.heap.size + 1) 29 #[.int .u32 sses, .int .u64 sbase, .slice A n c, .int .u64 ssent, .int .u64 slim, .int .i64 stimer, .bool sended] from by have := (Blk.new (w.alloc (.cells #[.int .i64 kd, .slice rA rn rc, .int .i64 kind, .int .u32 ses, .int .u64 seq, .int .u64 lim, .slice pA pn pc, .bool fin, .int .u64 cnt, .bool near] 49)) 29 #[.int .u32 sses, .int .u64 sbase, .slice A n c, .int .u64 ssent, .int .u64 slim, .int .i64 stimer, .bool sended]).alloc (.cells #[.int .i64 0, .int .u32 0, .int .u64 0, .int .u64 0, .slice none 0 0, .bool false, .int .u64 0] 47); simp only [World.size_alloc] at this; exact this)
  have HB3 := Lib.hid (show Blk (((w.alloc (.cells #[.int .i64 kd, .slice rA rn rc, .int .i64 kind, .int .u32 ses, .int .u64 seq, .int .u64 lim, .slice pA pn pc, .bool fin, .int .u64 cnt, .bool near] 49)).alloc (.cells #[.int .u32 sses, .int .u64 sbase, .slice A n c, .int .u64 ssent, .int .u64 slim, .int .i64 stimer, .bool sended] 29)).alloc (.cells #[.int .i64 0, .int .u32 0, .int .u64 0, .int .u64 0, .slice none 0 0, .bool false, .int .u64 0] 47)) (w.heap.size + 2) 47 #[.int .i64 0, .int .u32 0, .int .u64 0, .int .u64 0, .slice none 0 0, .bool false, .int .u64 0] from by have := Blk.new ((w.alloc (.cells #[.int .i64 kd, .slice rA rn rc, .int .i64 kind, .int .u32 ses, .int .u64 seq, .int .u64 lim, .slice pA pn pc, .bool fin, .int .u64 cnt, .bool near] 49)).alloc (.cells #[.int .u32 sses, .int .u64 sbase, .slice A n c, .int .u64 ssent, .int .u64 slim, .int .i64 stimer, .bool sended] 29)) 47 #[.int .i64 0, .int .u32 0, .int .u64 0, .int .u64 0, .slice none 0 0, .bool false, .int .u64 0]; simp only [World.size_alloc] at this; exact this)
  have HQ3 := Lib.hid q3
  have hs3 : (((w.alloc (.cells #[.int .i64 kd, .slice rA rn rc, .int .i64 kind, .int .u32 ses, .int .u64 seq, .int .u64 lim, .slice pA pn pc, .bool fin, .int .u64 cnt, .bool near] 49)).alloc (.cells #[.int .u32 sses, .int .u64 sbase, .slice A n c, .int .u64 ssent, .int .u64 slim, .int .i64 stimer, .bool sended] 29)).alloc (.cells #[.int .i64 0, .int .u32 0, .int .u64 0, .int .u64 0, .slice none 0 0, .bool false, .int .u64 0] 47)).heap.size = w.heap.size + 3 := by simp only [World.size_alloc]
  have x2 := HB1.out.cell 2
  have x3 := HB1.out.cell 3
  have x4 := HB1.out.cell 4
  have x5 := HB1.out.cell 5
  have x6 := HB1.out.cell 6
  have x7 := HB1.out.cell 7
  have x8 := HB1.out.cell 8
  clear hr q1 q2 q3
  show Calls Try.prog 53 #[.agg #[.int .i64 kd, .slice rA rn rc, .int .i64 kind, .int .u32 ses, .int .u64 seq, .int .u64 lim, .slice pA pn pc, .bool fin, .int .u64 cnt, .bool near], .agg #[.int .u32 sses, .int .u64 sbase, .slice A n c, .int .u64 ssent, .int .u64 slim, .int .i64 stimer, .bool sended]] w _
  go_enter Try.func53, Try.ntmps53
  go_wp2_with fail
  clear x2 x3 x4 x5 x6 x7 x8
  generalize (((w.alloc (.cells #[.int .i64 kd, .slice rA rn rc, .int .i64 kind, .int .u32 ses, .int .u64 seq, .int .u64 lim, .slice pA pn pc, .bool fin, .int .u64 cnt, .bool near] 49)).alloc (.cells #[.int .u32 sses, .int .u64 sbase, .slice A n c, .int .u64 ssent, .int .u64 slim, .int .i64 stimer, .bool sended] 29)).alloc (.cells #[.int .i64 0, .int .u32 0, .int .u64 0, .int .u64 0, .slice none 0 0, .bool false, .int .u64 0] 47)) = w3 at *
  refine HC.out.mono ?_
  rintro e w4 ⟨A2, k2, c2, rfl, hr4, hk2, hkc2, q4⟩
  have hs4 := q4.size
  have HK1 := Lib.hid (HB1.out.ca q4)
  have HK2 := Lib.hid (HB2.out.ca q4)
  have HK3 := Lib.hid (HB3.out.ca q4)
  have HQ4 := Lib.hid (bl_ca HQ3.out q4)
  have HR4 := Lib.hid hr4
  have HCP := Lib.hid (And.intro hk2 hkc2)
  clear hr4 q4 HC hk2 hkc2
  have hl1 := HK1.out.lt
  have hl3 := HK3.out.lt
  have HN := Lib.hid (Blk.new w4 47 #[.int .i64 0, .int .u32 0, .int .u64 0, .int .u64 0, .slice none 0 0, .bool false, .int .u64 0])
  have HL1 := Lib.hid (HK1.out.alloc (.cells #[.int .i64 0, .int .u32 0, .int .u64 0, .int .u64 0, .slice none 0 0, .bool false, .int .u64 0] 47))
  have HBN := Lib.hid (bl_al (Below.refl w4.heap.size w4) (.cells #[.int .i64 0, .int .u32 0, .int .u64 0, .int .u64 0, .slice none 0 0, .bool false, .int .u64 0] 47))
  cases near
  · go_wp2_with (first | (refine wpList_store_blk rfl 47 (.tmp 5) (.tmp 8) rfl w4.heap.size 47 #[.int .i64 0, .int .u32 0, .int .u64 0, .int .u64 0, .slice none 0 0, .bool false, .int .u64 0] #[.int .i64 kind, .int .u32 ses, .int .u64 seq, .int .u64 lim, .slice A2 k2 c2, .bool fin, .int .u64 cnt] rfl rfl HN.out rfl packetI (by simp [Value.oneCell']) ?_; intro w5 h5 g5; have HF5 := Lib.hid h5; have x9 := (HL1.out.apart g5 (by omega)).cell 9; have HB5 := Lib.hid (bl_gr HBN.out g5 (Nat.le_refl _)); clear h5 g5) | (refine wpList_load_blk rfl 47 (.tmp 5) rfl w4.heap.size rfl 47 _ _ HF5.out Try.underlying47 rfl packetI ?_) | (refine wpList_store_blk rfl 47 (.tmp 4) (.tmp 31) rfl (w.heap.size + 2) 47 _ #[.int .i64 kind, .int .u32 ses, .int .u64 seq, .int .u64 lim, .slice A2 k2 c2, .bool fin, .int .u64 cnt] rfl rfl (HK3.out.ca HB5.out) rfl packetI (by simp [Value.oneCell']) ?_; intro w6 h6 g6))
    have hs6 := g6.size
    have hs5 := HB5.out.size
    exact bodyPost_ret (res1 Try.results53 rfl h6 Try.underlying47 rfl packetI) rfl ⟨A2, k2, c2, rfl, Lay.rd_weak (fun b hb _ => ⟨by have := hb.1; omega, by have := hb.2; omega⟩) (Lay.rd_keep (fun b hb hl => g6.block b hl (fun e => by injection e with e; have := hb.1; omega)) (Lay.rd_below HR4.out HB5.out)), HCP.out.1, HCP.out.2, bl_gr (bl_ca HQ4.out HB5.out) g6 (by omega)⟩
  · go_wp2_with (first | (refine wpList_store_blk rfl 47 (.tmp 5) (.tmp 8) rfl w4.heap.size 47 #[.int .i64 0, .int .u32 0, .int .u64 0, .int .u64 0, .slice none 0 0, .bool false, .int .u64 0] #[.int .i64 kind, .int .u32 ses, .int .u64 seq, .int .u64 lim, .slice A2 k2 c2, .bool fin, .int .u64 cnt] rfl rfl HN.out rfl packetI (by simp [Value.oneCell']) ?_; intro w5 h5 g5; have HF5 := Lib.hid h5; have x9 := (HL1.out.apart g5 (by omega)).cell 9; have HB5 := Lib.hid (bl_gr HBN.out g5 (Nat.le_refl _)); clear h5 g5))
    clear x9
    refine wp_region_ps (S := SeqN [4, 6, 8] (fun z _ w' => Below w4.heap.size w4 w' ∧ Blk w' w4.heap.size 47 (match z with | 0 => #[.int .i64 kind, .int .u32 ses, .int .u64 seq, .int .u64 lim, .slice A2 k2 c2, .bool fin, .int .u64 cnt] | 1 => #[.int .i64 2, .int .u32 ses, .int .u64 seq, .int .u64 lim, .slice A2 k2 c2, .bool fin, .int .u64 cnt] | 2 => #[.int .i64 2, .int .u32 sses, .int .u64 seq, .int .u64 lim, .slice A2 k2 c2, .bool fin, .int .u64 cnt] | _ => #[.int .i64 2, .int .u32 sses, .int .u64 seq, .int .u64 lim, .slice none 0 0, .bool false, .int .u64 0]))) (by kernel_rfl) ?spswg1 ?ppswg1
    case spswg1 =>
      exact SeqN.start (by decide) ⟨HB5.out.drew, HF5.out.ca (Below.refl _ _).drew⟩
    refine Ps.st (i := 0) (d := some 11) (u := (.pointer (some ⟨(w.heap.size + 1), 0, none⟩))) rfl rfl (by exact StepS.pure (SeqN.pass (by decide)) rfl fun _ => rfl) ?_
    try simp only [Act.put, sA, sZ, sS]
    refine Ps.st (i := 1) (d := some 12) (u := (.int .u32 (sses))) rfl rfl ?ywg1_3 ?rwg1_3
    case ywg1_3 =>
      refine StepS.read [] (by kernel_rfl) (SeqN.pass (by decide)) (by rfl) (fun L9 m9 w9 hSh hAt hDn hS => ?_)
      have hT : Below w4.heap.size w4 w9 := SeqN.any (T := fun w9 => Below w4.heap.size w4 w9) (fun z _ _ h => h.1) hS
      have x0 : w9.cell? ⟨(w.heap.size + 1), 0, none⟩ = some (.int .u32 (sses)) := (HK2.out.ca hT).cell 0
      clear hT hS
      go_simp
      try rfl
    try simp only [Act.put, sA, sZ, sS]
    refine Ps.st (i := 2) (d := some 13) (u := (.agg #[.slice none 0 0, .bool (false), .int .u64 (0)])) rfl rfl (by exact StepS.pure (SeqN.pass (by decide)) rfl fun _ => by first | rfl | (go_simp; done) | (go_simp; rfl)) ?_
    try simp only [Act.put, sA, sZ, sS]
    refine Ps.st (i := 3) (d := some 14) (u := (.pointer (some ⟨w4.heap.size, 0, none⟩))) rfl rfl (by exact StepS.pure (SeqN.pass (by decide)) rfl fun _ => rfl) ?_
    try simp only [Act.put, sA, sZ, sS]
    refine Ps.st (i := 4) (d := none) (u := undef) rfl rfl ?ywg1_6 ?rwg1_6
    case ywg1_6 =>
      refine StepS.store [] (by kernel_rfl) (by rfl) (fun L9 m9 w9 hSh hAt hDn hS => ?_)
      obtain ⟨hT, hN⟩ := SeqN.at_ (m0 := m9) (m1 := m9) [] [6, 8] hSh (fun d hd => by cases hd) hDn (by kernel_rfl) hS
      have hN2 : Blk (w9.setCell ⟨w4.heap.size, 0, none⟩ (.int .i64 2)) w4.heap.size 47 #[.int .i64 2, .int .u32 ses, .int .u64 seq, .int .u64 lim, .slice A2 k2 c2, .bool fin, .int .u64 cnt] := by simpa using hN.set_ 0 (.int .i64 2)
      have x2 := hN.cell 0
      have fx := hN.frozen 0
      refine ⟨w9.setCell ⟨w4.heap.size, 0, none⟩ (.int .i64 2), ?_, SeqN.set_ (m0 := m9) (m1 := m9) [] [6, 8] hSh (fun d hd => by cases hd) hDn (by kernel_rfl) (by decide) (by decide) ⟨bl_set hT (Nat.le_refl _) _, hN2⟩⟩
      clear hT hN hN2 hS
      go_simp
    try simp only [Act.put]
    refine Ps.st (i := 5) (d := some 15) (u := (.pointer (some ⟨w4.heap.size, 1, none⟩))) rfl rfl (by exact StepS.pure (SeqN.pass (by decide)) rfl fun _ => rfl) ?_
    try simp only [Act.put, sA, sZ, sS]
    refine Ps.st (i := 6) (d := none) (u := undef) rfl rfl ?ywg1_8 ?rwg1_8
    case ywg1_8 =>
      refine StepS.store [4] (by kernel_rfl) (by rfl) (fun L9 m9 w9 hSh hAt hDn hS => ?_)
      obtain ⟨hT, hN⟩ := SeqN.at_ [4] [8] hSh hAt hDn (by kernel_rfl) hS
      have hN2 : Blk (w9.setCell ⟨w4.heap.size, 1, none⟩ (.int .u32 sses)) w4.heap.size 47 #[.int .i64 2, .int .u32 sses, .int .u64 seq, .int .u64 lim, .slice A2 k2 c2, .bool fin, .int .u64 cnt] := by simpa using hN.set_ 1 (.int .u32 sses)
      have x2 := hN.cell 1
      have fx := hN.frozen 1
      refine ⟨w9.setCell ⟨w4.heap.size, 1, none⟩ (.int .u32 sses), ?_, SeqN.set_ [4] [8] hSh hAt hDn (by kernel_rfl) (by decide) (by decide) ⟨bl_set hT (Nat.le_refl _) _, hN2⟩⟩
      clear hT hN hN2 hS
      go_simp
    try simp only [Act.put]
    refine Ps.st (i := 7) (d := some 16) (u := (.pointer (some ⟨w4.heap.size, 4, none⟩))) rfl rfl (by exact StepS.pure (SeqN.pass (by decide)) rfl fun _ => rfl) ?_
    try simp only [Act.put, sA, sZ, sS]
    refine Ps.st (i := 8) (d := none) (u := undef) rfl rfl ?ywg1_10 ?rwg1_10
    case ywg1_10 =>
      refine StepS.store [4, 6] (by kernel_rfl) (by rfl) (fun L9 m9 w9 hSh hAt hDn hS => ?_)
      have hT := SeqN.at_ [4, 6] [] hSh hAt hDn (by kernel_rfl) hS
      refine (exec_store_part (w := w9) 45 (.tmp 16) (.tmp 13) (by rfl) w4.heap.size 4 47 #[.int .i64 2, .int .u32 sses, .int .u64 seq, .int .u64 lim, .slice A2 k2 c2, .bool fin, .int .u64 cnt] #[.slice none 0 0, .bool false, .int .u64 0] #[.int .i64 2, .int .u32 sses, .int .u64 seq, .int .u64 lim, .slice none 0 0, .bool false, .int .u64 0] (by rfl) (by rfl) hT.2 (by simp) batchI (by simp [Value.oneCell']) rfl).imp fun w7 hx => ⟨hx.1, SeqN.set_ [4, 6] [] hSh hAt hDn (by kernel_rfl) (by decide) (by decide) ⟨bl_gr hT.1 hx.2.2 (Nat.le_refl _), hx.2.1⟩⟩
    try simp only [Act.put]
    refine Ps.done (by kernel_rfl) (fun wg1 hS => ?_) _
    obtain ⟨hT, hb⟩ := SeqN.fin (by rfl) hS
    clear hS HF5 HB5
    have HF6 := Lib.hid (show Blk wg1 w4.heap.size 47 #[.int .i64 2, .int .u32 sses, .int .u64 seq, .int .u64 lim, .slice none 0 0, .bool false, .int .u64 0] from hb)
    have HB6 := Lib.hid hT
    clear hT hb
    obtain ⟨w6, rfl⟩ : ∃ x, x = wg1 := ⟨_, rfl⟩
    go_wp2_with fail
    refine wp_region_ps (S := SeqN [13, 15] (fun z _ w' => Below w4.heap.size w4 w' ∧ Blk w' w4.heap.size 47 (match z with | 0 => #[.int .i64 2, .int .u32 sses, .int .u64 seq, .int .u64 lim, .slice none 0 0, .bool false, .int .u64 0] | 1 => #[.int .i64 2, .int .u32 sses, .int .u64 (IntKind.u64.wrap (sbase + Int.tmod seq 10)), .int .u64 lim, .slice none 0 0, .bool false, .int .u64 0] | _ => #[.int .i64 2, .int .u32 sses, .int .u64 (IntKind.u64.wrap (sbase + Int.tmod seq 10)), .int .u64 (IntKind.u64.wrap (sbase + Int.tmod lim 12)), .slice none 0 0, .bool false, .int .u64 0]))) (by kernel_rfl) ?spswg11 ?ppswg11
    case spswg11 =>
      exact SeqN.start (by decide) ⟨HB6.out.drew, HF6.out.ca (Below.refl _ _).drew⟩
    refine Ps.st (i := 0) (d := some 17) (u := (.pointer (some ⟨(w.heap.size + 1), 1, none⟩))) rfl rfl (by exact StepS.pure (SeqN.pass (by decide)) rfl fun _ => rfl) ?_
    try simp only [Act.put, sA, sZ, sS]
    refine Ps.st (i := 1) (d := some 18) (u := (.int .u64 (sbase))) rfl rfl ?ywg11_13 ?rwg11_13
    case ywg11_13 =>
      refine StepS.read [] (by kernel_rfl) (SeqN.pass (by decide)) (by rfl) (fun L9 m9 w9 hSh hAt hDn hS => ?_)
      have hT : Below w4.heap.size w4 w9 := SeqN.any (T := fun w9 => Below w4.heap.size w4 w9) (fun z _ _ h => h.1) hS
      have x0 : w9.cell? ⟨(w.heap.size + 1), 1, none⟩ = some (.int .u64 (sbase)) := (HK2.out.ca hT).cell 1
      clear hT hS
      go_simp
      try rfl
    try simp only [Act.put, sA, sZ, sS]
    refine Ps.st (i := 2) (d := some 19) (u := (.pointer (some ⟨w4.heap.size, 2, none⟩))) rfl rfl (by exact StepS.pure (SeqN.pass (by decide)) rfl fun _ => rfl) ?_
    try simp only [Act.put, sA, sZ, sS]
    refine Ps.st (i := 3) (d := some 20) (u := (.int .u64 (seq))) rfl rfl ?ywg11_15 ?rwg11_15
    case ywg11_15 =>
      refine StepS.read [] (by kernel_rfl) (SeqN.pass (by decide)) (by rfl) (fun L9 m9 w9 hSh hAt hDn hS => ?_)
      have h0 := SeqN.zero4 (post_no (post := [13, 15]) hSh hDn (by kernel_rfl)) hS
      have x2 := h0.2.cell 2
      clear h0 hS
      go_simp
      try rfl
    try simp only [Act.put, sA, sZ, sS]
    refine Ps.st (i := 4) (d := some 21) (u := (.int .u64 (Int.tmod seq 10))) rfl rfl (by exact StepS.pure (SeqN.pass (by decide)) rfl fun _ => by first | rfl | (go_simp; done) | (go_simp; rfl)) ?_
    try simp only [Act.put, sA, sZ, sS]
    refine Ps.st (i := 5) (d := some 22) (u := (.int .u64 (IntKind.u64.wrap (sbase + (Int.tmod seq 10))))) rfl rfl (by exact StepS.pure (SeqN.pass (by decide)) rfl fun _ => rfl) ?_
    try simp only [Act.put, sA, sZ, sS]
    refine Ps.st (i := 6) (d := some 23) (u := (.pointer (some ⟨(w.heap.size + 1), 1, none⟩))) rfl rfl (by exact StepS.pure (SeqN.pass (by decide)) rfl fun _ => rfl) ?_
    try simp only [Act.put, sA, sZ, sS]
    refine Ps.st (i := 7) (d := some 24) (u := (.int .u64 (sbase))) rfl rfl ?ywg11_19 ?rwg11_19
    case ywg11_19 =>
      refine StepS.read [] (by kernel_rfl) (SeqN.pass (by decide)) (by rfl) (fun L9 m9 w9 hSh hAt hDn hS => ?_)
      have hT : Below w4.heap.size w4 w9 := SeqN.any (T := fun w9 => Below w4.heap.size w4 w9) (fun z _ _ h => h.1) hS
      have x0 : w9.cell? ⟨(w.heap.size + 1), 1, none⟩ = some (.int .u64 (sbase)) := (HK2.out.ca hT).cell 1
      clear hT hS
      go_simp
      try rfl
    try simp only [Act.put, sA, sZ, sS]
    refine Ps.st (i := 8) (d := some 25) (u := (.pointer (some ⟨w4.heap.size, 3, none⟩))) rfl rfl (by exact StepS.pure (SeqN.pass (by decide)) rfl fun _ => rfl) ?_
    try simp only [Act.put, sA, sZ, sS]
    refine Ps.st (i := 9) (d := some 26) (u := (.int .u64 (lim))) rfl rfl ?ywg11_21 ?rwg11_21
    case ywg11_21 =>
      refine StepS.read [] (by kernel_rfl) (SeqN.pass (by decide)) (by rfl) (fun L9 m9 w9 hSh hAt hDn hS => ?_)
      have h0 := SeqN.zero4 (post_no (post := [13, 15]) hSh hDn (by kernel_rfl)) hS
      have x3 := h0.2.cell 3
      clear h0 hS
      go_simp
      try rfl
    try simp only [Act.put, sA, sZ, sS]
    refine Ps.st (i := 10) (d := some 27) (u := (.int .u64 (Int.tmod lim 12))) rfl rfl (by exact StepS.pure (SeqN.pass (by decide)) rfl fun _ => by first | rfl | (go_simp; done) | (go_simp; rfl)) ?_
    try simp only [Act.put, sA, sZ, sS]
    refine Ps.st (i := 11) (d := some 28) (u := (.int .u64 (IntKind.u64.wrap (sbase + (Int.tmod lim 12))))) rfl rfl (by exact StepS.pure (SeqN.pass (by decide)) rfl fun _ => rfl) ?_
    try simp only [Act.put, sA, sZ, sS]
    refine Ps.st (i := 12) (d := some 29) (u := (.pointer (some ⟨w4.heap.size, 2, none⟩))) rfl rfl (by exact StepS.pure (SeqN.pass (by decide)) rfl fun _ => rfl) ?_
    try simp only [Act.put, sA, sZ, sS]
    refine Ps.st (i := 13) (d := none) (u := undef) rfl rfl ?ywg11_25 ?rwg11_25
    case ywg11_25 =>
      refine StepS.store [] (by kernel_rfl) (by rfl) (fun L9 m9 w9 hSh hAt hDn hS => ?_)
      obtain ⟨hT, hN⟩ := SeqN.at_ (m0 := m9) (m1 := m9) [] [15] hSh (fun d hd => by cases hd) hDn (by kernel_rfl) hS
      have hN2 : Blk (w9.setCell ⟨w4.heap.size, 2, none⟩ (.int .u64 (IntKind.u64.wrap (sbase + Int.tmod seq 10)))) w4.heap.size 47 #[.int .i64 2, .int .u32 sses, .int .u64 (IntKind.u64.wrap (sbase + Int.tmod seq 10)), .int .u64 lim, .slice none 0 0, .bool false, .int .u64 0] := by simpa using hN.set_ 2 (.int .u64 (IntKind.u64.wrap (sbase + Int.tmod seq 10)))
      have x2 := hN.cell 2
      have fx := hN.frozen 2
      refine ⟨w9.setCell ⟨w4.heap.size, 2, none⟩ (.int .u64 (IntKind.u64.wrap (sbase + Int.tmod seq 10))), ?_, SeqN.set_ (m0 := m9) (m1 := m9) [] [15] hSh (fun d hd => by cases hd) hDn (by kernel_rfl) (by decide) (by decide) ⟨bl_set hT (Nat.le_refl _) _, hN2⟩⟩
      clear hT hN hN2 hS
      go_simp
    try simp only [Act.put]
    refine Ps.st (i := 14) (d := some 30) (u := (.pointer (some ⟨w4.heap.size, 3, none⟩))) rfl rfl (by exact StepS.pure (SeqN.pass (by decide)) rfl fun _ => rfl) ?_
    try simp only [Act.put, sA, sZ, sS]
    refine Ps.st (i := 15) (d := none) (u := undef) rfl rfl ?ywg11_27 ?rwg11_27
    case ywg11_27 =>
      refine StepS.store [13] (by kernel_rfl) (by rfl) (fun L9 m9 w9 hSh hAt hDn hS => ?_)
      obtain ⟨hT, hN⟩ := SeqN.at_ [13] [] hSh hAt hDn (by kernel_rfl) hS
      have hN2 : Blk (w9.setCell ⟨w4.heap.size, 3, none⟩ (.int .u64 (IntKind.u64.wrap (sbase + Int.tmod lim 12)))) w4.heap.size 47 #[.int .i64 2, .int .u32 sses, .int .u64 (IntKind.u64.wrap (sbase + Int.tmod seq 10)), .int .u64 (IntKind.u64.wrap (sbase + Int.tmod lim 12)), .slice none 0 0, .bool false, .int .u64 0] := by simpa using hN.set_ 3 (.int .u64 (IntKind.u64.wrap (sbase + Int.tmod lim 12)))
      have x2 := hN.cell 3
      have fx := hN.frozen 3
      refine ⟨w9.setCell ⟨w4.heap.size, 3, none⟩ (.int .u64 (IntKind.u64.wrap (sbase + Int.tmod lim 12))), ?_, SeqN.set_ [13] [] hSh hAt hDn (by kernel_rfl) (by decide) (by decide) ⟨bl_set hT (Nat.le_refl _) _, hN2⟩⟩
      clear hT hN hN2 hS
      go_simp
    try simp only [Act.put]
    refine Ps.done (by kernel_rfl) (fun wg11 hS => ?_) _
    obtain ⟨hT, hb⟩ := SeqN.fin (by rfl) hS
    clear hS HF6 HB6
    have HF7 := Lib.hid (show Blk wg11 w4.heap.size 47 #[.int .i64 2, .int .u32 sses, .int .u64 (IntKind.u64.wrap (sbase + Int.tmod seq 10)), .int .u64 (IntKind.u64.wrap (sbase + Int.tmod lim 12)), .slice none 0 0, .bool false, .int .u64 0] from hb)
    have HB7 := Lib.hid hT
    clear hT hb
    obtain ⟨w7, rfl⟩ : ∃ x, x = wg11 := ⟨_, rfl⟩
    go_wp2_with (first | (refine wpList_load_blk rfl 47 (.tmp 5) rfl w4.heap.size rfl 47 _ _ HF7.out Try.underlying47 rfl packetI ?_) | (refine wpList_store_blk rfl 47 (.tmp 4) (.tmp 31) rfl (w.heap.size + 2) 47 _ #[.int .i64 2, .int .u32 sses, .int .u64 (IntKind.u64.wrap (sbase + Int.tmod seq 10)), .int .u64 (IntKind.u64.wrap (sbase + Int.tmod lim 12)), .slice none 0 0, .bool false, .int .u64 0] rfl rfl (HK3.out.ca HB7.out) rfl packetI (by simp [Value.oneCell']) ?_; intro w8 h8 g8))
    exact bodyPost_ret (res1 Try.results53 rfl h8 Try.underlying47 rfl packetI) rfl ⟨none, 0, 0, rfl, LR_nil _ _, Nat.le_refl _, by omega, bl_gr (bl_ca HQ4.out HB7.out) g8 (by omega)⟩
end Go.Proofs.Ytojghgbaiiajfaa
