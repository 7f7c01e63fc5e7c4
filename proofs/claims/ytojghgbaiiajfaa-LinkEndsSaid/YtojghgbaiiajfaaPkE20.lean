/- A packet comes to a pair: (*pair).comes. Conditions: the pair may be. -/
import Derived.Test.YtojghgbaiiajfaaPkE19
namespace Go.Proofs.Ytojghgbaiiajfaa
open Go.RowKit
def WkS (w1 : World) (Fp : Nat → Prop) (T : SC) : Option Nat → Nat → (Nat → Value) → World → Prop := fun al j m w' =>
 match j with
 | 0 => Below w1.heap.size w1 w' ∧ ∀ g, al = some g → w1.heap.size ≤ g ∧ Blk w' g 29 (zeroS.cells none 0 0)
 | 1 => Below w1.heap.size w1 w' ∧ (∀ g, al = some g → w1.heap.size ≤ g ∧ Blk w' g 29 (zeroS.cells none 0 0)) ∧ ∃ A n c, m 5 = .tuple #[.agg (T.cells A n c), .int .i64 0] ∧ LB3.rd w' (fun b => (Fp b ∨ w1.heap.size ≤ b) ∧ al ≠ some b) A n T.q ∧ n ≤ c ∧ c ≤ 9223372036854775807
 | _ => Below w1.heap.size w1 w' ∧ ∃ g A n c, al = some g ∧ w1.heap.size ≤ g ∧ m 5 = .tuple #[.agg (T.cells A n c), .int .i64 0] ∧ Blk w' g 29 (T.cells A n c) ∧ LB3.rd w' (fun b => Fp b ∨ w1.heap.size ≤ b) A n T.q ∧ n ≤ c ∧ c ≤ 9223372036854775807
def WkR (w1 : World) (Fp : Nat → Prop) (T : RC) : Option Nat → Nat → (Nat → Value) → World → Prop := fun al j m w' =>
 match j with
 | 0 => Below w1.heap.size w1 w' ∧ ∀ g, al = some g → w1.heap.size ≤ g ∧ Blk w' g 36 (zeroR.cells none 0 0 none 0 0)
 | 1 => Below w1.heap.size w1 w' ∧ (∀ g, al = some g → w1.heap.size ≤ g ∧ Blk w' g 36 (zeroR.cells none 0 0 none 0 0)) ∧ ∃ A n c A2 n2 c2, m 5 = .tuple #[.agg (T.cells A n c A2 n2 c2), .int .i64 0] ∧ LH4.rd w' (fun b => (Fp b ∨ w1.heap.size ≤ b) ∧ al ≠ some b) A n T.ahead ∧ (n ≤ c ∧ c ≤ 9223372036854775807) ∧ LB3.rd w' (fun b => (Fp b ∨ w1.heap.size ≤ b) ∧ al ≠ some b) A2 n2 T.buf ∧ n2 ≤ c2 ∧ c2 ≤ 9223372036854775807
 | _ => Below w1.heap.size w1 w' ∧ ∃ g A n c A2 n2 c2, al = some g ∧ w1.heap.size ≤ g ∧ m 5 = .tuple #[.agg (T.cells A n c A2 n2 c2), .int .i64 0] ∧ Blk w' g 36 (T.cells A n c A2 n2 c2) ∧ LH4.rd w' (fun b => Fp b ∨ w1.heap.size ≤ b) A n T.ahead ∧ (n ≤ c ∧ c ≤ 9223372036854775807) ∧ LB3.rd w' (fun b => Fp b ∨ w1.heap.size ≤ b) A2 n2 T.buf ∧ n2 ≤ c2 ∧ c2 ≤ 9223372036854775807
theorem WkR.below {w1 w' : World} {Fp : Nat → Prop} {T : RC} {al : Option Nat} {j : Nat} {m : Nat → Value} (h : WkR w1 Fp T al j m w') : Below w1.heap.size w1 w' := by
 match j, h with
 | 0, h => exact h.1
 | 1, h => exact h.1
 | _ + 2, h => exact h.1
theorem WkS.below {w1 w' : World} {Fp : Nat → Prop} {T : SC} {al : Option Nat} {j : Nat} {m : Nat → Value} (h : WkS w1 Fp T al j m w') : Below w1.heap.size w1 w' := by
 match j, h with
 | 0, h => exact h.1
 | 1, h => exact h.1
 | _ + 2, h => exact h.1
theorem grown_two {w1 w2 w3 : World} {k : Option Nat} (h : w1.grownBy w2 k) (h2 : w2.grownBy w3 k) : w1.grownBy w3 k :=
 ⟨h2.os.trans h.os, h2.tape.trans h.tape, h2.output.trans h.output, Nat.le_trans h.size h2.size, fun b hb hne => (h2.block b (Nat.lt_of_lt_of_le hb h.size) hne).trans (h.block b hb hne)⟩
set_option maxRecDepth 100000 in
set_option maxHeartbeats 16000000 in
theorem comes_chg (B0 g : Nat) (w : World) (s : SC) (r : RC) (way : List PK) (put taken : List BC) (A : Option Addr) (n c : Nat) (A2 : Option Addr) (n2 c2 : Nat) (A3 : Option Addr) (n3 c3 : Nat) (A4 : Option Addr) (n4 c4 : Nat) (A5 : Option Addr) (n5 c5 : Nat) (A6 : Option Addr) (n6 c6 : Nat) (pk : PK) (pA : Option Addr) (pn pc : Nat)
 (h : PM B0 g w s r way put taken A n c A2 n2 c2 A3 n3 c3 A4 n4 c4 A5 n5 c5 A6 n6 c6) (hr : LR.rd w (PF w g A4 A5 A6) pA pn pk.b.rows) (hpn : pn ≤ pc) (hpc : pc ≤ 9223372036854775807) (hs : sendB s = true) (hrb : recB r = true) :
 Calls Try.prog 44 #[.pointer (some ⟨g, 0, none⟩), .agg (pk.cells pA pn pc)] w fun e w' => e = .returned (.bool true) ∧ Chg (fun k => k = g) w w' ∧ ∃ A' n' c' A2' n2' c2' A3' n3' c3', PM B0 g w' (ackedR s pk) (hearR r pk) way put taken A' n' c' A2' n2' c2' A3' n3' c3' A4 n4 c4 A5 n5 c5 A6 n6 c6 := by
 have q1 := bl_al (Below.refl w.heap.size w) (.cells (pk.cells pA pn pc) 47)
 have HP1 := Lib.hid (h.below q1)
 have HRP1 := Lib.hid (Lay.rd_weak (fun _ hb _ => PF.up q1.size hb) (Lay.rd_below hr q1))
 have HBK1 := Lib.hid (Blk.new w 47 (pk.cells pA pn pc))
 have HQ1 := Lib.hid q1
 have HOK := Lib.hid hs
 have HRK := Lib.hid hrb
 have hb0 : 0 ≤ s.base := by have := ((sp_iff s).1 hs).b1; omega
 have hn9 : n ≤ 9223372036854775807 := Nat.le_trans h.cq.1 h.cq.2
 have hn29 : n2 ≤ 9223372036854775807 := Nat.le_trans h.ca.1 h.ca.2
 have hn39 : n3 ≤ 9223372036854775807 := Nat.le_trans h.cb.1 h.cb.2
 have hpn9 : pn ≤ 9223372036854775807 := Nat.le_trans hpn hpc
 clear q1 h hr hs hrb
 go_enter Try.func44, Try.ntmps44
 go_upto_region 1 with fail
 generalize w.alloc (.cells (pk.cells pA pn pc) 47) = w1 at *
 refine wp_region_psF (F := fun a1 a' w' => ∃ g8 A7 n7 c7, (∃ v10 v11 v12 v13 v14 v15 v9 v16 v17, a' = (((((((((((a1.put (some 10) v10).put (some 11) v11).put (some 12) v12).put (some 13) v13).put (some 14) v14).put (some 15) v15).put (some 9) v9).put (some 16) v16).put (some 17) v17).put (some 5) (.pointer (some ⟨g8, 0, none⟩))).put (some 6) (.int .i64 0))) ∧ Below w1.heap.size w1 w' ∧ w1.heap.size ≤ g8 ∧ Blk w' g8 29 ((ackedR s pk).cells A7 n7 c7) ∧ LB3.rd w' (fun b => (PF w1 g A4 A5 A6) b ∨ w1.heap.size ≤ b) A7 n7 (ackedR s pk).q ∧ n7 ≤ c7 ∧ c7 ≤ 9223372036854775807) (S := Wt1 5 9 10 (WkS w1 (PF w1 g A4 A5 A6) (ackedR s pk))) (by kernel_rfl) ?spswg1 ?ppswg1 ?kpswg1
 case spswg1 =>
  exact Wt1.start (by decide) (by decide) (by decide) ⟨(Below.refl w1.heap.size w1).drew, fun g e => by cases e⟩
 case ppswg1 =>
  refine Pz 0 (some 10) (.pointer (some ⟨g, 0, none⟩)) rfl rfl (by exact StepS.pure (Wt1.pass (by decide) (by decide)) rfl fun _ => rfl) ?_
  try simp only [Act.put, sA, sZ, sS]
  refine Pz 1 (some 11) (.pointer (some ⟨g, 0, none⟩)) rfl rfl (by exact StepS.pure (Wt1.pass (by decide) (by decide)) rfl fun _ => by first | rfl | (go_simp; done) | (go_simp; rfl)) ?_
  try simp only [Act.put, sA, sZ, sS]
  refine Pz 2 (some 12) (.pointer (some ⟨g, 0, none⟩)) rfl rfl (by exact StepS.pure (Wt1.pass (by decide) (by decide)) rfl fun _ => rfl) ?_
  try simp only [Act.put, sA, sZ, sS]
  refine Pz 3 (some 13) (.agg #[.int .u32 (s.ses), .int .u64 (s.base), .slice A n c, .int .u64 (s.sent), .int .u64 (s.lim), .int .i64 (s.timer), .bool (s.ended)]) rfl rfl ?ywg1_5 ?rwg1_5
  case ywg1_5 =>
   refine StepS.read [] (by kernel_rfl) (Wt1.pass (by decide) (by decide)) (by rfl) (fun L9 m9 w9 hSh hAt hDn hS => ?_)
   have hT : Below w1.heap.size w1 w9 := Wt1.any (T := fun w9 => Below w1.heap.size w1 w9) (fun _ _ _ _ h => h.below) hS
   have x0 : w9.cell? ⟨g, 0, none⟩ = some (.int .u32 (s.ses)) := (HP1.out.blk.ca hT).cell 0
   have x1 : w9.cell? ⟨g, 1, none⟩ = some (.int .u64 (s.base)) := (HP1.out.blk.ca hT).cell 1
   have x2 : w9.cell? ⟨g, 2, none⟩ = some (.slice A n c) := (HP1.out.blk.ca hT).cell 2
   have x3 : w9.cell? ⟨g, 3, none⟩ = some (.int .u64 (s.sent)) := (HP1.out.blk.ca hT).cell 3
   have x4 : w9.cell? ⟨g, 4, none⟩ = some (.int .u64 (s.lim)) := (HP1.out.blk.ca hT).cell 4
   have x5 : w9.cell? ⟨g, 5, none⟩ = some (.int .i64 (s.timer)) := (HP1.out.blk.ca hT).cell 5
   have x6 : w9.cell? ⟨g, 6, none⟩ = some (.bool (s.ended)) := (HP1.out.blk.ca hT).cell 6
   clear hT hS
   go_simp
   try rfl
  try simp only [Act.put, sA, sZ, sS]
  refine Pz 4 (some 14) (.agg #[.int .i64 (pk.kind), .int .u32 (pk.ses), .int .u64 (pk.seq), .int .u64 (pk.lim), .slice pA pn pc, .bool (pk.b.fin), .int .u64 (pk.b.cnt)]) rfl rfl ?ywg1_6 ?rwg1_6
  case ywg1_6 =>
   refine StepS.read [] (by kernel_rfl) (Wt1.pass (by decide) (by decide)) (by rfl) (fun L9 m9 w9 hSh hAt hDn hS => ?_)
   have hT : Below w1.heap.size w1 w9 := Wt1.any (T := fun w9 => Below w1.heap.size w1 w9) (fun _ _ _ _ h => h.below) hS
   have x0 : w9.cell? ⟨w.heap.size, 0, none⟩ = some (.int .i64 (pk.kind)) := (HBK1.out.ca hT).cell 0
   have x1 : w9.cell? ⟨w.heap.size, 1, none⟩ = some (.int .u32 (pk.ses)) := (HBK1.out.ca hT).cell 1
   have x2 : w9.cell? ⟨w.heap.size, 2, none⟩ = some (.int .u64 (pk.seq)) := (HBK1.out.ca hT).cell 2
   have x3 : w9.cell? ⟨w.heap.size, 3, none⟩ = some (.int .u64 (pk.lim)) := (HBK1.out.ca hT).cell 3
   have x4 : w9.cell? ⟨w.heap.size, 4, none⟩ = some (.slice pA pn pc) := (HBK1.out.ca hT).cell 4
   have x5 : w9.cell? ⟨w.heap.size, 5, none⟩ = some (.bool (pk.b.fin)) := (HBK1.out.ca hT).cell 5
   have x6 : w9.cell? ⟨w.heap.size, 6, none⟩ = some (.int .u64 (pk.b.cnt)) := (HBK1.out.ca hT).cell 6
   clear hT hS
   go_simp
   try rfl
  try simp only [Act.put, sA, sZ, sS]
  refine Ps.some2 (i := 5) (j := 9) (by kernel_rfl) ?bwg1_7_5 ?bwg1_7_9
  case bwg1_7_5 =>
   refine Turns.mk (i := 5) (d := some 15) rfl rfl (TurnS.call (V := fun v => ∃ A n c, v = .tuple #[.agg ((ackedR s pk).cells A n c), .int .i64 0]) ?fwg1_8 ?awg1_8 [] (by kernel_rfl) (by rfl) (fun w9 => ?hwg1_8) (fun L9 m9 w9 hSh hAt hDn hS => ?cwg1_8)) (fun v5 hVv5 => ?rwg1_8)
   case hwg1_8 => go_simp; refine ⟨?_, ?_⟩ <;> rfl
   case cwg1_8 =>
    obtain ⟨al, hB, hset⟩ := Wt1.call (by decide) (by decide) hDn (post_no (post := [10]) hSh hDn (by kernel_rfl) 10 (by simp)) hS
    obtain ⟨hT, hal⟩ := hB
    have hsz9 := hT.size
    refine (acked_any (PF w1 g A4 A5 A6) s A n c pk pA pn pc w9 (fun k hk => Nat.lt_of_lt_of_le hk.1 hsz9) (Lay.rd_below HP1.out.q hT) (Lay.rd_below HRP1.out hT) hn9 hpn9 hb0).mono ?_
    rintro e w6 ⟨t, A', n', c', N, rfl, ho⟩
    unfold SendsO at ho
    rw [if_pos HOK.out] at ho
    obtain ⟨hch, _, ho⟩ := ho
    rcases ho with ⟨h9, _⟩ | ⟨_, rfl, A', n', c', hC, hown⟩
    · exact absurd rfl h9
    have q6 : Below w9.heap.size w9 w6 := Chg.bel (Below.refl w9.heap.size w9) hch (fun b _ h9 => h9.elim) (Nat.le_refl _)
    have hcap := Lay.own_caps hown
    have hrd : LB3.rd w6 (fun b => ((PF w1 g A4 A5 A6) b ∨ w1.heap.size ≤ b) ∧ al ≠ some b) A' n' (ackedR s pk).q := Lay.own_rd hown (fun b hb _ => ⟨.inr (by omega), fun e9 => by have := (hal b e9).2.lt; omega⟩) (fun b hb _ => ⟨hb.2.imp id (fun h9 => by omega), fun e9 => by have h8 := hal b e9; have h7 := h8.2.lt; exact hb.2.elim (fun h9 => by have := h9.1; omega) (fun h9 => by omega)⟩)
    exact ⟨_, by rw [hC], ⟨A', n', c', rfl⟩, hset _ _ ⟨bl_ca hT q6, fun g e9 => ⟨(hal g e9).1, (hal g e9).2.ca q6⟩, A', n', c', upd_same _ _ _, hrd, hcap.1, hcap.2⟩⟩
   try simp only [Act.put, sA, sZ, sS]
   obtain ⟨A7, n7, c7, rfl⟩ := hVv5
   refine Pz 6 (some 9) (.tuple #[.agg #[.int .u32 ((ackedR s pk).ses), .int .u64 ((ackedR s pk).base), .slice A7 n7 c7, .int .u64 ((ackedR s pk).sent), .int .u64 ((ackedR s pk).lim), .int .i64 ((ackedR s pk).timer), .bool ((ackedR s pk).ended)], .int .i64 (0)]) rfl rfl (by exact StepS.pure (Wt1.pass (by decide) (by decide)) rfl fun _ => rfl) ?_
   try simp only [Act.put, sA, sZ, sS]
   refine Pz 7 (some 16) (.agg #[.int .u32 ((ackedR s pk).ses), .int .u64 ((ackedR s pk).base), .slice A7 n7 c7, .int .u64 ((ackedR s pk).sent), .int .u64 ((ackedR s pk).lim), .int .i64 ((ackedR s pk).timer), .bool ((ackedR s pk).ended)]) rfl rfl (by exact StepS.pure (Wt1.pass (by decide) (by decide)) rfl fun _ => rfl) ?_
   try simp only [Act.put, sA, sZ, sS]
   refine Pz 8 (some 17) (.int .i64 (0)) rfl rfl (by exact StepS.pure (Wt1.pass (by decide) (by decide)) rfl fun _ => rfl) ?_
   try simp only [Act.put, sA, sZ, sS]
   refine Ps.one (k := 9) (d := some 5) rfl rfl (by kernel_rfl) (TurnS.value (V := fun v => ∃ g, v = .pointer (some ⟨g, 0, none⟩)) [] (by kernel_rfl) (by rfl) (fun L9 m9 w9 hSh hAt hDn hS => ?cwg1_12)) (fun v9 hVv9 => ?rwg1_12)
   case cwg1_12 =>
    refine ⟨.pointer (some ⟨w9.heap.size, 0, none⟩), w9.alloc (.cells (zeroS.cells none 0 0) 29), ?_, ⟨_, rfl⟩, Wt1.made (by decide) (by decide) hDn (post_no (post := [10]) hSh hDn (by kernel_rfl) 10 (by simp)) rfl (fun j hj hB => ?_) hS⟩
    · clear hS
      go_simp
      rfl
    · match j, hj, hB with
      | 0, _, ⟨hT2, _⟩ => exact ⟨bl_al hT2 _, fun g e => by injection e with e; subst e; exact ⟨hT2.size, Blk.new w9 _ _⟩⟩
      | 1, _, ⟨hT2, _, A, n, c, hv, hr, h1, h2⟩ => exact ⟨bl_al hT2 _, fun g e => (by injection e with e; subst e; exact ⟨hT2.size, Blk.new w9 _ _⟩), A, n, c, (upd_ne (by decide)).trans hv, Lay.rd_below (Lay.rd_weak (fun b hb hl => ⟨hb.1, fun e => by injection e with e; omega⟩) hr) (bl_al (Below.refl _ _) _), h1, h2⟩
      | _ + 2, hj, _ => exact absurd hj (by omega)
   try simp only [Act.put, sA, sZ, sS]
   obtain ⟨g8, rfl⟩ := hVv9
   refine Pz 10 none undef rfl rfl ?ywg1_13 ?rwg1_13
   case ywg1_13 =>
    refine StepS.store [5, 9] (by kernel_rfl) (by rfl) (fun L9 m9 w9 hSh hAt hDn hS => ?_)
    obtain ⟨g9, hm, hB, hset⟩ := Wt1.store (by decide) (by decide) (hAt 5 (by simp)).1 (hAt 9 (by simp)).1 hDn hS
    obtain rfl : g8 = g9 := by have h9 : Value.pointer (some ⟨g8, 0, none⟩) = .pointer (some ⟨g9, 0, none⟩) := (hAt 9 (by simp)).2.symm.trans hm; simpa using h9
    obtain ⟨hT, hal, A8, n8, c8, hv, hr, h7a, h7b⟩ := hB
    obtain ⟨rfl, rfl, rfl⟩ : A7 = A8 ∧ n7 = n8 ∧ c7 = c8 := by have h9 : (.tuple #[.agg ((ackedR s pk).cells A7 n7 c7), .int .i64 0] : Value) = .tuple #[.agg ((ackedR s pk).cells A8 n8 c8), .int .i64 0] := (hAt 5 (by simp)).2.symm.trans hv; simpa using h9
    refine (exec_store_blk (w := w9) 29 (.tmp 5) (.tmp 16) (by rfl) g8 29 (zeroS.cells none 0 0) ((ackedR s pk).cells A7 n7 c7) (by rfl) (by rfl) (hal g8 rfl).2 rfl senderI (by simp [Value.oneCell'])).imp fun w7 hx => ⟨hx.1, hset _ ⟨bl_gr hT hx.2.2 (hal g8 rfl).1, g8, A7, n7, c7, rfl, (hal g8 rfl).1, hv, hx.2.1, Lay.rd_weak (fun b hb _ => hb.1) (rd_grownH hr hx.2.2 (fun b hb e => hb.2 (by rw [e]))), h7a, h7b⟩⟩
   try simp only [Act.put]
   refine Pz 11 (some 6) (.int .i64 (0)) rfl rfl (by exact StepS.pure (Wt1.pass (by decide) (by decide)) rfl fun _ => rfl) ?_
   try simp only [Act.put, sA, sZ, sS]
   refine Ps.done (by kernel_rfl) (fun wg1 hS => ?_) _
   obtain ⟨g9, hm, hT, g1, A8, n8, c8, hg1, hg2, hv, hbk, hr, h7a, h7b⟩ := Wt1.fin (by rfl) (by rfl) hS
   clear hS
   injection hg1 with hg1
   subst hg1
   obtain rfl : g8 = g9 := by have h9 : Value.pointer (some ⟨g8, 0, none⟩) = .pointer (some ⟨g9, 0, none⟩) := hm; simpa using h9
   obtain ⟨rfl, rfl, rfl⟩ : A7 = A8 ∧ n7 = n8 ∧ c7 = c8 := by have h9 : (.tuple #[.agg ((ackedR s pk).cells A7 n7 c7), .int .i64 0] : Value) = .tuple #[.agg ((ackedR s pk).cells A8 n8 c8), .int .i64 0] := hv; simpa using h9
   refine ⟨g8, A7, n7, c7, ⟨.pointer (some ⟨g, 0, none⟩), .pointer (some ⟨g, 0, none⟩), .pointer (some ⟨g, 0, none⟩), .agg (s.cells A n c), .agg (pk.cells pA pn pc), .tuple #[.agg ((ackedR s pk).cells A7 n7 c7), .int .i64 0], .tuple #[.agg ((ackedR s pk).cells A7 n7 c7), .int .i64 0], .agg ((ackedR s pk).cells A7 n7 c7), .int .i64 0, ?_⟩, hT, hg2, hbk, hr, h7a, h7b⟩
   clear hT hbk hr h7a h7b hv hm
   rfl
  case bwg1_7_9 =>
   refine Turns.mk (i := 9) (d := some 5) rfl rfl (TurnS.value (V := fun v => ∃ g, v = .pointer (some ⟨g, 0, none⟩)) [] (by kernel_rfl) (by rfl) (fun L9 m9 w9 hSh hAt hDn hS => ?cwg1_15)) (fun v9 hVv9 => ?rwg1_15)
   case cwg1_15 =>
    refine ⟨.pointer (some ⟨w9.heap.size, 0, none⟩), w9.alloc (.cells (zeroS.cells none 0 0) 29), ?_, ⟨_, rfl⟩, Wt1.made (by decide) (by decide) hDn (post_no (post := [10]) hSh hDn (by kernel_rfl) 10 (by simp)) rfl (fun j hj hB => ?_) hS⟩
    · clear hS
      go_simp
      rfl
    · match j, hj, hB with
      | 0, _, ⟨hT2, _⟩ => exact ⟨bl_al hT2 _, fun g e => by injection e with e; subst e; exact ⟨hT2.size, Blk.new w9 _ _⟩⟩
      | 1, _, ⟨hT2, _, A, n, c, hv, hr, h1, h2⟩ => exact ⟨bl_al hT2 _, fun g e => (by injection e with e; subst e; exact ⟨hT2.size, Blk.new w9 _ _⟩), A, n, c, (upd_ne (by decide)).trans hv, Lay.rd_below (Lay.rd_weak (fun b hb hl => ⟨hb.1, fun e => by injection e with e; omega⟩) hr) (bl_al (Below.refl _ _) _), h1, h2⟩
      | _ + 2, hj, _ => exact absurd hj (by omega)
   try simp only [Act.put, sA, sZ, sS]
   obtain ⟨g8, rfl⟩ := hVv9
   refine Ps.one (k := 5) (d := some 15) rfl rfl (by kernel_rfl) (TurnS.call (V := fun v => ∃ A n c, v = .tuple #[.agg ((ackedR s pk).cells A n c), .int .i64 0]) ?fwg1_16 ?awg1_16 [] (by kernel_rfl) (by rfl) (fun w9 => ?hwg1_16) (fun L9 m9 w9 hSh hAt hDn hS => ?cwg1_16)) (fun v5 hVv5 => ?rwg1_16)
   case hwg1_16 => go_simp; refine ⟨?_, ?_⟩ <;> rfl
   case cwg1_16 =>
    obtain ⟨al, hB, hset⟩ := Wt1.call (by decide) (by decide) hDn (post_no (post := [10]) hSh hDn (by kernel_rfl) 10 (by simp)) hS
    obtain ⟨hT, hal⟩ := hB
    have hsz9 := hT.size
    refine (acked_any (PF w1 g A4 A5 A6) s A n c pk pA pn pc w9 (fun k hk => Nat.lt_of_lt_of_le hk.1 hsz9) (Lay.rd_below HP1.out.q hT) (Lay.rd_below HRP1.out hT) hn9 hpn9 hb0).mono ?_
    rintro e w6 ⟨t, A', n', c', N, rfl, ho⟩
    unfold SendsO at ho
    rw [if_pos HOK.out] at ho
    obtain ⟨hch, _, ho⟩ := ho
    rcases ho with ⟨h9, _⟩ | ⟨_, rfl, A', n', c', hC, hown⟩
    · exact absurd rfl h9
    have q6 : Below w9.heap.size w9 w6 := Chg.bel (Below.refl w9.heap.size w9) hch (fun b _ h9 => h9.elim) (Nat.le_refl _)
    have hcap := Lay.own_caps hown
    have hrd : LB3.rd w6 (fun b => ((PF w1 g A4 A5 A6) b ∨ w1.heap.size ≤ b) ∧ al ≠ some b) A' n' (ackedR s pk).q := Lay.own_rd hown (fun b hb _ => ⟨.inr (by omega), fun e9 => by have := (hal b e9).2.lt; omega⟩) (fun b hb _ => ⟨hb.2.imp id (fun h9 => by omega), fun e9 => by have h8 := hal b e9; have h7 := h8.2.lt; exact hb.2.elim (fun h9 => by have := h9.1; omega) (fun h9 => by omega)⟩)
    exact ⟨_, by rw [hC], ⟨A', n', c', rfl⟩, hset _ _ ⟨bl_ca hT q6, fun g e9 => ⟨(hal g e9).1, (hal g e9).2.ca q6⟩, A', n', c', upd_same _ _ _, hrd, hcap.1, hcap.2⟩⟩
   try simp only [Act.put, sA, sZ, sS]
   obtain ⟨A7, n7, c7, rfl⟩ := hVv5
   refine Pz 6 (some 9) (.tuple #[.agg #[.int .u32 ((ackedR s pk).ses), .int .u64 ((ackedR s pk).base), .slice A7 n7 c7, .int .u64 ((ackedR s pk).sent), .int .u64 ((ackedR s pk).lim), .int .i64 ((ackedR s pk).timer), .bool ((ackedR s pk).ended)], .int .i64 (0)]) rfl rfl (by exact StepS.pure (Wt1.pass (by decide) (by decide)) rfl fun _ => rfl) ?_
   try simp only [Act.put, sA, sZ, sS]
   refine Pz 7 (some 16) (.agg #[.int .u32 ((ackedR s pk).ses), .int .u64 ((ackedR s pk).base), .slice A7 n7 c7, .int .u64 ((ackedR s pk).sent), .int .u64 ((ackedR s pk).lim), .int .i64 ((ackedR s pk).timer), .bool ((ackedR s pk).ended)]) rfl rfl (by exact StepS.pure (Wt1.pass (by decide) (by decide)) rfl fun _ => rfl) ?_
   try simp only [Act.put, sA, sZ, sS]
   refine Pz 8 (some 17) (.int .i64 (0)) rfl rfl (by exact StepS.pure (Wt1.pass (by decide) (by decide)) rfl fun _ => rfl) ?_
   try simp only [Act.put, sA, sZ, sS]
   refine Pz 10 none undef rfl rfl ?ywg1_20 ?rwg1_20
   case ywg1_20 =>
    refine StepS.store [5, 9] (by kernel_rfl) (by rfl) (fun L9 m9 w9 hSh hAt hDn hS => ?_)
    obtain ⟨g9, hm, hB, hset⟩ := Wt1.store (by decide) (by decide) (hAt 5 (by simp)).1 (hAt 9 (by simp)).1 hDn hS
    obtain rfl : g8 = g9 := by have h9 : Value.pointer (some ⟨g8, 0, none⟩) = .pointer (some ⟨g9, 0, none⟩) := (hAt 9 (by simp)).2.symm.trans hm; simpa using h9
    obtain ⟨hT, hal, A8, n8, c8, hv, hr, h7a, h7b⟩ := hB
    obtain ⟨rfl, rfl, rfl⟩ : A7 = A8 ∧ n7 = n8 ∧ c7 = c8 := by have h9 : (.tuple #[.agg ((ackedR s pk).cells A7 n7 c7), .int .i64 0] : Value) = .tuple #[.agg ((ackedR s pk).cells A8 n8 c8), .int .i64 0] := (hAt 5 (by simp)).2.symm.trans hv; simpa using h9
    refine (exec_store_blk (w := w9) 29 (.tmp 5) (.tmp 16) (by rfl) g8 29 (zeroS.cells none 0 0) ((ackedR s pk).cells A7 n7 c7) (by rfl) (by rfl) (hal g8 rfl).2 rfl senderI (by simp [Value.oneCell'])).imp fun w7 hx => ⟨hx.1, hset _ ⟨bl_gr hT hx.2.2 (hal g8 rfl).1, g8, A7, n7, c7, rfl, (hal g8 rfl).1, hv, hx.2.1, Lay.rd_weak (fun b hb _ => hb.1) (rd_grownH hr hx.2.2 (fun b hb e => hb.2 (by rw [e]))), h7a, h7b⟩⟩
   try simp only [Act.put]
   refine Pz 11 (some 6) (.int .i64 (0)) rfl rfl (by exact StepS.pure (Wt1.pass (by decide) (by decide)) rfl fun _ => rfl) ?_
   try simp only [Act.put, sA, sZ, sS]
   refine Ps.done (by kernel_rfl) (fun wg1 hS => ?_) _
   obtain ⟨g9, hm, hT, g1, A8, n8, c8, hg1, hg2, hv, hbk, hr, h7a, h7b⟩ := Wt1.fin (by rfl) (by rfl) hS
   clear hS
   injection hg1 with hg1
   subst hg1
   obtain rfl : g8 = g9 := by have h9 : Value.pointer (some ⟨g8, 0, none⟩) = .pointer (some ⟨g9, 0, none⟩) := hm; simpa using h9
   obtain ⟨rfl, rfl, rfl⟩ : A7 = A8 ∧ n7 = n8 ∧ c7 = c8 := by have h9 : (.tuple #[.agg ((ackedR s pk).cells A7 n7 c7), .int .i64 0] : Value) = .tuple #[.agg ((ackedR s pk).cells A8 n8 c8), .int .i64 0] := hv; simpa using h9
   refine ⟨g8, A7, n7, c7, ⟨.pointer (some ⟨g, 0, none⟩), .pointer (some ⟨g, 0, none⟩), .pointer (some ⟨g, 0, none⟩), .agg (s.cells A n c), .agg (pk.cells pA pn pc), .tuple #[.agg ((ackedR s pk).cells A7 n7 c7), .int .i64 0], .tuple #[.agg ((ackedR s pk).cells A7 n7 c7), .int .i64 0], .agg ((ackedR s pk).cells A7 n7 c7), .int .i64 0, ?_⟩, hT, hg2, hbk, hr, h7a, h7b⟩
   clear hT hbk hr h7a h7b hv hm
   rfl
 case kpswg1 =>
  intro a' w2 hF
  obtain ⟨g8, A7, n7, c7, ⟨v10, v11, v12, v13, v14, v15, v9, v16, v17, rfl⟩, hT, hg2, hbk, hr, h7a, h7b⟩ := hF
  have HT2 := Lib.hid hT
  have HV2 := Lib.hid hbk
  have HRV2 := Lib.hid hr
  have HCV2 := Lib.hid (And.intro h7a h7b)
  clear hT hbk hr h7a h7b
  simp only [Act.put, List.setIfInBounds_toArray, List.set_cons_zero, List.set_cons_succ]
  have HP2 := Lib.hid (HP1.out.below HT2.out)
  have HRP2 := Lib.hid (Lay.rd_weak (fun _ hb _ => PF.up HT2.out.size hb) (Lay.rd_below HRP1.out HT2.out))
  have HBK2 := Lib.hid (HBK1.out.ca HT2.out)
  have hsz2 := HT2.out.size
  go_upto_region 2 with fail
  refine wp_region_psF (F := fun a1 a' w' => ∃ g7 B1 k1 d1 B2 k2 d2, (∃ v19 v20 v21 v22 v23 v24 v18 v25 v26, a' = (((((((((((a1.put (some 19) v19).put (some 20) v20).put (some 21) v21).put (some 22) v22).put (some 23) v23).put (some 24) v24).put (some 18) v18).put (some 25) v25).put (some 26) v26).put (some 7) (.pointer (some ⟨g7, 0, none⟩))).put (some 8) (.int .i64 0))) ∧ Below w2.heap.size w2 w' ∧ w2.heap.size ≤ g7 ∧ Blk w' g7 36 ((hearR r pk).cells B1 k1 d1 B2 k2 d2) ∧ LH4.rd w' (fun b => (PF w2 g A4 A5 A6) b ∨ w2.heap.size ≤ b) B1 k1 (hearR r pk).ahead ∧ (k1 ≤ d1 ∧ d1 ≤ 9223372036854775807) ∧ LB3.rd w' (fun b => (PF w2 g A4 A5 A6) b ∨ w2.heap.size ≤ b) B2 k2 (hearR r pk).buf ∧ k2 ≤ d2 ∧ d2 ≤ 9223372036854775807) (S := Wt1 5 9 10 (WkR w2 (PF w2 g A4 A5 A6) (hearR r pk))) (by kernel_rfl) ?spswg22 ?ppswg22 ?kpswg22
  case spswg22 =>
   exact Wt1.start (by decide) (by decide) (by decide) ⟨(Below.refl w2.heap.size w2).drew, fun g e => by cases e⟩
  case ppswg22 =>
   refine Pz 0 (some 19) (.pointer (some ⟨g, 0, none⟩)) rfl rfl (by exact StepS.pure (Wt1.pass (by decide) (by decide)) rfl fun _ => rfl) ?_
   try simp only [Act.put, sA, sZ, sS]
   refine Pz 1 (some 20) (.pointer (some ⟨g, 0, none⟩)) rfl rfl (by exact StepS.pure (Wt1.pass (by decide) (by decide)) rfl fun _ => by first | rfl | (go_simp; done) | (go_simp; rfl)) ?_
   try simp only [Act.put, sA, sZ, sS]
   refine Pz 2 (some 21) (.pointer (some ⟨g, 7, none⟩)) rfl rfl (by exact StepS.pure (Wt1.pass (by decide) (by decide)) rfl fun _ => rfl) ?_
   try simp only [Act.put, sA, sZ, sS]
   refine Pz 3 (some 22) (.agg #[.int .u32 (r.ses), .int .u64 (r.next), .slice A2 n2 c2, .slice A3 n3 c3, .int .i64 (r.room), .bool (r.over)]) rfl rfl ?ywg22_26 ?rwg22_26
   case ywg22_26 =>
    refine StepS.read [] (by kernel_rfl) (Wt1.pass (by decide) (by decide)) (by rfl) (fun L9 m9 w9 hSh hAt hDn hS => ?_)
    have hT : Below w2.heap.size w2 w9 := Wt1.any (T := fun w9 => Below w2.heap.size w2 w9) (fun _ _ _ _ h => h.below) hS
    have x0 : w9.cell? ⟨g, 7, none⟩ = some (.int .u32 (r.ses)) := (HP2.out.blk.ca hT).cell 7
    have x1 : w9.cell? ⟨g, 8, none⟩ = some (.int .u64 (r.next)) := (HP2.out.blk.ca hT).cell 8
    have x2 : w9.cell? ⟨g, 9, none⟩ = some (.slice A2 n2 c2) := (HP2.out.blk.ca hT).cell 9
    have x3 : w9.cell? ⟨g, 10, none⟩ = some (.slice A3 n3 c3) := (HP2.out.blk.ca hT).cell 10
    have x4 : w9.cell? ⟨g, 11, none⟩ = some (.int .i64 (r.room)) := (HP2.out.blk.ca hT).cell 11
    have x5 : w9.cell? ⟨g, 12, none⟩ = some (.bool (r.over)) := (HP2.out.blk.ca hT).cell 12
    clear hT hS
    go_simp
    try rfl
   try simp only [Act.put, sA, sZ, sS]
   refine Pz 4 (some 23) (.agg #[.int .i64 (pk.kind), .int .u32 (pk.ses), .int .u64 (pk.seq), .int .u64 (pk.lim), .slice pA pn pc, .bool (pk.b.fin), .int .u64 (pk.b.cnt)]) rfl rfl ?ywg22_27 ?rwg22_27
   case ywg22_27 =>
    refine StepS.read [] (by kernel_rfl) (Wt1.pass (by decide) (by decide)) (by rfl) (fun L9 m9 w9 hSh hAt hDn hS => ?_)
    have hT : Below w2.heap.size w2 w9 := Wt1.any (T := fun w9 => Below w2.heap.size w2 w9) (fun _ _ _ _ h => h.below) hS
    have x0 : w9.cell? ⟨w.heap.size, 0, none⟩ = some (.int .i64 (pk.kind)) := (HBK2.out.ca hT).cell 0
    have x1 : w9.cell? ⟨w.heap.size, 1, none⟩ = some (.int .u32 (pk.ses)) := (HBK2.out.ca hT).cell 1
    have x2 : w9.cell? ⟨w.heap.size, 2, none⟩ = some (.int .u64 (pk.seq)) := (HBK2.out.ca hT).cell 2
    have x3 : w9.cell? ⟨w.heap.size, 3, none⟩ = some (.int .u64 (pk.lim)) := (HBK2.out.ca hT).cell 3
    have x4 : w9.cell? ⟨w.heap.size, 4, none⟩ = some (.slice pA pn pc) := (HBK2.out.ca hT).cell 4
    have x5 : w9.cell? ⟨w.heap.size, 5, none⟩ = some (.bool (pk.b.fin)) := (HBK2.out.ca hT).cell 5
    have x6 : w9.cell? ⟨w.heap.size, 6, none⟩ = some (.int .u64 (pk.b.cnt)) := (HBK2.out.ca hT).cell 6
    clear hT hS
    go_simp
    try rfl
   try simp only [Act.put, sA, sZ, sS]
   refine Ps.some2 (i := 5) (j := 9) (by kernel_rfl) ?bwg22_28_5 ?bwg22_28_9
   case bwg22_28_5 =>
    refine Turns.mk (i := 5) (d := some 24) rfl rfl (TurnS.call (V := fun v => ∃ A n c A2 n2 c2, v = .tuple #[.agg ((hearR r pk).cells A n c A2 n2 c2), .int .i64 0]) ?fwg22_29 ?awg22_29 [] (by kernel_rfl) (by rfl) (fun w9 => ?hwg22_29) (fun L9 m9 w9 hSh hAt hDn hS => ?cwg22_29)) (fun v5b hVv5b => ?rwg22_29)
    case hwg22_29 => go_simp; refine ⟨?_, ?_⟩ <;> rfl
    case cwg22_29 =>
     obtain ⟨al, hB, hset⟩ := Wt1.call (by decide) (by decide) hDn (post_no (post := [10]) hSh hDn (by kernel_rfl) 10 (by simp)) hS
     obtain ⟨hT, hal⟩ := hB
     have hsz9 := hT.size
     refine (hear_law_any (PF w2 g A4 A5 A6) r A2 n2 c2 A3 n3 c3 pk pA pn pc w9 (fun k hk => Nat.lt_of_lt_of_le hk.1 hsz9) (Lay.rd_below HP2.out.ah hT) (Lay.rd_below HP2.out.bf hT) (Lay.rd_below HRP2.out hT) hn29 hn39 hpn hpc).mono ?_
     rintro e w6 ⟨A', n', c', B', m', d', rfl, q6, ho⟩
     have hhe : heaT r pk = (hearR r pk) := by unfold heaT; rw [if_pos HRK.out]
     rw [hhe] at ho ⊢
     rw [if_pos HRK.out]
     exact ⟨_, rfl, ⟨A', n', c', B', m', d', rfl⟩, hset _ _ ⟨bl_ca hT q6, fun g e9 => ⟨(hal g e9).1, (hal g e9).2.ca q6⟩, A', n', c', B', m', d', upd_same _ _ _, Lay.rd_weak (fun b hb _ => ⟨hb.2.imp id (fun h9 => by omega), fun e9 => by have h8 := hal b e9; have h7 := h8.2.lt; exact hb.2.elim (fun h9 => by have := h9.1; omega) (fun h9 => by omega)⟩) ho.ra, ho.ca, Lay.rd_weak (fun b hb _ => ⟨hb.2.imp id (fun h9 => by omega), fun e9 => by have h8 := hal b e9; have h7 := h8.2.lt; exact hb.2.elim (fun h9 => by have := h9.1; omega) (fun h9 => by omega)⟩) ho.rb, ho.cb.1, ho.cb.2⟩⟩
    try simp only [Act.put, sA, sZ, sS]
    obtain ⟨B1, k1, d1, B2, k2, d2, rfl⟩ := hVv5b
    refine Pz 6 (some 18) (.tuple #[.agg #[.int .u32 ((hearR r pk).ses), .int .u64 ((hearR r pk).next), .slice B1 k1 d1, .slice B2 k2 d2, .int .i64 ((hearR r pk).room), .bool ((hearR r pk).over)], .int .i64 (0)]) rfl rfl (by exact StepS.pure (Wt1.pass (by decide) (by decide)) rfl fun _ => rfl) ?_
    try simp only [Act.put, sA, sZ, sS]
    refine Pz 7 (some 25) (.agg #[.int .u32 ((hearR r pk).ses), .int .u64 ((hearR r pk).next), .slice B1 k1 d1, .slice B2 k2 d2, .int .i64 ((hearR r pk).room), .bool ((hearR r pk).over)]) rfl rfl (by exact StepS.pure (Wt1.pass (by decide) (by decide)) rfl fun _ => rfl) ?_
    try simp only [Act.put, sA, sZ, sS]
    refine Pz 8 (some 26) (.int .i64 (0)) rfl rfl (by exact StepS.pure (Wt1.pass (by decide) (by decide)) rfl fun _ => rfl) ?_
    try simp only [Act.put, sA, sZ, sS]
    refine Ps.one (k := 9) (d := some 7) rfl rfl (by kernel_rfl) (TurnS.value (V := fun v => ∃ g, v = .pointer (some ⟨g, 0, none⟩)) [] (by kernel_rfl) (by rfl) (fun L9 m9 w9 hSh hAt hDn hS => ?cwg22_33)) (fun v9b hVv9b => ?rwg22_33)
    case cwg22_33 =>
     refine ⟨.pointer (some ⟨w9.heap.size, 0, none⟩), w9.alloc (.cells (zeroR.cells none 0 0 none 0 0) 36), ?_, ⟨_, rfl⟩, Wt1.made (by decide) (by decide) hDn (post_no (post := [10]) hSh hDn (by kernel_rfl) 10 (by simp)) rfl (fun j hj hB => ?_) hS⟩
     · clear hS
       go_simp
       rfl
     · match j, hj, hB with
       | 0, _, ⟨hT2, _⟩ => exact ⟨bl_al hT2 _, fun g e => by injection e with e; subst e; exact ⟨hT2.size, Blk.new w9 _ _⟩⟩
       | 1, _, ⟨hT2, _, A, n, c, A2, n2, c2, hv, hr, h1, hr2, h2, h3⟩ => exact ⟨bl_al hT2 _, fun g e => (by injection e with e; subst e; exact ⟨hT2.size, Blk.new w9 _ _⟩), A, n, c, A2, n2, c2, (upd_ne (by decide)).trans hv, Lay.rd_below (Lay.rd_weak (fun b hb hl => ⟨hb.1, fun e => by injection e with e; omega⟩) hr) (bl_al (Below.refl _ _) _), h1, Lay.rd_below (Lay.rd_weak (fun b hb hl => ⟨hb.1, fun e => by injection e with e; omega⟩) hr2) (bl_al (Below.refl _ _) _), h2, h3⟩
       | _ + 2, hj, _ => exact absurd hj (by omega)
    try simp only [Act.put, sA, sZ, sS]
    obtain ⟨g7, rfl⟩ := hVv9b
    refine Pz 10 none undef rfl rfl ?ywg22_34 ?rwg22_34
    case ywg22_34 =>
     refine StepS.store [5, 9] (by kernel_rfl) (by rfl) (fun L9 m9 w9 hSh hAt hDn hS => ?_)
     obtain ⟨g9, hm, hB, hset⟩ := Wt1.store (by decide) (by decide) (hAt 5 (by simp)).1 (hAt 9 (by simp)).1 hDn hS
     obtain rfl : g7 = g9 := by have h9 : Value.pointer (some ⟨g7, 0, none⟩) = .pointer (some ⟨g9, 0, none⟩) := (hAt 9 (by simp)).2.symm.trans hm; simpa using h9
     obtain ⟨hT, hal, E1, l1, f1, E2, l2, f2, hv, hr, h7a, hr2, h7b, h7c⟩ := hB
     obtain ⟨rfl, rfl, rfl, rfl, rfl, rfl⟩ : B1 = E1 ∧ k1 = l1 ∧ d1 = f1 ∧ B2 = E2 ∧ k2 = l2 ∧ d2 = f2 := by have h9 : (.tuple #[.agg ((hearR r pk).cells B1 k1 d1 B2 k2 d2), .int .i64 0] : Value) = .tuple #[.agg ((hearR r pk).cells E1 l1 f1 E2 l2 f2), .int .i64 0] := (hAt 5 (by simp)).2.symm.trans hv; simpa [and_assoc] using h9
     refine (exec_store_blk (w := w9) 36 (.tmp 7) (.tmp 25) (by rfl) g7 36 (zeroR.cells none 0 0 none 0 0) ((hearR r pk).cells B1 k1 d1 B2 k2 d2) (by rfl) (by rfl) (hal g7 rfl).2 rfl receiverI (by simp [Value.oneCell'])).imp fun w7 hx => ⟨hx.1, hset _ ⟨bl_gr hT hx.2.2 (hal g7 rfl).1, g7, B1, k1, d1, B2, k2, d2, rfl, (hal g7 rfl).1, hv, hx.2.1, Lay.rd_weak (fun b hb _ => hb.1) (rd_grownH hr hx.2.2 (fun b hb e => hb.2 (by rw [e]))), h7a, Lay.rd_weak (fun b hb _ => hb.1) (rd_grownH hr2 hx.2.2 (fun b hb e => hb.2 (by rw [e]))), h7b, h7c⟩⟩
    try simp only [Act.put]
    refine Pz 11 (some 8) (.int .i64 (0)) rfl rfl (by exact StepS.pure (Wt1.pass (by decide) (by decide)) rfl fun _ => rfl) ?_
    try simp only [Act.put, sA, sZ, sS]
    refine Ps.done (by kernel_rfl) (fun wg22 hS => ?_) _
    obtain ⟨g9, hm, hT, g1, E1, l1, f1, E2, l2, f2, hg1, hg2, hv, hbk, hr, h7a, hr2, h7b, h7c⟩ := Wt1.fin (by rfl) (by rfl) hS
    clear hS
    injection hg1 with hg1
    subst hg1
    obtain rfl : g7 = g9 := by have h9 : Value.pointer (some ⟨g7, 0, none⟩) = .pointer (some ⟨g9, 0, none⟩) := hm; simpa using h9
    obtain ⟨rfl, rfl, rfl, rfl, rfl, rfl⟩ : B1 = E1 ∧ k1 = l1 ∧ d1 = f1 ∧ B2 = E2 ∧ k2 = l2 ∧ d2 = f2 := by have h9 : (.tuple #[.agg ((hearR r pk).cells B1 k1 d1 B2 k2 d2), .int .i64 0] : Value) = .tuple #[.agg ((hearR r pk).cells E1 l1 f1 E2 l2 f2), .int .i64 0] := hv; simpa [and_assoc] using h9
    refine ⟨g7, B1, k1, d1, B2, k2, d2, ⟨.pointer (some ⟨g, 0, none⟩), .pointer (some ⟨g, 0, none⟩), .pointer (some ⟨g, 7, none⟩), .agg (r.cells A2 n2 c2 A3 n3 c3), .agg (pk.cells pA pn pc), .tuple #[.agg ((hearR r pk).cells B1 k1 d1 B2 k2 d2), .int .i64 0], .tuple #[.agg ((hearR r pk).cells B1 k1 d1 B2 k2 d2), .int .i64 0], .agg ((hearR r pk).cells B1 k1 d1 B2 k2 d2), .int .i64 0, ?_⟩, hT, hg2, hbk, hr, h7a, hr2, h7b, h7c⟩
    clear hT hbk hr h7a hr2 h7b h7c hv hm
    rfl
   case bwg22_28_9 =>
    refine Turns.mk (i := 9) (d := some 7) rfl rfl (TurnS.value (V := fun v => ∃ g, v = .pointer (some ⟨g, 0, none⟩)) [] (by kernel_rfl) (by rfl) (fun L9 m9 w9 hSh hAt hDn hS => ?cwg22_36)) (fun v9b hVv9b => ?rwg22_36)
    case cwg22_36 =>
     refine ⟨.pointer (some ⟨w9.heap.size, 0, none⟩), w9.alloc (.cells (zeroR.cells none 0 0 none 0 0) 36), ?_, ⟨_, rfl⟩, Wt1.made (by decide) (by decide) hDn (post_no (post := [10]) hSh hDn (by kernel_rfl) 10 (by simp)) rfl (fun j hj hB => ?_) hS⟩
     · clear hS
       go_simp
       rfl
     · match j, hj, hB with
       | 0, _, ⟨hT2, _⟩ => exact ⟨bl_al hT2 _, fun g e => by injection e with e; subst e; exact ⟨hT2.size, Blk.new w9 _ _⟩⟩
       | 1, _, ⟨hT2, _, A, n, c, A2, n2, c2, hv, hr, h1, hr2, h2, h3⟩ => exact ⟨bl_al hT2 _, fun g e => (by injection e with e; subst e; exact ⟨hT2.size, Blk.new w9 _ _⟩), A, n, c, A2, n2, c2, (upd_ne (by decide)).trans hv, Lay.rd_below (Lay.rd_weak (fun b hb hl => ⟨hb.1, fun e => by injection e with e; omega⟩) hr) (bl_al (Below.refl _ _) _), h1, Lay.rd_below (Lay.rd_weak (fun b hb hl => ⟨hb.1, fun e => by injection e with e; omega⟩) hr2) (bl_al (Below.refl _ _) _), h2, h3⟩
       | _ + 2, hj, _ => exact absurd hj (by omega)
    try simp only [Act.put, sA, sZ, sS]
    obtain ⟨g7, rfl⟩ := hVv9b
    refine Ps.one (k := 5) (d := some 24) rfl rfl (by kernel_rfl) (TurnS.call (V := fun v => ∃ A n c A2 n2 c2, v = .tuple #[.agg ((hearR r pk).cells A n c A2 n2 c2), .int .i64 0]) ?fwg22_37 ?awg22_37 [] (by kernel_rfl) (by rfl) (fun w9 => ?hwg22_37) (fun L9 m9 w9 hSh hAt hDn hS => ?cwg22_37)) (fun v5b hVv5b => ?rwg22_37)
    case hwg22_37 => go_simp; refine ⟨?_, ?_⟩ <;> rfl
    case cwg22_37 =>
     obtain ⟨al, hB, hset⟩ := Wt1.call (by decide) (by decide) hDn (post_no (post := [10]) hSh hDn (by kernel_rfl) 10 (by simp)) hS
     obtain ⟨hT, hal⟩ := hB
     have hsz9 := hT.size
     refine (hear_law_any (PF w2 g A4 A5 A6) r A2 n2 c2 A3 n3 c3 pk pA pn pc w9 (fun k hk => Nat.lt_of_lt_of_le hk.1 hsz9) (Lay.rd_below HP2.out.ah hT) (Lay.rd_below HP2.out.bf hT) (Lay.rd_below HRP2.out hT) hn29 hn39 hpn hpc).mono ?_
     rintro e w6 ⟨A', n', c', B', m', d', rfl, q6, ho⟩
     have hhe : heaT r pk = (hearR r pk) := by unfold heaT; rw [if_pos HRK.out]
     rw [hhe] at ho ⊢
     rw [if_pos HRK.out]
     exact ⟨_, rfl, ⟨A', n', c', B', m', d', rfl⟩, hset _ _ ⟨bl_ca hT q6, fun g e9 => ⟨(hal g e9).1, (hal g e9).2.ca q6⟩, A', n', c', B', m', d', upd_same _ _ _, Lay.rd_weak (fun b hb _ => ⟨hb.2.imp id (fun h9 => by omega), fun e9 => by have h8 := hal b e9; have h7 := h8.2.lt; exact hb.2.elim (fun h9 => by have := h9.1; omega) (fun h9 => by omega)⟩) ho.ra, ho.ca, Lay.rd_weak (fun b hb _ => ⟨hb.2.imp id (fun h9 => by omega), fun e9 => by have h8 := hal b e9; have h7 := h8.2.lt; exact hb.2.elim (fun h9 => by have := h9.1; omega) (fun h9 => by omega)⟩) ho.rb, ho.cb.1, ho.cb.2⟩⟩
    try simp only [Act.put, sA, sZ, sS]
    obtain ⟨B1, k1, d1, B2, k2, d2, rfl⟩ := hVv5b
    refine Pz 6 (some 18) (.tuple #[.agg #[.int .u32 ((hearR r pk).ses), .int .u64 ((hearR r pk).next), .slice B1 k1 d1, .slice B2 k2 d2, .int .i64 ((hearR r pk).room), .bool ((hearR r pk).over)], .int .i64 (0)]) rfl rfl (by exact StepS.pure (Wt1.pass (by decide) (by decide)) rfl fun _ => rfl) ?_
    try simp only [Act.put, sA, sZ, sS]
    refine Pz 7 (some 25) (.agg #[.int .u32 ((hearR r pk).ses), .int .u64 ((hearR r pk).next), .slice B1 k1 d1, .slice B2 k2 d2, .int .i64 ((hearR r pk).room), .bool ((hearR r pk).over)]) rfl rfl (by exact StepS.pure (Wt1.pass (by decide) (by decide)) rfl fun _ => rfl) ?_
    try simp only [Act.put, sA, sZ, sS]
    refine Pz 8 (some 26) (.int .i64 (0)) rfl rfl (by exact StepS.pure (Wt1.pass (by decide) (by decide)) rfl fun _ => rfl) ?_
    try simp only [Act.put, sA, sZ, sS]
    refine Pz 10 none undef rfl rfl ?ywg22_41 ?rwg22_41
    case ywg22_41 =>
     refine StepS.store [5, 9] (by kernel_rfl) (by rfl) (fun L9 m9 w9 hSh hAt hDn hS => ?_)
     obtain ⟨g9, hm, hB, hset⟩ := Wt1.store (by decide) (by decide) (hAt 5 (by simp)).1 (hAt 9 (by simp)).1 hDn hS
     obtain rfl : g7 = g9 := by have h9 : Value.pointer (some ⟨g7, 0, none⟩) = .pointer (some ⟨g9, 0, none⟩) := (hAt 9 (by simp)).2.symm.trans hm; simpa using h9
     obtain ⟨hT, hal, E1, l1, f1, E2, l2, f2, hv, hr, h7a, hr2, h7b, h7c⟩ := hB
     obtain ⟨rfl, rfl, rfl, rfl, rfl, rfl⟩ : B1 = E1 ∧ k1 = l1 ∧ d1 = f1 ∧ B2 = E2 ∧ k2 = l2 ∧ d2 = f2 := by have h9 : (.tuple #[.agg ((hearR r pk).cells B1 k1 d1 B2 k2 d2), .int .i64 0] : Value) = .tuple #[.agg ((hearR r pk).cells E1 l1 f1 E2 l2 f2), .int .i64 0] := (hAt 5 (by simp)).2.symm.trans hv; simpa [and_assoc] using h9
     refine (exec_store_blk (w := w9) 36 (.tmp 7) (.tmp 25) (by rfl) g7 36 (zeroR.cells none 0 0 none 0 0) ((hearR r pk).cells B1 k1 d1 B2 k2 d2) (by rfl) (by rfl) (hal g7 rfl).2 rfl receiverI (by simp [Value.oneCell'])).imp fun w7 hx => ⟨hx.1, hset _ ⟨bl_gr hT hx.2.2 (hal g7 rfl).1, g7, B1, k1, d1, B2, k2, d2, rfl, (hal g7 rfl).1, hv, hx.2.1, Lay.rd_weak (fun b hb _ => hb.1) (rd_grownH hr hx.2.2 (fun b hb e => hb.2 (by rw [e]))), h7a, Lay.rd_weak (fun b hb _ => hb.1) (rd_grownH hr2 hx.2.2 (fun b hb e => hb.2 (by rw [e]))), h7b, h7c⟩⟩
    try simp only [Act.put]
    refine Pz 11 (some 8) (.int .i64 (0)) rfl rfl (by exact StepS.pure (Wt1.pass (by decide) (by decide)) rfl fun _ => rfl) ?_
    try simp only [Act.put, sA, sZ, sS]
    refine Ps.done (by kernel_rfl) (fun wg22 hS => ?_) _
    obtain ⟨g9, hm, hT, g1, E1, l1, f1, E2, l2, f2, hg1, hg2, hv, hbk, hr, h7a, hr2, h7b, h7c⟩ := Wt1.fin (by rfl) (by rfl) hS
    clear hS
    injection hg1 with hg1
    subst hg1
    obtain rfl : g7 = g9 := by have h9 : Value.pointer (some ⟨g7, 0, none⟩) = .pointer (some ⟨g9, 0, none⟩) := hm; simpa using h9
    obtain ⟨rfl, rfl, rfl, rfl, rfl, rfl⟩ : B1 = E1 ∧ k1 = l1 ∧ d1 = f1 ∧ B2 = E2 ∧ k2 = l2 ∧ d2 = f2 := by have h9 : (.tuple #[.agg ((hearR r pk).cells B1 k1 d1 B2 k2 d2), .int .i64 0] : Value) = .tuple #[.agg ((hearR r pk).cells E1 l1 f1 E2 l2 f2), .int .i64 0] := hv; simpa [and_assoc] using h9
    refine ⟨g7, B1, k1, d1, B2, k2, d2, ⟨.pointer (some ⟨g, 0, none⟩), .pointer (some ⟨g, 0, none⟩), .pointer (some ⟨g, 7, none⟩), .agg (r.cells A2 n2 c2 A3 n3 c3), .agg (pk.cells pA pn pc), .tuple #[.agg ((hearR r pk).cells B1 k1 d1 B2 k2 d2), .int .i64 0], .tuple #[.agg ((hearR r pk).cells B1 k1 d1 B2 k2 d2), .int .i64 0], .agg ((hearR r pk).cells B1 k1 d1 B2 k2 d2), .int .i64 0, ?_⟩, hT, hg2, hbk, hr, h7a, hr2, h7b, h7c⟩
    clear hT hbk hr h7a hr2 h7b h7c hv hm
    rfl
  case kpswg22 =>
   intro a' w3 hF
   obtain ⟨g7, B1, k1, d1, B2, k2, d2, ⟨v19, v20, v21, v22, v23, v24, v18, v25, v26, rfl⟩, hT, hg7, hbk, hr, h7a, hr2, h7b, h7c⟩ := hF
   have HT3 := Lib.hid hT
   have HV3 := Lib.hid hbk
   have HRA3 := Lib.hid hr
   have HCA3 := Lib.hid h7a
   have HRB3 := Lib.hid hr2
   have HCB3 := Lib.hid (And.intro h7b h7c)
   clear hT hbk hr h7a hr2 h7b h7c
   simp only [Act.put, List.setIfInBounds_toArray, List.set_cons_zero, List.set_cons_succ]
   have HP3 := Lib.hid (HP2.out.below HT3.out)
   have HV23 := Lib.hid (HV2.out.ca HT3.out)
   have HRV3 := Lib.hid (Lay.rd_below HRV2.out HT3.out)
   have hsz3 := HT3.out.size
   have hgl : g < w1.heap.size := HP1.out.blk.lt
   have hg8l := HV2.out.lt
   go_upto_region 3 with fail
   refine wp_region_ps (S := SeqN [6, 9] (fun z mm w' => (Blk w' g8 29 ((ackedR s pk).cells A7 n7 c7) ∧ Blk w' g7 36 ((hearR r pk).cells B1 k1 d1 B2 k2 d2)) ∧ ∃ wq, Below w3.heap.size w3 wq ∧ (match z with | 0 => wq = w' | 1 => wq.grownBy w' (some g) ∧ Blk w' g 93 (pairC (ackedR s pk) r A7 n7 c7 A2 n2 c2 A3 n3 c3 (.slice A4 n4 c4) (.slice A5 n5 c5) (.slice A6 n6 c6)) | _ => wq.grownBy w' (some g) ∧ Blk w' g 93 (pairC (ackedR s pk) (hearR r pk) A7 n7 c7 B1 k1 d1 B2 k2 d2 (.slice A4 n4 c4) (.slice A5 n5 c5) (.slice A6 n6 c6))))) (by kernel_rfl) ?spswg43 ?ppswg43
   case spswg43 =>
    have q9 := (Below.refl w3.heap.size w3).drew
    exact SeqN.start (by decide) ⟨⟨HV23.out.ca q9, HV3.out.ca q9⟩, _, q9, rfl⟩
   refine Pz 0 (some 27) (.pointer (some ⟨g, 0, none⟩)) rfl rfl (by exact StepS.pure (SeqN.pass (by decide)) rfl fun _ => rfl) ?_
   try simp only [Act.put, sA, sZ, sS]
   refine Pz 1 (some 28) (.pointer (some ⟨g, 0, none⟩)) rfl rfl (by exact StepS.pure (SeqN.pass (by decide)) rfl fun _ => rfl) ?_
   try simp only [Act.put, sA, sZ, sS]
   refine Pz 2 (some 29) (.agg #[.int .u32 ((ackedR s pk).ses), .int .u64 ((ackedR s pk).base), .slice A7 n7 c7, .int .u64 ((ackedR s pk).sent), .int .u64 ((ackedR s pk).lim), .int .i64 ((ackedR s pk).timer), .bool ((ackedR s pk).ended)]) rfl rfl ?ywg43_46 ?rwg43_46
   case ywg43_46 =>
    refine StepS.read [] (by kernel_rfl) (SeqN.pass (by decide)) (by rfl) (fun L9 m9 w9 hSh hAt hDn hS => ?_)
    have hT : Blk w9 g8 29 ((ackedR s pk).cells A7 n7 c7) ∧ Blk w9 g7 36 ((hearR r pk).cells B1 k1 d1 B2 k2 d2) := by unfold SeqN at hS; exact hS.1
    have x0 : w9.cell? ⟨g8, 0, none⟩ = some (.int .u32 ((ackedR s pk).ses)) := hT.1.cell 0
    have x1 : w9.cell? ⟨g8, 1, none⟩ = some (.int .u64 ((ackedR s pk).base)) := hT.1.cell 1
    have x2 : w9.cell? ⟨g8, 2, none⟩ = some (.slice A7 n7 c7) := hT.1.cell 2
    have x3 : w9.cell? ⟨g8, 3, none⟩ = some (.int .u64 ((ackedR s pk).sent)) := hT.1.cell 3
    have x4 : w9.cell? ⟨g8, 4, none⟩ = some (.int .u64 ((ackedR s pk).lim)) := hT.1.cell 4
    have x5 : w9.cell? ⟨g8, 5, none⟩ = some (.int .i64 ((ackedR s pk).timer)) := hT.1.cell 5
    have x6 : w9.cell? ⟨g8, 6, none⟩ = some (.bool ((ackedR s pk).ended)) := hT.1.cell 6
    clear hT hS
    go_simp
    try rfl
   try simp only [Act.put, sA, sZ, sS]
   refine Pz 3 (some 30) (.agg #[.int .u32 ((hearR r pk).ses), .int .u64 ((hearR r pk).next), .slice B1 k1 d1, .slice B2 k2 d2, .int .i64 ((hearR r pk).room), .bool ((hearR r pk).over)]) rfl rfl ?ywg43_47 ?rwg43_47
   case ywg43_47 =>
    refine StepS.read [] (by kernel_rfl) (SeqN.pass (by decide)) (by rfl) (fun L9 m9 w9 hSh hAt hDn hS => ?_)
    have hT : Blk w9 g8 29 ((ackedR s pk).cells A7 n7 c7) ∧ Blk w9 g7 36 ((hearR r pk).cells B1 k1 d1 B2 k2 d2) := by unfold SeqN at hS; exact hS.1
    have x0 : w9.cell? ⟨g7, 0, none⟩ = some (.int .u32 ((hearR r pk).ses)) := hT.2.cell 0
    have x1 : w9.cell? ⟨g7, 1, none⟩ = some (.int .u64 ((hearR r pk).next)) := hT.2.cell 1
    have x2 : w9.cell? ⟨g7, 2, none⟩ = some (.slice B1 k1 d1) := hT.2.cell 2
    have x3 : w9.cell? ⟨g7, 3, none⟩ = some (.slice B2 k2 d2) := hT.2.cell 3
    have x4 : w9.cell? ⟨g7, 4, none⟩ = some (.int .i64 ((hearR r pk).room)) := hT.2.cell 4
    have x5 : w9.cell? ⟨g7, 5, none⟩ = some (.bool ((hearR r pk).over)) := hT.2.cell 5
    clear hT hS
    go_simp
    try rfl
   try simp only [Act.put, sA, sZ, sS]
   refine Pz 4 (some 31) (.pointer (some ⟨g, 0, none⟩)) rfl rfl (by exact StepS.pure (SeqN.pass (by decide)) rfl fun _ => by first | rfl | (go_simp; done) | (go_simp; rfl)) ?_
   try simp only [Act.put, sA, sZ, sS]
   refine Pz 5 (some 32) (.pointer (some ⟨g, 0, none⟩)) rfl rfl (by exact StepS.pure (SeqN.pass (by decide)) rfl fun _ => rfl) ?_
   try simp only [Act.put, sA, sZ, sS]
   refine Pz 6 none undef rfl rfl ?ywg43_50 ?rwg43_50
   case ywg43_50 =>
    refine StepS.store [] (by kernel_rfl) (by rfl) (fun L9 m9 w9 hSh hAt hDn hS => ?_)
    obtain ⟨⟨hb8, hb7⟩, wq, hq, rfl⟩ := SeqN.at_ (m0 := m9) (m1 := m9) [] [9] hSh (fun d hd => by cases hd) hDn (by kernel_rfl) hS
    refine (exec_store_part (w := wq) 29 (.tmp 32) (.tmp 29) (by rfl) g 0 93 (pairC s r A n c A2 n2 c2 A3 n3 c3 (.slice A4 n4 c4) (.slice A5 n5 c5) (.slice A6 n6 c6)) ((ackedR s pk).cells A7 n7 c7) (pairC (ackedR s pk) r A7 n7 c7 A2 n2 c2 A3 n3 c3 (.slice A4 n4 c4) (.slice A5 n5 c5) (.slice A6 n6 c6)) (by rfl) (by rfl) (HP3.out.blk.ca hq) (by simp) senderI (by simp [Value.oneCell']) (by rfl)).imp fun w7 hx => ⟨hx.1, SeqN.set_ (m0 := m9) (m1 := m9) [] [9] hSh (fun d hd => by cases hd) hDn (by kernel_rfl) (by decide) (by decide) ⟨⟨hb8.grown hx.2.2 (fun e => by injection e with e; omega), hb7.grown hx.2.2 (fun e => by injection e with e; omega)⟩, wq, hq, hx.2.2, hx.2.1⟩⟩
   try simp only [Act.put]
   refine Pz 7 (some 33) (.pointer (some ⟨g, 0, none⟩)) rfl rfl (by exact StepS.pure (SeqN.pass (by decide)) rfl fun _ => by first | rfl | (go_simp; done) | (go_simp; rfl)) ?_
   try simp only [Act.put, sA, sZ, sS]
   refine Pz 8 (some 34) (.pointer (some ⟨g, 7, none⟩)) rfl rfl (by exact StepS.pure (SeqN.pass (by decide)) rfl fun _ => rfl) ?_
   try simp only [Act.put, sA, sZ, sS]
   refine Pz 9 none undef rfl rfl ?ywg43_53 ?rwg43_53
   case ywg43_53 =>
    refine StepS.store [6] (by kernel_rfl) (by rfl) (fun L9 m9 w9 hSh hAt hDn hS => ?_)
    obtain ⟨⟨hb8, hb7⟩, wq, hq, hg, hbk⟩ := SeqN.at_ [6] [] hSh hAt hDn (by kernel_rfl) hS
    refine (exec_store_part (w := w9) 36 (.tmp 34) (.tmp 30) (by rfl) g 7 93 (pairC (ackedR s pk) r A7 n7 c7 A2 n2 c2 A3 n3 c3 (.slice A4 n4 c4) (.slice A5 n5 c5) (.slice A6 n6 c6)) ((hearR r pk).cells B1 k1 d1 B2 k2 d2) (pairC (ackedR s pk) (hearR r pk) A7 n7 c7 B1 k1 d1 B2 k2 d2 (.slice A4 n4 c4) (.slice A5 n5 c5) (.slice A6 n6 c6)) (by rfl) (by rfl) hbk (by simp) receiverI (by simp [Value.oneCell']) (by rfl)).imp fun w7 hx => ⟨hx.1, SeqN.set_ [6] [] hSh hAt hDn (by kernel_rfl) (by decide) (by decide) ⟨⟨hb8.grown hx.2.2 (fun e => by injection e with e; omega), hb7.grown hx.2.2 (fun e => by injection e with e; omega)⟩, wq, hq, grown_two hg hx.2.2, hx.2.1⟩⟩
   try simp only [Act.put]
   refine Ps.done (by kernel_rfl) (fun wg43 hS => ?_) _
   obtain ⟨_, wq3, hq3, hg3, hb3⟩ := SeqN.fin (by rfl) hS
   clear hS
   obtain ⟨w4, rfl⟩ : ∃ x, x = wg43 := ⟨_, rfl⟩
   go_wp2
   go_ret
   have hPM := HP3.out.below hq3
   have hb4 := HP1.out.base4
   have hPF : ∀ b, (PF w1 g A4 A5 A6 b ∨ w1.heap.size ≤ b) → b < wq3.heap.size → PF wq3 g A4 A5 A6 b := fun b hb hl => hb.elim (fun h9 => ⟨hl, h9.2⟩) (fun h9 => ⟨hl, by omega, fun e => by have := (hb4.1 b e).2; omega, fun e => by have := (hb4.2.1 b e).2; omega, fun e => by have := (hb4.2.2 b e).2; omega⟩)
   have hPF2 : ∀ b, (PF w2 g A4 A5 A6 b ∨ w2.heap.size ≤ b) → b < wq3.heap.size → PF wq3 g A4 A5 A6 b := fun b hb hl => hb.elim (fun h9 => ⟨hl, h9.2⟩) (fun h9 => hPF b (.inr (by omega)) hl)
   refine ⟨rfl, ?_, A7, n7, c7, B1, k1, d1, B2, k2, d2, hPM.stores hg3 hb3 (Lay.rd_weak hPF (Lay.rd_below HRV3.out hq3)) HCV2.out (Lay.rd_weak hPF2 (Lay.rd_below HRA3.out hq3)) HCA3.out (Lay.rd_weak hPF2 (Lay.rd_below HRB3.out hq3)) HCB3.out⟩
   have hch : Chg (fun k => k = g) w w4 := (Chg.of_below (bl_ca (bl_ca (bl_ca HQ1.out HT2.out) HT3.out) hq3)).grown hg3 (fun k e => .inl (Option.some.inj e).symm)
   exact hch
theorem comes_any (B0 g : Nat) (w : World) (s : SC) (r : RC) (way : List PK) (put taken : List BC) (A : Option Addr) (n c : Nat) (A2 : Option Addr) (n2 c2 : Nat) (A3 : Option Addr) (n3 c3 : Nat) (A4 : Option Addr) (n4 c4 : Nat) (A5 : Option Addr) (n5 c5 : Nat) (A6 : Option Addr) (n6 c6 : Nat) (pk : PK) (pA : Option Addr) (pn pc : Nat)
 (h : PM B0 g w s r way put taken A n c A2 n2 c2 A3 n3 c3 A4 n4 c4 A5 n5 c5 A6 n6 c6) (hr : LR.rd w (PF w g A4 A5 A6) pA pn pk.b.rows) (hpn : pn ≤ pc) (hpc : pc ≤ 9223372036854775807) (hs : sendB s = true) (hrb : recB r = true) (hB : B0 ≤ w.heap.size) :
 Calls Try.prog 44 #[.pointer (some ⟨g, 0, none⟩), .agg (pk.cells pA pn pc)] w fun e w' => e = .returned (.bool true) ∧ Below B0 w w' ∧ ∃ A' n' c' A2' n2' c2' A3' n3' c3', PM B0 g w' (ackedR s pk) (hearR r pk) way put taken A' n' c' A2' n2' c2' A3' n3' c3' A4 n4 c4 A5 n5 c5 A6 n6 c6 := by
 refine (comes_chg B0 g w s r way put taken A n c A2 n2 c2 A3 n3 c3 A4 n4 c4 A5 n5 c5 A6 n6 c6 pk pA pn pc h hr hpn hpc hs hrb).mono ?_
 rintro e w' ⟨he, hch, hr⟩
 exact ⟨he, Chg.bel (Below.refl B0 w) hch (fun b _ h9 => by rw [h9]; exact h.g0) hB, hr⟩
end Go.Proofs.Ytojghgbaiiajfaa
/- Two variables made and filled by calls in one statement whose order Go leaves open. Conditions: none. -/
namespace Go.Proofs.Ytojghgbaiiajfaa
open Go.RowKit
def pt (g : Nat) : Value := .pointer (some ⟨g, 0, none⟩)
/-- the blocks that are none of the two variables -/
def Av (a1 a2 : Nat) (m : Nat → Value) (b : Nat) : Prop := m a1 ≠ pt b ∧ m a2 ≠ pt b
/-- what a call's answer is: it stays so as long as the blocks that it leads to do -/
structure Res (R : Value → (Nat → Prop) → World → Prop) : Prop where
 keep : ∀ {v F w w'}, (∀ b, F b → b < w.heap.size → w'.heap[b]? = w.heap[b]?) → R v F w → R v F w'
 weak : ∀ {v F G w}, (∀ b, F b → b < w.heap.size → G b) → R v F w → R v G w
def LRes {α : Type} (Ly : Lay α) (P : α → Prop) (v : Value) (F : Nat → Prop) (w : World) : Prop := ∃ a cs, v = .agg cs ∧ Ly.rep w F a cs.toList ∧ P a
theorem LRes.res {α : Type} (Ly : Lay α) (P : α → Prop) : Res (LRes Ly P) :=
 ⟨fun hk ⟨a, cs, e, h, p⟩ => ⟨a, cs, e, Ly.keep hk h, p⟩, fun hk ⟨a, cs, e, h, p⟩ => ⟨a, cs, e, Ly.weak hk h, p⟩⟩
def NoRes (_ : Value) (_ : Nat → Prop) (_ : World) : Prop := True
theorem NoRes.res : Res NoRes := ⟨fun _ h => h, fun _ h => h⟩
section
variable (W : World) (k0 k1 k2 a1 a2 : Nat) (t1 t2 : TypeId) (Z1 Z2 : Array Value) (R0 R1 R2 : Value → (Nat → Prop) → World → Prop)
structure TwoA (L : Array Bool) (m : Nat → Value) (w : World) : Prop where
 bel : Below W.heap.size W w
 v1 : Dn L a1 = true → ∃ g, m a1 = pt g ∧ W.heap.size ≤ g ∧ Blk w g t1 Z1
 n1 : Dn L a1 = false → m a1 = undef
 v2 : Dn L a2 = true → ∃ g, m a2 = pt g ∧ W.heap.size ≤ g ∧ Blk w g t2 Z2
 n2 : Dn L a2 = false → m a2 = undef
 ne : Dn L a1 = true → Dn L a2 = true → m a1 ≠ m a2
 r0 : Dn L k0 = true → R0 (m k0) (Av a1 a2 m) w
 r1 : Dn L k1 = true → R1 (m k1) (Av a1 a2 m) w
 r2 : Dn L k2 = true → R2 (m k2) (Av a1 a2 m) w
structure TwoB (c1 c2 : Array Value) (g1 g2 : Nat) (m : Nat → Value) (w : World) : Prop where
 e1 : m a1 = pt g1
 e2 : m a2 = pt g2
 ne : g1 ≠ g2
 l1 : W.heap.size ≤ g1
 l2 : W.heap.size ≤ g2
 b1 : Blk w g1 t1 c1
 b2 : Blk w g2 t2 c2
 bel : Below W.heap.size W w
 r1 : R1 (m k1) (Av a1 a2 m) w
 r2 : R2 (m k2) (Av a1 a2 m) w
/-- s1, s2: the two stores -/
def TwoS (s1 s2 : Nat) (L : Array Bool) (m : Nat → Value) (w : World) : Prop :=
 (Dn L s1 = false → TwoA W k0 k1 k2 a1 a2 t1 t2 Z1 Z2 R0 R1 R2 L m w) ∧
 (Dn L s1 = true → Dn L s2 = false → ∃ g1 g2 c1, m k1 = .agg c1 ∧ TwoB W k1 k2 a1 a2 t1 t2 R1 R2 c1 Z2 g1 g2 m w) ∧
 (Dn L s2 = true → ∃ g1 g2 c1 c2, m k1 = .agg c1 ∧ m k2 = .agg c2 ∧ TwoB W k1 k2 a1 a2 t1 t2 R1 R2 c1 c2 g1 g2 m w)
end
section
variable {W : World} {k0 k1 k2 a1 a2 s1 s2 : Nat} {t1 t2 : TypeId} {Z1 Z2 : Array Value} {R0 R1 R2 : Value → (Nat → Prop) → World → Prop} {L : Array Bool} {m : Nat → Value} {w w' : World}
theorem TwoA.mono (h : TwoA W k0 k1 k2 a1 a2 t1 t2 Z1 Z2 R0 R1 R2 L m w) (H0 : Res R0) (H1 : Res R1) (H2 : Res R2) (q : Below w.heap.size w w') : TwoA W k0 k1 k2 a1 a2 t1 t2 Z1 Z2 R0 R1 R2 L m w' :=
 ⟨bl_ca h.bel q, fun e => by obtain ⟨g, x, y, z⟩ := h.v1 e; exact ⟨g, x, y, z.ca q⟩, h.n1, fun e => by obtain ⟨g, x, y, z⟩ := h.v2 e; exact ⟨g, x, y, z.ca q⟩, h.n2, h.ne,
  fun e => H0.keep (fun b _ hb => q.block b hb) (h.r0 e), fun e => H1.keep (fun b _ hb => q.block b hb) (h.r1 e), fun e => H2.keep (fun b _ hb => q.block b hb) (h.r2 e)⟩
theorem TwoA.set (h : TwoA W k0 k1 k2 a1 a2 t1 t2 Z1 Z2 R0 R1 R2 L m w) {i : Nat} (hi : i ≠ k0 ∧ i ≠ k1 ∧ i ≠ k2 ∧ i ≠ a1 ∧ i ≠ a2) : TwoA W k0 k1 k2 a1 a2 t1 t2 Z1 Z2 R0 R1 R2 (L.setIfInBounds i true) m w := by
 obtain ⟨x0, x1, x2, y1, y2⟩ := hi
 have d : ∀ j, i ≠ j → Dn (L.setIfInBounds i true) j = Dn L j := fun j hj => dn_ne (Ne.symm hj)
 exact ⟨h.bel, fun e => h.v1 (d _ y1 ▸ e), fun e => h.n1 (d _ y1 ▸ e), fun e => h.v2 (d _ y2 ▸ e), fun e => h.n2 (d _ y2 ▸ e), fun e f => h.ne (d _ y1 ▸ e) (d _ y2 ▸ f), fun e => h.r0 (d _ x0 ▸ e), fun e => h.r1 (d _ x1 ▸ e), fun e => h.r2 (d _ x2 ▸ e)⟩
theorem TwoS.start {n : Nat} (hl : (decide (k1 < n) && decide (k2 < n) && decide (a1 < n) && decide (a2 < n) && decide (s1 < n) && decide (s2 < n)) = true) (h0 : k0 < n ∨ R0 = NoRes) : TwoS W k0 k1 k2 a1 a2 t1 t2 Z1 Z2 R0 R1 R2 s1 s2 (Array.replicate n false) (fun _ => undef) W.drew := by
 simp only [Bool.and_eq_true, decide_eq_true_eq] at hl
 obtain ⟨⟨⟨⟨⟨l1, l2⟩, l3⟩, l4⟩, l5⟩, l6⟩ := hl
 have d : ∀ j, j < n → Dn (Array.replicate n false) j = false := fun j hj => by unfold Dn; simp [hj]
 refine ⟨fun _ => ⟨(Below.refl _ _).drew, fun e => ?_, fun _ => rfl, fun e => ?_, fun _ => rfl, fun e => ?_, fun e => ?_, fun e => ?_, fun e => ?_⟩, fun e => ?_, fun e => ?_⟩
 · rw [d _ l3] at e; cases e
 · rw [d _ l4] at e; cases e
 · rw [d _ l3] at e; cases e
 · rcases h0 with h0 | h0
   · rw [d _ h0] at e; cases e
   · rw [h0]; trivial
 · rw [d _ l1] at e; cases e
 · rw [d _ l2] at e; cases e
 · rw [d _ l5] at e; cases e
 · rw [d _ l6] at e; cases e
theorem TwoS.pass {i : Nat} (h : (i != k0 && i != k1 && i != k2 && i != a1 && i != a2 && i != s1 && i != s2) = true) : Pass (TwoS W k0 k1 k2 a1 a2 t1 t2 Z1 Z2 R0 R1 R2 s1 s2) i := fun L m w hS => by
 simp only [Bool.and_eq_true, bne_iff_ne] at h
 obtain ⟨⟨⟨⟨⟨⟨x0, x1⟩, x2⟩, y1⟩, y2⟩, z1⟩, z2⟩ := h
 unfold TwoS at *
 rw [dn_ne (Ne.symm z1), dn_ne (Ne.symm z2)]
 exact ⟨fun e => (hS.1 e).set ⟨x0, x1, x2, y1, y2⟩, hS.2⟩
theorem TwoS.any (hS : TwoS W k0 k1 k2 a1 a2 t1 t2 Z1 Z2 R0 R1 R2 s1 s2 L m w) : Below W.heap.size W w := by
 cases h1 : Dn L s1
 · exact (hS.1 h1).bel
 · cases h2 : Dn L s2
   · obtain ⟨_, _, _, _, h⟩ := hS.2.1 h1 h2; exact h.bel
   · obtain ⟨_, _, _, _, _, _, h⟩ := hS.2.2 h2; exact h.bel
/-- a call has answered -/
theorem TwoS.call {v : Value} {i : Nat} (hS : TwoS W k0 k1 k2 a1 a2 t1 t2 Z1 Z2 R0 R1 R2 s1 s2 L m w) (H0 : Res R0) (H1 : Res R1) (H2 : Res R2) (hs : Dn L s1 = false) (hs2 : Dn L s2 = false) (hn : (i != a1 && i != a2 && i != s1 && i != s2) = true) (q : Below w.heap.size w w')
 (c0 : i = k0 → R0 v (Av a1 a2 m) w') (c1 : i = k1 → R1 v (Av a1 a2 m) w') (c2 : i = k2 → R2 v (Av a1 a2 m) w') : TwoS W k0 k1 k2 a1 a2 t1 t2 Z1 Z2 R0 R1 R2 s1 s2 (L.setIfInBounds i true) (upd m i v) w' := by
 simp only [Bool.and_eq_true, bne_iff_ne] at hn
 obtain ⟨⟨⟨y1, y2⟩, z1⟩, z2⟩ := hn
 have h := (hS.1 hs).mono H0 H1 H2 q
 have hav : ∀ b, Av a1 a2 m b → Av a1 a2 (upd m i v) b := fun b hb => ⟨by rw [upd_ne (Ne.symm y1)]; exact hb.1, by rw [upd_ne (Ne.symm y2)]; exact hb.2⟩
 have key : ∀ {R : Value → (Nat → Prop) → World → Prop} {k : Nat}, Res R → (Dn L k = true → R (m k) (Av a1 a2 m) w') → (i = k → R v (Av a1 a2 m) w') → Dn (L.setIfInBounds i true) k = true → R (upd m i v k) (Av a1 a2 (upd m i v)) w' := fun {R k} hR h1 h2 e => by
  by_cases ik : i = k
  · subst ik; rw [upd_same]; exact hR.weak (fun b hb _ => hav b hb) (h2 rfl)
  · rw [dn_ne (Ne.symm ik)] at e; rw [upd_ne (Ne.symm ik)]; exact hR.weak (fun b hb _ => hav b hb) (h1 e)
 refine ⟨fun _ => ⟨h.bel, fun e => ?_, fun e => ?_, fun e => ?_, fun e => ?_, fun e f => ?_, key H0 h.r0 c0, key H1 h.r1 c1, key H2 h.r2 c2⟩, fun e => ?_, fun e => ?_⟩
 · rw [dn_ne (Ne.symm y1)] at e; rw [upd_ne (Ne.symm y1)]; exact h.v1 e
 · rw [dn_ne (Ne.symm y1)] at e; rw [upd_ne (Ne.symm y1)]; exact h.n1 e
 · rw [dn_ne (Ne.symm y2)] at e; rw [upd_ne (Ne.symm y2)]; exact h.v2 e
 · rw [dn_ne (Ne.symm y2)] at e; rw [upd_ne (Ne.symm y2)]; exact h.n2 e
 · rw [dn_ne (Ne.symm y1)] at e; rw [dn_ne (Ne.symm y2)] at f; rw [upd_ne (Ne.symm y1), upd_ne (Ne.symm y2)]; exact h.ne e f
 · rw [dn_ne (Ne.symm z1), hs] at e; cases e
 · rw [dn_ne (Ne.symm z2), hs2] at e; cases e
theorem TwoS.set1 {c1 : Array Value} {g1 g2 : Nat} (hs2 : Dn L s2 = false) (hne : s2 ≠ s1) (hk : m k1 = .agg c1) (h : TwoB W k1 k2 a1 a2 t1 t2 R1 R2 c1 Z2 g1 g2 m w) : TwoS W k0 k1 k2 a1 a2 t1 t2 Z1 Z2 R0 R1 R2 s1 s2 (L.setIfInBounds s1 true) m w :=
 ⟨fun e => (by rw [dn_eq] at e; cases e), fun _ _ => ⟨g1, g2, c1, hk, h⟩, fun e => (by rw [dn_ne hne, hs2] at e; cases e)⟩
theorem TwoS.at1 (hS : TwoS W k0 k1 k2 a1 a2 t1 t2 Z1 Z2 R0 R1 R2 s1 s2 L m w) (h1 : Dn L s1 = true) (h2 : Dn L s2 = false) : ∃ g1 g2 c1, m k1 = .agg c1 ∧ TwoB W k1 k2 a1 a2 t1 t2 R1 R2 c1 Z2 g1 g2 m w := hS.2.1 h1 h2
theorem TwoS.set2 {c1 c2 : Array Value} {g1 g2 : Nat} (hne : s1 ≠ s2) (h1 : Dn L s1 = true) (hk : m k1 = .agg c1) (hk2 : m k2 = .agg c2) (h : TwoB W k1 k2 a1 a2 t1 t2 R1 R2 c1 c2 g1 g2 m w) : TwoS W k0 k1 k2 a1 a2 t1 t2 Z1 Z2 R0 R1 R2 s1 s2 (L.setIfInBounds s2 true) m w :=
 ⟨fun e => (by rw [dn_ne hne, h1] at e; cases e), fun _ e => (by rw [dn_eq] at e; cases e), fun _ => ⟨g1, g2, c1, c2, hk, hk2, h⟩⟩
theorem TwoS.fin (hS : TwoS W k0 k1 k2 a1 a2 t1 t2 Z1 Z2 R0 R1 R2 s1 s2 L m w) (h2 : Dn L s2 = true) : ∃ g1 g2 c1 c2, m k1 = .agg c1 ∧ m k2 = .agg c2 ∧ TwoB W k1 k2 a1 a2 t1 t2 R1 R2 c1 c2 g1 g2 m w := hS.2.2 h2
end
end Go.Proofs.Ytojghgbaiiajfaa
