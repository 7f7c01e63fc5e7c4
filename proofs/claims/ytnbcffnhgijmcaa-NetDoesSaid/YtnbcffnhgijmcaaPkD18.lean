/- An op that is Come is run. Conditions: the net's slice reads as these parcels. -/
import Derived.Test.YtnbcffnhgijmcaaPkD17
namespace Go.Proofs.Ytnbcffnhgijmcaa
open Go.RowKit
set_option maxRecDepth 100000 in
set_option maxHeartbeats 16000000 in
theorem want_come (o : OpC) (oA : Option Addr) (on oc : Nat) (sent : Int) (A : Option Addr) (m c : Nat) (ps : List PC) (w : World) (hk : kindI o = 3) (h : LP.rd w AllB A m ps) (hc : chkB sent ps = true) (hm : m ≤ 20000) (hb : ∀ p ∈ ps, p.bs.length ≤ 100000) :
    Calls Try.prog 23 #[.agg (o.cells oA on oc), .agg #[.int .u64 sent, .slice A m c]] w (WantC w ⟨(comeR sent ps (numI o ps)).1, (comeR sent ps (numI o ps)).2, 0, comeP sent ps (numI o ps), 0, comeE sent ps (numI o ps)⟩) := by
  have HK := Lib.hid (fun w => kind_any o oA on oc w)
  rw [hk] at HK
  clear hk
  obtain ⟨k, f, t, a, p, ot, y, bs⟩ := o
  obtain ⟨x, hx⟩ : ∃ x, x = numI ⟨k, f, t, a, p, ot, y, bs⟩ ps := ⟨_, rfl⟩
  have HNU := Lib.hid (fun W h => num_any ⟨k, f, t, a, p, ot, y, bs⟩ oA on oc sent A m c ps W h (by omega))
  rw [← hx] at HNU
  rw [← hx]
  clear hx
  rw [come_eqE hc, come_eqR hc, come_eqP hc]
  have HCO := Lib.hid (fun W h => rcome_any sent A m c ps x W h hm hb)
  try dsimp only
  generalize rcomeR sent ps x = R at *
  generalize rcomeP ps x = P at *
  generalize rcomeE ps x = E at *
  obtain ⟨s, l⟩ := R
  replace h := Lay.rd_weak (G := Old w) (fun b _ hb => hb) h
  have bb := Below.refl w.heap.size w
  have bO := Blk.new w 49 #[.int .i64 k, .int .i64 f, .int .i64 t, .int .i64 a, .int .i64 p, .bool ot, vb y, .slice oA on oc]
  replace bb := bl_al bb (.cells #[.int .i64 k, .int .i64 f, .int .i64 t, .int .i64 a, .int .i64 p, .bool ot, vb y, .slice oA on oc] 49)
  replace bO := bO.ca (bl_al (Below.refl _ _) (.cells #[.int .u64 sent, .slice A m c] 26))
  have bN : Blk ((w.alloc (.cells #[.int .i64 k, .int .i64 f, .int .i64 t, .int .i64 a, .int .i64 p, .bool ot, vb y, .slice oA on oc] 49)).alloc (.cells #[.int .u64 sent, .slice A m c] 26)) (w.heap.size + 1) 26 #[.int .u64 sent, .slice A m c] := Blk.mk' (by simp only [World.size_alloc])
  replace bb := bl_al bb (.cells #[.int .u64 sent, .slice A m c] 26)
  replace bO := bO.ca (bl_al (Below.refl _ _) (.cells #[.int .u64 0, .slice none 0 0, .int .u64 0, .int .u64 0, .int .i64 0, .int .i64 0, .slice none 0 0, .bool false, .int .i64 0, .int .i64 0] 51))
  replace bN := bN.ca (bl_al (Below.refl _ _) (.cells #[.int .u64 0, .slice none 0 0, .int .u64 0, .int .u64 0, .int .i64 0, .int .i64 0, .slice none 0 0, .bool false, .int .i64 0, .int .i64 0] 51))
  have bT : Blk (((w.alloc (.cells #[.int .i64 k, .int .i64 f, .int .i64 t, .int .i64 a, .int .i64 p, .bool ot, vb y, .slice oA on oc] 49)).alloc (.cells #[.int .u64 sent, .slice A m c] 26)).alloc (.cells #[.int .u64 0, .slice none 0 0, .int .u64 0, .int .u64 0, .int .i64 0, .int .i64 0, .slice none 0 0, .bool false, .int .i64 0, .int .i64 0] 51)) (w.heap.size + 2) 51 #[.int .u64 0, .slice none 0 0, .int .u64 0, .int .u64 0, .int .i64 0, .int .i64 0, .slice none 0 0, .bool false, .int .i64 0, .int .i64 0] := Blk.mk' (by simp only [World.size_alloc])
  replace bb := bl_al bb (.cells #[.int .u64 0, .slice none 0 0, .int .u64 0, .int .u64 0, .int .i64 0, .int .i64 0, .slice none 0 0, .bool false, .int .i64 0, .int .i64 0] 51)
  have hsz : w.heap.size + 3 ≤ (((w.alloc (.cells #[.int .i64 k, .int .i64 f, .int .i64 t, .int .i64 a, .int .i64 p, .bool ot, vb y, .slice oA on oc] 49)).alloc (.cells #[.int .u64 sent, .slice A m c] 26)).alloc (.cells #[.int .u64 0, .slice none 0 0, .int .u64 0, .int .u64 0, .int .i64 0, .int .i64 0, .slice none 0 0, .bool false, .int .i64 0, .int .i64 0] 51)).heap.size := by simp only [World.size_alloc]; omega
  have HRT := Lib.hid (right_any sent A m c ps _ (Lay.rd_below (Lay.rd_weak (fun _ _ _ => trivial) h) bb) (by omega))
  rw [hc] at HRT
  have HR1 := Lib.hid (Lay.rd_below h bb)
  clear h hc
  have x0 : (((w.alloc (.cells #[.int .i64 k, .int .i64 f, .int .i64 t, .int .i64 a, .int .i64 p, .bool ot, vb y, .slice oA on oc] 49)).alloc (.cells #[.int .u64 sent, .slice A m c] 26)).alloc (.cells #[.int .u64 0, .slice none 0 0, .int .u64 0, .int .u64 0, .int .i64 0, .int .i64 0, .slice none 0 0, .bool false, .int .i64 0, .int .i64 0] 51)).cell? ⟨w.heap.size + 1, 0, none⟩ = some (.int .u64 sent) := bN.cell 0
  have x1 : (((w.alloc (.cells #[.int .i64 k, .int .i64 f, .int .i64 t, .int .i64 a, .int .i64 p, .bool ot, vb y, .slice oA on oc] 49)).alloc (.cells #[.int .u64 sent, .slice A m c] 26)).alloc (.cells #[.int .u64 0, .slice none 0 0, .int .u64 0, .int .u64 0, .int .i64 0, .int .i64 0, .slice none 0 0, .bool false, .int .i64 0, .int .i64 0] 51)).cell? ⟨w.heap.size + 1, 1, none⟩ = some (.slice A m c) := bN.cell 1
  go_enter Try.func23, Try.ntmps23
  go_wp2_with fail
  generalize (((w.alloc (.cells #[.int .i64 k, .int .i64 f, .int .i64 t, .int .i64 a, .int .i64 p, .bool ot, vb y, .slice oA on oc] 49)).alloc (.cells #[.int .u64 sent, .slice A m c] 26)).alloc (.cells #[.int .u64 0, .slice none 0 0, .int .u64 0, .int .u64 0, .int .i64 0, .int .i64 0, .slice none 0 0, .bool false, .int .i64 0, .int .i64 0] 51)) = w1 at *
  refine HRT.out.mono ?_
  rintro e w4 ⟨rfl, q4⟩
  have v0 : w4.cell? ⟨w.heap.size, 0, none⟩ = some (.int .i64 k) := (bO.ca q4).cell 0
  have v1 : w4.cell? ⟨w.heap.size, 1, none⟩ = some (.int .i64 f) := (bO.ca q4).cell 1
  have v2 : w4.cell? ⟨w.heap.size, 2, none⟩ = some (.int .i64 t) := (bO.ca q4).cell 2
  have v3 : w4.cell? ⟨w.heap.size, 3, none⟩ = some (.int .i64 a) := (bO.ca q4).cell 3
  have v4 : w4.cell? ⟨w.heap.size, 4, none⟩ = some (.int .i64 p) := (bO.ca q4).cell 4
  have v5 : w4.cell? ⟨w.heap.size, 5, none⟩ = some (.bool ot) := (bO.ca q4).cell 5
  have v6 : w4.cell? ⟨w.heap.size, 6, none⟩ = some (vb y) := (bO.ca q4).cell 6
  have v7 : w4.cell? ⟨w.heap.size, 7, none⟩ = some (.slice oA on oc) := (bO.ca q4).cell 7
  clear x0 x1 HRT
  go_wp2_with fail
  refine (HK.out _).mono ?_
  rintro e w5 ⟨rfl, q6⟩
  have q5 := q4.trans (q6.mono q4.size)
  have HO := Lib.hid (bO.ca q5)
  have HN := Lib.hid (bN.ca q5)
  have HT := Lib.hid (bT.ca q5)
  have HR := Lib.hid (Lay.rd_below HR1.out q5)
  have BB := Lib.hid (bl_ca bb q5)
  have hs5 := Nat.le_trans hsz q5.size
  clear bO bN bT bb q4 q5 q6 HR1 HK v0 v1 v2 v3 v4 v5 v6 v7
  go_wp2_with fail
  refine wp_region_ps (S := SeqN [3, 4, 10, 12, 14] (fun j m w' => match j with | 0 => Kept w5 w' (w.heap.size + 2) w5.heap.size ∧ Blk w' (w.heap.size + 2) 51 #[.int .u64 0, .slice none 0 0, .int .u64 0, .int .u64 0, .int .i64 0, .int .i64 0, .slice none 0 0, .bool false, .int .i64 0, .int .i64 0] | 1 => Kept w5 w' (w.heap.size + 2) w5.heap.size ∧ Blk w' (w.heap.size + 2) 51 #[.int .u64 0, .slice none 0 0, .int .u64 0, .int .u64 0, .int .i64 0, .int .i64 0, .slice none 0 0, .bool false, .int .i64 0, .int .i64 0] | 2 => Kept w5 w' (w.heap.size + 2) w5.heap.size ∧ ∃ A2 m2 c2 pA pn pc, m 4 = Value.tuple #[.agg #[.int .u64 s, .slice A2 m2 c2], .agg #[.int .u64 P.num, .int .i64 P.frm, .int .i64 P.to, .slice pA pn pc, .bool P.sp], .int .i64 E] ∧ RSep w' w5.heap.size ⟨s, l, 0, P, 0, E⟩ A2 m2 c2 pA pn pc ∧ Blk w' (w.heap.size + 2) 51 #[.int .u64 0, .slice none 0 0, .int .u64 0, .int .u64 0, .int .i64 0, .int .i64 0, .slice none 0 0, .bool false, .int .i64 0, .int .i64 0] | 3 => Kept w5 w' (w.heap.size + 2) w5.heap.size ∧ ∃ A2 m2 c2 pA pn pc, m 4 = Value.tuple #[.agg #[.int .u64 s, .slice A2 m2 c2], .agg #[.int .u64 P.num, .int .i64 P.frm, .int .i64 P.to, .slice pA pn pc, .bool P.sp], .int .i64 E] ∧ RSep w' w5.heap.size ⟨s, l, 0, P, 0, E⟩ A2 m2 c2 pA pn pc ∧ Blk w' (w.heap.size + 2) 51 #[.int .u64 s, .slice A2 m2 c2, .int .u64 0, .int .u64 0, .int .i64 0, .int .i64 0, .slice none 0 0, .bool false, .int .i64 0, .int .i64 0] | 4 => Kept w5 w' (w.heap.size + 2) w5.heap.size ∧ ∃ A2 m2 c2 pA pn pc, m 4 = Value.tuple #[.agg #[.int .u64 s, .slice A2 m2 c2], .agg #[.int .u64 P.num, .int .i64 P.frm, .int .i64 P.to, .slice pA pn pc, .bool P.sp], .int .i64 E] ∧ RSep w' w5.heap.size ⟨s, l, 0, P, 0, E⟩ A2 m2 c2 pA pn pc ∧ Blk w' (w.heap.size + 2) 51 #[.int .u64 s, .slice A2 m2 c2, .int .u64 0, .int .u64 P.num, .int .i64 P.frm, .int .i64 P.to, .slice pA pn pc, .bool P.sp, .int .i64 0, .int .i64 0] | _ => Kept w5 w' (w.heap.size + 2) w5.heap.size ∧ ∃ A2 m2 c2 pA pn pc, m 4 = Value.tuple #[.agg #[.int .u64 s, .slice A2 m2 c2], .agg #[.int .u64 P.num, .int .i64 P.frm, .int .i64 P.to, .slice pA pn pc, .bool P.sp], .int .i64 E] ∧ RSep w' w5.heap.size ⟨s, l, 0, P, 0, E⟩ A2 m2 c2 pA pn pc ∧ Blk w' (w.heap.size + 2) 51 #[.int .u64 s, .slice A2 m2 c2, .int .u64 0, .int .u64 P.num, .int .i64 P.frm, .int .i64 P.to, .slice pA pn pc, .bool P.sp, .int .i64 0, .int .i64 E])) (by kernel_rfl) ?spswq ?ppswq
  case spswq =>
    exact SeqN.start (by decide) ⟨Kept.of_below (Below.refl _ _).drew (Nat.le_refl _), HT.out.ca (Below.refl _ _).drew⟩
  refine Ps.step (i := 0) (d := some 48) (u := ?uwq_59) rfl rfl (by kernel_rfl) (by kernel_rfl) (by kernel_rfl) (by kernel_rfl) ?ywq_59 ?rwq_59
  case ywq_59 =>
    refine StepS.read [] (by kernel_rfl) (SeqN.pass (by decide)) (by rfl) (fun L9 m9 w9 hSh hAt hDn hS => ?_)
    have hK : Kept w5 w9 (w.heap.size + 2) w5.heap.size := SeqN.any (T := fun w9 => Kept w5 w9 (w.heap.size + 2) w5.heap.size) (fun j _ _ h => by match j, h with | 0, h => exact h.1 | 1, h => exact h.1 | 2, h => exact h.1 | 3, h => exact h.1 | 4, h => exact h.1 | _ + 5, h => exact h.1) hS
    have hT : Blk w9 (w.heap.size + 1) 26 #[.int .u64 sent, .slice A m c] := HN.out.kp hK (by omega) (by omega)
    have x0 : w9.cell? ⟨(w.heap.size + 1), 0, none⟩ = some (.int .u64 sent) := hT.cell 0
    have x1 : w9.cell? ⟨(w.heap.size + 1), 1, none⟩ = some (.slice A m c) := hT.cell 1
    clear hT hK hS
    go_simp
    try rfl
  try simp only [Act.put, List.setIfInBounds_toArray, List.set_cons_zero, List.set_cons_succ]
  refine Ps.step (i := 1) (d := some 49) (u := ?uwq_60) rfl rfl (by kernel_rfl) (by kernel_rfl) (by kernel_rfl) (by kernel_rfl) ?ywq_60 ?rwq_60
  case ywq_60 =>
    refine StepS.read [] (by kernel_rfl) (SeqN.pass (by decide)) (by rfl) (fun L9 m9 w9 hSh hAt hDn hS => ?_)
    have hK : Kept w5 w9 (w.heap.size + 2) w5.heap.size := SeqN.any (T := fun w9 => Kept w5 w9 (w.heap.size + 2) w5.heap.size) (fun j _ _ h => by match j, h with | 0, h => exact h.1 | 1, h => exact h.1 | 2, h => exact h.1 | 3, h => exact h.1 | 4, h => exact h.1 | _ + 5, h => exact h.1) hS
    have hT : Blk w9 w.heap.size 49 #[.int .i64 k, .int .i64 f, .int .i64 t, .int .i64 a, .int .i64 p, .bool ot, vb y, .slice oA on oc] := HO.out.kp hK (by omega) (by omega)
    have x0 : w9.cell? ⟨w.heap.size, 0, none⟩ = some (.int .i64 k) := hT.cell 0
    have x1 : w9.cell? ⟨w.heap.size, 1, none⟩ = some (.int .i64 f) := hT.cell 1
    have x2 : w9.cell? ⟨w.heap.size, 2, none⟩ = some (.int .i64 t) := hT.cell 2
    have x3 : w9.cell? ⟨w.heap.size, 3, none⟩ = some (.int .i64 a) := hT.cell 3
    have x4 : w9.cell? ⟨w.heap.size, 4, none⟩ = some (.int .i64 p) := hT.cell 4
    have x5 : w9.cell? ⟨w.heap.size, 5, none⟩ = some (.bool ot) := hT.cell 5
    have x6 : w9.cell? ⟨w.heap.size, 6, none⟩ = some (vb y) := hT.cell 6
    have x7 : w9.cell? ⟨w.heap.size, 7, none⟩ = some (.slice oA on oc) := hT.cell 7
    clear hT hK hS
    go_simp
    try rfl
  try simp only [Act.put, List.setIfInBounds_toArray, List.set_cons_zero, List.set_cons_succ]
  refine Ps.step (i := 2) (d := some 50) (u := ?uwq_61) rfl rfl (by kernel_rfl) (by kernel_rfl) (by kernel_rfl) (by kernel_rfl) ?ywq_61 ?rwq_61
  case ywq_61 =>
    refine StepS.read [] (by kernel_rfl) (SeqN.pass (by decide)) (by rfl) (fun L9 m9 w9 hSh hAt hDn hS => ?_)
    have hK : Kept w5 w9 (w.heap.size + 2) w5.heap.size := SeqN.any (T := fun w9 => Kept w5 w9 (w.heap.size + 2) w5.heap.size) (fun j _ _ h => by match j, h with | 0, h => exact h.1 | 1, h => exact h.1 | 2, h => exact h.1 | 3, h => exact h.1 | 4, h => exact h.1 | _ + 5, h => exact h.1) hS
    have hT : Blk w9 (w.heap.size + 1) 26 #[.int .u64 sent, .slice A m c] := HN.out.kp hK (by omega) (by omega)
    have x0 : w9.cell? ⟨(w.heap.size + 1), 0, none⟩ = some (.int .u64 sent) := hT.cell 0
    have x1 : w9.cell? ⟨(w.heap.size + 1), 1, none⟩ = some (.slice A m c) := hT.cell 1
    clear hT hK hS
    go_simp
    try rfl
  try simp only [Act.put, List.setIfInBounds_toArray, List.set_cons_zero, List.set_cons_succ]
  refine Ps.step (i := 3) (d := some 51) (u := (.int .u64 x)) rfl rfl (by kernel_rfl) (by kernel_rfl) (by kernel_rfl) (by kernel_rfl) ?ywq_62 ?rwq_62
  case ywq_62 =>
    refine StepS.call ?fwq_62 ?awq_62 [] (by kernel_rfl) (by rfl) (fun w9 => ?hwq_62) (fun L9 m9 w9 hSh hAt hDn hS => ?cwq_62)
    case hwq_62 => go_simp; refine ⟨?_, ?_⟩ <;> rfl
    case cwq_62 =>
      have hC := SeqN.at_ [] [4, 10, 12, 14] hSh hAt hDn (by kernel_rfl) hS
      refine (HNU.out w9 (rd_kp HR.out hC.1 (by omega) (by omega))).mono ?_
      rintro e w8 ⟨rfl, q8⟩
      refine ⟨rfl, SeqN.set_ [] [4, 10, 12, 14] hSh hAt hDn (by kernel_rfl) (by decide) (by decide) ⟨hC.1.trans (Kept.of_below q8 hC.1.size), hC.2.ca q8⟩⟩
  try simp only [Act.put, List.setIfInBounds_toArray, List.set_cons_zero, List.set_cons_succ]
  refine Ps.one (k := 4) (d := some 52) rfl rfl (by kernel_rfl) (TurnS.call (V := fun v => ∃ A2 m2 c2 pA pn pc, v = Value.tuple #[.agg #[.int .u64 s, .slice A2 m2 c2], .agg #[.int .u64 P.num, .int .i64 P.frm, .int .i64 P.to, .slice pA pn pc, .bool P.sp], .int .i64 E]) ?fwq_63 ?awq_63 [3] (by kernel_rfl) (by rfl) (fun w9 => ?hwq_63) (fun L9 m9 w9 hSh hAt hDn hS => ?cwq_63)) (fun v4 hVv4 => ?rwq_63)
  case hwq_63 => go_simp; refine ⟨?_, ?_⟩ <;> rfl
  case cwq_63 =>
    have hC := SeqN.at_ [3] [10, 12, 14] hSh hAt hDn (by kernel_rfl) hS
    have hCA := HCO.out w9 (rd_kp HR.out hC.1 (by omega) (by omega))
    refine hCA.mono ?_
    rintro e w8 ⟨A2, m2, c2, pA, pn, pc, rfl, hrd8, how8, q8⟩
    have hs9 := hC.1.size
    have HSEP : RSep w8 w5.heap.size ⟨s, l, 0, P, 0, E⟩ A2 m2 c2 pA pn pc := RSep.less ⟨hrd8, how8⟩ hs9
    exact ⟨_, rfl, ⟨A2, m2, c2, pA, pn, pc, rfl⟩, SeqN.set_ [3] [10, 12, 14] hSh hAt hDn (by kernel_rfl) (by decide) (by decide) ⟨hC.1.trans (Kept.of_below q8 hC.1.size), A2, m2, c2, pA, pn, pc, upd_same _ _ _, HSEP, hC.2.ca q8⟩⟩
  try simp only [Act.put, List.setIfInBounds_toArray, List.set_cons_zero, List.set_cons_succ]
  obtain ⟨A2, m2, c2, pA, pn, pc, rfl⟩ := hVv4
  refine Ps.step (i := 5) (d := some 47) (u := ?uwq_64) rfl rfl (by kernel_rfl) (by kernel_rfl) (by kernel_rfl) (by kernel_rfl) ?ywq_64 ?rwq_64
  case ywq_64 =>
    refine StepS.pure (SeqN.pass (by decide)) (by rfl) (fun w9 => ?_)
    go_simp
    try rfl
  try simp only [Act.put, List.setIfInBounds_toArray, List.set_cons_zero, List.set_cons_succ]
  refine Ps.step (i := 6) (d := some 53) (u := ?uwq_65) rfl rfl (by kernel_rfl) (by kernel_rfl) (by kernel_rfl) (by kernel_rfl) ?ywq_65 ?rwq_65
  case ywq_65 =>
    refine StepS.pure (SeqN.pass (by decide)) (by rfl) (fun w9 => ?_)
    go_simp
    try rfl
  try simp only [Act.put, List.setIfInBounds_toArray, List.set_cons_zero, List.set_cons_succ]
  refine Ps.step (i := 7) (d := some 54) (u := ?uwq_66) rfl rfl (by kernel_rfl) (by kernel_rfl) (by kernel_rfl) (by kernel_rfl) ?ywq_66 ?rwq_66
  case ywq_66 =>
    refine StepS.pure (SeqN.pass (by decide)) (by rfl) (fun w9 => ?_)
    go_simp
    try rfl
  try simp only [Act.put, List.setIfInBounds_toArray, List.set_cons_zero, List.set_cons_succ]
  refine Ps.step (i := 8) (d := some 55) (u := ?uwq_67) rfl rfl (by kernel_rfl) (by kernel_rfl) (by kernel_rfl) (by kernel_rfl) ?ywq_67 ?rwq_67
  case ywq_67 =>
    refine StepS.pure (SeqN.pass (by decide)) (by rfl) (fun w9 => ?_)
    go_simp
    try rfl
  try simp only [Act.put, List.setIfInBounds_toArray, List.set_cons_zero, List.set_cons_succ]
  refine Ps.step (i := 9) (d := some 56) (u := ?uwq_68) rfl rfl (by kernel_rfl) (by kernel_rfl) (by kernel_rfl) (by kernel_rfl) ?ywq_68 ?rwq_68
  case ywq_68 =>
    refine StepS.pure (SeqN.pass (by decide)) (by rfl) (fun w9 => ?_)
    go_simp
    try rfl
  try simp only [Act.put, List.setIfInBounds_toArray, List.set_cons_zero, List.set_cons_succ]
  refine Ps.step (i := 10) (d := none) (u := undef) rfl rfl (by kernel_rfl) (by kernel_rfl) (by kernel_rfl) (by kernel_rfl) ?ywq_69 ?rwq_69
  case ywq_69 =>
    refine StepS.store [3, 4] (by kernel_rfl) (by rfl) (fun L9 m9 w9 hSh hAt hDn hS => ?_)
    obtain ⟨hK, A2', m2', c2', pA', pn', pc', hm4, hsep, hB⟩ := SeqN.at_ [3, 4] [12, 14] hSh hAt hDn (by kernel_rfl) hS
    obtain ⟨rfl, rfl, rfl, rfl, rfl, rfl⟩ := inj_np ((hAt 4 (by simp)).2.symm.trans hm4)
    refine (exec_store_part (w := w9) 26 (.tmp 56) (.tmp 53) (by rfl) (w.heap.size + 2) 0 51 #[.int .u64 0, .slice none 0 0, .int .u64 0, .int .u64 0, .int .i64 0, .int .i64 0, .slice none 0 0, .bool false, .int .i64 0, .int .i64 0] #[.int .u64 s, .slice A2 m2 c2] #[.int .u64 s, .slice A2 m2 c2, .int .u64 0, .int .u64 0, .int .i64 0, .int .i64 0, .slice none 0 0, .bool false, .int .i64 0, .int .i64 0] (by rfl) (by rfl) hB (by simp) netI (by simp [Value.oneCell']) (by rfl)).imp fun w7 hx => ⟨hx.1, SeqN.set_ [3, 4] [12, 14] hSh hAt hDn (by kernel_rfl) (by decide) (by decide) ⟨hK.trans (Kept.of_grown hx.2.2 hK.size (.inl rfl)), A2, m2, c2, pA, pn, pc, hm4, hsep.kept hx.2.2 (by omega), hx.2.1⟩⟩
  try simp only [Act.put]
  refine Ps.step (i := 11) (d := some 57) (u := ?uwq_70) rfl rfl (by kernel_rfl) (by kernel_rfl) (by kernel_rfl) (by kernel_rfl) ?ywq_70 ?rwq_70
  case ywq_70 =>
    refine StepS.pure (SeqN.pass (by decide)) (by rfl) (fun w9 => ?_)
    go_simp
    try rfl
  try simp only [Act.put, List.setIfInBounds_toArray, List.set_cons_zero, List.set_cons_succ]
  refine Ps.step (i := 12) (d := none) (u := undef) rfl rfl (by kernel_rfl) (by kernel_rfl) (by kernel_rfl) (by kernel_rfl) ?ywq_71 ?rwq_71
  case ywq_71 =>
    refine StepS.store [3, 4, 10] (by kernel_rfl) (by rfl) (fun L9 m9 w9 hSh hAt hDn hS => ?_)
    obtain ⟨hK, A2', m2', c2', pA', pn', pc', hm4, hsep, hB⟩ := SeqN.at_ [3, 4, 10] [14] hSh hAt hDn (by kernel_rfl) hS
    obtain ⟨rfl, rfl, rfl, rfl, rfl, rfl⟩ := inj_np ((hAt 4 (by simp)).2.symm.trans hm4)
    refine (exec_store_part (w := w9) 29 (.tmp 57) (.tmp 54) (by rfl) (w.heap.size + 2) 3 51 #[.int .u64 s, .slice A2 m2 c2, .int .u64 0, .int .u64 0, .int .i64 0, .int .i64 0, .slice none 0 0, .bool false, .int .i64 0, .int .i64 0] #[.int .u64 P.num, .int .i64 P.frm, .int .i64 P.to, .slice pA pn pc, .bool P.sp] #[.int .u64 s, .slice A2 m2 c2, .int .u64 0, .int .u64 P.num, .int .i64 P.frm, .int .i64 P.to, .slice pA pn pc, .bool P.sp, .int .i64 0, .int .i64 0] (by rfl) (by rfl) hB (by simp) parcelI (by simp [Value.oneCell']) (by rfl)).imp fun w7 hx => ⟨hx.1, SeqN.set_ [3, 4, 10] [14] hSh hAt hDn (by kernel_rfl) (by decide) (by decide) ⟨hK.trans (Kept.of_grown hx.2.2 hK.size (.inl rfl)), A2, m2, c2, pA, pn, pc, hm4, hsep.kept hx.2.2 (by omega), hx.2.1⟩⟩
  try simp only [Act.put]
  refine Ps.step (i := 13) (d := some 58) (u := ?uwq_72) rfl rfl (by kernel_rfl) (by kernel_rfl) (by kernel_rfl) (by kernel_rfl) ?ywq_72 ?rwq_72
  case ywq_72 =>
    refine StepS.pure (SeqN.pass (by decide)) (by rfl) (fun w9 => ?_)
    go_simp
    try rfl
  try simp only [Act.put, List.setIfInBounds_toArray, List.set_cons_zero, List.set_cons_succ]
  refine Ps.step (i := 14) (d := none) (u := undef) rfl rfl (by kernel_rfl) (by kernel_rfl) (by kernel_rfl) (by kernel_rfl) ?ywq_73 ?rwq_73
  case ywq_73 =>
    refine StepS.store [3, 4, 10, 12] (by kernel_rfl) (by rfl) (fun L9 m9 w9 hSh hAt hDn hS => ?_)
    obtain ⟨hK, A2', m2', c2', pA', pn', pc', hm4, hsep, hB⟩ := SeqN.at_ [3, 4, 10, 12] [] hSh hAt hDn (by kernel_rfl) hS
    obtain ⟨rfl, rfl, rfl, rfl, rfl, rfl⟩ := inj_np ((hAt 4 (by simp)).2.symm.trans hm4)
    have xc : w9.cell? ⟨w.heap.size + 2, 9, none⟩ = some (.int .i64 0) := hB.cell 9
    have fx : w9.frozen? ⟨w.heap.size + 2, 9, none⟩ = false := hB.frozen 9
    have hB2 : Blk (w9.setCell ⟨w.heap.size + 2, 9, none⟩ (.int .i64 E)) (w.heap.size + 2) 51 #[.int .u64 s, .slice A2 m2 c2, .int .u64 0, .int .u64 P.num, .int .i64 P.frm, .int .i64 P.to, .slice pA pn pc, .bool P.sp, .int .i64 0, .int .i64 E] := by simpa using hB.set_ 9 (.int .i64 E)
    have hg2 : w9.grownBy (w9.setCell ⟨w.heap.size + 2, 9, none⟩ (.int .i64 E)) (some (w.heap.size + 2)) := only_setCell (World.grownBy.refl _ _) (.inl rfl) _
    refine ⟨w9.setCell ⟨w.heap.size + 2, 9, none⟩ (.int .i64 E), ?_, SeqN.set_ [3, 4, 10, 12] [] hSh hAt hDn (by kernel_rfl) (by decide) (by decide) ⟨hK.trans (Kept.of_grown hg2 hK.size (.inl rfl)), A2, m2, c2, pA, pn, pc, hm4, hsep.kept hg2 (by omega), hB2⟩⟩
    clear hB hB2 hg2 hS hK hsep hm4
    go_simp
  try simp only [Act.put]
  refine Ps.done (by kernel_rfl) (fun wq hS => ?_) _
  obtain ⟨hK, A2', m2', c2', pA', pn', pc', hm4, hsep, hB⟩ := SeqN.fin (by rfl) hS
  clear hS
  obtain ⟨rfl, rfl, rfl, rfl, rfl, rfl⟩ := inj_np hm4
  clear hm4
  go_wp2_with (first | (refine wpList_load_blk rfl 51 (.tmp 4) rfl (w.heap.size + 2) rfl 51 #[.int .u64 s, .slice A2 m2 c2, .int .u64 0, .int .u64 P.num, .int .i64 P.frm, .int .i64 P.to, .slice pA pn pc, .bool P.sp, .int .i64 0, .int .i64 E] _ hB Try.underlying51 rfl toldI ?_) | (refine wpList_store_blk rfl 51 (.tmp 4) (.tmp 101) rfl (w.heap.size + 2) 51 #[.int .u64 s, .slice A2 m2 c2, .int .u64 0, .int .u64 P.num, .int .i64 P.frm, .int .i64 P.to, .slice pA pn pc, .bool P.sp, .int .i64 0, .int .i64 E] #[.int .u64 s, .slice A2 m2 c2, .int .u64 0, .int .u64 P.num, .int .i64 P.frm, .int .i64 P.to, .slice pA pn pc, .bool P.sp, .int .i64 0, .int .i64 E] rfl rfl hB rfl toldI (by simp [Value.oneCell']) ?_; intro wz hZ gz))
  exact bodyPost_ret (res1 Try.results23 rfl hZ Try.underlying51 rfl toldI) rfl ⟨_, _, _, _, _, _, rfl, (hsep.kept gz (by omega)).less (by omega), bl_gr (hK.below BB.out (by omega) (by omega)) gz (by omega)⟩
end Go.Proofs.Ytnbcffnhgijmcaa
/- An op that is Lose is run. Conditions: the net's slice reads as these parcels. -/
namespace Go.Proofs.Ytnbcffnhgijmcaa
open Go.RowKit
set_option maxRecDepth 100000 in
set_option maxHeartbeats 16000000 in
theorem want_lose (o : OpC) (oA : Option Addr) (on oc : Nat) (sent : Int) (A : Option Addr) (m c : Nat) (ps : List PC) (w : World) (hk : kindI o = 4) (h : LP.rd w AllB A m ps) (hc : chkB sent ps = true) (hm : m ≤ 20000) (hb : ∀ p ∈ ps, p.bs.length ≤ 100000) :
    Calls Try.prog 23 #[.agg (o.cells oA on oc), .agg #[.int .u64 sent, .slice A m c]] w (WantC w ⟨(comeR sent ps (numI o ps)).1, (comeR sent ps (numI o ps)).2, 0, zeroPC, 0, comeE sent ps (numI o ps)⟩) := by
  have HK := Lib.hid (fun w => kind_any o oA on oc w)
  rw [hk] at HK
  clear hk
  obtain ⟨k, f, t, a, p, ot, y, bs⟩ := o
  obtain ⟨x, hx⟩ : ∃ x, x = numI ⟨k, f, t, a, p, ot, y, bs⟩ ps := ⟨_, rfl⟩
  have HNU := Lib.hid (fun W h => num_any ⟨k, f, t, a, p, ot, y, bs⟩ oA on oc sent A m c ps W h (by omega))
  rw [← hx] at HNU
  rw [← hx]
  clear hx
  rw [come_eqE hc, come_eqR hc]
  have HCO := Lib.hid (fun W h => rcome_any sent A m c ps x W h hm hb)
  try dsimp only
  generalize rcomeR sent ps x = R at *
  generalize rcomeP ps x = P at *
  generalize rcomeE ps x = E at *
  obtain ⟨s, l⟩ := R
  replace h := Lay.rd_weak (G := Old w) (fun b _ hb => hb) h
  have bb := Below.refl w.heap.size w
  have bO := Blk.new w 49 #[.int .i64 k, .int .i64 f, .int .i64 t, .int .i64 a, .int .i64 p, .bool ot, vb y, .slice oA on oc]
  replace bb := bl_al bb (.cells #[.int .i64 k, .int .i64 f, .int .i64 t, .int .i64 a, .int .i64 p, .bool ot, vb y, .slice oA on oc] 49)
  replace bO := bO.ca (bl_al (Below.refl _ _) (.cells #[.int .u64 sent, .slice A m c] 26))
  have bN : Blk ((w.alloc (.cells #[.int .i64 k, .int .i64 f, .int .i64 t, .int .i64 a, .int .i64 p, .bool ot, vb y, .slice oA on oc] 49)).alloc (.cells #[.int .u64 sent, .slice A m c] 26)) (w.heap.size + 1) 26 #[.int .u64 sent, .slice A m c] := Blk.mk' (by simp only [World.size_alloc])
  replace bb := bl_al bb (.cells #[.int .u64 sent, .slice A m c] 26)
  replace bO := bO.ca (bl_al (Below.refl _ _) (.cells #[.int .u64 0, .slice none 0 0, .int .u64 0, .int .u64 0, .int .i64 0, .int .i64 0, .slice none 0 0, .bool false, .int .i64 0, .int .i64 0] 51))
  replace bN := bN.ca (bl_al (Below.refl _ _) (.cells #[.int .u64 0, .slice none 0 0, .int .u64 0, .int .u64 0, .int .i64 0, .int .i64 0, .slice none 0 0, .bool false, .int .i64 0, .int .i64 0] 51))
  have bT : Blk (((w.alloc (.cells #[.int .i64 k, .int .i64 f, .int .i64 t, .int .i64 a, .int .i64 p, .bool ot, vb y, .slice oA on oc] 49)).alloc (.cells #[.int .u64 sent, .slice A m c] 26)).alloc (.cells #[.int .u64 0, .slice none 0 0, .int .u64 0, .int .u64 0, .int .i64 0, .int .i64 0, .slice none 0 0, .bool false, .int .i64 0, .int .i64 0] 51)) (w.heap.size + 2) 51 #[.int .u64 0, .slice none 0 0, .int .u64 0, .int .u64 0, .int .i64 0, .int .i64 0, .slice none 0 0, .bool false, .int .i64 0, .int .i64 0] := Blk.mk' (by simp only [World.size_alloc])
  replace bb := bl_al bb (.cells #[.int .u64 0, .slice none 0 0, .int .u64 0, .int .u64 0, .int .i64 0, .int .i64 0, .slice none 0 0, .bool false, .int .i64 0, .int .i64 0] 51)
  have hsz : w.heap.size + 3 ≤ (((w.alloc (.cells #[.int .i64 k, .int .i64 f, .int .i64 t, .int .i64 a, .int .i64 p, .bool ot, vb y, .slice oA on oc] 49)).alloc (.cells #[.int .u64 sent, .slice A m c] 26)).alloc (.cells #[.int .u64 0, .slice none 0 0, .int .u64 0, .int .u64 0, .int .i64 0, .int .i64 0, .slice none 0 0, .bool false, .int .i64 0, .int .i64 0] 51)).heap.size := by simp only [World.size_alloc]; omega
  have HRT := Lib.hid (right_any sent A m c ps _ (Lay.rd_below (Lay.rd_weak (fun _ _ _ => trivial) h) bb) (by omega))
  rw [hc] at HRT
  have HR1 := Lib.hid (Lay.rd_below h bb)
  clear h hc
  have x0 : (((w.alloc (.cells #[.int .i64 k, .int .i64 f, .int .i64 t, .int .i64 a, .int .i64 p, .bool ot, vb y, .slice oA on oc] 49)).alloc (.cells #[.int .u64 sent, .slice A m c] 26)).alloc (.cells #[.int .u64 0, .slice none 0 0, .int .u64 0, .int .u64 0, .int .i64 0, .int .i64 0, .slice none 0 0, .bool false, .int .i64 0, .int .i64 0] 51)).cell? ⟨w.heap.size + 1, 0, none⟩ = some (.int .u64 sent) := bN.cell 0
  have x1 : (((w.alloc (.cells #[.int .i64 k, .int .i64 f, .int .i64 t, .int .i64 a, .int .i64 p, .bool ot, vb y, .slice oA on oc] 49)).alloc (.cells #[.int .u64 sent, .slice A m c] 26)).alloc (.cells #[.int .u64 0, .slice none 0 0, .int .u64 0, .int .u64 0, .int .i64 0, .int .i64 0, .slice none 0 0, .bool false, .int .i64 0, .int .i64 0] 51)).cell? ⟨w.heap.size + 1, 1, none⟩ = some (.slice A m c) := bN.cell 1
  go_enter Try.func23, Try.ntmps23
  go_wp2_with fail
  generalize (((w.alloc (.cells #[.int .i64 k, .int .i64 f, .int .i64 t, .int .i64 a, .int .i64 p, .bool ot, vb y, .slice oA on oc] 49)).alloc (.cells #[.int .u64 sent, .slice A m c] 26)).alloc (.cells #[.int .u64 0, .slice none 0 0, .int .u64 0, .int .u64 0, .int .i64 0, .int .i64 0, .slice none 0 0, .bool false, .int .i64 0, .int .i64 0] 51)) = w1 at *
  refine HRT.out.mono ?_
  rintro e w4 ⟨rfl, q4⟩
  have v0 : w4.cell? ⟨w.heap.size, 0, none⟩ = some (.int .i64 k) := (bO.ca q4).cell 0
  have v1 : w4.cell? ⟨w.heap.size, 1, none⟩ = some (.int .i64 f) := (bO.ca q4).cell 1
  have v2 : w4.cell? ⟨w.heap.size, 2, none⟩ = some (.int .i64 t) := (bO.ca q4).cell 2
  have v3 : w4.cell? ⟨w.heap.size, 3, none⟩ = some (.int .i64 a) := (bO.ca q4).cell 3
  have v4 : w4.cell? ⟨w.heap.size, 4, none⟩ = some (.int .i64 p) := (bO.ca q4).cell 4
  have v5 : w4.cell? ⟨w.heap.size, 5, none⟩ = some (.bool ot) := (bO.ca q4).cell 5
  have v6 : w4.cell? ⟨w.heap.size, 6, none⟩ = some (vb y) := (bO.ca q4).cell 6
  have v7 : w4.cell? ⟨w.heap.size, 7, none⟩ = some (.slice oA on oc) := (bO.ca q4).cell 7
  clear x0 x1 HRT
  go_wp2_with fail
  refine (HK.out _).mono ?_
  rintro e w5 ⟨rfl, q6⟩
  have q5 := q4.trans (q6.mono q4.size)
  have HO := Lib.hid (bO.ca q5)
  have HN := Lib.hid (bN.ca q5)
  have HT := Lib.hid (bT.ca q5)
  have HR := Lib.hid (Lay.rd_below HR1.out q5)
  have BB := Lib.hid (bl_ca bb q5)
  have hs5 := Nat.le_trans hsz q5.size
  clear bO bN bT bb q4 q5 q6 HR1 HK v0 v1 v2 v3 v4 v5 v6 v7
  go_wp2_with fail
  refine wp_region_ps (S := SeqN [3, 4, 10, 12] (fun j m w' => match j with | 0 => Kept w5 w' (w.heap.size + 2) w5.heap.size ∧ Blk w' (w.heap.size + 2) 51 #[.int .u64 0, .slice none 0 0, .int .u64 0, .int .u64 0, .int .i64 0, .int .i64 0, .slice none 0 0, .bool false, .int .i64 0, .int .i64 0] | 1 => Kept w5 w' (w.heap.size + 2) w5.heap.size ∧ Blk w' (w.heap.size + 2) 51 #[.int .u64 0, .slice none 0 0, .int .u64 0, .int .u64 0, .int .i64 0, .int .i64 0, .slice none 0 0, .bool false, .int .i64 0, .int .i64 0] | 2 => Kept w5 w' (w.heap.size + 2) w5.heap.size ∧ ∃ A2 m2 c2 pA pn pc, m 4 = Value.tuple #[.agg #[.int .u64 s, .slice A2 m2 c2], .agg #[.int .u64 P.num, .int .i64 P.frm, .int .i64 P.to, .slice pA pn pc, .bool P.sp], .int .i64 E] ∧ RSep w' w5.heap.size ⟨s, l, 0, zeroPC, 0, E⟩ A2 m2 c2 none 0 0 ∧ Blk w' (w.heap.size + 2) 51 #[.int .u64 0, .slice none 0 0, .int .u64 0, .int .u64 0, .int .i64 0, .int .i64 0, .slice none 0 0, .bool false, .int .i64 0, .int .i64 0] | 3 => Kept w5 w' (w.heap.size + 2) w5.heap.size ∧ ∃ A2 m2 c2 pA pn pc, m 4 = Value.tuple #[.agg #[.int .u64 s, .slice A2 m2 c2], .agg #[.int .u64 P.num, .int .i64 P.frm, .int .i64 P.to, .slice pA pn pc, .bool P.sp], .int .i64 E] ∧ RSep w' w5.heap.size ⟨s, l, 0, zeroPC, 0, E⟩ A2 m2 c2 none 0 0 ∧ Blk w' (w.heap.size + 2) 51 #[.int .u64 s, .slice A2 m2 c2, .int .u64 0, .int .u64 0, .int .i64 0, .int .i64 0, .slice none 0 0, .bool false, .int .i64 0, .int .i64 0] | _ => Kept w5 w' (w.heap.size + 2) w5.heap.size ∧ ∃ A2 m2 c2 pA pn pc, m 4 = Value.tuple #[.agg #[.int .u64 s, .slice A2 m2 c2], .agg #[.int .u64 P.num, .int .i64 P.frm, .int .i64 P.to, .slice pA pn pc, .bool P.sp], .int .i64 E] ∧ RSep w' w5.heap.size ⟨s, l, 0, zeroPC, 0, E⟩ A2 m2 c2 none 0 0 ∧ Blk w' (w.heap.size + 2) 51 #[.int .u64 s, .slice A2 m2 c2, .int .u64 0, .int .u64 0, .int .i64 0, .int .i64 0, .slice none 0 0, .bool false, .int .i64 0, .int .i64 E])) (by kernel_rfl) ?spswq ?ppswq
  case spswq =>
    exact SeqN.start (by decide) ⟨Kept.of_below (Below.refl _ _).drew (Nat.le_refl _), HT.out.ca (Below.refl _ _).drew⟩
  refine Ps.step (i := 0) (d := some 62) (u := ?uwq_74) rfl rfl (by kernel_rfl) (by kernel_rfl) (by kernel_rfl) (by kernel_rfl) ?ywq_74 ?rwq_74
  case ywq_74 =>
    refine StepS.read [] (by kernel_rfl) (SeqN.pass (by decide)) (by rfl) (fun L9 m9 w9 hSh hAt hDn hS => ?_)
    have hK : Kept w5 w9 (w.heap.size + 2) w5.heap.size := SeqN.any (T := fun w9 => Kept w5 w9 (w.heap.size + 2) w5.heap.size) (fun j _ _ h => by match j, h with | 0, h => exact h.1 | 1, h => exact h.1 | 2, h => exact h.1 | 3, h => exact h.1 | _ + 4, h => exact h.1) hS
    have hT : Blk w9 (w.heap.size + 1) 26 #[.int .u64 sent, .slice A m c] := HN.out.kp hK (by omega) (by omega)
    have x0 : w9.cell? ⟨(w.heap.size + 1), 0, none⟩ = some (.int .u64 sent) := hT.cell 0
    have x1 : w9.cell? ⟨(w.heap.size + 1), 1, none⟩ = some (.slice A m c) := hT.cell 1
    clear hT hK hS
    go_simp
    try rfl
  try simp only [Act.put, List.setIfInBounds_toArray, List.set_cons_zero, List.set_cons_succ]
  refine Ps.step (i := 1) (d := some 63) (u := ?uwq_75) rfl rfl (by kernel_rfl) (by kernel_rfl) (by kernel_rfl) (by kernel_rfl) ?ywq_75 ?rwq_75
  case ywq_75 =>
    refine StepS.read [] (by kernel_rfl) (SeqN.pass (by decide)) (by rfl) (fun L9 m9 w9 hSh hAt hDn hS => ?_)
    have hK : Kept w5 w9 (w.heap.size + 2) w5.heap.size := SeqN.any (T := fun w9 => Kept w5 w9 (w.heap.size + 2) w5.heap.size) (fun j _ _ h => by match j, h with | 0, h => exact h.1 | 1, h => exact h.1 | 2, h => exact h.1 | 3, h => exact h.1 | _ + 4, h => exact h.1) hS
    have hT : Blk w9 w.heap.size 49 #[.int .i64 k, .int .i64 f, .int .i64 t, .int .i64 a, .int .i64 p, .bool ot, vb y, .slice oA on oc] := HO.out.kp hK (by omega) (by omega)
    have x0 : w9.cell? ⟨w.heap.size, 0, none⟩ = some (.int .i64 k) := hT.cell 0
    have x1 : w9.cell? ⟨w.heap.size, 1, none⟩ = some (.int .i64 f) := hT.cell 1
    have x2 : w9.cell? ⟨w.heap.size, 2, none⟩ = some (.int .i64 t) := hT.cell 2
    have x3 : w9.cell? ⟨w.heap.size, 3, none⟩ = some (.int .i64 a) := hT.cell 3
    have x4 : w9.cell? ⟨w.heap.size, 4, none⟩ = some (.int .i64 p) := hT.cell 4
    have x5 : w9.cell? ⟨w.heap.size, 5, none⟩ = some (.bool ot) := hT.cell 5
    have x6 : w9.cell? ⟨w.heap.size, 6, none⟩ = some (vb y) := hT.cell 6
    have x7 : w9.cell? ⟨w.heap.size, 7, none⟩ = some (.slice oA on oc) := hT.cell 7
    clear hT hK hS
    go_simp
    try rfl
  try simp only [Act.put, List.setIfInBounds_toArray, List.set_cons_zero, List.set_cons_succ]
  refine Ps.step (i := 2) (d := some 64) (u := ?uwq_76) rfl rfl (by kernel_rfl) (by kernel_rfl) (by kernel_rfl) (by kernel_rfl) ?ywq_76 ?rwq_76
  case ywq_76 =>
    refine StepS.read [] (by kernel_rfl) (SeqN.pass (by decide)) (by rfl) (fun L9 m9 w9 hSh hAt hDn hS => ?_)
    have hK : Kept w5 w9 (w.heap.size + 2) w5.heap.size := SeqN.any (T := fun w9 => Kept w5 w9 (w.heap.size + 2) w5.heap.size) (fun j _ _ h => by match j, h with | 0, h => exact h.1 | 1, h => exact h.1 | 2, h => exact h.1 | 3, h => exact h.1 | _ + 4, h => exact h.1) hS
    have hT : Blk w9 (w.heap.size + 1) 26 #[.int .u64 sent, .slice A m c] := HN.out.kp hK (by omega) (by omega)
    have x0 : w9.cell? ⟨(w.heap.size + 1), 0, none⟩ = some (.int .u64 sent) := hT.cell 0
    have x1 : w9.cell? ⟨(w.heap.size + 1), 1, none⟩ = some (.slice A m c) := hT.cell 1
    clear hT hK hS
    go_simp
    try rfl
  try simp only [Act.put, List.setIfInBounds_toArray, List.set_cons_zero, List.set_cons_succ]
  refine Ps.step (i := 3) (d := some 65) (u := (.int .u64 x)) rfl rfl (by kernel_rfl) (by kernel_rfl) (by kernel_rfl) (by kernel_rfl) ?ywq_77 ?rwq_77
  case ywq_77 =>
    refine StepS.call ?fwq_77 ?awq_77 [] (by kernel_rfl) (by rfl) (fun w9 => ?hwq_77) (fun L9 m9 w9 hSh hAt hDn hS => ?cwq_77)
    case hwq_77 => go_simp; refine ⟨?_, ?_⟩ <;> rfl
    case cwq_77 =>
      have hC := SeqN.at_ [] [4, 10, 12] hSh hAt hDn (by kernel_rfl) hS
      refine (HNU.out w9 (rd_kp HR.out hC.1 (by omega) (by omega))).mono ?_
      rintro e w8 ⟨rfl, q8⟩
      refine ⟨rfl, SeqN.set_ [] [4, 10, 12] hSh hAt hDn (by kernel_rfl) (by decide) (by decide) ⟨hC.1.trans (Kept.of_below q8 hC.1.size), hC.2.ca q8⟩⟩
  try simp only [Act.put, List.setIfInBounds_toArray, List.set_cons_zero, List.set_cons_succ]
  refine Ps.one (k := 4) (d := some 66) rfl rfl (by kernel_rfl) (TurnS.call (V := fun v => ∃ A2 m2 c2 pA pn pc, v = Value.tuple #[.agg #[.int .u64 s, .slice A2 m2 c2], .agg #[.int .u64 P.num, .int .i64 P.frm, .int .i64 P.to, .slice pA pn pc, .bool P.sp], .int .i64 E]) ?fwq_78 ?awq_78 [3] (by kernel_rfl) (by rfl) (fun w9 => ?hwq_78) (fun L9 m9 w9 hSh hAt hDn hS => ?cwq_78)) (fun v4 hVv4 => ?rwq_78)
  case hwq_78 => go_simp; refine ⟨?_, ?_⟩ <;> rfl
  case cwq_78 =>
    have hC := SeqN.at_ [3] [10, 12] hSh hAt hDn (by kernel_rfl) hS
    have hCA := HCO.out w9 (rd_kp HR.out hC.1 (by omega) (by omega))
    refine hCA.mono ?_
    rintro e w8 ⟨A2, m2, c2, pA, pn, pc, rfl, hrd8, how8, q8⟩
    have hs9 := hC.1.size
    have HSEP : RSep w8 w5.heap.size ⟨s, l, 0, zeroPC, 0, E⟩ A2 m2 c2 none 0 0 := RSep.less ⟨hrd8, OwnB.none_ _ _⟩ hs9
    exact ⟨_, rfl, ⟨A2, m2, c2, pA, pn, pc, rfl⟩, SeqN.set_ [3] [10, 12] hSh hAt hDn (by kernel_rfl) (by decide) (by decide) ⟨hC.1.trans (Kept.of_below q8 hC.1.size), A2, m2, c2, pA, pn, pc, upd_same _ _ _, HSEP, hC.2.ca q8⟩⟩
  try simp only [Act.put, List.setIfInBounds_toArray, List.set_cons_zero, List.set_cons_succ]
  obtain ⟨A2, m2, c2, pA, pn, pc, rfl⟩ := hVv4
  refine Ps.step (i := 5) (d := some 61) (u := ?uwq_79) rfl rfl (by kernel_rfl) (by kernel_rfl) (by kernel_rfl) (by kernel_rfl) ?ywq_79 ?rwq_79
  case ywq_79 =>
    refine StepS.pure (SeqN.pass (by decide)) (by rfl) (fun w9 => ?_)
    go_simp
    try rfl
  try simp only [Act.put, List.setIfInBounds_toArray, List.set_cons_zero, List.set_cons_succ]
  refine Ps.step (i := 6) (d := some 67) (u := ?uwq_80) rfl rfl (by kernel_rfl) (by kernel_rfl) (by kernel_rfl) (by kernel_rfl) ?ywq_80 ?rwq_80
  case ywq_80 =>
    refine StepS.pure (SeqN.pass (by decide)) (by rfl) (fun w9 => ?_)
    go_simp
    try rfl
  try simp only [Act.put, List.setIfInBounds_toArray, List.set_cons_zero, List.set_cons_succ]
  refine Ps.step (i := 7) (d := some 68) (u := ?uwq_81) rfl rfl (by kernel_rfl) (by kernel_rfl) (by kernel_rfl) (by kernel_rfl) ?ywq_81 ?rwq_81
  case ywq_81 =>
    refine StepS.pure (SeqN.pass (by decide)) (by rfl) (fun w9 => ?_)
    go_simp
    try rfl
  try simp only [Act.put, List.setIfInBounds_toArray, List.set_cons_zero, List.set_cons_succ]
  refine Ps.step (i := 8) (d := some 69) (u := ?uwq_82) rfl rfl (by kernel_rfl) (by kernel_rfl) (by kernel_rfl) (by kernel_rfl) ?ywq_82 ?rwq_82
  case ywq_82 =>
    refine StepS.pure (SeqN.pass (by decide)) (by rfl) (fun w9 => ?_)
    go_simp
    try rfl
  try simp only [Act.put, List.setIfInBounds_toArray, List.set_cons_zero, List.set_cons_succ]
  refine Ps.step (i := 9) (d := some 70) (u := ?uwq_83) rfl rfl (by kernel_rfl) (by kernel_rfl) (by kernel_rfl) (by kernel_rfl) ?ywq_83 ?rwq_83
  case ywq_83 =>
    refine StepS.pure (SeqN.pass (by decide)) (by rfl) (fun w9 => ?_)
    go_simp
    try rfl
  try simp only [Act.put, List.setIfInBounds_toArray, List.set_cons_zero, List.set_cons_succ]
  refine Ps.step (i := 10) (d := none) (u := undef) rfl rfl (by kernel_rfl) (by kernel_rfl) (by kernel_rfl) (by kernel_rfl) ?ywq_84 ?rwq_84
  case ywq_84 =>
    refine StepS.store [3, 4] (by kernel_rfl) (by rfl) (fun L9 m9 w9 hSh hAt hDn hS => ?_)
    obtain ⟨hK, A2', m2', c2', pA', pn', pc', hm4, hsep, hB⟩ := SeqN.at_ [3, 4] [12] hSh hAt hDn (by kernel_rfl) hS
    obtain ⟨rfl, rfl, rfl, rfl, rfl, rfl⟩ := inj_np ((hAt 4 (by simp)).2.symm.trans hm4)
    refine (exec_store_part (w := w9) 26 (.tmp 70) (.tmp 67) (by rfl) (w.heap.size + 2) 0 51 #[.int .u64 0, .slice none 0 0, .int .u64 0, .int .u64 0, .int .i64 0, .int .i64 0, .slice none 0 0, .bool false, .int .i64 0, .int .i64 0] #[.int .u64 s, .slice A2 m2 c2] #[.int .u64 s, .slice A2 m2 c2, .int .u64 0, .int .u64 0, .int .i64 0, .int .i64 0, .slice none 0 0, .bool false, .int .i64 0, .int .i64 0] (by rfl) (by rfl) hB (by simp) netI (by simp [Value.oneCell']) (by rfl)).imp fun w7 hx => ⟨hx.1, SeqN.set_ [3, 4] [12] hSh hAt hDn (by kernel_rfl) (by decide) (by decide) ⟨hK.trans (Kept.of_grown hx.2.2 hK.size (.inl rfl)), A2, m2, c2, pA, pn, pc, hm4, hsep.kept hx.2.2 (by omega), hx.2.1⟩⟩
  try simp only [Act.put]
  refine Ps.step (i := 11) (d := some 71) (u := ?uwq_85) rfl rfl (by kernel_rfl) (by kernel_rfl) (by kernel_rfl) (by kernel_rfl) ?ywq_85 ?rwq_85
  case ywq_85 =>
    refine StepS.pure (SeqN.pass (by decide)) (by rfl) (fun w9 => ?_)
    go_simp
    try rfl
  try simp only [Act.put, List.setIfInBounds_toArray, List.set_cons_zero, List.set_cons_succ]
  refine Ps.step (i := 12) (d := none) (u := undef) rfl rfl (by kernel_rfl) (by kernel_rfl) (by kernel_rfl) (by kernel_rfl) ?ywq_86 ?rwq_86
  case ywq_86 =>
    refine StepS.store [3, 4, 10] (by kernel_rfl) (by rfl) (fun L9 m9 w9 hSh hAt hDn hS => ?_)
    obtain ⟨hK, A2', m2', c2', pA', pn', pc', hm4, hsep, hB⟩ := SeqN.at_ [3, 4, 10] [] hSh hAt hDn (by kernel_rfl) hS
    obtain ⟨rfl, rfl, rfl, rfl, rfl, rfl⟩ := inj_np ((hAt 4 (by simp)).2.symm.trans hm4)
    have xc : w9.cell? ⟨w.heap.size + 2, 9, none⟩ = some (.int .i64 0) := hB.cell 9
    have fx : w9.frozen? ⟨w.heap.size + 2, 9, none⟩ = false := hB.frozen 9
    have hB2 : Blk (w9.setCell ⟨w.heap.size + 2, 9, none⟩ (.int .i64 E)) (w.heap.size + 2) 51 #[.int .u64 s, .slice A2 m2 c2, .int .u64 0, .int .u64 0, .int .i64 0, .int .i64 0, .slice none 0 0, .bool false, .int .i64 0, .int .i64 E] := by simpa using hB.set_ 9 (.int .i64 E)
    have hg2 : w9.grownBy (w9.setCell ⟨w.heap.size + 2, 9, none⟩ (.int .i64 E)) (some (w.heap.size + 2)) := only_setCell (World.grownBy.refl _ _) (.inl rfl) _
    refine ⟨w9.setCell ⟨w.heap.size + 2, 9, none⟩ (.int .i64 E), ?_, SeqN.set_ [3, 4, 10] [] hSh hAt hDn (by kernel_rfl) (by decide) (by decide) ⟨hK.trans (Kept.of_grown hg2 hK.size (.inl rfl)), A2, m2, c2, pA, pn, pc, hm4, hsep.kept hg2 (by omega), hB2⟩⟩
    clear hB hB2 hg2 hS hK hsep hm4
    go_simp
  try simp only [Act.put]
  refine Ps.done (by kernel_rfl) (fun wq hS => ?_) _
  obtain ⟨hK, A2', m2', c2', pA', pn', pc', hm4, hsep, hB⟩ := SeqN.fin (by rfl) hS
  clear hS
  obtain ⟨rfl, rfl, rfl, rfl, rfl, rfl⟩ := inj_np hm4
  clear hm4
  go_wp2_with (first | (refine wpList_load_blk rfl 51 (.tmp 4) rfl (w.heap.size + 2) rfl 51 #[.int .u64 s, .slice A2 m2 c2, .int .u64 0, .int .u64 0, .int .i64 0, .int .i64 0, .slice none 0 0, .bool false, .int .i64 0, .int .i64 E] _ hB Try.underlying51 rfl toldI ?_) | (refine wpList_store_blk rfl 51 (.tmp 4) (.tmp 101) rfl (w.heap.size + 2) 51 #[.int .u64 s, .slice A2 m2 c2, .int .u64 0, .int .u64 0, .int .i64 0, .int .i64 0, .slice none 0 0, .bool false, .int .i64 0, .int .i64 E] #[.int .u64 s, .slice A2 m2 c2, .int .u64 0, .int .u64 0, .int .i64 0, .int .i64 0, .slice none 0 0, .bool false, .int .i64 0, .int .i64 E] rfl rfl hB rfl toldI (by simp [Value.oneCell']) ?_; intro wz hZ gz))
  exact bodyPost_ret (res1 Try.results23 rfl hZ Try.underlying51 rfl toldI) rfl ⟨_, _, _, _, _, _, rfl, (hsep.kept gz (by omega)).less (by omega), bl_gr (hK.below BB.out (by omega) (by omega)) gz (by omega)⟩
end Go.Proofs.Ytnbcffnhgijmcaa
/- Op.wants, an op that drops. Conditions: the net is right. -/
namespace Go.Proofs.Ytnbcffnhgijmcaa
open Go.RowKit
set_option maxRecDepth 100000 in
set_option maxHeartbeats 16000000 in
theorem want_drop (o : OpC) (oA : Option Addr) (on oc : Nat) (sent : Int) (A : Option Addr) (m c : Nat) (ps : List PC) (w : World) (hk : kindI o = 5) (hc : chkB sent ps = true) (h : LP.rd w AllB A m ps) (hm : m ≤ 20000) (hb : ∀ p ∈ ps, p.bs.length ≤ 100000) :
    Calls Try.prog 23 #[.agg (o.cells oA on oc), .agg #[.int .u64 sent, .slice A m c]] w (WantC w ⟨(dropR sent ps o.frm o.to).1, (dropR sent ps o.frm o.to).2, 0, zeroPC, dropG sent ps o.frm o.to, dropE sent ps o.frm o.to⟩) := by
  have HK := Lib.hid (fun w => kind_any o oA on oc w)
  rw [hk] at HK
  clear hk
  rw [drop_eqE hc, drop_eqR hc, drop_eqG hc]
  obtain ⟨k, f, t, a, p, ot, y, bs⟩ := o
  have HCO := Lib.hid (fun W h => rdrop_any sent A m c ps f t W h hm hb)
  dsimp only
  generalize rdropR sent ps f t = R at *
  generalize goneI f t ps = G at *
  generalize rdropE f t = E at *
  obtain ⟨s, l⟩ := R
  have bb := Below.refl w.heap.size w
  have bO := Blk.new w 49 #[.int .i64 k, .int .i64 f, .int .i64 t, .int .i64 a, .int .i64 p, .bool ot, vb y, .slice oA on oc]
  replace bb := bl_al bb (.cells #[.int .i64 k, .int .i64 f, .int .i64 t, .int .i64 a, .int .i64 p, .bool ot, vb y, .slice oA on oc] 49)
  replace bO := bO.ca (bl_al (Below.refl _ _) (.cells #[.int .u64 sent, .slice A m c] 26))
  have bN : Blk ((w.alloc (.cells #[.int .i64 k, .int .i64 f, .int .i64 t, .int .i64 a, .int .i64 p, .bool ot, vb y, .slice oA on oc] 49)).alloc (.cells #[.int .u64 sent, .slice A m c] 26)) (w.heap.size + 1) 26 #[.int .u64 sent, .slice A m c] := Blk.mk' (by simp only [World.size_alloc])
  replace bb := bl_al bb (.cells #[.int .u64 sent, .slice A m c] 26)
  replace bO := bO.ca (bl_al (Below.refl _ _) (.cells #[.int .u64 0, .slice none 0 0, .int .u64 0, .int .u64 0, .int .i64 0, .int .i64 0, .slice none 0 0, .bool false, .int .i64 0, .int .i64 0] 51))
  replace bN := bN.ca (bl_al (Below.refl _ _) (.cells #[.int .u64 0, .slice none 0 0, .int .u64 0, .int .u64 0, .int .i64 0, .int .i64 0, .slice none 0 0, .bool false, .int .i64 0, .int .i64 0] 51))
  have bT : Blk (((w.alloc (.cells #[.int .i64 k, .int .i64 f, .int .i64 t, .int .i64 a, .int .i64 p, .bool ot, vb y, .slice oA on oc] 49)).alloc (.cells #[.int .u64 sent, .slice A m c] 26)).alloc (.cells #[.int .u64 0, .slice none 0 0, .int .u64 0, .int .u64 0, .int .i64 0, .int .i64 0, .slice none 0 0, .bool false, .int .i64 0, .int .i64 0] 51)) (w.heap.size + 2) 51 #[.int .u64 0, .slice none 0 0, .int .u64 0, .int .u64 0, .int .i64 0, .int .i64 0, .slice none 0 0, .bool false, .int .i64 0, .int .i64 0] := Blk.mk' (by simp only [World.size_alloc])
  replace bb := bl_al bb (.cells #[.int .u64 0, .slice none 0 0, .int .u64 0, .int .u64 0, .int .i64 0, .int .i64 0, .slice none 0 0, .bool false, .int .i64 0, .int .i64 0] 51)
  have hsz : w.heap.size + 3 ≤ (((w.alloc (.cells #[.int .i64 k, .int .i64 f, .int .i64 t, .int .i64 a, .int .i64 p, .bool ot, vb y, .slice oA on oc] 49)).alloc (.cells #[.int .u64 sent, .slice A m c] 26)).alloc (.cells #[.int .u64 0, .slice none 0 0, .int .u64 0, .int .u64 0, .int .i64 0, .int .i64 0, .slice none 0 0, .bool false, .int .i64 0, .int .i64 0] 51)).heap.size := by simp only [World.size_alloc]; omega
  have HRT := Lib.hid (right_any sent A m c ps _ (Lay.rd_below h bb) (by omega))
  rw [hc] at HRT
  have HR1 := Lib.hid (Lay.rd_below h bb)
  clear h hc
  have x0 : (((w.alloc (.cells #[.int .i64 k, .int .i64 f, .int .i64 t, .int .i64 a, .int .i64 p, .bool ot, vb y, .slice oA on oc] 49)).alloc (.cells #[.int .u64 sent, .slice A m c] 26)).alloc (.cells #[.int .u64 0, .slice none 0 0, .int .u64 0, .int .u64 0, .int .i64 0, .int .i64 0, .slice none 0 0, .bool false, .int .i64 0, .int .i64 0] 51)).cell? ⟨w.heap.size + 1, 0, none⟩ = some (.int .u64 sent) := bN.cell 0
  have x1 : (((w.alloc (.cells #[.int .i64 k, .int .i64 f, .int .i64 t, .int .i64 a, .int .i64 p, .bool ot, vb y, .slice oA on oc] 49)).alloc (.cells #[.int .u64 sent, .slice A m c] 26)).alloc (.cells #[.int .u64 0, .slice none 0 0, .int .u64 0, .int .u64 0, .int .i64 0, .int .i64 0, .slice none 0 0, .bool false, .int .i64 0, .int .i64 0] 51)).cell? ⟨w.heap.size + 1, 1, none⟩ = some (.slice A m c) := bN.cell 1
  go_enter Try.func23, Try.ntmps23
  go_wp2_with fail
  generalize (((w.alloc (.cells #[.int .i64 k, .int .i64 f, .int .i64 t, .int .i64 a, .int .i64 p, .bool ot, vb y, .slice oA on oc] 49)).alloc (.cells #[.int .u64 sent, .slice A m c] 26)).alloc (.cells #[.int .u64 0, .slice none 0 0, .int .u64 0, .int .u64 0, .int .i64 0, .int .i64 0, .slice none 0 0, .bool false, .int .i64 0, .int .i64 0] 51)) = w1 at *
  refine HRT.out.mono ?_
  rintro e w4 ⟨rfl, q4⟩
  have v0 : w4.cell? ⟨w.heap.size, 0, none⟩ = some (.int .i64 k) := (bO.ca q4).cell 0
  have v1 : w4.cell? ⟨w.heap.size, 1, none⟩ = some (.int .i64 f) := (bO.ca q4).cell 1
  have v2 : w4.cell? ⟨w.heap.size, 2, none⟩ = some (.int .i64 t) := (bO.ca q4).cell 2
  have v3 : w4.cell? ⟨w.heap.size, 3, none⟩ = some (.int .i64 a) := (bO.ca q4).cell 3
  have v4 : w4.cell? ⟨w.heap.size, 4, none⟩ = some (.int .i64 p) := (bO.ca q4).cell 4
  have v5 : w4.cell? ⟨w.heap.size, 5, none⟩ = some (.bool ot) := (bO.ca q4).cell 5
  have v6 : w4.cell? ⟨w.heap.size, 6, none⟩ = some (vb y) := (bO.ca q4).cell 6
  have v7 : w4.cell? ⟨w.heap.size, 7, none⟩ = some (.slice oA on oc) := (bO.ca q4).cell 7
  clear x0 x1 HRT
  go_wp2_with fail
  refine (HK.out _).mono ?_
  rintro e w5 ⟨rfl, q6⟩
  have q5 := q4.trans (q6.mono q4.size)
  have HO := Lib.hid (bO.ca q5)
  have HN := Lib.hid (bN.ca q5)
  have HT := Lib.hid (bT.ca q5)
  have HR := Lib.hid (Lay.rd_below HR1.out q5)
  have BB := Lib.hid (bl_ca bb q5)
  have hs5 := Nat.le_trans hsz q5.size
  clear bO bN bT bb q4 q5 q6 HR1 HK v0 v1 v2 v3 v4 v5 v6 v7
  have x0 : w5.cell? ⟨w.heap.size + 1, 0, none⟩ = some (.int .u64 sent) := HN.out.cell 0
  have x1 : w5.cell? ⟨w.heap.size + 1, 1, none⟩ = some (.slice A m c) := HN.out.cell 1
  have y1 : w5.cell? ⟨w.heap.size, 1, none⟩ = some (.int .i64 f) := HO.out.cell 1
  have y2 : w5.cell? ⟨w.heap.size, 2, none⟩ = some (.int .i64 t) := HO.out.cell 2
  go_wp2_with fail
  refine (HCO.out _ HR.out).mono ?_
  rintro e w8 ⟨A2, m2, c2, rfl, ho, q8⟩
  have KT := Lib.hid (HT.out.ca q8)
  have HRD := Lib.hid ho
  have BB8 := Lib.hid (bl_ca BB.out q8)
  clear x0 x1 y1 y2 ho q8
  go_wp2_with (first | (refine wpList_store_part rfl 26 (.tmp 84) (.tmp 81) rfl (w.heap.size + 2) 0 51 #[.int .u64 0, .slice none 0 0, .int .u64 0, .int .u64 0, .int .i64 0, .int .i64 0, .slice none 0 0, .bool false, .int .i64 0, .int .i64 0] #[.int .u64 s, .slice A2 m2 c2] #[.int .u64 s, .slice A2 m2 c2, .int .u64 0, .int .u64 0, .int .i64 0, .int .i64 0, .slice none 0 0, .bool false, .int .i64 0, .int .i64 0] rfl rfl KT.out (by simp) netI (by simp [Value.oneCell']) (by rfl) ?_; intro w9 hB gz; have x8 : w9.cell? ⟨w.heap.size + 2, 8, none⟩ = some (.int .i64 0) := hB.cell 8; have x9 : w9.cell? ⟨w.heap.size + 2, 9, none⟩ = some (.int .i64 0) := hB.cell 9; have f8 : w9.frozen? ⟨w.heap.size + 2, 8, none⟩ = false := hB.frozen 8; have f9 : w9.frozen? ⟨w.heap.size + 2, 9, none⟩ = false := hB.frozen 9; have HG9 := Lib.hid gz; have HB3 := Lib.hid (show Blk ((w9.setCell ⟨w.heap.size + 2, 8, none⟩ (.int .i64 G)).setCell ⟨w.heap.size + 2, 9, none⟩ (.int .i64 E)) (w.heap.size + 2) 51 #[.int .u64 s, .slice A2 m2 c2, .int .u64 0, .int .u64 0, .int .i64 0, .int .i64 0, .slice none 0 0, .bool false, .int .i64 G, .int .i64 E] from by simpa using (hB.set_ 8 (.int .i64 G)).set_ 9 (.int .i64 E)); clear hB gz) | (refine wpList_load_blk rfl 51 (.tmp 4) rfl (w.heap.size + 2) rfl 51 #[.int .u64 s, .slice A2 m2 c2, .int .u64 0, .int .u64 0, .int .i64 0, .int .i64 0, .slice none 0 0, .bool false, .int .i64 G, .int .i64 E] _ HB3.out Try.underlying51 rfl toldI ?_) | (refine wpList_store_blk rfl 51 (.tmp 4) (.tmp 101) rfl (w.heap.size + 2) 51 #[.int .u64 s, .slice A2 m2 c2, .int .u64 0, .int .u64 0, .int .i64 0, .int .i64 0, .slice none 0 0, .bool false, .int .i64 G, .int .i64 E] #[.int .u64 s, .slice A2 m2 c2, .int .u64 0, .int .u64 0, .int .i64 0, .int .i64 0, .slice none 0 0, .bool false, .int .i64 G, .int .i64 E] rfl rfl HB3.out rfl toldI (by simp [Value.oneCell']) ?_; intro wz hZ gz))
  have g1 : w8.grownBy ((w9.setCell ⟨w.heap.size + 2, 8, none⟩ (.int .i64 G)).setCell ⟨w.heap.size + 2, 9, none⟩ (.int .i64 E)) (some (w.heap.size + 2)) := only_setCell (only_setCell HG9.out (.inl rfl) _) (.inl rfl) _
  have hr9 := Lay.rd_keep (fun b hF hb => g1.block b hb (fun e => by have h9 : w5.heap.size ≤ b := hF; injection e with e; omega)) HRD.out
  have hr10 := Lay.rd_weak (G := fun b => w.heap.size ≤ b) (fun b hb _ => by have h9 : w5.heap.size ≤ b := hb; show w.heap.size ≤ b; omega) (Lay.rd_keep (fun b hF hb => gz.block b hb (fun e => by have h9 : w5.heap.size ≤ b := hF; injection e with e; omega)) hr9)
  exact bodyPost_ret (res1 Try.results23 rfl hZ Try.underlying51 rfl toldI) rfl ⟨_, _, _, _, _, _, rfl, ⟨hr10, OwnB.none_ _ _⟩, bl_gr (bl_gr BB8.out g1 (by omega)) gz (by omega)⟩
end Go.Proofs.Ytnbcffnhgijmcaa
