/- An op that is Come is run. Conditions: the net's slice reads as these parcels. -/
import Derived.Test.YtnbcffnhgijmcaaPkS11
namespace Go.Proofs.Ytnbcffnhgijmcaa
open Go.RowKit
set_option maxRecDepth 100000 in
set_option maxHeartbeats 16000000 in
theorem run_come (o : OpC) (oA : Option Addr) (on oc : Nat) (sent : Int) (A : Option Addr) (m c : Nat) (ps : List PC) (w : World) (hk : kindI o = 3) (h : LP.rd w AllB A m ps) (hm : m ≤ 9223372036854775807) :
    Calls Try.prog 22 #[.agg (o.cells oA on oc), .agg #[.int .u64 sent, .slice A m c]] w (RunC w ⟨(comeR sent ps (numI o ps)).1, (comeR sent ps (numI o ps)).2, 0, comeP sent ps (numI o ps), 0, comeE sent ps (numI o ps)⟩) := by
  have HK := Lib.hid (fun w => kind_any o oA on oc w)
  rw [hk] at HK
  clear hk
  obtain ⟨k, f, t, a, p, ot, y, bs⟩ := o
  obtain ⟨x, hx⟩ : ∃ x, x = numI ⟨k, f, t, a, p, ot, y, bs⟩ ps := ⟨_, rfl⟩
  have HNU := Lib.hid (fun W h => num_any ⟨k, f, t, a, p, ot, y, bs⟩ oA on oc sent A m c ps W h hm)
  rw [← hx] at HNU
  rw [← hx]
  clear hx
  obtain ⟨s, hs⟩ : ∃ s, s = (comeR sent ps x).1 := ⟨_, rfl⟩
  obtain ⟨l, hl⟩ : ∃ l, l = (comeR sent ps x).2 := ⟨_, rfl⟩
  obtain ⟨E, hE⟩ : ∃ E, E = comeE sent ps x := ⟨_, rfl⟩
  obtain ⟨P, hP⟩ : ∃ P, P = comeP sent ps x := ⟨_, rfl⟩
  have HCO := Lib.hid (fun W h => come_any sent A m c ps x W h hm)
  rw [← hs, ← hl, ← hE, ← hP] at HCO
  rw [← hs, ← hl, ← hE, ← hP]
  clear hs hl hE hP
  replace h := Lay.rd_weak (G := Old w) (fun b _ hb => hb) h
  have bb := Below.refl w.heap.size w
  have bO := Blk.new w 49 #[.int .i64 k, .int .i64 f, .int .i64 t, .int .i64 a, .int .i64 p, .bool ot, vb y, .slice oA on oc]
  replace bb := bl_al bb (.cells #[.int .i64 k, .int .i64 f, .int .i64 t, .int .i64 a, .int .i64 p, .bool ot, vb y, .slice oA on oc] 49)
  replace bO := bO.ca (bl_al (Below.refl _ _) (.cells #[.int .u64 sent, .slice A m c] 26))
  have bN : Blk ((w.alloc (.cells #[.int .i64 k, .int .i64 f, .int .i64 t, .int .i64 a, .int .i64 p, .bool ot, vb y, .slice oA on oc] 49)).alloc (.cells #[.int .u64 sent, .slice A m c] 26)) (w.heap.size + 1) 26 #[.int .u64 sent, .slice A m c] := Blk.mk' (by simp only [World.size_alloc])
  replace bb := bl_al bb (.cells #[.int .u64 sent, .slice A m c] 26)
  replace bO := bO.ca (bl_al (Below.refl _ _) (.cells #[.int .u64 0, .slice none 0 0, .int .u64 0, .int .u64 0, .int .i64 0, .int .i64 0, .slice none 0 0, .bool false, .int .i64 0, .int .i64 0] 51))
  replace bN := bN.ca (bl_al (Below.refl _ _) (.cells #[.int .u64 0, .slice none 0 0, .int .u64 0, .int .u64 0, .int .i64 0, .int .i64 0, .slice none 0 0, .bool false, .int .i64 0, .int .i64 0] 51))
  have bT : Blk (((w.alloc (.cells #[.int .i64 k, .int .i64 f, .int .i64 t, .int .i64 a, .int .i64 p, .bool ot, vb y, .slice oA on oc] 49)).alloc (.cells #[.int .u64 sent, .slice A m c] 26)).alloc (.cells #[.int .u64 0, .slice none 0 0, .int .u64 0, .int .u64 0, .int .i64 0, .int .i64 0, .slice none 0 0, .bool false, .int .i64 0, .int .i64 0] 51)) (w.heap.size + 2) 51 #[.int .u64 0, .slice none 0 0, .int .u64 0, .int .u64 0, .int .i64 0, .int .i64 0, .slice none 0 0, .bool false, .int .i64 0, .int .i64 0] := Blk.mk' (by simp only [World.size_alloc])
  replace bb := bl_al bb (.cells #[.int .u64 0, .slice none 0 0, .int .u64 0, .int .u64 0, .int .i64 0, .int .i64 0, .slice none 0 0, .bool false, .int .i64 0, .int .i64 0] 51)
  have hsz : w.heap.size + 3 ≤ (((w.alloc (.cells #[.int .i64 k, .int .i64 f, .int .i64 t, .int .i64 a, .int .i64 p, .bool ot, vb y, .slice oA on oc] 49)).alloc (.cells #[.int .u64 sent, .slice A m c] 26)).alloc (.cells #[.int .u64 0, .slice none 0 0, .int .u64 0, .int .u64 0, .int .i64 0, .int .i64 0, .slice none 0 0, .bool false, .int .i64 0, .int .i64 0] 51)).heap.size := by simp only [World.size_alloc]; omega
  have HR1 := Lib.hid (Lay.rd_below h bb)
  clear h
  go_enter Try.func22, Try.ntmps22
  go_wp2_with fail
  generalize (((w.alloc (.cells #[.int .i64 k, .int .i64 f, .int .i64 t, .int .i64 a, .int .i64 p, .bool ot, vb y, .slice oA on oc] 49)).alloc (.cells #[.int .u64 sent, .slice A m c] 26)).alloc (.cells #[.int .u64 0, .slice none 0 0, .int .u64 0, .int .u64 0, .int .i64 0, .int .i64 0, .slice none 0 0, .bool false, .int .i64 0, .int .i64 0] 51)) = w1 at *
  refine (HK.out _).mono ?_
  rintro e w5 ⟨rfl, q5⟩
  have HO := Lib.hid (bO.ca q5)
  have HN := Lib.hid (bN.ca q5)
  have HT := Lib.hid (bT.ca q5)
  have HR := Lib.hid (Lay.rd_below HR1.out q5)
  have BB := Lib.hid (bl_ca bb q5)
  have hs5 := Nat.le_trans hsz q5.size
  clear bO bN bT bb q5 HR1 HK
  go_wp2_with fail
  refine wp_region_ps (S := SeqN [3, 4, 10, 12, 14] (fun j m w' => match j with | 0 => Kept w5 w' (w.heap.size + 2) w5.heap.size ∧ Blk w' (w.heap.size + 2) 51 #[.int .u64 0, .slice none 0 0, .int .u64 0, .int .u64 0, .int .i64 0, .int .i64 0, .slice none 0 0, .bool false, .int .i64 0, .int .i64 0] | 1 => Kept w5 w' (w.heap.size + 2) w5.heap.size ∧ Blk w' (w.heap.size + 2) 51 #[.int .u64 0, .slice none 0 0, .int .u64 0, .int .u64 0, .int .i64 0, .int .i64 0, .slice none 0 0, .bool false, .int .i64 0, .int .i64 0] | 2 => Kept w5 w' (w.heap.size + 2) w5.heap.size ∧ ∃ A2 m2 c2 pA pn pc, m 4 = Value.tuple #[.agg #[.int .u64 s, .slice A2 m2 c2], .agg #[.int .u64 P.num, .int .i64 P.frm, .int .i64 P.to, .slice pA pn pc, .bool P.sp], .int .i64 E] ∧ Sep w' w5.heap.size ⟨s, l, 0, P, 0, E⟩ A2 m2 c2 pA pn pc ∧ Blk w' (w.heap.size + 2) 51 #[.int .u64 0, .slice none 0 0, .int .u64 0, .int .u64 0, .int .i64 0, .int .i64 0, .slice none 0 0, .bool false, .int .i64 0, .int .i64 0] | 3 => Kept w5 w' (w.heap.size + 2) w5.heap.size ∧ ∃ A2 m2 c2 pA pn pc, m 4 = Value.tuple #[.agg #[.int .u64 s, .slice A2 m2 c2], .agg #[.int .u64 P.num, .int .i64 P.frm, .int .i64 P.to, .slice pA pn pc, .bool P.sp], .int .i64 E] ∧ Sep w' w5.heap.size ⟨s, l, 0, P, 0, E⟩ A2 m2 c2 pA pn pc ∧ Blk w' (w.heap.size + 2) 51 #[.int .u64 s, .slice A2 m2 c2, .int .u64 0, .int .u64 0, .int .i64 0, .int .i64 0, .slice none 0 0, .bool false, .int .i64 0, .int .i64 0] | 4 => Kept w5 w' (w.heap.size + 2) w5.heap.size ∧ ∃ A2 m2 c2 pA pn pc, m 4 = Value.tuple #[.agg #[.int .u64 s, .slice A2 m2 c2], .agg #[.int .u64 P.num, .int .i64 P.frm, .int .i64 P.to, .slice pA pn pc, .bool P.sp], .int .i64 E] ∧ Sep w' w5.heap.size ⟨s, l, 0, P, 0, E⟩ A2 m2 c2 pA pn pc ∧ Blk w' (w.heap.size + 2) 51 #[.int .u64 s, .slice A2 m2 c2, .int .u64 0, .int .u64 P.num, .int .i64 P.frm, .int .i64 P.to, .slice pA pn pc, .bool P.sp, .int .i64 0, .int .i64 0] | _ => Kept w5 w' (w.heap.size + 2) w5.heap.size ∧ ∃ A2 m2 c2 pA pn pc, m 4 = Value.tuple #[.agg #[.int .u64 s, .slice A2 m2 c2], .agg #[.int .u64 P.num, .int .i64 P.frm, .int .i64 P.to, .slice pA pn pc, .bool P.sp], .int .i64 E] ∧ Sep w' w5.heap.size ⟨s, l, 0, P, 0, E⟩ A2 m2 c2 pA pn pc ∧ Blk w' (w.heap.size + 2) 51 #[.int .u64 s, .slice A2 m2 c2, .int .u64 0, .int .u64 P.num, .int .i64 P.frm, .int .i64 P.to, .slice pA pn pc, .bool P.sp, .int .i64 0, .int .i64 E])) (by kernel_rfl) ?spswq ?ppswq
  case spswq =>
    exact SeqN.start (by decide) ⟨Kept.of_below (Below.refl _ _).drew (Nat.le_refl _), HT.out.ca (Below.refl _ _).drew⟩
  refine Ps.step (i := 0) (d := some 58) (u := ?uwq_1) rfl rfl (by kernel_rfl) (by kernel_rfl) (by kernel_rfl) (by kernel_rfl) ?ywq_1 ?rwq_1
  case ywq_1 =>
    refine StepS.read [] (by kernel_rfl) (SeqN.pass (by decide)) (by rfl) (fun L9 m9 w9 hSh hAt hDn hS => ?_)
    have hK : Kept w5 w9 (w.heap.size + 2) w5.heap.size := SeqN.any (T := fun w9 => Kept w5 w9 (w.heap.size + 2) w5.heap.size) (fun j _ _ h => by match j, h with | 0, h => exact h.1 | 1, h => exact h.1 | 2, h => exact h.1 | 3, h => exact h.1 | 4, h => exact h.1 | _ + 5, h => exact h.1) hS
    have hT : Blk w9 (w.heap.size + 1) 26 #[.int .u64 sent, .slice A m c] := HN.out.kp hK (by omega) (by omega)
    have x0 : w9.cell? ⟨(w.heap.size + 1), 0, none⟩ = some (.int .u64 sent) := hT.cell 0
    have x1 : w9.cell? ⟨(w.heap.size + 1), 1, none⟩ = some (.slice A m c) := hT.cell 1
    clear hT hK hS
    go_simp
    try rfl
  try simp only [Act.put, List.setIfInBounds_toArray, List.set_cons_zero, List.set_cons_succ]
  refine Ps.step (i := 1) (d := some 59) (u := ?uwq_2) rfl rfl (by kernel_rfl) (by kernel_rfl) (by kernel_rfl) (by kernel_rfl) ?ywq_2 ?rwq_2
  case ywq_2 =>
    refine StepS.read [] (by kernel_rfl) (SeqN.pass (by decide)) (by rfl) (fun L9 m9 w9 hSh hAt hDn hS => ?_)
    have hK : Kept w5 w9 (w.heap.size + 2) w5.heap.size := SeqN.any (T := fun w9 => Kept w5 w9 (w.heap.size + 2) w5.heap.size) (fun j _ _ h => by match j, h with | 0, h => exact h.1 | 1, h => exact h.1 | 2, h => exact h.1 | 3, h => exact h.1 | 4, h => exact h.1 | _ + 5, h => exact h.1) hS
    have hT : Blk w9 w.heap.size 49 #[.int .i64 k, .int .i64 f, .int .i64 t, .int .i64 a, .int .i64 p, .bool ot, vb y, .slice oA on oc] := HO.out.kp hK (by omega) (by omega)
    have x0 : w9.cell? ⟨w.heap.size, 0, none⟩ = some (.int .i64 k) := hT.cell 0
    have x1 : w9.cell? ⟨w.heap.size, 1, none⟩ = some (.int .i64 f) := hT.cell 1
    have x2 : w9.cell? ⟨w.heap.size, 2, none⟩ = some (.int .i64 t) := hT.cell 2
    have x3 : w9.cell? ⟨w.heap.size, 3, none⟩ = some (.int .i64 a) := hT.cell 3
    have x4 : w9.cell? ⟨w.heap.size, 4, none⟩ = some (.int .i64 p) := hT.cell 4
    have x5 : w9.cell? ⟨w.heap.size, 5, none⟩ = some (.bool ot) := hT.cell 5
    have x6 : w9.cell? ⟨w.heap.size, 6, none⟩ = some (vb y) := hT.cell 6
    have x7 : w9.cell? ⟨w.heap.size, 7, none⟩ = some (.slice oA on oc) := hT.cell 7
    clear hT hK hS
    go_simp
    try rfl
  try simp only [Act.put, List.setIfInBounds_toArray, List.set_cons_zero, List.set_cons_succ]
  refine Ps.step (i := 2) (d := some 60) (u := ?uwq_3) rfl rfl (by kernel_rfl) (by kernel_rfl) (by kernel_rfl) (by kernel_rfl) ?ywq_3 ?rwq_3
  case ywq_3 =>
    refine StepS.read [] (by kernel_rfl) (SeqN.pass (by decide)) (by rfl) (fun L9 m9 w9 hSh hAt hDn hS => ?_)
    have hK : Kept w5 w9 (w.heap.size + 2) w5.heap.size := SeqN.any (T := fun w9 => Kept w5 w9 (w.heap.size + 2) w5.heap.size) (fun j _ _ h => by match j, h with | 0, h => exact h.1 | 1, h => exact h.1 | 2, h => exact h.1 | 3, h => exact h.1 | 4, h => exact h.1 | _ + 5, h => exact h.1) hS
    have hT : Blk w9 (w.heap.size + 1) 26 #[.int .u64 sent, .slice A m c] := HN.out.kp hK (by omega) (by omega)
    have x0 : w9.cell? ⟨(w.heap.size + 1), 0, none⟩ = some (.int .u64 sent) := hT.cell 0
    have x1 : w9.cell? ⟨(w.heap.size + 1), 1, none⟩ = some (.slice A m c) := hT.cell 1
    clear hT hK hS
    go_simp
    try rfl
  try simp only [Act.put, List.setIfInBounds_toArray, List.set_cons_zero, List.set_cons_succ]
  refine Ps.step (i := 3) (d := some 61) (u := (.int .u64 x)) rfl rfl (by kernel_rfl) (by kernel_rfl) (by kernel_rfl) (by kernel_rfl) ?ywq_4 ?rwq_4
  case ywq_4 =>
    refine StepS.call ?fwq_4 ?awq_4 [] (by kernel_rfl) (by rfl) (fun w9 => ?hwq_4) (fun L9 m9 w9 hSh hAt hDn hS => ?cwq_4)
    case hwq_4 => go_simp; refine ⟨?_, ?_⟩ <;> rfl
    case cwq_4 =>
      have hC := SeqN.at_ [] [4, 10, 12, 14] hSh hAt hDn (by kernel_rfl) hS
      refine (HNU.out w9 (rd_kp HR.out hC.1 (by omega) (by omega))).mono ?_
      rintro e w8 ⟨rfl, q8⟩
      refine ⟨rfl, SeqN.set_ [] [4, 10, 12, 14] hSh hAt hDn (by kernel_rfl) (by decide) (by decide) ⟨hC.1.trans (Kept.of_below q8 hC.1.size), hC.2.ca q8⟩⟩
  try simp only [Act.put, List.setIfInBounds_toArray, List.set_cons_zero, List.set_cons_succ]
  refine Ps.one (k := 4) (d := some 62) rfl rfl (by kernel_rfl) (TurnS.call (V := fun v => ∃ A2 m2 c2 pA pn pc, v = Value.tuple #[.agg #[.int .u64 s, .slice A2 m2 c2], .agg #[.int .u64 P.num, .int .i64 P.frm, .int .i64 P.to, .slice pA pn pc, .bool P.sp], .int .i64 E]) ?fwq_5 ?awq_5 [3] (by kernel_rfl) (by rfl) (fun w9 => ?hwq_5) (fun L9 m9 w9 hSh hAt hDn hS => ?cwq_5)) (fun v4 hVv4 => ?rwq_5)
  case hwq_5 => go_simp; refine ⟨?_, ?_⟩ <;> rfl
  case cwq_5 =>
    have hC := SeqN.at_ [3] [10, 12, 14] hSh hAt hDn (by kernel_rfl) hS
    have hCA := HCO.out w9 (rd_kp HR.out hC.1 (by omega) (by omega))
    refine hCA.mono ?_
    rintro e w8 ⟨A2, m2, c2, pA, pn, pc, es, rfl, hd, hes, hpo, hz, q8⟩
    have hs9 := hC.1.size
    have HSEP : Sep w8 w5.heap.size ⟨s, l, 0, P, 0, E⟩ A2 m2 c2 pA pn pc := Sep.less ⟨es, hd, hes, hpo, hz⟩ hs9
    exact ⟨_, rfl, ⟨A2, m2, c2, pA, pn, pc, rfl⟩, SeqN.set_ [3] [10, 12, 14] hSh hAt hDn (by kernel_rfl) (by decide) (by decide) ⟨hC.1.trans (Kept.of_below q8 hC.1.size), A2, m2, c2, pA, pn, pc, upd_same _ _ _, HSEP, hC.2.ca q8⟩⟩
  try simp only [Act.put, List.setIfInBounds_toArray, List.set_cons_zero, List.set_cons_succ]
  obtain ⟨A2, m2, c2, pA, pn, pc, rfl⟩ := hVv4
  refine Ps.step (i := 5) (d := some 57) (u := ?uwq_6) rfl rfl (by kernel_rfl) (by kernel_rfl) (by kernel_rfl) (by kernel_rfl) ?ywq_6 ?rwq_6
  case ywq_6 =>
    refine StepS.pure (SeqN.pass (by decide)) (by rfl) (fun w9 => ?_)
    go_simp
    try rfl
  try simp only [Act.put, List.setIfInBounds_toArray, List.set_cons_zero, List.set_cons_succ]
  refine Ps.step (i := 6) (d := some 63) (u := ?uwq_7) rfl rfl (by kernel_rfl) (by kernel_rfl) (by kernel_rfl) (by kernel_rfl) ?ywq_7 ?rwq_7
  case ywq_7 =>
    refine StepS.pure (SeqN.pass (by decide)) (by rfl) (fun w9 => ?_)
    go_simp
    try rfl
  try simp only [Act.put, List.setIfInBounds_toArray, List.set_cons_zero, List.set_cons_succ]
  refine Ps.step (i := 7) (d := some 64) (u := ?uwq_8) rfl rfl (by kernel_rfl) (by kernel_rfl) (by kernel_rfl) (by kernel_rfl) ?ywq_8 ?rwq_8
  case ywq_8 =>
    refine StepS.pure (SeqN.pass (by decide)) (by rfl) (fun w9 => ?_)
    go_simp
    try rfl
  try simp only [Act.put, List.setIfInBounds_toArray, List.set_cons_zero, List.set_cons_succ]
  refine Ps.step (i := 8) (d := some 65) (u := ?uwq_9) rfl rfl (by kernel_rfl) (by kernel_rfl) (by kernel_rfl) (by kernel_rfl) ?ywq_9 ?rwq_9
  case ywq_9 =>
    refine StepS.pure (SeqN.pass (by decide)) (by rfl) (fun w9 => ?_)
    go_simp
    try rfl
  try simp only [Act.put, List.setIfInBounds_toArray, List.set_cons_zero, List.set_cons_succ]
  refine Ps.step (i := 9) (d := some 66) (u := ?uwq_10) rfl rfl (by kernel_rfl) (by kernel_rfl) (by kernel_rfl) (by kernel_rfl) ?ywq_10 ?rwq_10
  case ywq_10 =>
    refine StepS.pure (SeqN.pass (by decide)) (by rfl) (fun w9 => ?_)
    go_simp
    try rfl
  try simp only [Act.put, List.setIfInBounds_toArray, List.set_cons_zero, List.set_cons_succ]
  refine Ps.step (i := 10) (d := none) (u := undef) rfl rfl (by kernel_rfl) (by kernel_rfl) (by kernel_rfl) (by kernel_rfl) ?ywq_11 ?rwq_11
  case ywq_11 =>
    refine StepS.store [3, 4] (by kernel_rfl) (by rfl) (fun L9 m9 w9 hSh hAt hDn hS => ?_)
    obtain ⟨hK, A2', m2', c2', pA', pn', pc', hm4, hsep, hB⟩ := SeqN.at_ [3, 4] [12, 14] hSh hAt hDn (by kernel_rfl) hS
    obtain ⟨rfl, rfl, rfl, rfl, rfl, rfl⟩ := inj_np ((hAt 4 (by simp)).2.symm.trans hm4)
    refine (exec_store_part (w := w9) 26 (.tmp 66) (.tmp 63) (by rfl) (w.heap.size + 2) 0 51 #[.int .u64 0, .slice none 0 0, .int .u64 0, .int .u64 0, .int .i64 0, .int .i64 0, .slice none 0 0, .bool false, .int .i64 0, .int .i64 0] #[.int .u64 s, .slice A2 m2 c2] #[.int .u64 s, .slice A2 m2 c2, .int .u64 0, .int .u64 0, .int .i64 0, .int .i64 0, .slice none 0 0, .bool false, .int .i64 0, .int .i64 0] (by rfl) (by rfl) hB (by simp) netI (by simp [Value.oneCell']) (by rfl)).imp fun w7 hx => ⟨hx.1, SeqN.set_ [3, 4] [12, 14] hSh hAt hDn (by kernel_rfl) (by decide) (by decide) ⟨hK.trans (Kept.of_grown hx.2.2 hK.size (.inl rfl)), A2, m2, c2, pA, pn, pc, hm4, hsep.kept hx.2.2 (by omega), hx.2.1⟩⟩
  try simp only [Act.put]
  refine Ps.step (i := 11) (d := some 67) (u := ?uwq_12) rfl rfl (by kernel_rfl) (by kernel_rfl) (by kernel_rfl) (by kernel_rfl) ?ywq_12 ?rwq_12
  case ywq_12 =>
    refine StepS.pure (SeqN.pass (by decide)) (by rfl) (fun w9 => ?_)
    go_simp
    try rfl
  try simp only [Act.put, List.setIfInBounds_toArray, List.set_cons_zero, List.set_cons_succ]
  refine Ps.step (i := 12) (d := none) (u := undef) rfl rfl (by kernel_rfl) (by kernel_rfl) (by kernel_rfl) (by kernel_rfl) ?ywq_13 ?rwq_13
  case ywq_13 =>
    refine StepS.store [3, 4, 10] (by kernel_rfl) (by rfl) (fun L9 m9 w9 hSh hAt hDn hS => ?_)
    obtain ⟨hK, A2', m2', c2', pA', pn', pc', hm4, hsep, hB⟩ := SeqN.at_ [3, 4, 10] [14] hSh hAt hDn (by kernel_rfl) hS
    obtain ⟨rfl, rfl, rfl, rfl, rfl, rfl⟩ := inj_np ((hAt 4 (by simp)).2.symm.trans hm4)
    refine (exec_store_part (w := w9) 29 (.tmp 67) (.tmp 64) (by rfl) (w.heap.size + 2) 3 51 #[.int .u64 s, .slice A2 m2 c2, .int .u64 0, .int .u64 0, .int .i64 0, .int .i64 0, .slice none 0 0, .bool false, .int .i64 0, .int .i64 0] #[.int .u64 P.num, .int .i64 P.frm, .int .i64 P.to, .slice pA pn pc, .bool P.sp] #[.int .u64 s, .slice A2 m2 c2, .int .u64 0, .int .u64 P.num, .int .i64 P.frm, .int .i64 P.to, .slice pA pn pc, .bool P.sp, .int .i64 0, .int .i64 0] (by rfl) (by rfl) hB (by simp) parcelI (by simp [Value.oneCell']) (by rfl)).imp fun w7 hx => ⟨hx.1, SeqN.set_ [3, 4, 10] [14] hSh hAt hDn (by kernel_rfl) (by decide) (by decide) ⟨hK.trans (Kept.of_grown hx.2.2 hK.size (.inl rfl)), A2, m2, c2, pA, pn, pc, hm4, hsep.kept hx.2.2 (by omega), hx.2.1⟩⟩
  try simp only [Act.put]
  refine Ps.step (i := 13) (d := some 68) (u := ?uwq_14) rfl rfl (by kernel_rfl) (by kernel_rfl) (by kernel_rfl) (by kernel_rfl) ?ywq_14 ?rwq_14
  case ywq_14 =>
    refine StepS.pure (SeqN.pass (by decide)) (by rfl) (fun w9 => ?_)
    go_simp
    try rfl
  try simp only [Act.put, List.setIfInBounds_toArray, List.set_cons_zero, List.set_cons_succ]
  refine Ps.step (i := 14) (d := none) (u := undef) rfl rfl (by kernel_rfl) (by kernel_rfl) (by kernel_rfl) (by kernel_rfl) ?ywq_15 ?rwq_15
  case ywq_15 =>
    refine StepS.store [3, 4, 10, 12] (by kernel_rfl) (by rfl) (fun L9 m9 w9 hSh hAt hDn hS => ?_)
    obtain ⟨hK, A2', m2', c2', pA', pn', pc', hm4, hsep, hB⟩ := SeqN.at_ [3, 4, 10, 12] [] hSh hAt hDn (by kernel_rfl) hS
    obtain ⟨rfl, rfl, rfl, rfl, rfl, rfl⟩ := inj_np ((hAt 4 (by simp)).2.symm.trans hm4)
    have xc : w9.cell? ⟨w.heap.size + 2, 9, none⟩ = some (.int .i64 0) := hB.cell 9
    have fx : w9.frozen? ⟨w.heap.size + 2, 9, none⟩ = false := hB.frozen 9
    have hB2 : Blk (w9.setCell ⟨w.heap.size + 2, 9, none⟩ (.int .i64 E)) (w.heap.size + 2) 51 #[.int .u64 s, .slice A2 m2 c2, .int .u64 0, .int .u64 P.num, .int .i64 P.frm, .int .i64 P.to, .slice pA pn pc, .bool P.sp, .int .i64 0, .int .i64 E] := by simpa using hB.set_ 9 (.int .i64 E)
    have hg2 : w9.grownBy (w9.setCell ⟨w.heap.size + 2, 9, none⟩ (.int .i64 E)) (some (w.heap.size + 2)) := only_setCell (World.grownBy.refl _ _) (.inl rfl) _
    refine ⟨w9.setCell ⟨w.heap.size + 2, 9, none⟩ (.int .i64 E), ?_, SeqN.set_ [3, 4, 10, 12] [] hSh hAt hDn (by kernel_rfl) (by decide) (by decide) ⟨hK.trans (Kept.of_grown hg2 hK.size (.inl rfl)), A2, m2, c2, pA, pn, pc, hm4, hsep.kept hg2 (by omega), hB2⟩⟩
    clear hB hB2 hg2 hS hK hsep hm4
    go_simp
  try simp only [Act.put]
  refine Ps.done (by kernel_rfl) (fun wq hS => ?_) _
  obtain ⟨hK, A2', m2', c2', pA', pn', pc', hm4, hsep, hB⟩ := SeqN.fin (by rfl) hS
  clear hS
  obtain ⟨rfl, rfl, rfl, rfl, rfl, rfl⟩ := inj_np hm4
  clear hm4
  go_wp2_with (first | (refine wpList_load_blk rfl 51 (.tmp 4) rfl (w.heap.size + 2) rfl 51 #[.int .u64 s, .slice A2 m2 c2, .int .u64 0, .int .u64 P.num, .int .i64 P.frm, .int .i64 P.to, .slice pA pn pc, .bool P.sp, .int .i64 0, .int .i64 E] _ hB Try.underlying51 rfl toldI ?_) | (refine wpList_store_blk rfl 51 (.tmp 4) (.tmp 110) rfl (w.heap.size + 2) 51 #[.int .u64 s, .slice A2 m2 c2, .int .u64 0, .int .u64 P.num, .int .i64 P.frm, .int .i64 P.to, .slice pA pn pc, .bool P.sp, .int .i64 0, .int .i64 E] #[.int .u64 s, .slice A2 m2 c2, .int .u64 0, .int .u64 P.num, .int .i64 P.frm, .int .i64 P.to, .slice pA pn pc, .bool P.sp, .int .i64 0, .int .i64 E] rfl rfl hB rfl toldI (by simp [Value.oneCell']) ?_; intro wz hZ gz))
  exact bodyPost_ret (res1 Try.results22 rfl hZ Try.underlying51 rfl toldI) rfl ⟨_, _, _, _, _, _, rfl, (hsep.kept gz (by omega)).less (by omega), bl_gr (hK.below BB.out (by omega) (by omega)) gz (by omega)⟩
end Go.Proofs.Ytnbcffnhgijmcaa
/- An op that is Lose is run. Conditions: the net's slice reads as these parcels. -/
namespace Go.Proofs.Ytnbcffnhgijmcaa
open Go.RowKit
set_option maxRecDepth 100000 in
set_option maxHeartbeats 16000000 in
theorem run_lose (o : OpC) (oA : Option Addr) (on oc : Nat) (sent : Int) (A : Option Addr) (m c : Nat) (ps : List PC) (w : World) (hk : kindI o = 4) (h : LP.rd w AllB A m ps) (hm : m ≤ 9223372036854775807) :
    Calls Try.prog 22 #[.agg (o.cells oA on oc), .agg #[.int .u64 sent, .slice A m c]] w (RunC w ⟨(comeR sent ps (numI o ps)).1, (comeR sent ps (numI o ps)).2, 0, zeroPC, 0, comeE sent ps (numI o ps)⟩) := by
  have HK := Lib.hid (fun w => kind_any o oA on oc w)
  rw [hk] at HK
  clear hk
  obtain ⟨k, f, t, a, p, ot, y, bs⟩ := o
  obtain ⟨x, hx⟩ : ∃ x, x = numI ⟨k, f, t, a, p, ot, y, bs⟩ ps := ⟨_, rfl⟩
  have HNU := Lib.hid (fun W h => num_any ⟨k, f, t, a, p, ot, y, bs⟩ oA on oc sent A m c ps W h hm)
  rw [← hx] at HNU
  rw [← hx]
  clear hx
  obtain ⟨s, hs⟩ : ∃ s, s = (comeR sent ps x).1 := ⟨_, rfl⟩
  obtain ⟨l, hl⟩ : ∃ l, l = (comeR sent ps x).2 := ⟨_, rfl⟩
  obtain ⟨E, hE⟩ : ∃ E, E = comeE sent ps x := ⟨_, rfl⟩
  have HCO := Lib.hid (fun W h => lose_any sent A m c ps x W h hm)
  rw [← hs, ← hl, ← hE] at HCO
  rw [← hs, ← hl, ← hE]
  clear hs hl hE
  replace h := Lay.rd_weak (G := Old w) (fun b _ hb => hb) h
  have bb := Below.refl w.heap.size w
  have bO := Blk.new w 49 #[.int .i64 k, .int .i64 f, .int .i64 t, .int .i64 a, .int .i64 p, .bool ot, vb y, .slice oA on oc]
  replace bb := bl_al bb (.cells #[.int .i64 k, .int .i64 f, .int .i64 t, .int .i64 a, .int .i64 p, .bool ot, vb y, .slice oA on oc] 49)
  replace bO := bO.ca (bl_al (Below.refl _ _) (.cells #[.int .u64 sent, .slice A m c] 26))
  have bN : Blk ((w.alloc (.cells #[.int .i64 k, .int .i64 f, .int .i64 t, .int .i64 a, .int .i64 p, .bool ot, vb y, .slice oA on oc] 49)).alloc (.cells #[.int .u64 sent, .slice A m c] 26)) (w.heap.size + 1) 26 #[.int .u64 sent, .slice A m c] := Blk.mk' (by simp only [World.size_alloc])
  replace bb := bl_al bb (.cells #[.int .u64 sent, .slice A m c] 26)
  replace bO := bO.ca (bl_al (Below.refl _ _) (.cells #[.int .u64 0, .slice none 0 0, .int .u64 0, .int .u64 0, .int .i64 0, .int .i64 0, .slice none 0 0, .bool false, .int .i64 0, .int .i64 0] 51))
  replace bN := bN.ca (bl_al (Below.refl _ _) (.cells #[.int .u64 0, .slice none 0 0, .int .u64 0, .int .u64 0, .int .i64 0, .int .i64 0, .slice none 0 0, .bool false, .int .i64 0, .int .i64 0] 51))
  have bT : Blk (((w.alloc (.cells #[.int .i64 k, .int .i64 f, .int .i64 t, .int .i64 a, .int .i64 p, .bool ot, vb y, .slice oA on oc] 49)).alloc (.cells #[.int .u64 sent, .slice A m c] 26)).alloc (.cells #[.int .u64 0, .slice none 0 0, .int .u64 0, .int .u64 0, .int .i64 0, .int .i64 0, .slice none 0 0, .bool false, .int .i64 0, .int .i64 0] 51)) (w.heap.size + 2) 51 #[.int .u64 0, .slice none 0 0, .int .u64 0, .int .u64 0, .int .i64 0, .int .i64 0, .slice none 0 0, .bool false, .int .i64 0, .int .i64 0] := Blk.mk' (by simp only [World.size_alloc])
  replace bb := bl_al bb (.cells #[.int .u64 0, .slice none 0 0, .int .u64 0, .int .u64 0, .int .i64 0, .int .i64 0, .slice none 0 0, .bool false, .int .i64 0, .int .i64 0] 51)
  have hsz : w.heap.size + 3 ≤ (((w.alloc (.cells #[.int .i64 k, .int .i64 f, .int .i64 t, .int .i64 a, .int .i64 p, .bool ot, vb y, .slice oA on oc] 49)).alloc (.cells #[.int .u64 sent, .slice A m c] 26)).alloc (.cells #[.int .u64 0, .slice none 0 0, .int .u64 0, .int .u64 0, .int .i64 0, .int .i64 0, .slice none 0 0, .bool false, .int .i64 0, .int .i64 0] 51)).heap.size := by simp only [World.size_alloc]; omega
  have HR1 := Lib.hid (Lay.rd_below h bb)
  clear h
  go_enter Try.func22, Try.ntmps22
  go_wp2_with fail
  generalize (((w.alloc (.cells #[.int .i64 k, .int .i64 f, .int .i64 t, .int .i64 a, .int .i64 p, .bool ot, vb y, .slice oA on oc] 49)).alloc (.cells #[.int .u64 sent, .slice A m c] 26)).alloc (.cells #[.int .u64 0, .slice none 0 0, .int .u64 0, .int .u64 0, .int .i64 0, .int .i64 0, .slice none 0 0, .bool false, .int .i64 0, .int .i64 0] 51)) = w1 at *
  refine (HK.out _).mono ?_
  rintro e w5 ⟨rfl, q5⟩
  have HO := Lib.hid (bO.ca q5)
  have HN := Lib.hid (bN.ca q5)
  have HT := Lib.hid (bT.ca q5)
  have HR := Lib.hid (Lay.rd_below HR1.out q5)
  have BB := Lib.hid (bl_ca bb q5)
  have hs5 := Nat.le_trans hsz q5.size
  clear bO bN bT bb q5 HR1 HK
  go_wp2_with fail
  refine wp_region_ps (S := SeqN [3, 4, 9, 11] (fun j m w' => match j with | 0 => Kept w5 w' (w.heap.size + 2) w5.heap.size ∧ Blk w' (w.heap.size + 2) 51 #[.int .u64 0, .slice none 0 0, .int .u64 0, .int .u64 0, .int .i64 0, .int .i64 0, .slice none 0 0, .bool false, .int .i64 0, .int .i64 0] | 1 => Kept w5 w' (w.heap.size + 2) w5.heap.size ∧ Blk w' (w.heap.size + 2) 51 #[.int .u64 0, .slice none 0 0, .int .u64 0, .int .u64 0, .int .i64 0, .int .i64 0, .slice none 0 0, .bool false, .int .i64 0, .int .i64 0] | 2 => Kept w5 w' (w.heap.size + 2) w5.heap.size ∧ ∃ A2 m2 c2, m 4 = Value.tuple #[.agg #[.int .u64 s, .slice A2 m2 c2], .int .i64 E] ∧ Sep w' w5.heap.size ⟨s, l, 0, zeroPC, 0, E⟩ A2 m2 c2 none 0 0 ∧ Blk w' (w.heap.size + 2) 51 #[.int .u64 0, .slice none 0 0, .int .u64 0, .int .u64 0, .int .i64 0, .int .i64 0, .slice none 0 0, .bool false, .int .i64 0, .int .i64 0] | 3 => Kept w5 w' (w.heap.size + 2) w5.heap.size ∧ ∃ A2 m2 c2, m 4 = Value.tuple #[.agg #[.int .u64 s, .slice A2 m2 c2], .int .i64 E] ∧ Sep w' w5.heap.size ⟨s, l, 0, zeroPC, 0, E⟩ A2 m2 c2 none 0 0 ∧ Blk w' (w.heap.size + 2) 51 #[.int .u64 s, .slice A2 m2 c2, .int .u64 0, .int .u64 0, .int .i64 0, .int .i64 0, .slice none 0 0, .bool false, .int .i64 0, .int .i64 0] | _ => Kept w5 w' (w.heap.size + 2) w5.heap.size ∧ ∃ A2 m2 c2, m 4 = Value.tuple #[.agg #[.int .u64 s, .slice A2 m2 c2], .int .i64 E] ∧ Sep w' w5.heap.size ⟨s, l, 0, zeroPC, 0, E⟩ A2 m2 c2 none 0 0 ∧ Blk w' (w.heap.size + 2) 51 #[.int .u64 s, .slice A2 m2 c2, .int .u64 0, .int .u64 0, .int .i64 0, .int .i64 0, .slice none 0 0, .bool false, .int .i64 0, .int .i64 E])) (by kernel_rfl) ?spswq ?ppswq
  case spswq =>
    exact SeqN.start (by decide) ⟨Kept.of_below (Below.refl _ _).drew (Nat.le_refl _), HT.out.ca (Below.refl _ _).drew⟩
  refine Ps.step (i := 0) (d := some 72) (u := ?uwq_16) rfl rfl (by kernel_rfl) (by kernel_rfl) (by kernel_rfl) (by kernel_rfl) ?ywq_16 ?rwq_16
  case ywq_16 =>
    refine StepS.read [] (by kernel_rfl) (SeqN.pass (by decide)) (by rfl) (fun L9 m9 w9 hSh hAt hDn hS => ?_)
    have hK : Kept w5 w9 (w.heap.size + 2) w5.heap.size := SeqN.any (T := fun w9 => Kept w5 w9 (w.heap.size + 2) w5.heap.size) (fun j _ _ h => by match j, h with | 0, h => exact h.1 | 1, h => exact h.1 | 2, h => exact h.1 | 3, h => exact h.1 | _ + 4, h => exact h.1) hS
    have hT : Blk w9 (w.heap.size + 1) 26 #[.int .u64 sent, .slice A m c] := HN.out.kp hK (by omega) (by omega)
    have x0 : w9.cell? ⟨(w.heap.size + 1), 0, none⟩ = some (.int .u64 sent) := hT.cell 0
    have x1 : w9.cell? ⟨(w.heap.size + 1), 1, none⟩ = some (.slice A m c) := hT.cell 1
    clear hT hK hS
    go_simp
    try rfl
  try simp only [Act.put, List.setIfInBounds_toArray, List.set_cons_zero, List.set_cons_succ]
  refine Ps.step (i := 1) (d := some 73) (u := ?uwq_17) rfl rfl (by kernel_rfl) (by kernel_rfl) (by kernel_rfl) (by kernel_rfl) ?ywq_17 ?rwq_17
  case ywq_17 =>
    refine StepS.read [] (by kernel_rfl) (SeqN.pass (by decide)) (by rfl) (fun L9 m9 w9 hSh hAt hDn hS => ?_)
    have hK : Kept w5 w9 (w.heap.size + 2) w5.heap.size := SeqN.any (T := fun w9 => Kept w5 w9 (w.heap.size + 2) w5.heap.size) (fun j _ _ h => by match j, h with | 0, h => exact h.1 | 1, h => exact h.1 | 2, h => exact h.1 | 3, h => exact h.1 | _ + 4, h => exact h.1) hS
    have hT : Blk w9 w.heap.size 49 #[.int .i64 k, .int .i64 f, .int .i64 t, .int .i64 a, .int .i64 p, .bool ot, vb y, .slice oA on oc] := HO.out.kp hK (by omega) (by omega)
    have x0 : w9.cell? ⟨w.heap.size, 0, none⟩ = some (.int .i64 k) := hT.cell 0
    have x1 : w9.cell? ⟨w.heap.size, 1, none⟩ = some (.int .i64 f) := hT.cell 1
    have x2 : w9.cell? ⟨w.heap.size, 2, none⟩ = some (.int .i64 t) := hT.cell 2
    have x3 : w9.cell? ⟨w.heap.size, 3, none⟩ = some (.int .i64 a) := hT.cell 3
    have x4 : w9.cell? ⟨w.heap.size, 4, none⟩ = some (.int .i64 p) := hT.cell 4
    have x5 : w9.cell? ⟨w.heap.size, 5, none⟩ = some (.bool ot) := hT.cell 5
    have x6 : w9.cell? ⟨w.heap.size, 6, none⟩ = some (vb y) := hT.cell 6
    have x7 : w9.cell? ⟨w.heap.size, 7, none⟩ = some (.slice oA on oc) := hT.cell 7
    clear hT hK hS
    go_simp
    try rfl
  try simp only [Act.put, List.setIfInBounds_toArray, List.set_cons_zero, List.set_cons_succ]
  refine Ps.step (i := 2) (d := some 74) (u := ?uwq_18) rfl rfl (by kernel_rfl) (by kernel_rfl) (by kernel_rfl) (by kernel_rfl) ?ywq_18 ?rwq_18
  case ywq_18 =>
    refine StepS.read [] (by kernel_rfl) (SeqN.pass (by decide)) (by rfl) (fun L9 m9 w9 hSh hAt hDn hS => ?_)
    have hK : Kept w5 w9 (w.heap.size + 2) w5.heap.size := SeqN.any (T := fun w9 => Kept w5 w9 (w.heap.size + 2) w5.heap.size) (fun j _ _ h => by match j, h with | 0, h => exact h.1 | 1, h => exact h.1 | 2, h => exact h.1 | 3, h => exact h.1 | _ + 4, h => exact h.1) hS
    have hT : Blk w9 (w.heap.size + 1) 26 #[.int .u64 sent, .slice A m c] := HN.out.kp hK (by omega) (by omega)
    have x0 : w9.cell? ⟨(w.heap.size + 1), 0, none⟩ = some (.int .u64 sent) := hT.cell 0
    have x1 : w9.cell? ⟨(w.heap.size + 1), 1, none⟩ = some (.slice A m c) := hT.cell 1
    clear hT hK hS
    go_simp
    try rfl
  try simp only [Act.put, List.setIfInBounds_toArray, List.set_cons_zero, List.set_cons_succ]
  refine Ps.step (i := 3) (d := some 75) (u := (.int .u64 x)) rfl rfl (by kernel_rfl) (by kernel_rfl) (by kernel_rfl) (by kernel_rfl) ?ywq_19 ?rwq_19
  case ywq_19 =>
    refine StepS.call ?fwq_19 ?awq_19 [] (by kernel_rfl) (by rfl) (fun w9 => ?hwq_19) (fun L9 m9 w9 hSh hAt hDn hS => ?cwq_19)
    case hwq_19 => go_simp; refine ⟨?_, ?_⟩ <;> rfl
    case cwq_19 =>
      have hC := SeqN.at_ [] [4, 9, 11] hSh hAt hDn (by kernel_rfl) hS
      refine (HNU.out w9 (rd_kp HR.out hC.1 (by omega) (by omega))).mono ?_
      rintro e w8 ⟨rfl, q8⟩
      refine ⟨rfl, SeqN.set_ [] [4, 9, 11] hSh hAt hDn (by kernel_rfl) (by decide) (by decide) ⟨hC.1.trans (Kept.of_below q8 hC.1.size), hC.2.ca q8⟩⟩
  try simp only [Act.put, List.setIfInBounds_toArray, List.set_cons_zero, List.set_cons_succ]
  refine Ps.one (k := 4) (d := some 76) rfl rfl (by kernel_rfl) (TurnS.call (V := fun v => ∃ A2 m2 c2, v = Value.tuple #[.agg #[.int .u64 s, .slice A2 m2 c2], .int .i64 E]) ?fwq_20 ?awq_20 [3] (by kernel_rfl) (by rfl) (fun w9 => ?hwq_20) (fun L9 m9 w9 hSh hAt hDn hS => ?cwq_20)) (fun v4 hVv4 => ?rwq_20)
  case hwq_20 => go_simp; refine ⟨?_, ?_⟩ <;> rfl
  case cwq_20 =>
    have hC := SeqN.at_ [3] [9, 11] hSh hAt hDn (by kernel_rfl) hS
    have hCA := HCO.out w9 (rd_kp HR.out hC.1 (by omega) (by omega))
    refine hCA.mono ?_
    rintro e w8 ⟨A2, m2, c2, rfl, ho, q8⟩
    have hs9 := hC.1.size
    have HSEP : Sep w8 w5.heap.size ⟨s, l, 0, zeroPC, 0, E⟩ A2 m2 c2 none 0 0 := Sep.less (Sep.ofN ho _ _ _ _) hs9
    exact ⟨_, rfl, ⟨A2, m2, c2, rfl⟩, SeqN.set_ [3] [9, 11] hSh hAt hDn (by kernel_rfl) (by decide) (by decide) ⟨hC.1.trans (Kept.of_below q8 hC.1.size), A2, m2, c2, upd_same _ _ _, HSEP, hC.2.ca q8⟩⟩
  try simp only [Act.put, List.setIfInBounds_toArray, List.set_cons_zero, List.set_cons_succ]
  obtain ⟨A2, m2, c2, rfl⟩ := hVv4
  refine Ps.step (i := 5) (d := some 71) (u := ?uwq_21) rfl rfl (by kernel_rfl) (by kernel_rfl) (by kernel_rfl) (by kernel_rfl) ?ywq_21 ?rwq_21
  case ywq_21 =>
    refine StepS.pure (SeqN.pass (by decide)) (by rfl) (fun w9 => ?_)
    go_simp
    try rfl
  try simp only [Act.put, List.setIfInBounds_toArray, List.set_cons_zero, List.set_cons_succ]
  refine Ps.step (i := 6) (d := some 77) (u := ?uwq_22) rfl rfl (by kernel_rfl) (by kernel_rfl) (by kernel_rfl) (by kernel_rfl) ?ywq_22 ?rwq_22
  case ywq_22 =>
    refine StepS.pure (SeqN.pass (by decide)) (by rfl) (fun w9 => ?_)
    go_simp
    try rfl
  try simp only [Act.put, List.setIfInBounds_toArray, List.set_cons_zero, List.set_cons_succ]
  refine Ps.step (i := 7) (d := some 78) (u := ?uwq_23) rfl rfl (by kernel_rfl) (by kernel_rfl) (by kernel_rfl) (by kernel_rfl) ?ywq_23 ?rwq_23
  case ywq_23 =>
    refine StepS.pure (SeqN.pass (by decide)) (by rfl) (fun w9 => ?_)
    go_simp
    try rfl
  try simp only [Act.put, List.setIfInBounds_toArray, List.set_cons_zero, List.set_cons_succ]
  refine Ps.step (i := 8) (d := some 79) (u := ?uwq_24) rfl rfl (by kernel_rfl) (by kernel_rfl) (by kernel_rfl) (by kernel_rfl) ?ywq_24 ?rwq_24
  case ywq_24 =>
    refine StepS.pure (SeqN.pass (by decide)) (by rfl) (fun w9 => ?_)
    go_simp
    try rfl
  try simp only [Act.put, List.setIfInBounds_toArray, List.set_cons_zero, List.set_cons_succ]
  refine Ps.step (i := 9) (d := none) (u := undef) rfl rfl (by kernel_rfl) (by kernel_rfl) (by kernel_rfl) (by kernel_rfl) ?ywq_25 ?rwq_25
  case ywq_25 =>
    refine StepS.store [3, 4] (by kernel_rfl) (by rfl) (fun L9 m9 w9 hSh hAt hDn hS => ?_)
    obtain ⟨hK, A2', m2', c2', hm4, hsep, hB⟩ := SeqN.at_ [3, 4] [11] hSh hAt hDn (by kernel_rfl) hS
    obtain ⟨rfl, rfl, rfl⟩ := inj_n2 ((hAt 4 (by simp)).2.symm.trans hm4)
    refine (exec_store_part (w := w9) 26 (.tmp 79) (.tmp 77) (by rfl) (w.heap.size + 2) 0 51 #[.int .u64 0, .slice none 0 0, .int .u64 0, .int .u64 0, .int .i64 0, .int .i64 0, .slice none 0 0, .bool false, .int .i64 0, .int .i64 0] #[.int .u64 s, .slice A2 m2 c2] #[.int .u64 s, .slice A2 m2 c2, .int .u64 0, .int .u64 0, .int .i64 0, .int .i64 0, .slice none 0 0, .bool false, .int .i64 0, .int .i64 0] (by rfl) (by rfl) hB (by simp) netI (by simp [Value.oneCell']) (by rfl)).imp fun w7 hx => ⟨hx.1, SeqN.set_ [3, 4] [11] hSh hAt hDn (by kernel_rfl) (by decide) (by decide) ⟨hK.trans (Kept.of_grown hx.2.2 hK.size (.inl rfl)), A2, m2, c2, hm4, hsep.kept hx.2.2 (by omega), hx.2.1⟩⟩
  try simp only [Act.put]
  refine Ps.step (i := 10) (d := some 80) (u := ?uwq_26) rfl rfl (by kernel_rfl) (by kernel_rfl) (by kernel_rfl) (by kernel_rfl) ?ywq_26 ?rwq_26
  case ywq_26 =>
    refine StepS.pure (SeqN.pass (by decide)) (by rfl) (fun w9 => ?_)
    go_simp
    try rfl
  try simp only [Act.put, List.setIfInBounds_toArray, List.set_cons_zero, List.set_cons_succ]
  refine Ps.step (i := 11) (d := none) (u := undef) rfl rfl (by kernel_rfl) (by kernel_rfl) (by kernel_rfl) (by kernel_rfl) ?ywq_27 ?rwq_27
  case ywq_27 =>
    refine StepS.store [3, 4, 9] (by kernel_rfl) (by rfl) (fun L9 m9 w9 hSh hAt hDn hS => ?_)
    obtain ⟨hK, A2', m2', c2', hm4, hsep, hB⟩ := SeqN.at_ [3, 4, 9] [] hSh hAt hDn (by kernel_rfl) hS
    obtain ⟨rfl, rfl, rfl⟩ := inj_n2 ((hAt 4 (by simp)).2.symm.trans hm4)
    have xc : w9.cell? ⟨w.heap.size + 2, 9, none⟩ = some (.int .i64 0) := hB.cell 9
    have fx : w9.frozen? ⟨w.heap.size + 2, 9, none⟩ = false := hB.frozen 9
    have hB2 : Blk (w9.setCell ⟨w.heap.size + 2, 9, none⟩ (.int .i64 E)) (w.heap.size + 2) 51 #[.int .u64 s, .slice A2 m2 c2, .int .u64 0, .int .u64 0, .int .i64 0, .int .i64 0, .slice none 0 0, .bool false, .int .i64 0, .int .i64 E] := by simpa using hB.set_ 9 (.int .i64 E)
    have hg2 : w9.grownBy (w9.setCell ⟨w.heap.size + 2, 9, none⟩ (.int .i64 E)) (some (w.heap.size + 2)) := only_setCell (World.grownBy.refl _ _) (.inl rfl) _
    refine ⟨w9.setCell ⟨w.heap.size + 2, 9, none⟩ (.int .i64 E), ?_, SeqN.set_ [3, 4, 9] [] hSh hAt hDn (by kernel_rfl) (by decide) (by decide) ⟨hK.trans (Kept.of_grown hg2 hK.size (.inl rfl)), A2, m2, c2, hm4, hsep.kept hg2 (by omega), hB2⟩⟩
    clear hB hB2 hg2 hS hK hsep hm4
    go_simp
  try simp only [Act.put]
  refine Ps.done (by kernel_rfl) (fun wq hS => ?_) _
  obtain ⟨hK, A2', m2', c2', hm4, hsep, hB⟩ := SeqN.fin (by rfl) hS
  clear hS
  obtain ⟨rfl, rfl, rfl⟩ := inj_n2 hm4
  clear hm4
  go_wp2_with (first | (refine wpList_load_blk rfl 51 (.tmp 4) rfl (w.heap.size + 2) rfl 51 #[.int .u64 s, .slice A2 m2 c2, .int .u64 0, .int .u64 0, .int .i64 0, .int .i64 0, .slice none 0 0, .bool false, .int .i64 0, .int .i64 E] _ hB Try.underlying51 rfl toldI ?_) | (refine wpList_store_blk rfl 51 (.tmp 4) (.tmp 110) rfl (w.heap.size + 2) 51 #[.int .u64 s, .slice A2 m2 c2, .int .u64 0, .int .u64 0, .int .i64 0, .int .i64 0, .slice none 0 0, .bool false, .int .i64 0, .int .i64 E] #[.int .u64 s, .slice A2 m2 c2, .int .u64 0, .int .u64 0, .int .i64 0, .int .i64 0, .slice none 0 0, .bool false, .int .i64 0, .int .i64 E] rfl rfl hB rfl toldI (by simp [Value.oneCell']) ?_; intro wz hZ gz))
  exact bodyPost_ret (res1 Try.results22 rfl hZ Try.underlying51 rfl toldI) rfl ⟨_, _, _, _, _, _, rfl, (hsep.kept gz (by omega)).less (by omega), bl_gr (hK.below BB.out (by omega) (by omega)) gz (by omega)⟩
end Go.Proofs.Ytnbcffnhgijmcaa
/- An op that is Drop is run. Conditions: the net's slice reads as these parcels. -/
namespace Go.Proofs.Ytnbcffnhgijmcaa
open Go.RowKit
set_option maxRecDepth 100000 in
set_option maxHeartbeats 16000000 in
theorem run_drop (o : OpC) (oA : Option Addr) (on oc : Nat) (sent : Int) (A : Option Addr) (m c : Nat) (ps : List PC) (w : World) (hk : kindI o = 5) (h : LP.rd w AllB A m ps) (hm : m ≤ 9223372036854775807) :
    Calls Try.prog 22 #[.agg (o.cells oA on oc), .agg #[.int .u64 sent, .slice A m c]] w (RunC w ⟨(dropR sent ps o.frm o.to).1, (dropR sent ps o.frm o.to).2, 0, zeroPC, dropG sent ps o.frm o.to, dropE sent ps o.frm o.to⟩) := by
  have HK := Lib.hid (fun w => kind_any o oA on oc w)
  rw [hk] at HK
  clear hk
  obtain ⟨k, f, t, a, p, ot, y, bs⟩ := o
  obtain ⟨s, hs⟩ : ∃ s, s = (dropR sent ps f t).1 := ⟨_, rfl⟩
  obtain ⟨l, hl⟩ : ∃ l, l = (dropR sent ps f t).2 := ⟨_, rfl⟩
  obtain ⟨G, hG⟩ : ∃ G, G = dropG sent ps f t := ⟨_, rfl⟩
  obtain ⟨E, hE⟩ : ∃ E, E = dropE sent ps f t := ⟨_, rfl⟩
  have HCO := Lib.hid (fun W h => drop_any sent A m c ps f t W h hm)
  dsimp only
  rw [← hs, ← hl, ← hG, ← hE] at HCO
  rw [← hs, ← hl, ← hG, ← hE]
  clear hs hl hG hE
  replace h := Lay.rd_weak (G := Old w) (fun b _ hb => hb) h
  have bb := Below.refl w.heap.size w
  have bO := Blk.new w 49 #[.int .i64 k, .int .i64 f, .int .i64 t, .int .i64 a, .int .i64 p, .bool ot, vb y, .slice oA on oc]
  replace bb := bl_al bb (.cells #[.int .i64 k, .int .i64 f, .int .i64 t, .int .i64 a, .int .i64 p, .bool ot, vb y, .slice oA on oc] 49)
  replace bO := bO.ca (bl_al (Below.refl _ _) (.cells #[.int .u64 sent, .slice A m c] 26))
  have bN : Blk ((w.alloc (.cells #[.int .i64 k, .int .i64 f, .int .i64 t, .int .i64 a, .int .i64 p, .bool ot, vb y, .slice oA on oc] 49)).alloc (.cells #[.int .u64 sent, .slice A m c] 26)) (w.heap.size + 1) 26 #[.int .u64 sent, .slice A m c] := Blk.mk' (by simp only [World.size_alloc])
  replace bb := bl_al bb (.cells #[.int .u64 sent, .slice A m c] 26)
  replace bO := bO.ca (bl_al (Below.refl _ _) (.cells #[.int .u64 0, .slice none 0 0, .int .u64 0, .int .u64 0, .int .i64 0, .int .i64 0, .slice none 0 0, .bool false, .int .i64 0, .int .i64 0] 51))
  replace bN := bN.ca (bl_al (Below.refl _ _) (.cells #[.int .u64 0, .slice none 0 0, .int .u64 0, .int .u64 0, .int .i64 0, .int .i64 0, .slice none 0 0, .bool false, .int .i64 0, .int .i64 0] 51))
  have bT : Blk (((w.alloc (.cells #[.int .i64 k, .int .i64 f, .int .i64 t, .int .i64 a, .int .i64 p, .bool ot, vb y, .slice oA on oc] 49)).alloc (.cells #[.int .u64 sent, .slice A m c] 26)).alloc (.cells #[.int .u64 0, .slice none 0 0, .int .u64 0, .int .u64 0, .int .i64 0, .int .i64 0, .slice none 0 0, .bool false, .int .i64 0, .int .i64 0] 51)) (w.heap.size + 2) 51 #[.int .u64 0, .slice none 0 0, .int .u64 0, .int .u64 0, .int .i64 0, .int .i64 0, .slice none 0 0, .bool false, .int .i64 0, .int .i64 0] := Blk.mk' (by simp only [World.size_alloc])
  replace bb := bl_al bb (.cells #[.int .u64 0, .slice none 0 0, .int .u64 0, .int .u64 0, .int .i64 0, .int .i64 0, .slice none 0 0, .bool false, .int .i64 0, .int .i64 0] 51)
  have hsz : w.heap.size + 3 ≤ (((w.alloc (.cells #[.int .i64 k, .int .i64 f, .int .i64 t, .int .i64 a, .int .i64 p, .bool ot, vb y, .slice oA on oc] 49)).alloc (.cells #[.int .u64 sent, .slice A m c] 26)).alloc (.cells #[.int .u64 0, .slice none 0 0, .int .u64 0, .int .u64 0, .int .i64 0, .int .i64 0, .slice none 0 0, .bool false, .int .i64 0, .int .i64 0] 51)).heap.size := by simp only [World.size_alloc]; omega
  have HR1 := Lib.hid (Lay.rd_below h bb)
  clear h
  go_enter Try.func22, Try.ntmps22
  go_wp2_with fail
  generalize (((w.alloc (.cells #[.int .i64 k, .int .i64 f, .int .i64 t, .int .i64 a, .int .i64 p, .bool ot, vb y, .slice oA on oc] 49)).alloc (.cells #[.int .u64 sent, .slice A m c] 26)).alloc (.cells #[.int .u64 0, .slice none 0 0, .int .u64 0, .int .u64 0, .int .i64 0, .int .i64 0, .slice none 0 0, .bool false, .int .i64 0, .int .i64 0] 51)) = w1 at *
  refine (HK.out _).mono ?_
  rintro e w5 ⟨rfl, q5⟩
  have HO := Lib.hid (bO.ca q5)
  have HN := Lib.hid (bN.ca q5)
  have HT := Lib.hid (bT.ca q5)
  have HR := Lib.hid (Lay.rd_below HR1.out q5)
  have BB := Lib.hid (bl_ca bb q5)
  have hs5 := Nat.le_trans hsz q5.size
  clear bO bN bT bb q5 HR1 HK
  have x0 : w5.cell? ⟨w.heap.size + 1, 0, none⟩ = some (.int .u64 sent) := HN.out.cell 0
  have x1 : w5.cell? ⟨w.heap.size + 1, 1, none⟩ = some (.slice A m c) := HN.out.cell 1
  have y1 : w5.cell? ⟨w.heap.size, 1, none⟩ = some (.int .i64 f) := HO.out.cell 1
  have y2 : w5.cell? ⟨w.heap.size, 2, none⟩ = some (.int .i64 t) := HO.out.cell 2
  go_wp2_with fail
  refine (HCO.out _ (Lay.rd_weak (fun _ _ _ => trivial) HR.out)).mono ?_
  rintro e w8 ⟨A2, m2, c2, rfl, ho, q8⟩
  have KT := Lib.hid (HT.out.ca q8)
  have HSEP := Lib.hid (Sep.ofN ho s 0 G E)
  have BB8 := Lib.hid (bl_ca BB.out q8)
  clear x0 x1 y1 y2 ho q8
  go_wp2_with (first | (refine wpList_store_part rfl 26 (.tmp 93) (.tmp 90) rfl (w.heap.size + 2) 0 51 #[.int .u64 0, .slice none 0 0, .int .u64 0, .int .u64 0, .int .i64 0, .int .i64 0, .slice none 0 0, .bool false, .int .i64 0, .int .i64 0] #[.int .u64 s, .slice A2 m2 c2] #[.int .u64 s, .slice A2 m2 c2, .int .u64 0, .int .u64 0, .int .i64 0, .int .i64 0, .slice none 0 0, .bool false, .int .i64 0, .int .i64 0] rfl rfl KT.out (by simp) netI (by simp [Value.oneCell']) (by rfl) ?_; intro w9 hB gz; have x8 : w9.cell? ⟨w.heap.size + 2, 8, none⟩ = some (.int .i64 0) := hB.cell 8; have x9 : w9.cell? ⟨w.heap.size + 2, 9, none⟩ = some (.int .i64 0) := hB.cell 9; have f8 : w9.frozen? ⟨w.heap.size + 2, 8, none⟩ = false := hB.frozen 8; have f9 : w9.frozen? ⟨w.heap.size + 2, 9, none⟩ = false := hB.frozen 9; have HG9 := Lib.hid gz; have HB3 := Lib.hid (show Blk ((w9.setCell ⟨w.heap.size + 2, 8, none⟩ (.int .i64 G)).setCell ⟨w.heap.size + 2, 9, none⟩ (.int .i64 E)) (w.heap.size + 2) 51 #[.int .u64 s, .slice A2 m2 c2, .int .u64 0, .int .u64 0, .int .i64 0, .int .i64 0, .slice none 0 0, .bool false, .int .i64 G, .int .i64 E] from by simpa using (hB.set_ 8 (.int .i64 G)).set_ 9 (.int .i64 E)); clear hB gz) | (refine wpList_load_blk rfl 51 (.tmp 4) rfl (w.heap.size + 2) rfl 51 #[.int .u64 s, .slice A2 m2 c2, .int .u64 0, .int .u64 0, .int .i64 0, .int .i64 0, .slice none 0 0, .bool false, .int .i64 G, .int .i64 E] _ HB3.out Try.underlying51 rfl toldI ?_) | (refine wpList_store_blk rfl 51 (.tmp 4) (.tmp 110) rfl (w.heap.size + 2) 51 #[.int .u64 s, .slice A2 m2 c2, .int .u64 0, .int .u64 0, .int .i64 0, .int .i64 0, .slice none 0 0, .bool false, .int .i64 G, .int .i64 E] #[.int .u64 s, .slice A2 m2 c2, .int .u64 0, .int .u64 0, .int .i64 0, .int .i64 0, .slice none 0 0, .bool false, .int .i64 G, .int .i64 E] rfl rfl HB3.out rfl toldI (by simp [Value.oneCell']) ?_; intro wz hZ gz))
  have g1 : w8.grownBy ((w9.setCell ⟨w.heap.size + 2, 8, none⟩ (.int .i64 G)).setCell ⟨w.heap.size + 2, 9, none⟩ (.int .i64 E)) (some (w.heap.size + 2)) := only_setCell (only_setCell HG9.out (.inl rfl) _) (.inl rfl) _
  exact bodyPost_ret (res1 Try.results22 rfl hZ Try.underlying51 rfl toldI) rfl ⟨_, _, _, _, _, _, rfl, ((HSEP.out.kept g1 (by omega)).kept gz (by omega)).less (by omega), bl_gr (bl_gr BB8.out g1 (by omega)) gz (by omega)⟩
end Go.Proofs.Ytnbcffnhgijmcaa
