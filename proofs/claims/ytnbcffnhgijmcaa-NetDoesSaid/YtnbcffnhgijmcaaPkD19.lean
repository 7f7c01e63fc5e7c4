/- An op that is Twin is run. Conditions: the net's slice reads as these parcels. -/
import Derived.Test.YtnbcffnhgijmcaaPkD18
namespace Go.Proofs.Ytnbcffnhgijmcaa
open Go.RowKit
set_option maxRecDepth 100000 in
set_option maxHeartbeats 16000000 in
theorem want_twin (o : OpC) (oA : Option Addr) (on oc : Nat) (sent : Int) (A : Option Addr) (m c : Nat) (ps : List PC) (w : World) (hk : kindI o = 6) (h : LP.rd w AllB A m ps) (hc : chkB sent ps = true) (hm : m ≤ 20000) (hb : ∀ p ∈ ps, p.bs.length ≤ 100000) (hs0 : 0 ≤ sent) :
    Calls Try.prog 23 #[.agg (o.cells oA on oc), .agg #[.int .u64 sent, .slice A m c]] w (WantC w ⟨(twinR sent ps (numI o ps)).1, (twinR sent ps (numI o ps)).2, (twinR sent ps (numI o ps)).1, zeroPC, 0, twinE sent ps (numI o ps)⟩) := by
  have HK := Lib.hid (fun w => kind_any o oA on oc w)
  rw [hk] at HK
  clear hk
  obtain ⟨k, f, t, a, p, ot, y, bs⟩ := o
  obtain ⟨x, hx⟩ : ∃ x, x = numI ⟨k, f, t, a, p, ot, y, bs⟩ ps := ⟨_, rfl⟩
  have HNU := Lib.hid (fun W h => num_any ⟨k, f, t, a, p, ot, y, bs⟩ oA on oc sent A m c ps W h (by omega))
  rw [← hx] at HNU
  rw [← hx]
  clear hx
  rw [twin_eqE hc, twin_eqR hc]
  have HCO := Lib.hid (fun W h => rtwin_any sent A m c ps x W h hm hb hs0 (chk_rng hc).1)
  generalize rtwinR sent ps x = R at *
  generalize rtwinE sent ps x = E at *
  obtain ⟨s, l⟩ := R
  replace h := Lay.rd_weak (G := Old w) (fun b _ hb => hb) h
  have bb := Below.refl w.heap.size w
  have bO := Blk.new w 49 #[.int .i64 k, .int .i64 f, .int .i64 t, .int .i64 a, .int .i64 p, .bool ot, vb y, .slice oA on oc]
  replace bb := bl_al bb (.cells #[.int .i64 k, .int .i64 f, .int .i64 t, .int .i64 a, .int .i64 p, .bool ot, vb y, .slice oA on oc] 49)
  replace bO := bO.ca (bl_al (Below.refl _ _) (.cells #[.int .u64 sent, .slice A m c] 26))
  have bN : Blk ((w.alloc (.cells #[.int .i64 k, .int .i64 f, .int .i64 t, .int .i64 a, .int .i64 p, .bool ot, vb y, .slice oA on oc] 49)).alloc (.cells #[.int .u64 sent, .slice A m c] 26)) (w.heap.size + 1) 26 #[.int .u64 sent, .slice A m c] := Blk.mk' (by simp only [World.size_alloc])
  replace bb := bl_al bb (.cells #[.int .u64 sent, .slice A m c] 26)
  replace bO := bO.ca (bl_al (Below.refl _ _) (.cells #[.int .u64 0, .slice none 0 0, .int .u64 0, .int .u64 0, .int .i64 0, .int .i64 0, .slice none 0 0, .bool false, .int .i64 0, .int .i64 0] 51))
  replace bN := bN.ca (bl_al (Below.refl _ _) (.cells #[.int .u64 0, .slice none 0 0, .int .u64 0, .int .u64 0, .int .i64 0, .int .i64 0, .slice none 0 0, .bool false, .int .i64 0, .int .i64 0] 51))
  have bT : Blk (((w.alloc (.cells #[.int .i64 k, .int .i64 f, .int .i64 t, .int .i64 a, .int .i64 p, .bool ot, vb y, .slice oA on oc] 49)).alloc (.cells #[.int .u64 sent, .slice A m c] 26)).alloc (.cells #[.int .u64 0, .slice none 0 0, .int .u64 0, .int .u64 0, .int .i64 0, .int .i64 0, .slice none 0 0, .bool false, .int .i64 0, .int .i64 0] 51)) (w.heap.size + 2) 51 #[.int .u64 0, .slice none 0 0, .int .u64 0, .int .u64 0, .int .i64 0, .int .i64 0, .slice none 0 0, .bool false, .int .i64 0, .int .i64 0] := Blk.mk' (by simp only [World.size_alloc])
  replace bb := bl_al bb (.cells #[.int .u64 0, .slice none 0 0, .int .u64 0, .int .u64 0, .int .i64 0, .int .i64 0, .slice none 0 0, .bool false, .int .i64 0, .int .i64 0] 51)
  have hsz : w.heap.size + 3 ≤ (((w.alloc (.cells #[.int .i64 k, .int .i64 f, .int .i64 t, .int .i64 a, .int .i64 p, .bool ot, vb y, .slice oA on oc] 49)).alloc (.cells #[.int .u64 sent, .slice A m c] 26)).alloc (.cells #[.int .u64 0, .slice none 0 0, .int .u64 0, .int .u64 0, .int .i64 0, .int .i64 0, .slice none 0 0, .bool false, .int .i64 0, .int .i64 0] 51)).heap.size := by simp only [World.size_alloc]; omega
  have HRT := Lib.hid (right_any sent A m c ps _ (Lay.rd_below (Lay.rd_weak (fun _ _ _ => trivial) h) bb) (by omega))
  rw [hc] at HRT
  have HR1 := Lib.hid (Lay.rd_below h bb)
  clear h hc
  have x0 : (((w.alloc (.cells #[.int .i64 k, .int .i64 f, .int .i64 t, .int .i64 a, .int .i64 p, .bool ot, vb y, .slice oA on oc] 49)).alloc (.cells #[.int .u64 sent, .slice A m c] 26)).alloc (.cells #[.int .u64 0, .slice none 0 0, .int .u64 0, .int .u64 0, .int .i64 0, .int .i64 0, .slice none 0 0, .bool false, .int .i64 0, .int .i64 0] 51)).cell? ⟨w.heap.size + 1, 0, none⟩ = some (.int .u64 sent) := bN.cell 0
  have x1 : (((w.alloc (.cells #[.int .i64 k, .int .i64 f, .int .i64 t, .int .i64 a, .int .i64 p, .bool ot, vb y, .slice oA on oc] 49)).alloc (.cells #[.int .u64 sent, .slice A m c] 26)).alloc (.cells #[.int .u64 0, .slice none 0 0, .int .u64 0, .int .u64 0, .int .i64 0, .int .i64 0, .slice none 0 0, .bool false, .int .i64 0, .int .i64 0] 51)).cell? ⟨w.heap.size + 1, 1, none⟩ = some (.slice A m c) := bN.cell 1
  go_enter Try.func23, Try.ntmps23
  go_wp2_with fail
  generalize (((w.alloc (.cells #[.int .i64 k, .int .i64 f, .int .i64 t, .int .i64 a, .int .i64 p, .bool ot, vb y, .slice oA on oc] 49)).alloc (.cells #[.int .u64 sent, .slice A m c] 26)).alloc (.cells #[.int .u64 0, .slice none 0 0, .int .u64 0, .int .u64 0, .int .i64 0, .int .i64 0, .slice none 0 0, .bool false, .int .i64 0, .int .i64 0] 51)) = w1 at *
  refine HRT.out.mono ?_
  rintro e w4 ⟨rfl, q4⟩
  have v0 : w4.cell? ⟨w.heap.size, 0, none⟩ = some (.int .i64 k) := (bO.ca q4).cell 0
  have v1 : w4.cell? ⟨w.heap.size, 1, none⟩ = some (.int .i64 f) := (bO.ca q4).cell 1
  have v2 : w4.cell? ⟨w.heap.size, 2, none⟩ = some (.int .i64 t) := (bO.ca q4).cell 2
  have v3 : w4.cell? ⟨w.heap.size, 3, none⟩ = some (.int .i64 a) := (bO.ca q4).cell 3
  have v4 : w4.cell? ⟨w.heap.size, 4, none⟩ = some (.int .i64 p) := (bO.ca q4).cell 4
  have v5 : w4.cell? ⟨w.heap.size, 5, none⟩ = some (.bool ot) := (bO.ca q4).cell 5
  have v6 : w4.cell? ⟨w.heap.size, 6, none⟩ = some (vb y) := (bO.ca q4).cell 6
  have v7 : w4.cell? ⟨w.heap.size, 7, none⟩ = some (.slice oA on oc) := (bO.ca q4).cell 7
  clear x0 x1 HRT
  go_wp2_with fail
  refine (HK.out _).mono ?_
  rintro e w5 ⟨rfl, q6⟩
  have q5 := q4.trans (q6.mono q4.size)
  have HO := Lib.hid (bO.ca q5)
  have HN := Lib.hid (bN.ca q5)
  have HT := Lib.hid (bT.ca q5)
  have HR := Lib.hid (Lay.rd_below HR1.out q5)
  have BB := Lib.hid (bl_ca bb q5)
  have hs5 := Nat.le_trans hsz q5.size
  clear bO bN bT bb q4 q5 q6 HR1 HK v0 v1 v2 v3 v4 v5 v6 v7
  go_wp2_with fail
  refine wp_region_ps (S := SeqN [3, 4, 10, 12, 14] (fun j m w' => match j with | 0 => Kept w5 w' (w.heap.size + 2) w5.heap.size ∧ Blk w' (w.heap.size + 2) 51 #[.int .u64 0, .slice none 0 0, .int .u64 0, .int .u64 0, .int .i64 0, .int .i64 0, .slice none 0 0, .bool false, .int .i64 0, .int .i64 0] | 1 => Kept w5 w' (w.heap.size + 2) w5.heap.size ∧ Blk w' (w.heap.size + 2) 51 #[.int .u64 0, .slice none 0 0, .int .u64 0, .int .u64 0, .int .i64 0, .int .i64 0, .slice none 0 0, .bool false, .int .i64 0, .int .i64 0] | 2 => Kept w5 w' (w.heap.size + 2) w5.heap.size ∧ ∃ A2 m2 c2, m 4 = Value.tuple #[.agg #[.int .u64 s, .slice A2 m2 c2], .int .u64 s, .int .i64 E] ∧ RSep w' w5.heap.size ⟨s, l, s, zeroPC, 0, E⟩ A2 m2 c2 none 0 0 ∧ Blk w' (w.heap.size + 2) 51 #[.int .u64 0, .slice none 0 0, .int .u64 0, .int .u64 0, .int .i64 0, .int .i64 0, .slice none 0 0, .bool false, .int .i64 0, .int .i64 0] | 3 => Kept w5 w' (w.heap.size + 2) w5.heap.size ∧ ∃ A2 m2 c2, m 4 = Value.tuple #[.agg #[.int .u64 s, .slice A2 m2 c2], .int .u64 s, .int .i64 E] ∧ RSep w' w5.heap.size ⟨s, l, s, zeroPC, 0, E⟩ A2 m2 c2 none 0 0 ∧ Blk w' (w.heap.size + 2) 51 #[.int .u64 s, .slice A2 m2 c2, .int .u64 0, .int .u64 0, .int .i64 0, .int .i64 0, .slice none 0 0, .bool false, .int .i64 0, .int .i64 0] | 4 => Kept w5 w' (w.heap.size + 2) w5.heap.size ∧ ∃ A2 m2 c2, m 4 = Value.tuple #[.agg #[.int .u64 s, .slice A2 m2 c2], .int .u64 s, .int .i64 E] ∧ RSep w' w5.heap.size ⟨s, l, s, zeroPC, 0, E⟩ A2 m2 c2 none 0 0 ∧ Blk w' (w.heap.size + 2) 51 #[.int .u64 s, .slice A2 m2 c2, .int .u64 s, .int .u64 0, .int .i64 0, .int .i64 0, .slice none 0 0, .bool false, .int .i64 0, .int .i64 0] | _ => Kept w5 w' (w.heap.size + 2) w5.heap.size ∧ ∃ A2 m2 c2, m 4 = Value.tuple #[.agg #[.int .u64 s, .slice A2 m2 c2], .int .u64 s, .int .i64 E] ∧ RSep w' w5.heap.size ⟨s, l, s, zeroPC, 0, E⟩ A2 m2 c2 none 0 0 ∧ Blk w' (w.heap.size + 2) 51 #[.int .u64 s, .slice A2 m2 c2, .int .u64 s, .int .u64 0, .int .i64 0, .int .i64 0, .slice none 0 0, .bool false, .int .i64 0, .int .i64 E])) (by kernel_rfl) ?spswq ?ppswq
  case spswq =>
    exact SeqN.start (by decide) ⟨Kept.of_below (Below.refl _ _).drew (Nat.le_refl _), HT.out.ca (Below.refl _ _).drew⟩
  refine Ps.step (i := 0) (d := some 90) (u := ?uwq_87) rfl rfl (by kernel_rfl) (by kernel_rfl) (by kernel_rfl) (by kernel_rfl) ?ywq_87 ?rwq_87
  case ywq_87 =>
    refine StepS.read [] (by kernel_rfl) (SeqN.pass (by decide)) (by rfl) (fun L9 m9 w9 hSh hAt hDn hS => ?_)
    have hK : Kept w5 w9 (w.heap.size + 2) w5.heap.size := SeqN.any (T := fun w9 => Kept w5 w9 (w.heap.size + 2) w5.heap.size) (fun j _ _ h => by match j, h with | 0, h => exact h.1 | 1, h => exact h.1 | 2, h => exact h.1 | 3, h => exact h.1 | 4, h => exact h.1 | _ + 5, h => exact h.1) hS
    have hT : Blk w9 (w.heap.size + 1) 26 #[.int .u64 sent, .slice A m c] := HN.out.kp hK (by omega) (by omega)
    have x0 : w9.cell? ⟨(w.heap.size + 1), 0, none⟩ = some (.int .u64 sent) := hT.cell 0
    have x1 : w9.cell? ⟨(w.heap.size + 1), 1, none⟩ = some (.slice A m c) := hT.cell 1
    clear hT hK hS
    go_simp
    try rfl
  try simp only [Act.put, List.setIfInBounds_toArray, List.set_cons_zero, List.set_cons_succ]
  refine Ps.step (i := 1) (d := some 91) (u := ?uwq_88) rfl rfl (by kernel_rfl) (by kernel_rfl) (by kernel_rfl) (by kernel_rfl) ?ywq_88 ?rwq_88
  case ywq_88 =>
    refine StepS.read [] (by kernel_rfl) (SeqN.pass (by decide)) (by rfl) (fun L9 m9 w9 hSh hAt hDn hS => ?_)
    have hK : Kept w5 w9 (w.heap.size + 2) w5.heap.size := SeqN.any (T := fun w9 => Kept w5 w9 (w.heap.size + 2) w5.heap.size) (fun j _ _ h => by match j, h with | 0, h => exact h.1 | 1, h => exact h.1 | 2, h => exact h.1 | 3, h => exact h.1 | 4, h => exact h.1 | _ + 5, h => exact h.1) hS
    have hT : Blk w9 w.heap.size 49 #[.int .i64 k, .int .i64 f, .int .i64 t, .int .i64 a, .int .i64 p, .bool ot, vb y, .slice oA on oc] := HO.out.kp hK (by omega) (by omega)
    have x0 : w9.cell? ⟨w.heap.size, 0, none⟩ = some (.int .i64 k) := hT.cell 0
    have x1 : w9.cell? ⟨w.heap.size, 1, none⟩ = some (.int .i64 f) := hT.cell 1
    have x2 : w9.cell? ⟨w.heap.size, 2, none⟩ = some (.int .i64 t) := hT.cell 2
    have x3 : w9.cell? ⟨w.heap.size, 3, none⟩ = some (.int .i64 a) := hT.cell 3
    have x4 : w9.cell? ⟨w.heap.size, 4, none⟩ = some (.int .i64 p) := hT.cell 4
    have x5 : w9.cell? ⟨w.heap.size, 5, none⟩ = some (.bool ot) := hT.cell 5
    have x6 : w9.cell? ⟨w.heap.size, 6, none⟩ = some (vb y) := hT.cell 6
    have x7 : w9.cell? ⟨w.heap.size, 7, none⟩ = some (.slice oA on oc) := hT.cell 7
    clear hT hK hS
    go_simp
    try rfl
  try simp only [Act.put, List.setIfInBounds_toArray, List.set_cons_zero, List.set_cons_succ]
  refine Ps.step (i := 2) (d := some 92) (u := ?uwq_89) rfl rfl (by kernel_rfl) (by kernel_rfl) (by kernel_rfl) (by kernel_rfl) ?ywq_89 ?rwq_89
  case ywq_89 =>
    refine StepS.read [] (by kernel_rfl) (SeqN.pass (by decide)) (by rfl) (fun L9 m9 w9 hSh hAt hDn hS => ?_)
    have hK : Kept w5 w9 (w.heap.size + 2) w5.heap.size := SeqN.any (T := fun w9 => Kept w5 w9 (w.heap.size + 2) w5.heap.size) (fun j _ _ h => by match j, h with | 0, h => exact h.1 | 1, h => exact h.1 | 2, h => exact h.1 | 3, h => exact h.1 | 4, h => exact h.1 | _ + 5, h => exact h.1) hS
    have hT : Blk w9 (w.heap.size + 1) 26 #[.int .u64 sent, .slice A m c] := HN.out.kp hK (by omega) (by omega)
    have x0 : w9.cell? ⟨(w.heap.size + 1), 0, none⟩ = some (.int .u64 sent) := hT.cell 0
    have x1 : w9.cell? ⟨(w.heap.size + 1), 1, none⟩ = some (.slice A m c) := hT.cell 1
    clear hT hK hS
    go_simp
    try rfl
  try simp only [Act.put, List.setIfInBounds_toArray, List.set_cons_zero, List.set_cons_succ]
  refine Ps.step (i := 3) (d := some 93) (u := (.int .u64 x)) rfl rfl (by kernel_rfl) (by kernel_rfl) (by kernel_rfl) (by kernel_rfl) ?ywq_90 ?rwq_90
  case ywq_90 =>
    refine StepS.call ?fwq_90 ?awq_90 [] (by kernel_rfl) (by rfl) (fun w9 => ?hwq_90) (fun L9 m9 w9 hSh hAt hDn hS => ?cwq_90)
    case hwq_90 => go_simp; refine ⟨?_, ?_⟩ <;> rfl
    case cwq_90 =>
      have hC := SeqN.at_ [] [4, 10, 12, 14] hSh hAt hDn (by kernel_rfl) hS
      refine (HNU.out w9 (rd_kp HR.out hC.1 (by omega) (by omega))).mono ?_
      rintro e w8 ⟨rfl, q8⟩
      refine ⟨rfl, SeqN.set_ [] [4, 10, 12, 14] hSh hAt hDn (by kernel_rfl) (by decide) (by decide) ⟨hC.1.trans (Kept.of_below q8 hC.1.size), hC.2.ca q8⟩⟩
  try simp only [Act.put, List.setIfInBounds_toArray, List.set_cons_zero, List.set_cons_succ]
  refine Ps.one (k := 4) (d := some 94) rfl rfl (by kernel_rfl) (TurnS.call (V := fun v => ∃ A2 m2 c2, v = Value.tuple #[.agg #[.int .u64 s, .slice A2 m2 c2], .int .u64 s, .int .i64 E]) ?fwq_91 ?awq_91 [3] (by kernel_rfl) (by rfl) (fun w9 => ?hwq_91) (fun L9 m9 w9 hSh hAt hDn hS => ?cwq_91)) (fun v4 hVv4 => ?rwq_91)
  case hwq_91 => go_simp; refine ⟨?_, ?_⟩ <;> rfl
  case cwq_91 =>
    have hC := SeqN.at_ [3] [10, 12, 14] hSh hAt hDn (by kernel_rfl) hS
    have hCA := HCO.out w9 (rd_kp HR.out hC.1 (by omega) (by omega))
    refine hCA.mono ?_
    rintro e w8 ⟨A2, m2, c2, rfl, ⟨es, hd, hes⟩, q8⟩
    have hs9 := hC.1.size
    have HSEP : RSep w8 w5.heap.size ⟨s, l, s, zeroPC, 0, E⟩ A2 m2 c2 none 0 0 := RSep.less ⟨by rw [show l = es.map El.p from hes.symm]; exact hd.rd (fun b hb => hb), OwnB.none_ _ _⟩ hs9
    exact ⟨_, rfl, ⟨A2, m2, c2, rfl⟩, SeqN.set_ [3] [10, 12, 14] hSh hAt hDn (by kernel_rfl) (by decide) (by decide) ⟨hC.1.trans (Kept.of_below q8 hC.1.size), A2, m2, c2, upd_same _ _ _, HSEP, hC.2.ca q8⟩⟩
  try simp only [Act.put, List.setIfInBounds_toArray, List.set_cons_zero, List.set_cons_succ]
  obtain ⟨A2, m2, c2, rfl⟩ := hVv4
  refine Ps.step (i := 5) (d := some 89) (u := ?uwq_92) rfl rfl (by kernel_rfl) (by kernel_rfl) (by kernel_rfl) (by kernel_rfl) ?ywq_92 ?rwq_92
  case ywq_92 =>
    refine StepS.pure (SeqN.pass (by decide)) (by rfl) (fun w9 => ?_)
    go_simp
    try rfl
  try simp only [Act.put, List.setIfInBounds_toArray, List.set_cons_zero, List.set_cons_succ]
  refine Ps.step (i := 6) (d := some 95) (u := ?uwq_93) rfl rfl (by kernel_rfl) (by kernel_rfl) (by kernel_rfl) (by kernel_rfl) ?ywq_93 ?rwq_93
  case ywq_93 =>
    refine StepS.pure (SeqN.pass (by decide)) (by rfl) (fun w9 => ?_)
    go_simp
    try rfl
  try simp only [Act.put, List.setIfInBounds_toArray, List.set_cons_zero, List.set_cons_succ]
  refine Ps.step (i := 7) (d := some 96) (u := ?uwq_94) rfl rfl (by kernel_rfl) (by kernel_rfl) (by kernel_rfl) (by kernel_rfl) ?ywq_94 ?rwq_94
  case ywq_94 =>
    refine StepS.pure (SeqN.pass (by decide)) (by rfl) (fun w9 => ?_)
    go_simp
    try rfl
  try simp only [Act.put, List.setIfInBounds_toArray, List.set_cons_zero, List.set_cons_succ]
  refine Ps.step (i := 8) (d := some 97) (u := ?uwq_95) rfl rfl (by kernel_rfl) (by kernel_rfl) (by kernel_rfl) (by kernel_rfl) ?ywq_95 ?rwq_95
  case ywq_95 =>
    refine StepS.pure (SeqN.pass (by decide)) (by rfl) (fun w9 => ?_)
    go_simp
    try rfl
  try simp only [Act.put, List.setIfInBounds_toArray, List.set_cons_zero, List.set_cons_succ]
  refine Ps.step (i := 9) (d := some 98) (u := ?uwq_96) rfl rfl (by kernel_rfl) (by kernel_rfl) (by kernel_rfl) (by kernel_rfl) ?ywq_96 ?rwq_96
  case ywq_96 =>
    refine StepS.pure (SeqN.pass (by decide)) (by rfl) (fun w9 => ?_)
    go_simp
    try rfl
  try simp only [Act.put, List.setIfInBounds_toArray, List.set_cons_zero, List.set_cons_succ]
  refine Ps.step (i := 10) (d := none) (u := undef) rfl rfl (by kernel_rfl) (by kernel_rfl) (by kernel_rfl) (by kernel_rfl) ?ywq_97 ?rwq_97
  case ywq_97 =>
    refine StepS.store [3, 4] (by kernel_rfl) (by rfl) (fun L9 m9 w9 hSh hAt hDn hS => ?_)
    obtain ⟨hK, A2', m2', c2', hm4, hsep, hB⟩ := SeqN.at_ [3, 4] [12, 14] hSh hAt hDn (by kernel_rfl) hS
    obtain ⟨rfl, rfl, rfl⟩ := inj_n3 ((hAt 4 (by simp)).2.symm.trans hm4)
    refine (exec_store_part (w := w9) 26 (.tmp 98) (.tmp 95) (by rfl) (w.heap.size + 2) 0 51 #[.int .u64 0, .slice none 0 0, .int .u64 0, .int .u64 0, .int .i64 0, .int .i64 0, .slice none 0 0, .bool false, .int .i64 0, .int .i64 0] #[.int .u64 s, .slice A2 m2 c2] #[.int .u64 s, .slice A2 m2 c2, .int .u64 0, .int .u64 0, .int .i64 0, .int .i64 0, .slice none 0 0, .bool false, .int .i64 0, .int .i64 0] (by rfl) (by rfl) hB (by simp) netI (by simp [Value.oneCell']) (by rfl)).imp fun w7 hx => ⟨hx.1, SeqN.set_ [3, 4] [12, 14] hSh hAt hDn (by kernel_rfl) (by decide) (by decide) ⟨hK.trans (Kept.of_grown hx.2.2 hK.size (.inl rfl)), A2, m2, c2, hm4, hsep.kept hx.2.2 (by omega), hx.2.1⟩⟩
  try simp only [Act.put]
  refine Ps.step (i := 11) (d := some 99) (u := ?uwq_98) rfl rfl (by kernel_rfl) (by kernel_rfl) (by kernel_rfl) (by kernel_rfl) ?ywq_98 ?rwq_98
  case ywq_98 =>
    refine StepS.pure (SeqN.pass (by decide)) (by rfl) (fun w9 => ?_)
    go_simp
    try rfl
  try simp only [Act.put, List.setIfInBounds_toArray, List.set_cons_zero, List.set_cons_succ]
  refine Ps.step (i := 12) (d := none) (u := undef) rfl rfl (by kernel_rfl) (by kernel_rfl) (by kernel_rfl) (by kernel_rfl) ?ywq_99 ?rwq_99
  case ywq_99 =>
    refine StepS.store [3, 4, 10] (by kernel_rfl) (by rfl) (fun L9 m9 w9 hSh hAt hDn hS => ?_)
    obtain ⟨hK, A2', m2', c2', hm4, hsep, hB⟩ := SeqN.at_ [3, 4, 10] [14] hSh hAt hDn (by kernel_rfl) hS
    obtain ⟨rfl, rfl, rfl⟩ := inj_n3 ((hAt 4 (by simp)).2.symm.trans hm4)
    have xc : w9.cell? ⟨w.heap.size + 2, 2, none⟩ = some (.int .u64 0) := hB.cell 2
    have fx : w9.frozen? ⟨w.heap.size + 2, 2, none⟩ = false := hB.frozen 2
    have hB2 : Blk (w9.setCell ⟨w.heap.size + 2, 2, none⟩ (.int .u64 s)) (w.heap.size + 2) 51 #[.int .u64 s, .slice A2 m2 c2, .int .u64 s, .int .u64 0, .int .i64 0, .int .i64 0, .slice none 0 0, .bool false, .int .i64 0, .int .i64 0] := by simpa using hB.set_ 2 (.int .u64 s)
    have hg2 : w9.grownBy (w9.setCell ⟨w.heap.size + 2, 2, none⟩ (.int .u64 s)) (some (w.heap.size + 2)) := only_setCell (World.grownBy.refl _ _) (.inl rfl) _
    refine ⟨w9.setCell ⟨w.heap.size + 2, 2, none⟩ (.int .u64 s), ?_, SeqN.set_ [3, 4, 10] [14] hSh hAt hDn (by kernel_rfl) (by decide) (by decide) ⟨hK.trans (Kept.of_grown hg2 hK.size (.inl rfl)), A2, m2, c2, hm4, hsep.kept hg2 (by omega), hB2⟩⟩
    clear hB hB2 hg2 hS hK hsep hm4
    go_simp
  try simp only [Act.put]
  refine Ps.step (i := 13) (d := some 100) (u := ?uwq_100) rfl rfl (by kernel_rfl) (by kernel_rfl) (by kernel_rfl) (by kernel_rfl) ?ywq_100 ?rwq_100
  case ywq_100 =>
    refine StepS.pure (SeqN.pass (by decide)) (by rfl) (fun w9 => ?_)
    go_simp
    try rfl
  try simp only [Act.put, List.setIfInBounds_toArray, List.set_cons_zero, List.set_cons_succ]
  refine Ps.step (i := 14) (d := none) (u := undef) rfl rfl (by kernel_rfl) (by kernel_rfl) (by kernel_rfl) (by kernel_rfl) ?ywq_101 ?rwq_101
  case ywq_101 =>
    refine StepS.store [3, 4, 10, 12] (by kernel_rfl) (by rfl) (fun L9 m9 w9 hSh hAt hDn hS => ?_)
    obtain ⟨hK, A2', m2', c2', hm4, hsep, hB⟩ := SeqN.at_ [3, 4, 10, 12] [] hSh hAt hDn (by kernel_rfl) hS
    obtain ⟨rfl, rfl, rfl⟩ := inj_n3 ((hAt 4 (by simp)).2.symm.trans hm4)
    have xc : w9.cell? ⟨w.heap.size + 2, 9, none⟩ = some (.int .i64 0) := hB.cell 9
    have fx : w9.frozen? ⟨w.heap.size + 2, 9, none⟩ = false := hB.frozen 9
    have hB2 : Blk (w9.setCell ⟨w.heap.size + 2, 9, none⟩ (.int .i64 E)) (w.heap.size + 2) 51 #[.int .u64 s, .slice A2 m2 c2, .int .u64 s, .int .u64 0, .int .i64 0, .int .i64 0, .slice none 0 0, .bool false, .int .i64 0, .int .i64 E] := by simpa using hB.set_ 9 (.int .i64 E)
    have hg2 : w9.grownBy (w9.setCell ⟨w.heap.size + 2, 9, none⟩ (.int .i64 E)) (some (w.heap.size + 2)) := only_setCell (World.grownBy.refl _ _) (.inl rfl) _
    refine ⟨w9.setCell ⟨w.heap.size + 2, 9, none⟩ (.int .i64 E), ?_, SeqN.set_ [3, 4, 10, 12] [] hSh hAt hDn (by kernel_rfl) (by decide) (by decide) ⟨hK.trans (Kept.of_grown hg2 hK.size (.inl rfl)), A2, m2, c2, hm4, hsep.kept hg2 (by omega), hB2⟩⟩
    clear hB hB2 hg2 hS hK hsep hm4
    go_simp
  try simp only [Act.put]
  refine Ps.done (by kernel_rfl) (fun wq hS => ?_) _
  obtain ⟨hK, A2', m2', c2', hm4, hsep, hB⟩ := SeqN.fin (by rfl) hS
  clear hS
  obtain ⟨rfl, rfl, rfl⟩ := inj_n3 hm4
  clear hm4
  go_wp2_with (first | (refine wpList_load_blk rfl 51 (.tmp 4) rfl (w.heap.size + 2) rfl 51 #[.int .u64 s, .slice A2 m2 c2, .int .u64 s, .int .u64 0, .int .i64 0, .int .i64 0, .slice none 0 0, .bool false, .int .i64 0, .int .i64 E] _ hB Try.underlying51 rfl toldI ?_) | (refine wpList_store_blk rfl 51 (.tmp 4) (.tmp 101) rfl (w.heap.size + 2) 51 #[.int .u64 s, .slice A2 m2 c2, .int .u64 s, .int .u64 0, .int .i64 0, .int .i64 0, .slice none 0 0, .bool false, .int .i64 0, .int .i64 E] #[.int .u64 s, .slice A2 m2 c2, .int .u64 s, .int .u64 0, .int .i64 0, .int .i64 0, .slice none 0 0, .bool false, .int .i64 0, .int .i64 E] rfl rfl hB rfl toldI (by simp [Value.oneCell']) ?_; intro wz hZ gz))
  exact bodyPost_ret (res1 Try.results23 rfl hZ Try.underlying51 rfl toldI) rfl ⟨_, _, _, _, _, _, rfl, (hsep.kept gz (by omega)).less (by omega), bl_gr (hK.below BB.out (by omega) (by omega)) gz (by omega)⟩
end Go.Proofs.Ytnbcffnhgijmcaa
/- An op that is Spoil is run. Conditions: the net's slice reads as these parcels. -/
namespace Go.Proofs.Ytnbcffnhgijmcaa
open Go.RowKit
set_option maxRecDepth 100000 in
set_option maxHeartbeats 16000000 in
theorem want_spoil (o : OpC) (oA : Option Addr) (on oc : Nat) (sent : Int) (A : Option Addr) (m c : Nat) (ps : List PC) (w : World) (hk : kindI o = 7) (h : LP.rd w AllB A m ps) (hc : chkB sent ps = true) (hm : m ≤ 20000) (hb : ∀ p ∈ ps, p.bs.length ≤ 100000) :
    Calls Try.prog 23 #[.agg (o.cells oA on oc), .agg #[.int .u64 sent, .slice A m c]] w (WantC w ⟨(spoilR sent ps (numI o ps) o.place o.by_).1, (spoilR sent ps (numI o ps) o.place o.by_).2, 0, zeroPC, 0, spoilE sent ps (numI o ps) o.place o.by_⟩) := by
  have HK := Lib.hid (fun w => kind_any o oA on oc w)
  rw [hk] at HK
  clear hk
  obtain ⟨k, f, t, a, p, ot, y, bs⟩ := o
  obtain ⟨x, hx⟩ : ∃ x, x = numI ⟨k, f, t, a, p, ot, y, bs⟩ ps := ⟨_, rfl⟩
  have HNU := Lib.hid (fun W h => num_any ⟨k, f, t, a, p, ot, y, bs⟩ oA on oc sent A m c ps W h (by omega))
  rw [← hx] at HNU
  rw [← hx]
  clear hx
  rw [spoil_eqE hc, spoil_eqR hc]
  have HCO := Lib.hid (fun W h => rspoil_any sent A m c ps x p y W h hm hb)
  try dsimp only
  generalize rspoilR sent ps x p y = R at *
  generalize rspoilE ps x p y = E at *
  obtain ⟨s, l⟩ := R
  replace h := Lay.rd_weak (G := Old w) (fun b _ hb => hb) h
  have bb := Below.refl w.heap.size w
  have bO := Blk.new w 49 #[.int .i64 k, .int .i64 f, .int .i64 t, .int .i64 a, .int .i64 p, .bool ot, vb y, .slice oA on oc]
  replace bb := bl_al bb (.cells #[.int .i64 k, .int .i64 f, .int .i64 t, .int .i64 a, .int .i64 p, .bool ot, vb y, .slice oA on oc] 49)
  replace bO := bO.ca (bl_al (Below.refl _ _) (.cells #[.int .u64 sent, .slice A m c] 26))
  have bN : Blk ((w.alloc (.cells #[.int .i64 k, .int .i64 f, .int .i64 t, .int .i64 a, .int .i64 p, .bool ot, vb y, .slice oA on oc] 49)).alloc (.cells #[.int .u64 sent, .slice A m c] 26)) (w.heap.size + 1) 26 #[.int .u64 sent, .slice A m c] := Blk.mk' (by simp only [World.size_alloc])
  replace bb := bl_al bb (.cells #[.int .u64 sent, .slice A m c] 26)
  replace bO := bO.ca (bl_al (Below.refl _ _) (.cells #[.int .u64 0, .slice none 0 0, .int .u64 0, .int .u64 0, .int .i64 0, .int .i64 0, .slice none 0 0, .bool false, .int .i64 0, .int .i64 0] 51))
  replace bN := bN.ca (bl_al (Below.refl _ _) (.cells #[.int .u64 0, .slice none 0 0, .int .u64 0, .int .u64 0, .int .i64 0, .int .i64 0, .slice none 0 0, .bool false, .int .i64 0, .int .i64 0] 51))
  have bT : Blk (((w.alloc (.cells #[.int .i64 k, .int .i64 f, .int .i64 t, .int .i64 a, .int .i64 p, .bool ot, vb y, .slice oA on oc] 49)).alloc (.cells #[.int .u64 sent, .slice A m c] 26)).alloc (.cells #[.int .u64 0, .slice none 0 0, .int .u64 0, .int .u64 0, .int .i64 0, .int .i64 0, .slice none 0 0, .bool false, .int .i64 0, .int .i64 0] 51)) (w.heap.size + 2) 51 #[.int .u64 0, .slice none 0 0, .int .u64 0, .int .u64 0, .int .i64 0, .int .i64 0, .slice none 0 0, .bool false, .int .i64 0, .int .i64 0] := Blk.mk' (by simp only [World.size_alloc])
  replace bb := bl_al bb (.cells #[.int .u64 0, .slice none 0 0, .int .u64 0, .int .u64 0, .int .i64 0, .int .i64 0, .slice none 0 0, .bool false, .int .i64 0, .int .i64 0] 51)
  have hsz : w.heap.size + 3 ≤ (((w.alloc (.cells #[.int .i64 k, .int .i64 f, .int .i64 t, .int .i64 a, .int .i64 p, .bool ot, vb y, .slice oA on oc] 49)).alloc (.cells #[.int .u64 sent, .slice A m c] 26)).alloc (.cells #[.int .u64 0, .slice none 0 0, .int .u64 0, .int .u64 0, .int .i64 0, .int .i64 0, .slice none 0 0, .bool false, .int .i64 0, .int .i64 0] 51)).heap.size := by simp only [World.size_alloc]; omega
  have HRT := Lib.hid (right_any sent A m c ps _ (Lay.rd_below (Lay.rd_weak (fun _ _ _ => trivial) h) bb) (by omega))
  rw [hc] at HRT
  have HR1 := Lib.hid (Lay.rd_below h bb)
  clear h hc
  have x0 : (((w.alloc (.cells #[.int .i64 k, .int .i64 f, .int .i64 t, .int .i64 a, .int .i64 p, .bool ot, vb y, .slice oA on oc] 49)).alloc (.cells #[.int .u64 sent, .slice A m c] 26)).alloc (.cells #[.int .u64 0, .slice none 0 0, .int .u64 0, .int .u64 0, .int .i64 0, .int .i64 0, .slice none 0 0, .bool false, .int .i64 0, .int .i64 0] 51)).cell? ⟨w.heap.size + 1, 0, none⟩ = some (.int .u64 sent) := bN.cell 0
  have x1 : (((w.alloc (.cells #[.int .i64 k, .int .i64 f, .int .i64 t, .int .i64 a, .int .i64 p, .bool ot, vb y, .slice oA on oc] 49)).alloc (.cells #[.int .u64 sent, .slice A m c] 26)).alloc (.cells #[.int .u64 0, .slice none 0 0, .int .u64 0, .int .u64 0, .int .i64 0, .int .i64 0, .slice none 0 0, .bool false, .int .i64 0, .int .i64 0] 51)).cell? ⟨w.heap.size + 1, 1, none⟩ = some (.slice A m c) := bN.cell 1
  go_enter Try.func23, Try.ntmps23
  go_wp2_with fail
  generalize (((w.alloc (.cells #[.int .i64 k, .int .i64 f, .int .i64 t, .int .i64 a, .int .i64 p, .bool ot, vb y, .slice oA on oc] 49)).alloc (.cells #[.int .u64 sent, .slice A m c] 26)).alloc (.cells #[.int .u64 0, .slice none 0 0, .int .u64 0, .int .u64 0, .int .i64 0, .int .i64 0, .slice none 0 0, .bool false, .int .i64 0, .int .i64 0] 51)) = w1 at *
  refine HRT.out.mono ?_
  rintro e w4 ⟨rfl, q4⟩
  have v0 : w4.cell? ⟨w.heap.size, 0, none⟩ = some (.int .i64 k) := (bO.ca q4).cell 0
  have v1 : w4.cell? ⟨w.heap.size, 1, none⟩ = some (.int .i64 f) := (bO.ca q4).cell 1
  have v2 : w4.cell? ⟨w.heap.size, 2, none⟩ = some (.int .i64 t) := (bO.ca q4).cell 2
  have v3 : w4.cell? ⟨w.heap.size, 3, none⟩ = some (.int .i64 a) := (bO.ca q4).cell 3
  have v4 : w4.cell? ⟨w.heap.size, 4, none⟩ = some (.int .i64 p) := (bO.ca q4).cell 4
  have v5 : w4.cell? ⟨w.heap.size, 5, none⟩ = some (.bool ot) := (bO.ca q4).cell 5
  have v6 : w4.cell? ⟨w.heap.size, 6, none⟩ = some (vb y) := (bO.ca q4).cell 6
  have v7 : w4.cell? ⟨w.heap.size, 7, none⟩ = some (.slice oA on oc) := (bO.ca q4).cell 7
  clear x0 x1 HRT
  go_wp2_with fail
  refine (HK.out _).mono ?_
  rintro e w5 ⟨rfl, q6⟩
  have q5 := q4.trans (q6.mono q4.size)
  have HO := Lib.hid (bO.ca q5)
  have HN := Lib.hid (bN.ca q5)
  have HT := Lib.hid (bT.ca q5)
  have HR := Lib.hid (Lay.rd_below HR1.out q5)
  have BB := Lib.hid (bl_ca bb q5)
  have hs5 := Nat.le_trans hsz q5.size
  clear bO bN bT bb q4 q5 q6 HR1 HK v0 v1 v2 v3 v4 v5 v6 v7
  go_wp2_with fail
  refine wp_region_ps (S := SeqN [3, 8, 13, 15] (fun j m w' => match j with | 0 => Kept w5 w' (w.heap.size + 2) w5.heap.size ∧ Blk w' (w.heap.size + 2) 51 #[.int .u64 0, .slice none 0 0, .int .u64 0, .int .u64 0, .int .i64 0, .int .i64 0, .slice none 0 0, .bool false, .int .i64 0, .int .i64 0] | 1 => Kept w5 w' (w.heap.size + 2) w5.heap.size ∧ Blk w' (w.heap.size + 2) 51 #[.int .u64 0, .slice none 0 0, .int .u64 0, .int .u64 0, .int .i64 0, .int .i64 0, .slice none 0 0, .bool false, .int .i64 0, .int .i64 0] | 2 => Kept w5 w' (w.heap.size + 2) w5.heap.size ∧ ∃ A2 m2 c2, m 8 = Value.tuple #[.agg #[.int .u64 s, .slice A2 m2 c2], .int .i64 E] ∧ RSep w' w5.heap.size ⟨s, l, 0, zeroPC, 0, E⟩ A2 m2 c2 none 0 0 ∧ Blk w' (w.heap.size + 2) 51 #[.int .u64 0, .slice none 0 0, .int .u64 0, .int .u64 0, .int .i64 0, .int .i64 0, .slice none 0 0, .bool false, .int .i64 0, .int .i64 0] | 3 => Kept w5 w' (w.heap.size + 2) w5.heap.size ∧ ∃ A2 m2 c2, m 8 = Value.tuple #[.agg #[.int .u64 s, .slice A2 m2 c2], .int .i64 E] ∧ RSep w' w5.heap.size ⟨s, l, 0, zeroPC, 0, E⟩ A2 m2 c2 none 0 0 ∧ Blk w' (w.heap.size + 2) 51 #[.int .u64 s, .slice A2 m2 c2, .int .u64 0, .int .u64 0, .int .i64 0, .int .i64 0, .slice none 0 0, .bool false, .int .i64 0, .int .i64 0] | _ => Kept w5 w' (w.heap.size + 2) w5.heap.size ∧ ∃ A2 m2 c2, m 8 = Value.tuple #[.agg #[.int .u64 s, .slice A2 m2 c2], .int .i64 E] ∧ RSep w' w5.heap.size ⟨s, l, 0, zeroPC, 0, E⟩ A2 m2 c2 none 0 0 ∧ Blk w' (w.heap.size + 2) 51 #[.int .u64 s, .slice A2 m2 c2, .int .u64 0, .int .u64 0, .int .i64 0, .int .i64 0, .slice none 0 0, .bool false, .int .i64 0, .int .i64 E])) (by kernel_rfl) ?spswq ?ppswq
  case spswq =>
    exact SeqN.start (by decide) ⟨Kept.of_below (Below.refl _ _).drew (Nat.le_refl _), HT.out.ca (Below.refl _ _).drew⟩
  refine Ps.step (i := 0) (d := some 13) (u := ?uwq_102) rfl rfl (by kernel_rfl) (by kernel_rfl) (by kernel_rfl) (by kernel_rfl) ?ywq_102 ?rwq_102
  case ywq_102 =>
    refine StepS.read [] (by kernel_rfl) (SeqN.pass (by decide)) (by rfl) (fun L9 m9 w9 hSh hAt hDn hS => ?_)
    have hK : Kept w5 w9 (w.heap.size + 2) w5.heap.size := SeqN.any (T := fun w9 => Kept w5 w9 (w.heap.size + 2) w5.heap.size) (fun j _ _ h => by match j, h with | 0, h => exact h.1 | 1, h => exact h.1 | 2, h => exact h.1 | 3, h => exact h.1 | _ + 4, h => exact h.1) hS
    have hT : Blk w9 (w.heap.size + 1) 26 #[.int .u64 sent, .slice A m c] := HN.out.kp hK (by omega) (by omega)
    have x0 : w9.cell? ⟨(w.heap.size + 1), 0, none⟩ = some (.int .u64 sent) := hT.cell 0
    have x1 : w9.cell? ⟨(w.heap.size + 1), 1, none⟩ = some (.slice A m c) := hT.cell 1
    clear hT hK hS
    go_simp
    try rfl
  try simp only [Act.put, List.setIfInBounds_toArray, List.set_cons_zero, List.set_cons_succ]
  refine Ps.step (i := 1) (d := some 14) (u := ?uwq_103) rfl rfl (by kernel_rfl) (by kernel_rfl) (by kernel_rfl) (by kernel_rfl) ?ywq_103 ?rwq_103
  case ywq_103 =>
    refine StepS.read [] (by kernel_rfl) (SeqN.pass (by decide)) (by rfl) (fun L9 m9 w9 hSh hAt hDn hS => ?_)
    have hK : Kept w5 w9 (w.heap.size + 2) w5.heap.size := SeqN.any (T := fun w9 => Kept w5 w9 (w.heap.size + 2) w5.heap.size) (fun j _ _ h => by match j, h with | 0, h => exact h.1 | 1, h => exact h.1 | 2, h => exact h.1 | 3, h => exact h.1 | _ + 4, h => exact h.1) hS
    have hT : Blk w9 w.heap.size 49 #[.int .i64 k, .int .i64 f, .int .i64 t, .int .i64 a, .int .i64 p, .bool ot, vb y, .slice oA on oc] := HO.out.kp hK (by omega) (by omega)
    have x0 : w9.cell? ⟨w.heap.size, 0, none⟩ = some (.int .i64 k) := hT.cell 0
    have x1 : w9.cell? ⟨w.heap.size, 1, none⟩ = some (.int .i64 f) := hT.cell 1
    have x2 : w9.cell? ⟨w.heap.size, 2, none⟩ = some (.int .i64 t) := hT.cell 2
    have x3 : w9.cell? ⟨w.heap.size, 3, none⟩ = some (.int .i64 a) := hT.cell 3
    have x4 : w9.cell? ⟨w.heap.size, 4, none⟩ = some (.int .i64 p) := hT.cell 4
    have x5 : w9.cell? ⟨w.heap.size, 5, none⟩ = some (.bool ot) := hT.cell 5
    have x6 : w9.cell? ⟨w.heap.size, 6, none⟩ = some (vb y) := hT.cell 6
    have x7 : w9.cell? ⟨w.heap.size, 7, none⟩ = some (.slice oA on oc) := hT.cell 7
    clear hT hK hS
    go_simp
    try rfl
  try simp only [Act.put, List.setIfInBounds_toArray, List.set_cons_zero, List.set_cons_succ]
  refine Ps.step (i := 2) (d := some 15) (u := ?uwq_104) rfl rfl (by kernel_rfl) (by kernel_rfl) (by kernel_rfl) (by kernel_rfl) ?ywq_104 ?rwq_104
  case ywq_104 =>
    refine StepS.read [] (by kernel_rfl) (SeqN.pass (by decide)) (by rfl) (fun L9 m9 w9 hSh hAt hDn hS => ?_)
    have hK : Kept w5 w9 (w.heap.size + 2) w5.heap.size := SeqN.any (T := fun w9 => Kept w5 w9 (w.heap.size + 2) w5.heap.size) (fun j _ _ h => by match j, h with | 0, h => exact h.1 | 1, h => exact h.1 | 2, h => exact h.1 | 3, h => exact h.1 | _ + 4, h => exact h.1) hS
    have hT : Blk w9 (w.heap.size + 1) 26 #[.int .u64 sent, .slice A m c] := HN.out.kp hK (by omega) (by omega)
    have x0 : w9.cell? ⟨(w.heap.size + 1), 0, none⟩ = some (.int .u64 sent) := hT.cell 0
    have x1 : w9.cell? ⟨(w.heap.size + 1), 1, none⟩ = some (.slice A m c) := hT.cell 1
    clear hT hK hS
    go_simp
    try rfl
  try simp only [Act.put, List.setIfInBounds_toArray, List.set_cons_zero, List.set_cons_succ]
  refine Ps.step (i := 3) (d := some 16) (u := (.int .u64 x)) rfl rfl (by kernel_rfl) (by kernel_rfl) (by kernel_rfl) (by kernel_rfl) ?ywq_105 ?rwq_105
  case ywq_105 =>
    refine StepS.call ?fwq_105 ?awq_105 [] (by kernel_rfl) (by rfl) (fun w9 => ?hwq_105) (fun L9 m9 w9 hSh hAt hDn hS => ?cwq_105)
    case hwq_105 => go_simp; refine ⟨?_, ?_⟩ <;> rfl
    case cwq_105 =>
      have hC := SeqN.at_ [] [8, 13, 15] hSh hAt hDn (by kernel_rfl) hS
      refine (HNU.out w9 (rd_kp HR.out hC.1 (by omega) (by omega))).mono ?_
      rintro e w8 ⟨rfl, q8⟩
      refine ⟨rfl, SeqN.set_ [] [8, 13, 15] hSh hAt hDn (by kernel_rfl) (by decide) (by decide) ⟨hC.1.trans (Kept.of_below q8 hC.1.size), hC.2.ca q8⟩⟩
  try simp only [Act.put, List.setIfInBounds_toArray, List.set_cons_zero, List.set_cons_succ]
  refine Ps.step (i := 4) (d := some 17) (u := ?uwq_106) rfl rfl (by kernel_rfl) (by kernel_rfl) (by kernel_rfl) (by kernel_rfl) ?ywq_106 ?rwq_106
  case ywq_106 =>
    refine StepS.pure (SeqN.pass (by decide)) (by rfl) (fun w9 => ?_)
    go_simp
    try rfl
  try simp only [Act.put, List.setIfInBounds_toArray, List.set_cons_zero, List.set_cons_succ]
  refine Ps.step (i := 5) (d := some 18) (u := ?uwq_107) rfl rfl (by kernel_rfl) (by kernel_rfl) (by kernel_rfl) (by kernel_rfl) ?ywq_107 ?rwq_107
  case ywq_107 =>
    refine StepS.read [] (by kernel_rfl) (SeqN.pass (by decide)) (by rfl) (fun L9 m9 w9 hSh hAt hDn hS => ?_)
    have hK : Kept w5 w9 (w.heap.size + 2) w5.heap.size := SeqN.any (T := fun w9 => Kept w5 w9 (w.heap.size + 2) w5.heap.size) (fun j _ _ h => by match j, h with | 0, h => exact h.1 | 1, h => exact h.1 | 2, h => exact h.1 | 3, h => exact h.1 | _ + 4, h => exact h.1) hS
    have hT : Blk w9 w.heap.size 49 #[.int .i64 k, .int .i64 f, .int .i64 t, .int .i64 a, .int .i64 p, .bool ot, vb y, .slice oA on oc] := HO.out.kp hK (by omega) (by omega)
    have x4 : w9.cell? ⟨w.heap.size, 4, none⟩ = some (.int .i64 p) := hT.cell 4
    clear hT hK hS
    go_simp
    try rfl
  try simp only [Act.put, List.setIfInBounds_toArray, List.set_cons_zero, List.set_cons_succ]
  refine Ps.step (i := 6) (d := some 19) (u := ?uwq_108) rfl rfl (by kernel_rfl) (by kernel_rfl) (by kernel_rfl) (by kernel_rfl) ?ywq_108 ?rwq_108
  case ywq_108 =>
    refine StepS.pure (SeqN.pass (by decide)) (by rfl) (fun w9 => ?_)
    go_simp
    try rfl
  try simp only [Act.put, List.setIfInBounds_toArray, List.set_cons_zero, List.set_cons_succ]
  refine Ps.step (i := 7) (d := some 20) (u := ?uwq_109) rfl rfl (by kernel_rfl) (by kernel_rfl) (by kernel_rfl) (by kernel_rfl) ?ywq_109 ?rwq_109
  case ywq_109 =>
    refine StepS.read [] (by kernel_rfl) (SeqN.pass (by decide)) (by rfl) (fun L9 m9 w9 hSh hAt hDn hS => ?_)
    have hK : Kept w5 w9 (w.heap.size + 2) w5.heap.size := SeqN.any (T := fun w9 => Kept w5 w9 (w.heap.size + 2) w5.heap.size) (fun j _ _ h => by match j, h with | 0, h => exact h.1 | 1, h => exact h.1 | 2, h => exact h.1 | 3, h => exact h.1 | _ + 4, h => exact h.1) hS
    have hT : Blk w9 w.heap.size 49 #[.int .i64 k, .int .i64 f, .int .i64 t, .int .i64 a, .int .i64 p, .bool ot, vb y, .slice oA on oc] := HO.out.kp hK (by omega) (by omega)
    have x6 : w9.cell? ⟨w.heap.size, 6, none⟩ = some (vb y) := hT.cell 6
    clear hT hK hS
    go_simp
    try rfl
  try simp only [Act.put, List.setIfInBounds_toArray, List.set_cons_zero, List.set_cons_succ]
  refine Ps.one (k := 8) (d := some 21) rfl rfl (by kernel_rfl) (TurnS.call (V := fun v => ∃ A2 m2 c2, v = Value.tuple #[.agg #[.int .u64 s, .slice A2 m2 c2], .int .i64 E]) ?fwq_110 ?awq_110 [3] (by kernel_rfl) (by rfl) (fun w9 => ?hwq_110) (fun L9 m9 w9 hSh hAt hDn hS => ?cwq_110)) (fun v8 hVv8 => ?rwq_110)
  case hwq_110 => go_simp; refine ⟨?_, ?_⟩ <;> rfl
  case cwq_110 =>
    have hC := SeqN.at_ [3] [13, 15] hSh hAt hDn (by kernel_rfl) hS
    have hCA := HCO.out w9 (rd_kp HR.out hC.1 (by omega) (by omega))
    refine hCA.mono ?_
    rintro e w8 ⟨A2, m2, c2, rfl, hrd8, q8⟩
    have hs9 := hC.1.size
    have HSEP : RSep w8 w5.heap.size ⟨s, l, 0, zeroPC, 0, E⟩ A2 m2 c2 none 0 0 := RSep.less ⟨hrd8, OwnB.none_ _ _⟩ hs9
    exact ⟨_, rfl, ⟨A2, m2, c2, rfl⟩, SeqN.set_ [3] [13, 15] hSh hAt hDn (by kernel_rfl) (by decide) (by decide) ⟨hC.1.trans (Kept.of_below q8 hC.1.size), A2, m2, c2, upd_same _ _ _, HSEP, hC.2.ca q8⟩⟩
  try simp only [Act.put, List.setIfInBounds_toArray, List.set_cons_zero, List.set_cons_succ]
  obtain ⟨A2, m2, c2, rfl⟩ := hVv8
  refine Ps.step (i := 9) (d := some 12) (u := ?uwq_111) rfl rfl (by kernel_rfl) (by kernel_rfl) (by kernel_rfl) (by kernel_rfl) ?ywq_111 ?rwq_111
  case ywq_111 =>
    refine StepS.pure (SeqN.pass (by decide)) (by rfl) (fun w9 => ?_)
    go_simp
    try rfl
  try simp only [Act.put, List.setIfInBounds_toArray, List.set_cons_zero, List.set_cons_succ]
  refine Ps.step (i := 10) (d := some 22) (u := ?uwq_112) rfl rfl (by kernel_rfl) (by kernel_rfl) (by kernel_rfl) (by kernel_rfl) ?ywq_112 ?rwq_112
  case ywq_112 =>
    refine StepS.pure (SeqN.pass (by decide)) (by rfl) (fun w9 => ?_)
    go_simp
    try rfl
  try simp only [Act.put, List.setIfInBounds_toArray, List.set_cons_zero, List.set_cons_succ]
  refine Ps.step (i := 11) (d := some 23) (u := ?uwq_113) rfl rfl (by kernel_rfl) (by kernel_rfl) (by kernel_rfl) (by kernel_rfl) ?ywq_113 ?rwq_113
  case ywq_113 =>
    refine StepS.pure (SeqN.pass (by decide)) (by rfl) (fun w9 => ?_)
    go_simp
    try rfl
  try simp only [Act.put, List.setIfInBounds_toArray, List.set_cons_zero, List.set_cons_succ]
  refine Ps.step (i := 12) (d := some 24) (u := ?uwq_114) rfl rfl (by kernel_rfl) (by kernel_rfl) (by kernel_rfl) (by kernel_rfl) ?ywq_114 ?rwq_114
  case ywq_114 =>
    refine StepS.pure (SeqN.pass (by decide)) (by rfl) (fun w9 => ?_)
    go_simp
    try rfl
  try simp only [Act.put, List.setIfInBounds_toArray, List.set_cons_zero, List.set_cons_succ]
  refine Ps.step (i := 13) (d := none) (u := undef) rfl rfl (by kernel_rfl) (by kernel_rfl) (by kernel_rfl) (by kernel_rfl) ?ywq_115 ?rwq_115
  case ywq_115 =>
    refine StepS.store [3, 8] (by kernel_rfl) (by rfl) (fun L9 m9 w9 hSh hAt hDn hS => ?_)
    obtain ⟨hK, A2', m2', c2', hm4, hsep, hB⟩ := SeqN.at_ [3, 8] [15] hSh hAt hDn (by kernel_rfl) hS
    obtain ⟨rfl, rfl, rfl⟩ := inj_n2 ((hAt 8 (by simp)).2.symm.trans hm4)
    refine (exec_store_part (w := w9) 26 (.tmp 24) (.tmp 22) (by rfl) (w.heap.size + 2) 0 51 #[.int .u64 0, .slice none 0 0, .int .u64 0, .int .u64 0, .int .i64 0, .int .i64 0, .slice none 0 0, .bool false, .int .i64 0, .int .i64 0] #[.int .u64 s, .slice A2 m2 c2] #[.int .u64 s, .slice A2 m2 c2, .int .u64 0, .int .u64 0, .int .i64 0, .int .i64 0, .slice none 0 0, .bool false, .int .i64 0, .int .i64 0] (by rfl) (by rfl) hB (by simp) netI (by simp [Value.oneCell']) (by rfl)).imp fun w7 hx => ⟨hx.1, SeqN.set_ [3, 8] [15] hSh hAt hDn (by kernel_rfl) (by decide) (by decide) ⟨hK.trans (Kept.of_grown hx.2.2 hK.size (.inl rfl)), A2, m2, c2, hm4, hsep.kept hx.2.2 (by omega), hx.2.1⟩⟩
  try simp only [Act.put]
  refine Ps.step (i := 14) (d := some 25) (u := ?uwq_116) rfl rfl (by kernel_rfl) (by kernel_rfl) (by kernel_rfl) (by kernel_rfl) ?ywq_116 ?rwq_116
  case ywq_116 =>
    refine StepS.pure (SeqN.pass (by decide)) (by rfl) (fun w9 => ?_)
    go_simp
    try rfl
  try simp only [Act.put, List.setIfInBounds_toArray, List.set_cons_zero, List.set_cons_succ]
  refine Ps.step (i := 15) (d := none) (u := undef) rfl rfl (by kernel_rfl) (by kernel_rfl) (by kernel_rfl) (by kernel_rfl) ?ywq_117 ?rwq_117
  case ywq_117 =>
    refine StepS.store [3, 8, 13] (by kernel_rfl) (by rfl) (fun L9 m9 w9 hSh hAt hDn hS => ?_)
    obtain ⟨hK, A2', m2', c2', hm4, hsep, hB⟩ := SeqN.at_ [3, 8, 13] [] hSh hAt hDn (by kernel_rfl) hS
    obtain ⟨rfl, rfl, rfl⟩ := inj_n2 ((hAt 8 (by simp)).2.symm.trans hm4)
    have xc : w9.cell? ⟨w.heap.size + 2, 9, none⟩ = some (.int .i64 0) := hB.cell 9
    have fx : w9.frozen? ⟨w.heap.size + 2, 9, none⟩ = false := hB.frozen 9
    have hB2 : Blk (w9.setCell ⟨w.heap.size + 2, 9, none⟩ (.int .i64 E)) (w.heap.size + 2) 51 #[.int .u64 s, .slice A2 m2 c2, .int .u64 0, .int .u64 0, .int .i64 0, .int .i64 0, .slice none 0 0, .bool false, .int .i64 0, .int .i64 E] := by simpa using hB.set_ 9 (.int .i64 E)
    have hg2 : w9.grownBy (w9.setCell ⟨w.heap.size + 2, 9, none⟩ (.int .i64 E)) (some (w.heap.size + 2)) := only_setCell (World.grownBy.refl _ _) (.inl rfl) _
    refine ⟨w9.setCell ⟨w.heap.size + 2, 9, none⟩ (.int .i64 E), ?_, SeqN.set_ [3, 8, 13] [] hSh hAt hDn (by kernel_rfl) (by decide) (by decide) ⟨hK.trans (Kept.of_grown hg2 hK.size (.inl rfl)), A2, m2, c2, hm4, hsep.kept hg2 (by omega), hB2⟩⟩
    clear hB hB2 hg2 hS hK hsep hm4
    go_simp
  try simp only [Act.put]
  refine Ps.done (by kernel_rfl) (fun wq hS => ?_) _
  obtain ⟨hK, A2', m2', c2', hm4, hsep, hB⟩ := SeqN.fin (by rfl) hS
  clear hS
  obtain ⟨rfl, rfl, rfl⟩ := inj_n2 hm4
  clear hm4
  go_wp2_with (first | (refine wpList_load_blk rfl 51 (.tmp 4) rfl (w.heap.size + 2) rfl 51 #[.int .u64 s, .slice A2 m2 c2, .int .u64 0, .int .u64 0, .int .i64 0, .int .i64 0, .slice none 0 0, .bool false, .int .i64 0, .int .i64 E] _ hB Try.underlying51 rfl toldI ?_) | (refine wpList_store_blk rfl 51 (.tmp 4) (.tmp 101) rfl (w.heap.size + 2) 51 #[.int .u64 s, .slice A2 m2 c2, .int .u64 0, .int .u64 0, .int .i64 0, .int .i64 0, .slice none 0 0, .bool false, .int .i64 0, .int .i64 E] #[.int .u64 s, .slice A2 m2 c2, .int .u64 0, .int .u64 0, .int .i64 0, .int .i64 0, .slice none 0 0, .bool false, .int .i64 0, .int .i64 E] rfl rfl hB rfl toldI (by simp [Value.oneCell']) ?_; intro wz hZ gz))
  exact bodyPost_ret (res1 Try.results23 rfl hZ Try.underlying51 rfl toldI) rfl ⟨_, _, _, _, _, _, rfl, (hsep.kept gz (by omega)).less (by omega), bl_gr (hK.below BB.out (by omega) (by omega)) gz (by omega)⟩
end Go.Proofs.Ytnbcffnhgijmcaa
/- Arguments that are nets and ops. Conditions: none. -/
namespace Go.Proofs.Ytnbcffnhgijmcaa
open Go.ChangeShapes Go.WideShapes Go.ChangeAt Go.RowKit Go.Deep
theorem Try.own : ownKnob Try.prog.godebug = none := by kernel_rfl
theorem Try.laidOut : laidOutB Try.prog = true := by kernel_rfl
/-- an argument that is a struct -/
theorem open_agg {P : Program} {t : TypeId} {fs : Array Field} (ht : P.underlying t = some (.struct fs)) {α : Type} {L : Lay α} {G : α → Prop} (ho : Opens P t L G) {H : Type} {enc : TypeId × Value → H} {W : World} {r : Reach} {base : Nat} {v : Value} {d : DataW H} {p : List MemPlace}
    (hv : Value.okWide P W r base t v) (h : DataW.Trod enc P W 0 (fun _ => true) true t v d p) : ∃ a cs, v = .agg cs ∧ L.rep W AllB a cs.toList ∧ G a := by
  obtain ⟨cs, rfl, _⟩ := okWide_struct ht hv
  obtain ⟨fuel, hf⟩ := h
  obtain ⟨a, ha, g⟩ := ho.2 enc W fuel _ _ hf
  exact ⟨a, cs, rfl, by simpa [Value.cells] using ha, g⟩
def LNt : Lay (Int × List PC) where
  size := 2
  rep := fun w F a cs => ∃ A n c, cs = [.int .u64 a.1, .slice A n c] ∧ n ≤ c ∧ c ≤ 9223372036854775807 ∧ LP.rd w F A n a.2
  len := fun h => by obtain ⟨A, n, c, rfl, _⟩ := h; rfl
  one := fun h u hu => by obtain ⟨A, n, c, rfl, _⟩ := h; simp at hu; rcases hu with rfl | rfl <;> rfl
  keep := fun hk h => by obtain ⟨A, n, c, e, h1, h2, hr⟩ := h; exact ⟨A, n, c, e, h1, h2, Lay.rd_keep hk hr⟩
  weak := fun hk h => by obtain ⟨A, n, c, e, h1, h2, hr⟩ := h; exact ⟨A, n, c, e, h1, h2, Lay.rd_weak hk hr⟩
theorem opens_net : Opens Try.prog 26 LNt (fun a => U64r a.1 ∧ ∀ p ∈ a.2, p.rng) :=
  opens_as (opens_struct Try.underlying26 (by kernel_rfl)
    (opensAt_cons 0 23 (by kernel_rfl) (opens_int Try.underlying23 (by kernel_rfl))
      (opensAt_last 1 24 (by kernel_rfl) opens_parcels))) rfl
    (fun w a cs h g => by
      obtain ⟨s, ps⟩ := a
      obtain ⟨_, _, rfl, rfl, A, n, c, rfl, h1, h2, hr⟩ := h
      exact ⟨(s, ps), ⟨A, n, c, rfl, h1, h2, hr⟩, wf_u64 g.1, g.2⟩)
def LO : Lay OpC where
  size := 8
  rep := fun w F o cs => ∃ A n c, cs = [.int .i64 o.kind, .int .i64 o.frm, .int .i64 o.to, .int .i64 o.at_, .int .i64 o.place, .bool o.oth, vb o.by_, .slice A n c] ∧ n ≤ c ∧ c ≤ 9223372036854775807 ∧ LB.rd w F A n o.bs
  len := fun h => by obtain ⟨A, n, c, rfl, _⟩ := h; rfl
  one := fun h u hu => by obtain ⟨A, n, c, rfl, _⟩ := h; simp at hu; rcases hu with rfl | rfl | rfl | rfl | rfl | rfl | rfl | rfl <;> rfl
  keep := fun hk h => by obtain ⟨A, n, c, e, h1, h2, hr⟩ := h; exact ⟨A, n, c, e, h1, h2, Lay.rd_keep hk hr⟩
  weak := fun hk h => by obtain ⟨A, n, c, e, h1, h2, hr⟩ := h; exact ⟨A, n, c, e, h1, h2, Lay.rd_weak hk hr⟩
set_option maxRecDepth 100000 in
theorem opens_op : Opens Try.prog 49 LO (fun _ => True) :=
  opens_as (opens_struct Try.underlying49 (by kernel_rfl)
    (opensAt_cons 0 3 (by kernel_rfl) (opens_int Try.underlying3 (by kernel_rfl))
    (opensAt_cons 1 3 (by kernel_rfl) (opens_int Try.underlying3 (by kernel_rfl))
    (opensAt_cons 2 3 (by kernel_rfl) (opens_int Try.underlying3 (by kernel_rfl))
    (opensAt_cons 3 3 (by kernel_rfl) (opens_int Try.underlying3 (by kernel_rfl))
    (opensAt_cons 4 3 (by kernel_rfl) (opens_int Try.underlying3 (by kernel_rfl))
    (opensAt_cons 5 4 (by kernel_rfl) (opens_bool Try.underlying4 (by kernel_rfl))
    (opensAt_cons 6 5 (by kernel_rfl) opens_byte
      (opensAt_last 7 27 (by kernel_rfl) opens_bytes))))))))) rfl
    (fun w a cs h g => by
      obtain ⟨k, f, t, a, p, ot, y, bs⟩ := a
      obtain ⟨_, _, rfl, rfl, _, _, rfl, rfl, _, _, rfl, rfl, _, _, rfl, rfl, _, _, rfl, rfl, _, _, rfl, rfl, _, _, rfl, hy, A, n, c, rfl, h1, h2, hr⟩ := h
      have hy' : _ = [vb y] := hy
      subst hy'
      exact ⟨⟨k, f, t, a, p, ot, y, bs⟩, ⟨A, n, c, rfl, h1, h2, hr⟩, trivial⟩)
set_option maxRecDepth 100000 in
theorem open_net {H : Type} {enc : TypeId × Value → H} {W : World} {r : Reach} {base : Nat} {v : Value} {d : DataW H} {p : List MemPlace} (hv : Value.okWide Try.prog W r base 26 v) (h : DataW.Trod enc Try.prog W 0 (fun _ => true) true 26 v d p) :
    ∃ sent A m c ps, v = .agg #[.int .u64 sent, .slice A m c] ∧ LP.rd W AllB A m ps ∧ m ≤ 9223372036854775807 ∧ 0 ≤ sent := by
  obtain ⟨⟨s, ps⟩, cs, rfl, ⟨A, n, c, e, h1, h2, hr⟩, g, _⟩ := open_agg Try.underlying26 opens_net hv h
  exact ⟨s, A, n, c, ps, by rw [show cs = #[.int .u64 s, .slice A n c] from by apply Array.ext'; exact e], hr, Nat.le_trans h1 h2, g.1⟩
set_option maxRecDepth 100000 in
theorem open_op {H : Type} {enc : TypeId × Value → H} {W : World} {r : Reach} {base : Nat} {v : Value} {d : DataW H} {p : List MemPlace} (hv : Value.okWide Try.prog W r base 49 v) (h : DataW.Trod enc Try.prog W 0 (fun _ => true) true 49 v d p) :
    ∃ (o : OpC) (A : Option Addr) (n c : Nat), v = .agg (o.cells A n c) ∧ RdB W A n o.bs ∧ n ≤ c ∧ c ≤ 9223372036854775807 := by
  obtain ⟨o, cs, rfl, ⟨A, n, c, e, h1, h2, hr⟩, _⟩ := open_agg Try.underlying49 opens_op hv h
  exact ⟨o, A, n, c, by rw [show cs = o.cells A n c from by apply Array.ext'; exact e], LB_rd hr, h1, h2⟩
end Go.Proofs.Ytnbcffnhgijmcaa
/- Nets that may be, and what is done to them: plain lists. Conditions: none. -/
namespace Go.Proofs.Ytnbcffnhgijmcaa
/-- a parcel that may be, of a net with so many sent -/
structure Fit (sent : Int) (p : PC) : Prop where
  pos : 0 < p.num
  le : p.num ≤ sent
  pair : pairB p.frm p.to = true
  len : p.bs.length ≤ 60000
  full : 0 < p.bs.length ∨ p.sp = false
def Asc (ps : List PC) : Prop := ps.Pairwise fun p q => p.num < q.num
theorem go_iff {sent : Int} : ∀ {ps : List PC} {last : Int}, 0 ≤ last → (goB sent last ps = true ↔ (∀ p ∈ ps, last < p.num ∧ Fit sent p) ∧ Asc ps)
  | [], last, _ => by simp [goB, Asc]
  | p :: l, last, h0 => by
    unfold goB Asc
    rw [Bool.and_eq_true, List.pairwise_cons]
    have hp : parB sent last p = true ↔ last < p.num ∧ Fit sent p := by
      unfold parB
      simp only [Bool.and_eq_true, Bool.or_eq_true, decide_eq_true_eq, Bool.not_eq_true']
      refine ⟨fun ⟨⟨⟨⟨a, b⟩, c⟩, d⟩, e⟩ => ⟨a, by omega, b, c, by omega, e.imp (fun h => by omega) id⟩, fun ⟨a, f⟩ => ⟨⟨⟨⟨a, f.le⟩, f.pair⟩, by have := f.len; omega⟩, f.full.imp (fun h => by omega) id⟩⟩
    rw [hp]
    refine ⟨fun ⟨⟨a, f⟩, g⟩ => ?_, fun ⟨h1, h2, h3⟩ => ?_⟩
    · obtain ⟨g1, g2⟩ := (go_iff (by omega)).1 g
      exact ⟨fun q hq => (List.mem_cons.1 hq).elim (fun e => e ▸ ⟨a, f⟩) (fun hq => ⟨by have := (g1 q hq).1; omega, (g1 q hq).2⟩), fun q hq => (g1 q hq).1, g2⟩
    · obtain ⟨a, f⟩ := h1 p (by simp)
      exact ⟨⟨a, f⟩, (go_iff (by omega)).2 ⟨fun q hq => ⟨h2 q hq, (h1 q (by simp [hq])).2⟩, h3⟩⟩
theorem chk_iff {sent : Int} {ps : List PC} : chkB sent ps = true ↔ sent ≤ 1099511627776 ∧ ps.length ≤ 20000 ∧ (∀ p ∈ ps, Fit sent p) ∧ Asc ps := by
  unfold chkB
  simp only [Bool.and_eq_true, decide_eq_true_eq]
  rw [go_iff (Int.le_refl 0)]
  refine ⟨fun ⟨⟨a, b⟩, c, d⟩ => ⟨a, by omega, fun p hp => (c p hp).2, d⟩, fun ⟨a, b, c, d⟩ => ⟨⟨a, by omega⟩, fun p hp => ⟨(c p hp).pos, c p hp⟩, d⟩⟩
theorem Asc.uniq {ps : List PC} (h : Asc ps) {p q : PC} (hp : p ∈ ps) (hq : q ∈ ps) (e : p.num = q.num) : p = q := by
  induction ps with
  | nil => cases hp
  | cons x l ih =>
    obtain ⟨h1, h2⟩ := List.pairwise_cons.1 h
    rcases List.mem_cons.1 hp with ep | hp' <;> rcases List.mem_cons.1 hq with eq | hq'
    · rw [ep, eq]
    · have := h1 q hq'; rw [ep] at e; omega
    · have := h1 p hp'; rw [eq] at e; omega
    · exact ih h2 hp' hq'
/-- without the parcel of a number -/
theorem without {ps : List PC} {x : Int} (h : Asc ps) (hh : hasB ps x = true) : ps.take (ixP ps x) ++ ps.drop (ixP ps x + 1) = ps.filter fun p => !(p.num == x) := by
  induction ps with
  | nil => simp [hasB] at hh
  | cons p l ih =>
    obtain ⟨h1, h2⟩ := List.pairwise_cons.1 h
    by_cases hx : p.num = x
    · have e0 : ixP (p :: l) x = 0 := by simp [ixP, List.findIdx_cons, hx]
      rw [e0, List.filter_cons_of_neg (by simp [hx]), List.filter_eq_self.2 (fun q hq => by have := h1 q hq; simp; omega)]
      rfl
    · have e0 : ixP (p :: l) x = ixP l x + 1 := by simp [ixP, List.findIdx_cons, hx]
      have hh' : hasB l x = true := by simpa [hasB, hx] using hh
      rw [e0, List.filter_cons_of_pos (by simp [hx]), ← ih h2 hh']
      rfl
/-- with the parcel of a number changed -/
theorem changed {ps : List PC} {x : Int} (f : PC → PC) (h : Asc ps) (hh : hasB ps x = true) : ps.set (ixP ps x) (f (getP ps x)) = ps.map fun p => if p.num = x then f p else p := by
  induction ps with
  | nil => simp [hasB] at hh
  | cons p l ih =>
    obtain ⟨h1, h2⟩ := List.pairwise_cons.1 h
    by_cases hx : p.num = x
    · have e0 : ixP (p :: l) x = 0 := by simp [ixP, List.findIdx_cons, hx]
      have e1 : getP (p :: l) x = p := by unfold getP; rw [e0]; rfl
      rw [e0, e1, List.map_cons, if_pos hx, List.set_cons_zero]
      congr 1
      refine ((List.map_congr_left fun q hq => ?_).trans (List.map_id l)).symm
      have := h1 q hq
      rw [if_neg (by omega)]; rfl
    · have e0 : ixP (p :: l) x = ixP l x + 1 := by simp [ixP, List.findIdx_cons, hx]
      have e1 : getP (p :: l) x = getP l x := by unfold getP; rw [e0]; rfl
      have hh' : hasB l x = true := by simpa [hasB, hx] using hh
      rw [e0, e1, List.set_cons_succ, List.map_cons, if_neg hx, ih h2 hh']
theorem getP_mem {ps : List PC} {x : Int} (hh : hasB ps x = true) : getP ps x ∈ ps ∧ (getP ps x).num = x := by
  unfold hasB at hh
  obtain ⟨p, hp, hx⟩ := List.any_eq_true.1 hh
  have hl : ixP ps x < ps.length := List.findIdx_lt_length_of_exists ⟨p, hp, hx⟩
  have he : getP ps x = ps[ixP ps x] := by unfold getP; rw [List.getElem?_eq_getElem hl]; rfl
  rw [he]
  refine ⟨List.getElem_mem hl, ?_⟩
  have := List.findIdx_getElem (xs := ps) (p := fun p : PC => decide (p.num = x)) (w := by exact hl)
  unfold ixP
  simpa using this
theorem idxF_some {f : PC → Bool} {ps : List PC} (h : ∃ q ∈ ps, f q = true) : ∃ (i : Nat) (q : PC), idxF f ps = i ∧ ps[i]? = some q ∧ f q = true := by
  obtain ⟨q, hq, hf⟩ := h
  have hl := List.findIdx_lt_length_of_exists ⟨q, hq, hf⟩
  refine ⟨ps.findIdx f, ps[ps.findIdx f], ?_, List.getElem?_eq_getElem hl, List.findIdx_getElem (w := hl)⟩
  unfold idxF
  rw [List.any_eq_true.2 ⟨q, hq, hf⟩, if_pos rfl]
theorem idxF_none {f : PC → Bool} {ps : List PC} (h : ∀ q ∈ ps, f q = false) : idxF f ps = -1 := by
  unfold idxF
  rw [List.any_eq_false.2 (fun q hq => by rw [h q hq]; decide)]
  rfl
theorem set_ne {l : List UInt8} {a : Nat} {y : UInt8} (ha : a < l.length) (hy : y ≠ 0) : (l.set a (l.getD a 0 ^^^ y) == l) = false := by
  rw [beq_eq_false_iff_ne]
  intro e
  have h1 : (l.set a (l.getD a 0 ^^^ y))[a]? = l[a]? := by rw [e]
  rw [List.getElem?_set_self ha, List.getElem?_eq_getElem ha] at h1
  injection h1 with h1
  rw [List.getD_eq_getElem?_getD, List.getElem?_eq_getElem ha] at h1
  simp only [Option.getD_some] at h1
  apply hy
  have h2 : l[a] ^^^ (l[a] ^^^ y) = l[a] ^^^ l[a] := by rw [h1]
  rw [← UInt8.xor_assoc, UInt8.xor_self, UInt8.zero_xor] at h2
  exact h2
end Go.Proofs.Ytnbcffnhgijmcaa
/- A region whose order Go leaves open, with several operations of unknown yield side by side; what follows is said once. Conditions: none. -/
namespace Go.Proofs.Ytnbcffnhgijmcaa
open Go.RowKit
section
variable {P : Program} {ops : Array Oper} {Q Q' : Exit → Act → World → Prop} {md : Region.Mode} {S : Array Bool → (Nat → Value) → World → Prop}
theorem Ps.weak (h : ∀ a w, Q' .normal a w → Q .normal a w) : ∀ (f : Nat) (m : Nat → Value) (L : Array Bool) (a : Act), Ps P md ops Q' S f m L a → Ps P md ops Q S f m L a
  | 0, _, _, _, k => ⟨k.1, fun w hS => h _ _ (k.2 w hS)⟩
  | f + 1, m, L, a, k => ⟨fun e w hS => h _ _ (k.1 e w hS), fun i hi => by
    obtain ⟨o, ho, ⟨u, hs, hg⟩ | ⟨V, hs, hg⟩⟩ := k.2 i hi
    · exact ⟨o, ho, .inl ⟨u, hs, Ps.weak h f _ _ _ hg⟩⟩
    · exact ⟨o, ho, .inr ⟨V, hs, fun v hV => Ps.weak h f _ _ _ (hg v hV)⟩⟩⟩
/-- one of several that come next -/
def Turns (P : Program) (md : Region.Mode) (ops : Array Oper) (Q : Exit → Act → World → Prop) (S : Array Bool → (Nat → Value) → World → Prop) (f : Nat) (m : Nat → Value) (L : Array Bool) (a : Act) (i : Nat) : Prop :=
  ∃ o, ops[i]? = some o ∧ ∃ V, TurnS P md ops S m i o V a ∧ ∀ v, V v → Ps P md ops Q S f (upd m i v) (L.setIfInBounds i true) (a.put o.dst v)
theorem Turns.mk {f : Nat} {m : Nat → Value} {L : Array Bool} {a : Act} {i : Nat} {o : Oper} {d : Option Tmp} (ho : ops[i]? = some o) (hd : o.dst = d) {V : Value → Prop} (ht : TurnS P md ops S m i o V a)
    (h : ∀ v, V v → Ps P md ops Q S f (upd m i v) (L.setIfInBounds i true) (a.put d v)) : Turns P md ops Q S f m L a i := by subst hd; exact ⟨o, ho, V, ht, h⟩
theorem Ps.some1 {f : Nat} {m : Nat → Value} {L : Array Bool} {a : Act} {i : Nat} (hr : Region.ready md ops L = [i]) (h1 : Turns P md ops Q S f m L a i) : Ps P md ops Q S (f + 1) m L a := by
  refine ⟨fun e => (by rw [hr] at e; cases e), fun x hx => ?_⟩
  rw [hr] at hx
  rcases List.mem_cons.1 hx with rfl | hx
  · obtain ⟨o, ho, V, ht, h⟩ := h1; exact ⟨o, ho, .inr ⟨V, ht, h⟩⟩
  · cases hx
theorem Ps.some2 {f : Nat} {m : Nat → Value} {L : Array Bool} {a : Act} {i j : Nat} (hr : Region.ready md ops L = [i, j]) (h1 : Turns P md ops Q S f m L a i) (h2 : Turns P md ops Q S f m L a j) : Ps P md ops Q S (f + 1) m L a := by
  refine ⟨fun e => (by rw [hr] at e; cases e), fun x hx => ?_⟩
  rw [hr] at hx
  rcases List.mem_cons.1 hx with rfl | hx
  · obtain ⟨o, ho, V, ht, h⟩ := h1; exact ⟨o, ho, .inr ⟨V, ht, h⟩⟩
  rcases List.mem_cons.1 hx with rfl | hx
  · obtain ⟨o, ho, V, ht, h⟩ := h2; exact ⟨o, ho, .inr ⟨V, ht, h⟩⟩
  · cases hx
theorem Ps.some3 {f : Nat} {m : Nat → Value} {L : Array Bool} {a : Act} {i j k : Nat} (hr : Region.ready md ops L = [i, j, k]) (h1 : Turns P md ops Q S f m L a i) (h2 : Turns P md ops Q S f m L a j) (h3 : Turns P md ops Q S f m L a k) : Ps P md ops Q S (f + 1) m L a := by
  refine ⟨fun e => (by rw [hr] at e; cases e), fun x hx => ?_⟩
  rw [hr] at hx
  rcases List.mem_cons.1 hx with rfl | hx
  · obtain ⟨o, ho, V, ht, h⟩ := h1; exact ⟨o, ho, .inr ⟨V, ht, h⟩⟩
  rcases List.mem_cons.1 hx with rfl | hx
  · obtain ⟨o, ho, V, ht, h⟩ := h2; exact ⟨o, ho, .inr ⟨V, ht, h⟩⟩
  rcases List.mem_cons.1 hx with rfl | hx
  · obtain ⟨o, ho, V, ht, h⟩ := h3; exact ⟨o, ho, .inr ⟨V, ht, h⟩⟩
  · cases hx
/-- what follows is said once: F tells how the region ends, of the act at its start -/
theorem wp_region_psF {id : Nat} {a : Act} {w : World} (F : Act → Act → World → Prop) (S : Array Bool → (Nat → Value) → World → Prop) (hm : P.follows .mixedOrders = true) (hS : S (Array.replicate ops.size false) (fun _ => undef) w.drew)
    (h : Ps P .any ops (fun _ a' w' => F a a' w') S ops.size (fun _ => undef) (Array.replicate ops.size false) a) (hk : ∀ a' w', F a a' w' → Q .normal a' w') : (Code.region id ops true).wp P Q a w :=
  wp_region_ps S hm hS (Ps.weak hk _ _ _ _ h)
end
end Go.Proofs.Ytnbcffnhgijmcaa
