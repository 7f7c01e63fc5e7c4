/- An op that is Twin is run. Conditions: the net's slice reads as these parcels. -/
import Derived.Test.YtnbcffnhgijmcaaPkD12
namespace Go.Proofs.Ytnbcffnhgijmcaa
open Go.RowKit
set_option maxRecDepth 100000 in
set_option maxHeartbeats 16000000 in
theorem run_twin (o : OpC) (oA : Option Addr) (on oc : Nat) (sent : Int) (A : Option Addr) (m c : Nat) (ps : List PC) (w : World) (hk : kindI o = 6) (h : LP.rd w AllB A m ps) (hm : m ≤ 9223372036854775807) (hs0 : 0 ≤ sent) :
    Calls Try.prog 22 #[.agg (o.cells oA on oc), .agg #[.int .u64 sent, .slice A m c]] w (RunC w ⟨(twinR sent ps (numI o ps)).1, (twinR sent ps (numI o ps)).2, (twinR sent ps (numI o ps)).1, zeroPC, 0, twinE sent ps (numI o ps)⟩) := by
  have HK := Lib.hid (fun w => kind_any o oA on oc w)
  rw [hk] at HK
  clear hk
  obtain ⟨k, f, t, a, p, ot, y, bs⟩ := o
  obtain ⟨x, hx⟩ : ∃ x, x = numI ⟨k, f, t, a, p, ot, y, bs⟩ ps := ⟨_, rfl⟩
  have HNU := Lib.hid (fun W h => num_any ⟨k, f, t, a, p, ot, y, bs⟩ oA on oc sent A m c ps W h hm)
  rw [← hx] at HNU
  rw [← hx]
  clear hx
  obtain ⟨s, hs⟩ : ∃ s, s = (twinR sent ps x).1 := ⟨_, rfl⟩
  obtain ⟨l, hl⟩ : ∃ l, l = (twinR sent ps x).2 := ⟨_, rfl⟩
  obtain ⟨E, hE⟩ : ∃ E, E = twinE sent ps x := ⟨_, rfl⟩
  have HCO := Lib.hid (fun W h => twin_any sent A m c ps x W h hm hs0)
  rw [← hs, ← hl, ← hE] at HCO
  rw [← hs, ← hl, ← hE]
  clear hs hl hE
  replace h := Lay.rd_weak (G := Old w) (fun b _ hb => hb) h
  have bb := Below.refl w.heap.size w
  have bO := Blk.new w 49 #[.int .i64 k, .int .i64 f, .int .i64 t, .int .i64 a, .int .i64 p, .bool ot, vb y, .slice oA on oc]
  replace bb := bl_al bb (.cells #[.int .i64 k, .int .i64 f, .int .i64 t, .int .i64 a, .int .i64 p, .bool ot, vb y, .slice oA on oc] 49)
  replace bO := bO.ca (bl_al (Below.refl _ _) (.cells #[.int .u64 sent, .slice A m c] 26))
  have bN : Blk ((w.alloc (.cells #[.int .i64 k, .int .i64 f, .int .i64 t, .int .i64 a, .int .i64 p, .bool ot, vb y, .slice oA on oc] 49)).alloc (.cells #[.int .u64 sent, .slice A m c] 26)) (w.heap.size + 1) 26 #[.int .u64 sent, .slice A m c] := Blk.mk' (by simp only [World.size_alloc])
  replace bb := bl_al bb (.cells #[.int .u64 sent, .slice A m c] 26)
  replace bO := bO.ca (bl_al (Below.refl _ _) (.cells #[.int .u64 0, .slice none 0 0, .int .u64 0, .int .u64 0, .int .i64 0, .int .i64 0, .slice none 0 0, .bool false, .int .i64 0, .int .i64 0] 51))
  replace bN := bN.ca (bl_al (Below.refl _ _) (.cells #[.int .u64 0, .slice none 0 0, .int .u64 0, .int .u64 0, .int .i64 0, .int .i64 0, .slice none 0 0, .bool false, .int .i64 0, .int .i64 0] 51))
  have bT : Blk (((w.alloc (.cells #[.int .i64 k, .int .i64 f, .int .i64 t, .int .i64 a, .int .i64 p, .bool ot, vb y, .slice oA on oc] 49)).alloc (.cells #[.int .u64 sent, .slice A m c] 26)).alloc (.cells #[.int .u64 0, .slice none 0 0, .int .u64 0, .int .u64 0, .int .i64 0, .int .i64 0, .slice none 0 0, .bool false, .int .i64 0, .int .i64 0] 51)) (w.heap.size + 2) 51 #[.int .u64 0, .slice none 0 0, .int .u64 0, .int .u64 0, .int .i64 0, .int .i64 0, .slice none 0 0, .bool false, .int .i64 0, .int .i64 0] := Blk.mk' (by simp only [World.size_alloc])
  replace bb := bl_al bb (.cells #[.int .u64 0, .slice none 0 0, .int .u64 0, .int .u64 0, .int .i64 0, .int .i64 0, .slice none 0 0, .bool false, .int .i64 0, .int .i64 0] 51)
  have hsz : w.heap.size + 3 ≤ (((w.alloc (.cells #[.int .i64 k, .int .i64 f, .int .i64 t, .int .i64 a, .int .i64 p, .bool ot, vb y, .slice oA on oc] 49)).alloc (.cells #[.int .u64 sent, .slice A m c] 26)).alloc (.cells #[.int .u64 0, .slice none 0 0, .int .u64 0, .int .u64 0, .int .i64 0, .int .i64 0, .slice none 0 0, .bool false, .int .i64 0, .int .i64 0] 51)).heap.size := by simp only [World.size_alloc]; omega
  have HR1 := Lib.hid (Lay.rd_below h bb)
  clear h
  go_enter Try.func22, Try.ntmps22
  go_wp2_with fail
  generalize (((w.alloc (.cells #[.int .i64 k, .int .i64 f, .int .i64 t, .int .i64 a, .int .i64 p, .bool ot, vb y, .slice oA on oc] 49)).alloc (.cells #[.int .u64 sent, .slice A m c] 26)).alloc (.cells #[.int .u64 0, .slice none 0 0, .int .u64 0, .int .u64 0, .int .i64 0, .int .i64 0, .slice none 0 0, .bool false, .int .i64 0, .int .i64 0] 51)) = w1 at *
  refine (HK.out _).mono ?_
  rintro e w5 ⟨rfl, q5⟩
  have HO := Lib.hid (bO.ca q5)
  have HN := Lib.hid (bN.ca q5)
  have HT := Lib.hid (bT.ca q5)
  have HR := Lib.hid (Lay.rd_below HR1.out q5)
  have BB := Lib.hid (bl_ca bb q5)
  have hs5 := Nat.le_trans hsz q5.size
  clear bO bN bT bb q5 HR1 HK
  go_wp2_with fail
  refine wp_region_ps (S := SeqN [3, 4, 10, 12, 14] (fun j m w' => match j with | 0 => Kept w5 w' (w.heap.size + 2) w5.heap.size ∧ Blk w' (w.heap.size + 2) 51 #[.int .u64 0, .slice none 0 0, .int .u64 0, .int .u64 0, .int .i64 0, .int .i64 0, .slice none 0 0, .bool false, .int .i64 0, .int .i64 0] | 1 => Kept w5 w' (w.heap.size + 2) w5.heap.size ∧ Blk w' (w.heap.size + 2) 51 #[.int .u64 0, .slice none 0 0, .int .u64 0, .int .u64 0, .int .i64 0, .int .i64 0, .slice none 0 0, .bool false, .int .i64 0, .int .i64 0] | 2 => Kept w5 w' (w.heap.size + 2) w5.heap.size ∧ ∃ A2 m2 c2, m 4 = Value.tuple #[.agg #[.int .u64 s, .slice A2 m2 c2], .int .u64 s, .int .i64 E] ∧ Sep w' w5.heap.size ⟨s, l, s, zeroPC, 0, E⟩ A2 m2 c2 none 0 0 ∧ Blk w' (w.heap.size + 2) 51 #[.int .u64 0, .slice none 0 0, .int .u64 0, .int .u64 0, .int .i64 0, .int .i64 0, .slice none 0 0, .bool false, .int .i64 0, .int .i64 0] | 3 => Kept w5 w' (w.heap.size + 2) w5.heap.size ∧ ∃ A2 m2 c2, m 4 = Value.tuple #[.agg #[.int .u64 s, .slice A2 m2 c2], .int .u64 s, .int .i64 E] ∧ Sep w' w5.heap.size ⟨s, l, s, zeroPC, 0, E⟩ A2 m2 c2 none 0 0 ∧ Blk w' (w.heap.size + 2) 51 #[.int .u64 s, .slice A2 m2 c2, .int .u64 0, .int .u64 0, .int .i64 0, .int .i64 0, .slice none 0 0, .bool false, .int .i64 0, .int .i64 0] | 4 => Kept w5 w' (w.heap.size + 2) w5.heap.size ∧ ∃ A2 m2 c2, m 4 = Value.tuple #[.agg #[.int .u64 s, .slice A2 m2 c2], .int .u64 s, .int .i64 E] ∧ Sep w' w5.heap.size ⟨s, l, s, zeroPC, 0, E⟩ A2 m2 c2 none 0 0 ∧ Blk w' (w.heap.size + 2) 51 #[.int .u64 s, .slice A2 m2 c2, .int .u64 s, .int .u64 0, .int .i64 0, .int .i64 0, .slice none 0 0, .bool false, .int .i64 0, .int .i64 0] | _ => Kept w5 w' (w.heap.size + 2) w5.heap.size ∧ ∃ A2 m2 c2, m 4 = Value.tuple #[.agg #[.int .u64 s, .slice A2 m2 c2], .int .u64 s, .int .i64 E] ∧ Sep w' w5.heap.size ⟨s, l, s, zeroPC, 0, E⟩ A2 m2 c2 none 0 0 ∧ Blk w' (w.heap.size + 2) 51 #[.int .u64 s, .slice A2 m2 c2, .int .u64 s, .int .u64 0, .int .i64 0, .int .i64 0, .slice none 0 0, .bool false, .int .i64 0, .int .i64 E])) (by kernel_rfl) ?spswq ?ppswq
  case spswq =>
    exact SeqN.start (by decide) ⟨Kept.of_below (Below.refl _ _).drew (Nat.le_refl _), HT.out.ca (Below.refl _ _).drew⟩
  refine Ps.step (i := 0) (d := some 99) (u := ?uwq_28) rfl rfl (by kernel_rfl) (by kernel_rfl) (by kernel_rfl) (by kernel_rfl) ?ywq_28 ?rwq_28
  case ywq_28 =>
    refine StepS.read [] (by kernel_rfl) (SeqN.pass (by decide)) (by rfl) (fun L9 m9 w9 hSh hAt hDn hS => ?_)
    have hK : Kept w5 w9 (w.heap.size + 2) w5.heap.size := SeqN.any (T := fun w9 => Kept w5 w9 (w.heap.size + 2) w5.heap.size) (fun j _ _ h => by match j, h with | 0, h => exact h.1 | 1, h => exact h.1 | 2, h => exact h.1 | 3, h => exact h.1 | 4, h => exact h.1 | _ + 5, h => exact h.1) hS
    have hT : Blk w9 (w.heap.size + 1) 26 #[.int .u64 sent, .slice A m c] := HN.out.kp hK (by omega) (by omega)
    have x0 : w9.cell? ⟨(w.heap.size + 1), 0, none⟩ = some (.int .u64 sent) := hT.cell 0
    have x1 : w9.cell? ⟨(w.heap.size + 1), 1, none⟩ = some (.slice A m c) := hT.cell 1
    clear hT hK hS
    go_simp
    try rfl
  try simp only [Act.put, List.setIfInBounds_toArray, List.set_cons_zero, List.set_cons_succ]
  refine Ps.step (i := 1) (d := some 100) (u := ?uwq_29) rfl rfl (by kernel_rfl) (by kernel_rfl) (by kernel_rfl) (by kernel_rfl) ?ywq_29 ?rwq_29
  case ywq_29 =>
    refine StepS.read [] (by kernel_rfl) (SeqN.pass (by decide)) (by rfl) (fun L9 m9 w9 hSh hAt hDn hS => ?_)
    have hK : Kept w5 w9 (w.heap.size + 2) w5.heap.size := SeqN.any (T := fun w9 => Kept w5 w9 (w.heap.size + 2) w5.heap.size) (fun j _ _ h => by match j, h with | 0, h => exact h.1 | 1, h => exact h.1 | 2, h => exact h.1 | 3, h => exact h.1 | 4, h => exact h.1 | _ + 5, h => exact h.1) hS
    have hT : Blk w9 w.heap.size 49 #[.int .i64 k, .int .i64 f, .int .i64 t, .int .i64 a, .int .i64 p, .bool ot, vb y, .slice oA on oc] := HO.out.kp hK (by omega) (by omega)
    have x0 : w9.cell? ⟨w.heap.size, 0, none⟩ = some (.int .i64 k) := hT.cell 0
    have x1 : w9.cell? ⟨w.heap.size, 1, none⟩ = some (.int .i64 f) := hT.cell 1
    have x2 : w9.cell? ⟨w.heap.size, 2, none⟩ = some (.int .i64 t) := hT.cell 2
    have x3 : w9.cell? ⟨w.heap.size, 3, none⟩ = some (.int .i64 a) := hT.cell 3
    have x4 : w9.cell? ⟨w.heap.size, 4, none⟩ = some (.int .i64 p) := hT.cell 4
    have x5 : w9.cell? ⟨w.heap.size, 5, none⟩ = some (.bool ot) := hT.cell 5
    have x6 : w9.cell? ⟨w.heap.size, 6, none⟩ = some (vb y) := hT.cell 6
    have x7 : w9.cell? ⟨w.heap.size, 7, none⟩ = some (.slice oA on oc) := hT.cell 7
    clear hT hK hS
    go_simp
    try rfl
  try simp only [Act.put, List.setIfInBounds_toArray, List.set_cons_zero, List.set_cons_succ]
  refine Ps.step (i := 2) (d := some 101) (u := ?uwq_30) rfl rfl (by kernel_rfl) (by kernel_rfl) (by kernel_rfl) (by kernel_rfl) ?ywq_30 ?rwq_30
  case ywq_30 =>
    refine StepS.read [] (by kernel_rfl) (SeqN.pass (by decide)) (by rfl) (fun L9 m9 w9 hSh hAt hDn hS => ?_)
    have hK : Kept w5 w9 (w.heap.size + 2) w5.heap.size := SeqN.any (T := fun w9 => Kept w5 w9 (w.heap.size + 2) w5.heap.size) (fun j _ _ h => by match j, h with | 0, h => exact h.1 | 1, h => exact h.1 | 2, h => exact h.1 | 3, h => exact h.1 | 4, h => exact h.1 | _ + 5, h => exact h.1) hS
    have hT : Blk w9 (w.heap.size + 1) 26 #[.int .u64 sent, .slice A m c] := HN.out.kp hK (by omega) (by omega)
    have x0 : w9.cell? ⟨(w.heap.size + 1), 0, none⟩ = some (.int .u64 sent) := hT.cell 0
    have x1 : w9.cell? ⟨(w.heap.size + 1), 1, none⟩ = some (.slice A m c) := hT.cell 1
    clear hT hK hS
    go_simp
    try rfl
  try simp only [Act.put, List.setIfInBounds_toArray, List.set_cons_zero, List.set_cons_succ]
  refine Ps.step (i := 3) (d := some 102) (u := (.int .u64 x)) rfl rfl (by kernel_rfl) (by kernel_rfl) (by kernel_rfl) (by kernel_rfl) ?ywq_31 ?rwq_31
  case ywq_31 =>
    refine StepS.call ?fwq_31 ?awq_31 [] (by kernel_rfl) (by rfl) (fun w9 => ?hwq_31) (fun L9 m9 w9 hSh hAt hDn hS => ?cwq_31)
    case hwq_31 => go_simp; refine ⟨?_, ?_⟩ <;> rfl
    case cwq_31 =>
      have hC := SeqN.at_ [] [4, 10, 12, 14] hSh hAt hDn (by kernel_rfl) hS
      refine (HNU.out w9 (rd_kp HR.out hC.1 (by omega) (by omega))).mono ?_
      rintro e w8 ⟨rfl, q8⟩
      refine ⟨rfl, SeqN.set_ [] [4, 10, 12, 14] hSh hAt hDn (by kernel_rfl) (by decide) (by decide) ⟨hC.1.trans (Kept.of_below q8 hC.1.size), hC.2.ca q8⟩⟩
  try simp only [Act.put, List.setIfInBounds_toArray, List.set_cons_zero, List.set_cons_succ]
  refine Ps.one (k := 4) (d := some 103) rfl rfl (by kernel_rfl) (TurnS.call (V := fun v => ∃ A2 m2 c2, v = Value.tuple #[.agg #[.int .u64 s, .slice A2 m2 c2], .int .u64 s, .int .i64 E]) ?fwq_32 ?awq_32 [3] (by kernel_rfl) (by rfl) (fun w9 => ?hwq_32) (fun L9 m9 w9 hSh hAt hDn hS => ?cwq_32)) (fun v4 hVv4 => ?rwq_32)
  case hwq_32 => go_simp; refine ⟨?_, ?_⟩ <;> rfl
  case cwq_32 =>
    have hC := SeqN.at_ [3] [10, 12, 14] hSh hAt hDn (by kernel_rfl) hS
    have hCA := HCO.out w9 (rd_kp HR.out hC.1 (by omega) (by omega))
    refine hCA.mono ?_
    rintro e w8 ⟨A2, m2, c2, rfl, ho, q8⟩
    have hs9 := hC.1.size
    have HSEP : Sep w8 w5.heap.size ⟨s, l, s, zeroPC, 0, E⟩ A2 m2 c2 none 0 0 := Sep.less (Sep.ofN ho _ _ _ _) hs9
    exact ⟨_, rfl, ⟨A2, m2, c2, rfl⟩, SeqN.set_ [3] [10, 12, 14] hSh hAt hDn (by kernel_rfl) (by decide) (by decide) ⟨hC.1.trans (Kept.of_below q8 hC.1.size), A2, m2, c2, upd_same _ _ _, HSEP, hC.2.ca q8⟩⟩
  try simp only [Act.put, List.setIfInBounds_toArray, List.set_cons_zero, List.set_cons_succ]
  obtain ⟨A2, m2, c2, rfl⟩ := hVv4
  refine Ps.step (i := 5) (d := some 98) (u := ?uwq_33) rfl rfl (by kernel_rfl) (by kernel_rfl) (by kernel_rfl) (by kernel_rfl) ?ywq_33 ?rwq_33
  case ywq_33 =>
    refine StepS.pure (SeqN.pass (by decide)) (by rfl) (fun w9 => ?_)
    go_simp
    try rfl
  try simp only [Act.put, List.setIfInBounds_toArray, List.set_cons_zero, List.set_cons_succ]
  refine Ps.step (i := 6) (d := some 104) (u := ?uwq_34) rfl rfl (by kernel_rfl) (by kernel_rfl) (by kernel_rfl) (by kernel_rfl) ?ywq_34 ?rwq_34
  case ywq_34 =>
    refine StepS.pure (SeqN.pass (by decide)) (by rfl) (fun w9 => ?_)
    go_simp
    try rfl
  try simp only [Act.put, List.setIfInBounds_toArray, List.set_cons_zero, List.set_cons_succ]
  refine Ps.step (i := 7) (d := some 105) (u := ?uwq_35) rfl rfl (by kernel_rfl) (by kernel_rfl) (by kernel_rfl) (by kernel_rfl) ?ywq_35 ?rwq_35
  case ywq_35 =>
    refine StepS.pure (SeqN.pass (by decide)) (by rfl) (fun w9 => ?_)
    go_simp
    try rfl
  try simp only [Act.put, List.setIfInBounds_toArray, List.set_cons_zero, List.set_cons_succ]
  refine Ps.step (i := 8) (d := some 106) (u := ?uwq_36) rfl rfl (by kernel_rfl) (by kernel_rfl) (by kernel_rfl) (by kernel_rfl) ?ywq_36 ?rwq_36
  case ywq_36 =>
    refine StepS.pure (SeqN.pass (by decide)) (by rfl) (fun w9 => ?_)
    go_simp
    try rfl
  try simp only [Act.put, List.setIfInBounds_toArray, List.set_cons_zero, List.set_cons_succ]
  refine Ps.step (i := 9) (d := some 107) (u := ?uwq_37) rfl rfl (by kernel_rfl) (by kernel_rfl) (by kernel_rfl) (by kernel_rfl) ?ywq_37 ?rwq_37
  case ywq_37 =>
    refine StepS.pure (SeqN.pass (by decide)) (by rfl) (fun w9 => ?_)
    go_simp
    try rfl
  try simp only [Act.put, List.setIfInBounds_toArray, List.set_cons_zero, List.set_cons_succ]
  refine Ps.step (i := 10) (d := none) (u := undef) rfl rfl (by kernel_rfl) (by kernel_rfl) (by kernel_rfl) (by kernel_rfl) ?ywq_38 ?rwq_38
  case ywq_38 =>
    refine StepS.store [3, 4] (by kernel_rfl) (by rfl) (fun L9 m9 w9 hSh hAt hDn hS => ?_)
    obtain ⟨hK, A2', m2', c2', hm4, hsep, hB⟩ := SeqN.at_ [3, 4] [12, 14] hSh hAt hDn (by kernel_rfl) hS
    obtain ⟨rfl, rfl, rfl⟩ := inj_n3 ((hAt 4 (by simp)).2.symm.trans hm4)
    refine (exec_store_part (w := w9) 26 (.tmp 107) (.tmp 104) (by rfl) (w.heap.size + 2) 0 51 #[.int .u64 0, .slice none 0 0, .int .u64 0, .int .u64 0, .int .i64 0, .int .i64 0, .slice none 0 0, .bool false, .int .i64 0, .int .i64 0] #[.int .u64 s, .slice A2 m2 c2] #[.int .u64 s, .slice A2 m2 c2, .int .u64 0, .int .u64 0, .int .i64 0, .int .i64 0, .slice none 0 0, .bool false, .int .i64 0, .int .i64 0] (by rfl) (by rfl) hB (by simp) netI (by simp [Value.oneCell']) (by rfl)).imp fun w7 hx => ⟨hx.1, SeqN.set_ [3, 4] [12, 14] hSh hAt hDn (by kernel_rfl) (by decide) (by decide) ⟨hK.trans (Kept.of_grown hx.2.2 hK.size (.inl rfl)), A2, m2, c2, hm4, hsep.kept hx.2.2 (by omega), hx.2.1⟩⟩
  try simp only [Act.put]
  refine Ps.step (i := 11) (d := some 108) (u := ?uwq_39) rfl rfl (by kernel_rfl) (by kernel_rfl) (by kernel_rfl) (by kernel_rfl) ?ywq_39 ?rwq_39
  case ywq_39 =>
    refine StepS.pure (SeqN.pass (by decide)) (by rfl) (fun w9 => ?_)
    go_simp
    try rfl
  try simp only [Act.put, List.setIfInBounds_toArray, List.set_cons_zero, List.set_cons_succ]
  refine Ps.step (i := 12) (d := none) (u := undef) rfl rfl (by kernel_rfl) (by kernel_rfl) (by kernel_rfl) (by kernel_rfl) ?ywq_40 ?rwq_40
  case ywq_40 =>
    refine StepS.store [3, 4, 10] (by kernel_rfl) (by rfl) (fun L9 m9 w9 hSh hAt hDn hS => ?_)
    obtain ⟨hK, A2', m2', c2', hm4, hsep, hB⟩ := SeqN.at_ [3, 4, 10] [14] hSh hAt hDn (by kernel_rfl) hS
    obtain ⟨rfl, rfl, rfl⟩ := inj_n3 ((hAt 4 (by simp)).2.symm.trans hm4)
    have xc : w9.cell? ⟨w.heap.size + 2, 2, none⟩ = some (.int .u64 0) := hB.cell 2
    have fx : w9.frozen? ⟨w.heap.size + 2, 2, none⟩ = false := hB.frozen 2
    have hB2 : Blk (w9.setCell ⟨w.heap.size + 2, 2, none⟩ (.int .u64 s)) (w.heap.size + 2) 51 #[.int .u64 s, .slice A2 m2 c2, .int .u64 s, .int .u64 0, .int .i64 0, .int .i64 0, .slice none 0 0, .bool false, .int .i64 0, .int .i64 0] := by simpa using hB.set_ 2 (.int .u64 s)
    have hg2 : w9.grownBy (w9.setCell ⟨w.heap.size + 2, 2, none⟩ (.int .u64 s)) (some (w.heap.size + 2)) := only_setCell (World.grownBy.refl _ _) (.inl rfl) _
    refine ⟨w9.setCell ⟨w.heap.size + 2, 2, none⟩ (.int .u64 s), ?_, SeqN.set_ [3, 4, 10] [14] hSh hAt hDn (by kernel_rfl) (by decide) (by decide) ⟨hK.trans (Kept.of_grown hg2 hK.size (.inl rfl)), A2, m2, c2, hm4, hsep.kept hg2 (by omega), hB2⟩⟩
    clear hB hB2 hg2 hS hK hsep hm4
    go_simp
  try simp only [Act.put]
  refine Ps.step (i := 13) (d := some 109) (u := ?uwq_41) rfl rfl (by kernel_rfl) (by kernel_rfl) (by kernel_rfl) (by kernel_rfl) ?ywq_41 ?rwq_41
  case ywq_41 =>
    refine StepS.pure (SeqN.pass (by decide)) (by rfl) (fun w9 => ?_)
    go_simp
    try rfl
  try simp only [Act.put, List.setIfInBounds_toArray, List.set_cons_zero, List.set_cons_succ]
  refine Ps.step (i := 14) (d := none) (u := undef) rfl rfl (by kernel_rfl) (by kernel_rfl) (by kernel_rfl) (by kernel_rfl) ?ywq_42 ?rwq_42
  case ywq_42 =>
    refine StepS.store [3, 4, 10, 12] (by kernel_rfl) (by rfl) (fun L9 m9 w9 hSh hAt hDn hS => ?_)
    obtain ⟨hK, A2', m2', c2', hm4, hsep, hB⟩ := SeqN.at_ [3, 4, 10, 12] [] hSh hAt hDn (by kernel_rfl) hS
    obtain ⟨rfl, rfl, rfl⟩ := inj_n3 ((hAt 4 (by simp)).2.symm.trans hm4)
    have xc : w9.cell? ⟨w.heap.size + 2, 9, none⟩ = some (.int .i64 0) := hB.cell 9
    have fx : w9.frozen? ⟨w.heap.size + 2, 9, none⟩ = false := hB.frozen 9
    have hB2 : Blk (w9.setCell ⟨w.heap.size + 2, 9, none⟩ (.int .i64 E)) (w.heap.size + 2) 51 #[.int .u64 s, .slice A2 m2 c2, .int .u64 s, .int .u64 0, .int .i64 0, .int .i64 0, .slice none 0 0, .bool false, .int .i64 0, .int .i64 E] := by simpa using hB.set_ 9 (.int .i64 E)
    have hg2 : w9.grownBy (w9.setCell ⟨w.heap.size + 2, 9, none⟩ (.int .i64 E)) (some (w.heap.size + 2)) := only_setCell (World.grownBy.refl _ _) (.inl rfl) _
    refine ⟨w9.setCell ⟨w.heap.size + 2, 9, none⟩ (.int .i64 E), ?_, SeqN.set_ [3, 4, 10, 12] [] hSh hAt hDn (by kernel_rfl) (by decide) (by decide) ⟨hK.trans (Kept.of_grown hg2 hK.size (.inl rfl)), A2, m2, c2, hm4, hsep.kept hg2 (by omega), hB2⟩⟩
    clear hB hB2 hg2 hS hK hsep hm4
    go_simp
  try simp only [Act.put]
  refine Ps.done (by kernel_rfl) (fun wq hS => ?_) _
  obtain ⟨hK, A2', m2', c2', hm4, hsep, hB⟩ := SeqN.fin (by rfl) hS
  clear hS
  obtain ⟨rfl, rfl, rfl⟩ := inj_n3 hm4
  clear hm4
  go_wp2_with (first | (refine wpList_load_blk rfl 51 (.tmp 4) rfl (w.heap.size + 2) rfl 51 #[.int .u64 s, .slice A2 m2 c2, .int .u64 s, .int .u64 0, .int .i64 0, .int .i64 0, .slice none 0 0, .bool false, .int .i64 0, .int .i64 E] _ hB Try.underlying51 rfl toldI ?_) | (refine wpList_store_blk rfl 51 (.tmp 4) (.tmp 110) rfl (w.heap.size + 2) 51 #[.int .u64 s, .slice A2 m2 c2, .int .u64 s, .int .u64 0, .int .i64 0, .int .i64 0, .slice none 0 0, .bool false, .int .i64 0, .int .i64 E] #[.int .u64 s, .slice A2 m2 c2, .int .u64 s, .int .u64 0, .int .i64 0, .int .i64 0, .slice none 0 0, .bool false, .int .i64 0, .int .i64 E] rfl rfl hB rfl toldI (by simp [Value.oneCell']) ?_; intro wz hZ gz))
  exact bodyPost_ret (res1 Try.results22 rfl hZ Try.underlying51 rfl toldI) rfl ⟨_, _, _, _, _, _, rfl, (hsep.kept gz (by omega)).less (by omega), bl_gr (hK.below BB.out (by omega) (by omega)) gz (by omega)⟩
end Go.Proofs.Ytnbcffnhgijmcaa
/- An op that is Spoil is run. Conditions: the net's slice reads as these parcels. -/
namespace Go.Proofs.Ytnbcffnhgijmcaa
open Go.RowKit
set_option maxRecDepth 100000 in
set_option maxHeartbeats 16000000 in
theorem run_spoil (o : OpC) (oA : Option Addr) (on oc : Nat) (sent : Int) (A : Option Addr) (m c : Nat) (ps : List PC) (w : World) (hk : kindI o = 7) (h : LP.rd w AllB A m ps) (hm : m ≤ 9223372036854775807) :
    Calls Try.prog 22 #[.agg (o.cells oA on oc), .agg #[.int .u64 sent, .slice A m c]] w (RunC w ⟨(spoilR sent ps (numI o ps) o.place o.by_).1, (spoilR sent ps (numI o ps) o.place o.by_).2, 0, zeroPC, 0, spoilE sent ps (numI o ps) o.place o.by_⟩) := by
  have HK := Lib.hid (fun w => kind_any o oA on oc w)
  rw [hk] at HK
  clear hk
  obtain ⟨k, f, t, a, p, ot, y, bs⟩ := o
  obtain ⟨x, hx⟩ : ∃ x, x = numI ⟨k, f, t, a, p, ot, y, bs⟩ ps := ⟨_, rfl⟩
  have HNU := Lib.hid (fun W h => num_any ⟨k, f, t, a, p, ot, y, bs⟩ oA on oc sent A m c ps W h hm)
  rw [← hx] at HNU
  rw [← hx]
  clear hx
  obtain ⟨s, hs⟩ : ∃ s, s = (spoilR sent ps x p y).1 := ⟨_, rfl⟩
  obtain ⟨l, hl⟩ : ∃ l, l = (spoilR sent ps x p y).2 := ⟨_, rfl⟩
  obtain ⟨E, hE⟩ : ∃ E, E = spoilE sent ps x p y := ⟨_, rfl⟩
  dsimp only at hs hl hE ⊢
  have HCO := Lib.hid (fun W h => spoil_any sent A m c ps x p y W h hm)
  rw [← hs, ← hl, ← hE] at HCO
  rw [← hs, ← hl, ← hE]
  clear hs hl hE
  replace h := Lay.rd_weak (G := Old w) (fun b _ hb => hb) h
  have bb := Below.refl w.heap.size w
  have bO := Blk.new w 49 #[.int .i64 k, .int .i64 f, .int .i64 t, .int .i64 a, .int .i64 p, .bool ot, vb y, .slice oA on oc]
  replace bb := bl_al bb (.cells #[.int .i64 k, .int .i64 f, .int .i64 t, .int .i64 a, .int .i64 p, .bool ot, vb y, .slice oA on oc] 49)
  replace bO := bO.ca (bl_al (Below.refl _ _) (.cells #[.int .u64 sent, .slice A m c] 26))
  have bN : Blk ((w.alloc (.cells #[.int .i64 k, .int .i64 f, .int .i64 t, .int .i64 a, .int .i64 p, .bool ot, vb y, .slice oA on oc] 49)).alloc (.cells #[.int .u64 sent, .slice A m c] 26)) (w.heap.size + 1) 26 #[.int .u64 sent, .slice A m c] := Blk.mk' (by simp only [World.size_alloc])
  replace bb := bl_al bb (.cells #[.int .u64 sent, .slice A m c] 26)
  replace bO := bO.ca (bl_al (Below.refl _ _) (.cells #[.int .u64 0, .slice none 0 0, .int .u64 0, .int .u64 0, .int .i64 0, .int .i64 0, .slice none 0 0, .bool false, .int .i64 0, .int .i64 0] 51))
  replace bN := bN.ca (bl_al (Below.refl _ _) (.cells #[.int .u64 0, .slice none 0 0, .int .u64 0, .int .u64 0, .int .i64 0, .int .i64 0, .slice none 0 0, .bool false, .int .i64 0, .int .i64 0] 51))
  have bT : Blk (((w.alloc (.cells #[.int .i64 k, .int .i64 f, .int .i64 t, .int .i64 a, .int .i64 p, .bool ot, vb y, .slice oA on oc] 49)).alloc (.cells #[.int .u64 sent, .slice A m c] 26)).alloc (.cells #[.int .u64 0, .slice none 0 0, .int .u64 0, .int .u64 0, .int .i64 0, .int .i64 0, .slice none 0 0, .bool false, .int .i64 0, .int .i64 0] 51)) (w.heap.size + 2) 51 #[.int .u64 0, .slice none 0 0, .int .u64 0, .int .u64 0, .int .i64 0, .int .i64 0, .slice none 0 0, .bool false, .int .i64 0, .int .i64 0] := Blk.mk' (by simp only [World.size_alloc])
  replace bb := bl_al bb (.cells #[.int .u64 0, .slice none 0 0, .int .u64 0, .int .u64 0, .int .i64 0, .int .i64 0, .slice none 0 0, .bool false, .int .i64 0, .int .i64 0] 51)
  have hsz : w.heap.size + 3 ≤ (((w.alloc (.cells #[.int .i64 k, .int .i64 f, .int .i64 t, .int .i64 a, .int .i64 p, .bool ot, vb y, .slice oA on oc] 49)).alloc (.cells #[.int .u64 sent, .slice A m c] 26)).alloc (.cells #[.int .u64 0, .slice none 0 0, .int .u64 0, .int .u64 0, .int .i64 0, .int .i64 0, .slice none 0 0, .bool false, .int .i64 0, .int .i64 0] 51)).heap.size := by simp only [World.size_alloc]; omega
  have HR1 := Lib.hid (Lay.rd_below h bb)
  clear h
  go_enter Try.func22, Try.ntmps22
  go_wp2_with fail
  generalize (((w.alloc (.cells #[.int .i64 k, .int .i64 f, .int .i64 t, .int .i64 a, .int .i64 p, .bool ot, vb y, .slice oA on oc] 49)).alloc (.cells #[.int .u64 sent, .slice A m c] 26)).alloc (.cells #[.int .u64 0, .slice none 0 0, .int .u64 0, .int .u64 0, .int .i64 0, .int .i64 0, .slice none 0 0, .bool false, .int .i64 0, .int .i64 0] 51)) = w1 at *
  refine (HK.out _).mono ?_
  rintro e w5 ⟨rfl, q5⟩
  have HO := Lib.hid (bO.ca q5)
  have HN := Lib.hid (bN.ca q5)
  have HT := Lib.hid (bT.ca q5)
  have HR := Lib.hid (Lay.rd_below HR1.out q5)
  have BB := Lib.hid (bl_ca bb q5)
  have hs5 := Nat.le_trans hsz q5.size
  clear bO bN bT bb q5 HR1 HK
  go_wp2_with fail
  refine wp_region_ps (S := SeqN [3, 8, 13, 15] (fun j m w' => match j with | 0 => Kept w5 w' (w.heap.size + 2) w5.heap.size ∧ Blk w' (w.heap.size + 2) 51 #[.int .u64 0, .slice none 0 0, .int .u64 0, .int .u64 0, .int .i64 0, .int .i64 0, .slice none 0 0, .bool false, .int .i64 0, .int .i64 0] | 1 => Kept w5 w' (w.heap.size + 2) w5.heap.size ∧ Blk w' (w.heap.size + 2) 51 #[.int .u64 0, .slice none 0 0, .int .u64 0, .int .u64 0, .int .i64 0, .int .i64 0, .slice none 0 0, .bool false, .int .i64 0, .int .i64 0] | 2 => Kept w5 w' (w.heap.size + 2) w5.heap.size ∧ ∃ A2 m2 c2, m 8 = Value.tuple #[.agg #[.int .u64 s, .slice A2 m2 c2], .int .i64 E] ∧ Sep w' w5.heap.size ⟨s, l, 0, zeroPC, 0, E⟩ A2 m2 c2 none 0 0 ∧ Blk w' (w.heap.size + 2) 51 #[.int .u64 0, .slice none 0 0, .int .u64 0, .int .u64 0, .int .i64 0, .int .i64 0, .slice none 0 0, .bool false, .int .i64 0, .int .i64 0] | 3 => Kept w5 w' (w.heap.size + 2) w5.heap.size ∧ ∃ A2 m2 c2, m 8 = Value.tuple #[.agg #[.int .u64 s, .slice A2 m2 c2], .int .i64 E] ∧ Sep w' w5.heap.size ⟨s, l, 0, zeroPC, 0, E⟩ A2 m2 c2 none 0 0 ∧ Blk w' (w.heap.size + 2) 51 #[.int .u64 s, .slice A2 m2 c2, .int .u64 0, .int .u64 0, .int .i64 0, .int .i64 0, .slice none 0 0, .bool false, .int .i64 0, .int .i64 0] | _ => Kept w5 w' (w.heap.size + 2) w5.heap.size ∧ ∃ A2 m2 c2, m 8 = Value.tuple #[.agg #[.int .u64 s, .slice A2 m2 c2], .int .i64 E] ∧ Sep w' w5.heap.size ⟨s, l, 0, zeroPC, 0, E⟩ A2 m2 c2 none 0 0 ∧ Blk w' (w.heap.size + 2) 51 #[.int .u64 s, .slice A2 m2 c2, .int .u64 0, .int .u64 0, .int .i64 0, .int .i64 0, .slice none 0 0, .bool false, .int .i64 0, .int .i64 E])) (by kernel_rfl) ?spswq ?ppswq
  case spswq =>
    exact SeqN.start (by decide) ⟨Kept.of_below (Below.refl _ _).drew (Nat.le_refl _), HT.out.ca (Below.refl _ _).drew⟩
  refine Ps.step (i := 0) (d := some 10) (u := ?uwq_43) rfl rfl (by kernel_rfl) (by kernel_rfl) (by kernel_rfl) (by kernel_rfl) ?ywq_43 ?rwq_43
  case ywq_43 =>
    refine StepS.read [] (by kernel_rfl) (SeqN.pass (by decide)) (by rfl) (fun L9 m9 w9 hSh hAt hDn hS => ?_)
    have hK : Kept w5 w9 (w.heap.size + 2) w5.heap.size := SeqN.any (T := fun w9 => Kept w5 w9 (w.heap.size + 2) w5.heap.size) (fun j _ _ h => by match j, h with | 0, h => exact h.1 | 1, h => exact h.1 | 2, h => exact h.1 | 3, h => exact h.1 | _ + 4, h => exact h.1) hS
    have hT : Blk w9 (w.heap.size + 1) 26 #[.int .u64 sent, .slice A m c] := HN.out.kp hK (by omega) (by omega)
    have x0 : w9.cell? ⟨(w.heap.size + 1), 0, none⟩ = some (.int .u64 sent) := hT.cell 0
    have x1 : w9.cell? ⟨(w.heap.size + 1), 1, none⟩ = some (.slice A m c) := hT.cell 1
    clear hT hK hS
    go_simp
    try rfl
  try simp only [Act.put, List.setIfInBounds_toArray, List.set_cons_zero, List.set_cons_succ]
  refine Ps.step (i := 1) (d := some 11) (u := ?uwq_44) rfl rfl (by kernel_rfl) (by kernel_rfl) (by kernel_rfl) (by kernel_rfl) ?ywq_44 ?rwq_44
  case ywq_44 =>
    refine StepS.read [] (by kernel_rfl) (SeqN.pass (by decide)) (by rfl) (fun L9 m9 w9 hSh hAt hDn hS => ?_)
    have hK : Kept w5 w9 (w.heap.size + 2) w5.heap.size := SeqN.any (T := fun w9 => Kept w5 w9 (w.heap.size + 2) w5.heap.size) (fun j _ _ h => by match j, h with | 0, h => exact h.1 | 1, h => exact h.1 | 2, h => exact h.1 | 3, h => exact h.1 | _ + 4, h => exact h.1) hS
    have hT : Blk w9 w.heap.size 49 #[.int .i64 k, .int .i64 f, .int .i64 t, .int .i64 a, .int .i64 p, .bool ot, vb y, .slice oA on oc] := HO.out.kp hK (by omega) (by omega)
    have x0 : w9.cell? ⟨w.heap.size, 0, none⟩ = some (.int .i64 k) := hT.cell 0
    have x1 : w9.cell? ⟨w.heap.size, 1, none⟩ = some (.int .i64 f) := hT.cell 1
    have x2 : w9.cell? ⟨w.heap.size, 2, none⟩ = some (.int .i64 t) := hT.cell 2
    have x3 : w9.cell? ⟨w.heap.size, 3, none⟩ = some (.int .i64 a) := hT.cell 3
    have x4 : w9.cell? ⟨w.heap.size, 4, none⟩ = some (.int .i64 p) := hT.cell 4
    have x5 : w9.cell? ⟨w.heap.size, 5, none⟩ = some (.bool ot) := hT.cell 5
    have x6 : w9.cell? ⟨w.heap.size, 6, none⟩ = some (vb y) := hT.cell 6
    have x7 : w9.cell? ⟨w.heap.size, 7, none⟩ = some (.slice oA on oc) := hT.cell 7
    clear hT hK hS
    go_simp
    try rfl
  try simp only [Act.put, List.setIfInBounds_toArray, List.set_cons_zero, List.set_cons_succ]
  refine Ps.step (i := 2) (d := some 12) (u := ?uwq_45) rfl rfl (by kernel_rfl) (by kernel_rfl) (by kernel_rfl) (by kernel_rfl) ?ywq_45 ?rwq_45
  case ywq_45 =>
    refine StepS.read [] (by kernel_rfl) (SeqN.pass (by decide)) (by rfl) (fun L9 m9 w9 hSh hAt hDn hS => ?_)
    have hK : Kept w5 w9 (w.heap.size + 2) w5.heap.size := SeqN.any (T := fun w9 => Kept w5 w9 (w.heap.size + 2) w5.heap.size) (fun j _ _ h => by match j, h with | 0, h => exact h.1 | 1, h => exact h.1 | 2, h => exact h.1 | 3, h => exact h.1 | _ + 4, h => exact h.1) hS
    have hT : Blk w9 (w.heap.size + 1) 26 #[.int .u64 sent, .slice A m c] := HN.out.kp hK (by omega) (by omega)
    have x0 : w9.cell? ⟨(w.heap.size + 1), 0, none⟩ = some (.int .u64 sent) := hT.cell 0
    have x1 : w9.cell? ⟨(w.heap.size + 1), 1, none⟩ = some (.slice A m c) := hT.cell 1
    clear hT hK hS
    go_simp
    try rfl
  try simp only [Act.put, List.setIfInBounds_toArray, List.set_cons_zero, List.set_cons_succ]
  refine Ps.step (i := 3) (d := some 13) (u := (.int .u64 x)) rfl rfl (by kernel_rfl) (by kernel_rfl) (by kernel_rfl) (by kernel_rfl) ?ywq_46 ?rwq_46
  case ywq_46 =>
    refine StepS.call ?fwq_46 ?awq_46 [] (by kernel_rfl) (by rfl) (fun w9 => ?hwq_46) (fun L9 m9 w9 hSh hAt hDn hS => ?cwq_46)
    case hwq_46 => go_simp; refine ⟨?_, ?_⟩ <;> rfl
    case cwq_46 =>
      have hC := SeqN.at_ [] [8, 13, 15] hSh hAt hDn (by kernel_rfl) hS
      refine (HNU.out w9 (rd_kp HR.out hC.1 (by omega) (by omega))).mono ?_
      rintro e w8 ⟨rfl, q8⟩
      refine ⟨rfl, SeqN.set_ [] [8, 13, 15] hSh hAt hDn (by kernel_rfl) (by decide) (by decide) ⟨hC.1.trans (Kept.of_below q8 hC.1.size), hC.2.ca q8⟩⟩
  try simp only [Act.put, List.setIfInBounds_toArray, List.set_cons_zero, List.set_cons_succ]
  refine Ps.step (i := 4) (d := some 14) (u := ?uwq_47) rfl rfl (by kernel_rfl) (by kernel_rfl) (by kernel_rfl) (by kernel_rfl) ?ywq_47 ?rwq_47
  case ywq_47 =>
    refine StepS.pure (SeqN.pass (by decide)) (by rfl) (fun w9 => ?_)
    go_simp
    try rfl
  try simp only [Act.put, List.setIfInBounds_toArray, List.set_cons_zero, List.set_cons_succ]
  refine Ps.step (i := 5) (d := some 15) (u := ?uwq_48) rfl rfl (by kernel_rfl) (by kernel_rfl) (by kernel_rfl) (by kernel_rfl) ?ywq_48 ?rwq_48
  case ywq_48 =>
    refine StepS.read [] (by kernel_rfl) (SeqN.pass (by decide)) (by rfl) (fun L9 m9 w9 hSh hAt hDn hS => ?_)
    have hK : Kept w5 w9 (w.heap.size + 2) w5.heap.size := SeqN.any (T := fun w9 => Kept w5 w9 (w.heap.size + 2) w5.heap.size) (fun j _ _ h => by match j, h with | 0, h => exact h.1 | 1, h => exact h.1 | 2, h => exact h.1 | 3, h => exact h.1 | _ + 4, h => exact h.1) hS
    have hT : Blk w9 w.heap.size 49 #[.int .i64 k, .int .i64 f, .int .i64 t, .int .i64 a, .int .i64 p, .bool ot, vb y, .slice oA on oc] := HO.out.kp hK (by omega) (by omega)
    have x4 : w9.cell? ⟨w.heap.size, 4, none⟩ = some (.int .i64 p) := hT.cell 4
    clear hT hK hS
    go_simp
    try rfl
  try simp only [Act.put, List.setIfInBounds_toArray, List.set_cons_zero, List.set_cons_succ]
  refine Ps.step (i := 6) (d := some 16) (u := ?uwq_49) rfl rfl (by kernel_rfl) (by kernel_rfl) (by kernel_rfl) (by kernel_rfl) ?ywq_49 ?rwq_49
  case ywq_49 =>
    refine StepS.pure (SeqN.pass (by decide)) (by rfl) (fun w9 => ?_)
    go_simp
    try rfl
  try simp only [Act.put, List.setIfInBounds_toArray, List.set_cons_zero, List.set_cons_succ]
  refine Ps.step (i := 7) (d := some 17) (u := ?uwq_50) rfl rfl (by kernel_rfl) (by kernel_rfl) (by kernel_rfl) (by kernel_rfl) ?ywq_50 ?rwq_50
  case ywq_50 =>
    refine StepS.read [] (by kernel_rfl) (SeqN.pass (by decide)) (by rfl) (fun L9 m9 w9 hSh hAt hDn hS => ?_)
    have hK : Kept w5 w9 (w.heap.size + 2) w5.heap.size := SeqN.any (T := fun w9 => Kept w5 w9 (w.heap.size + 2) w5.heap.size) (fun j _ _ h => by match j, h with | 0, h => exact h.1 | 1, h => exact h.1 | 2, h => exact h.1 | 3, h => exact h.1 | _ + 4, h => exact h.1) hS
    have hT : Blk w9 w.heap.size 49 #[.int .i64 k, .int .i64 f, .int .i64 t, .int .i64 a, .int .i64 p, .bool ot, vb y, .slice oA on oc] := HO.out.kp hK (by omega) (by omega)
    have x6 : w9.cell? ⟨w.heap.size, 6, none⟩ = some (vb y) := hT.cell 6
    clear hT hK hS
    go_simp
    try rfl
  try simp only [Act.put, List.setIfInBounds_toArray, List.set_cons_zero, List.set_cons_succ]
  refine Ps.one (k := 8) (d := some 18) rfl rfl (by kernel_rfl) (TurnS.call (V := fun v => ∃ A2 m2 c2, v = Value.tuple #[.agg #[.int .u64 s, .slice A2 m2 c2], .int .i64 E]) ?fwq_51 ?awq_51 [3] (by kernel_rfl) (by rfl) (fun w9 => ?hwq_51) (fun L9 m9 w9 hSh hAt hDn hS => ?cwq_51)) (fun v8 hVv8 => ?rwq_51)
  case hwq_51 => go_simp; refine ⟨?_, ?_⟩ <;> rfl
  case cwq_51 =>
    have hC := SeqN.at_ [3] [13, 15] hSh hAt hDn (by kernel_rfl) hS
    have hCA := HCO.out w9 (rd_kp HR.out hC.1 (by omega) (by omega))
    refine hCA.mono ?_
    rintro e w8 ⟨A2, m2, c2, rfl, ho, q8⟩
    have hs9 := hC.1.size
    have HSEP : Sep w8 w5.heap.size ⟨s, l, 0, zeroPC, 0, E⟩ A2 m2 c2 none 0 0 := Sep.less (Sep.ofN ho _ _ _ _) hs9
    exact ⟨_, rfl, ⟨A2, m2, c2, rfl⟩, SeqN.set_ [3] [13, 15] hSh hAt hDn (by kernel_rfl) (by decide) (by decide) ⟨hC.1.trans (Kept.of_below q8 hC.1.size), A2, m2, c2, upd_same _ _ _, HSEP, hC.2.ca q8⟩⟩
  try simp only [Act.put, List.setIfInBounds_toArray, List.set_cons_zero, List.set_cons_succ]
  obtain ⟨A2, m2, c2, rfl⟩ := hVv8
  refine Ps.step (i := 9) (d := some 9) (u := ?uwq_52) rfl rfl (by kernel_rfl) (by kernel_rfl) (by kernel_rfl) (by kernel_rfl) ?ywq_52 ?rwq_52
  case ywq_52 =>
    refine StepS.pure (SeqN.pass (by decide)) (by rfl) (fun w9 => ?_)
    go_simp
    try rfl
  try simp only [Act.put, List.setIfInBounds_toArray, List.set_cons_zero, List.set_cons_succ]
  refine Ps.step (i := 10) (d := some 19) (u := ?uwq_53) rfl rfl (by kernel_rfl) (by kernel_rfl) (by kernel_rfl) (by kernel_rfl) ?ywq_53 ?rwq_53
  case ywq_53 =>
    refine StepS.pure (SeqN.pass (by decide)) (by rfl) (fun w9 => ?_)
    go_simp
    try rfl
  try simp only [Act.put, List.setIfInBounds_toArray, List.set_cons_zero, List.set_cons_succ]
  refine Ps.step (i := 11) (d := some 20) (u := ?uwq_54) rfl rfl (by kernel_rfl) (by kernel_rfl) (by kernel_rfl) (by kernel_rfl) ?ywq_54 ?rwq_54
  case ywq_54 =>
    refine StepS.pure (SeqN.pass (by decide)) (by rfl) (fun w9 => ?_)
    go_simp
    try rfl
  try simp only [Act.put, List.setIfInBounds_toArray, List.set_cons_zero, List.set_cons_succ]
  refine Ps.step (i := 12) (d := some 21) (u := ?uwq_55) rfl rfl (by kernel_rfl) (by kernel_rfl) (by kernel_rfl) (by kernel_rfl) ?ywq_55 ?rwq_55
  case ywq_55 =>
    refine StepS.pure (SeqN.pass (by decide)) (by rfl) (fun w9 => ?_)
    go_simp
    try rfl
  try simp only [Act.put, List.setIfInBounds_toArray, List.set_cons_zero, List.set_cons_succ]
  refine Ps.step (i := 13) (d := none) (u := undef) rfl rfl (by kernel_rfl) (by kernel_rfl) (by kernel_rfl) (by kernel_rfl) ?ywq_56 ?rwq_56
  case ywq_56 =>
    refine StepS.store [3, 8] (by kernel_rfl) (by rfl) (fun L9 m9 w9 hSh hAt hDn hS => ?_)
    obtain ⟨hK, A2', m2', c2', hm4, hsep, hB⟩ := SeqN.at_ [3, 8] [15] hSh hAt hDn (by kernel_rfl) hS
    obtain ⟨rfl, rfl, rfl⟩ := inj_n2 ((hAt 8 (by simp)).2.symm.trans hm4)
    refine (exec_store_part (w := w9) 26 (.tmp 21) (.tmp 19) (by rfl) (w.heap.size + 2) 0 51 #[.int .u64 0, .slice none 0 0, .int .u64 0, .int .u64 0, .int .i64 0, .int .i64 0, .slice none 0 0, .bool false, .int .i64 0, .int .i64 0] #[.int .u64 s, .slice A2 m2 c2] #[.int .u64 s, .slice A2 m2 c2, .int .u64 0, .int .u64 0, .int .i64 0, .int .i64 0, .slice none 0 0, .bool false, .int .i64 0, .int .i64 0] (by rfl) (by rfl) hB (by simp) netI (by simp [Value.oneCell']) (by rfl)).imp fun w7 hx => ⟨hx.1, SeqN.set_ [3, 8] [15] hSh hAt hDn (by kernel_rfl) (by decide) (by decide) ⟨hK.trans (Kept.of_grown hx.2.2 hK.size (.inl rfl)), A2, m2, c2, hm4, hsep.kept hx.2.2 (by omega), hx.2.1⟩⟩
  try simp only [Act.put]
  refine Ps.step (i := 14) (d := some 22) (u := ?uwq_57) rfl rfl (by kernel_rfl) (by kernel_rfl) (by kernel_rfl) (by kernel_rfl) ?ywq_57 ?rwq_57
  case ywq_57 =>
    refine StepS.pure (SeqN.pass (by decide)) (by rfl) (fun w9 => ?_)
    go_simp
    try rfl
  try simp only [Act.put, List.setIfInBounds_toArray, List.set_cons_zero, List.set_cons_succ]
  refine Ps.step (i := 15) (d := none) (u := undef) rfl rfl (by kernel_rfl) (by kernel_rfl) (by kernel_rfl) (by kernel_rfl) ?ywq_58 ?rwq_58
  case ywq_58 =>
    refine StepS.store [3, 8, 13] (by kernel_rfl) (by rfl) (fun L9 m9 w9 hSh hAt hDn hS => ?_)
    obtain ⟨hK, A2', m2', c2', hm4, hsep, hB⟩ := SeqN.at_ [3, 8, 13] [] hSh hAt hDn (by kernel_rfl) hS
    obtain ⟨rfl, rfl, rfl⟩ := inj_n2 ((hAt 8 (by simp)).2.symm.trans hm4)
    have xc : w9.cell? ⟨w.heap.size + 2, 9, none⟩ = some (.int .i64 0) := hB.cell 9
    have fx : w9.frozen? ⟨w.heap.size + 2, 9, none⟩ = false := hB.frozen 9
    have hB2 : Blk (w9.setCell ⟨w.heap.size + 2, 9, none⟩ (.int .i64 E)) (w.heap.size + 2) 51 #[.int .u64 s, .slice A2 m2 c2, .int .u64 0, .int .u64 0, .int .i64 0, .int .i64 0, .slice none 0 0, .bool false, .int .i64 0, .int .i64 E] := by simpa using hB.set_ 9 (.int .i64 E)
    have hg2 : w9.grownBy (w9.setCell ⟨w.heap.size + 2, 9, none⟩ (.int .i64 E)) (some (w.heap.size + 2)) := only_setCell (World.grownBy.refl _ _) (.inl rfl) _
    refine ⟨w9.setCell ⟨w.heap.size + 2, 9, none⟩ (.int .i64 E), ?_, SeqN.set_ [3, 8, 13] [] hSh hAt hDn (by kernel_rfl) (by decide) (by decide) ⟨hK.trans (Kept.of_grown hg2 hK.size (.inl rfl)), A2, m2, c2, hm4, hsep.kept hg2 (by omega), hB2⟩⟩
    clear hB hB2 hg2 hS hK hsep hm4
    go_simp
  try simp only [Act.put]
  refine Ps.done (by kernel_rfl) (fun wq hS => ?_) _
  obtain ⟨hK, A2', m2', c2', hm4, hsep, hB⟩ := SeqN.fin (by rfl) hS
  clear hS
  obtain ⟨rfl, rfl, rfl⟩ := inj_n2 hm4
  clear hm4
  go_wp2_with (first | (refine wpList_load_blk rfl 51 (.tmp 4) rfl (w.heap.size + 2) rfl 51 #[.int .u64 s, .slice A2 m2 c2, .int .u64 0, .int .u64 0, .int .i64 0, .int .i64 0, .slice none 0 0, .bool false, .int .i64 0, .int .i64 E] _ hB Try.underlying51 rfl toldI ?_) | (refine wpList_store_blk rfl 51 (.tmp 4) (.tmp 110) rfl (w.heap.size + 2) 51 #[.int .u64 s, .slice A2 m2 c2, .int .u64 0, .int .u64 0, .int .i64 0, .int .i64 0, .slice none 0 0, .bool false, .int .i64 0, .int .i64 E] #[.int .u64 s, .slice A2 m2 c2, .int .u64 0, .int .u64 0, .int .i64 0, .int .i64 0, .slice none 0 0, .bool false, .int .i64 0, .int .i64 E] rfl rfl hB rfl toldI (by simp [Value.oneCell']) ?_; intro wz hZ gz))
  exact bodyPost_ret (res1 Try.results22 rfl hZ Try.underlying51 rfl toldI) rfl ⟨_, _, _, _, _, _, rfl, (hsep.kept gz (by omega)).less (by omega), bl_gr (hK.below BB.out (by omega) (by omega)) gz (by omega)⟩
end Go.Proofs.Ytnbcffnhgijmcaa
/- Op.run. Conditions: the net's slice reads as these parcels, the op's as these bytes. -/
namespace Go.Proofs.Ytnbcffnhgijmcaa
open Go.RowKit
def runT (o : OpC) (sent : Int) (ps : List PC) : Told :=
  if kindI o < 3 then ⟨(sendR sent ps o.frm o.to (bytesO o)).1, (sendR sent ps o.frm o.to (bytesO o)).2, (sendR sent ps o.frm o.to (bytesO o)).1, zeroPC, 0, sendE sent ps o.frm o.to (bytesO o)⟩
  else if kindI o = 3 then ⟨(comeR sent ps (numI o ps)).1, (comeR sent ps (numI o ps)).2, 0, comeP sent ps (numI o ps), 0, comeE sent ps (numI o ps)⟩
  else if kindI o = 4 then ⟨(comeR sent ps (numI o ps)).1, (comeR sent ps (numI o ps)).2, 0, zeroPC, 0, comeE sent ps (numI o ps)⟩
  else if kindI o = 5 then ⟨(dropR sent ps o.frm o.to).1, (dropR sent ps o.frm o.to).2, 0, zeroPC, dropG sent ps o.frm o.to, dropE sent ps o.frm o.to⟩
  else if kindI o = 6 then ⟨(twinR sent ps (numI o ps)).1, (twinR sent ps (numI o ps)).2, (twinR sent ps (numI o ps)).1, zeroPC, 0, twinE sent ps (numI o ps)⟩
  else ⟨(spoilR sent ps (numI o ps) o.place o.by_).1, (spoilR sent ps (numI o ps) o.place o.by_).2, 0, zeroPC, 0, spoilE sent ps (numI o ps) o.place o.by_⟩
theorem kind_cases (o : OpC) : kindI o = 0 ∨ kindI o = 1 ∨ kindI o = 2 ∨ kindI o = 3 ∨ kindI o = 4 ∨ kindI o = 5 ∨ kindI o = 6 ∨ kindI o = 7 := by
  unfold kindI
  omega
theorem run_any (o : OpC) (oA : Option Addr) (on oc : Nat) (sent : Int) (A : Option Addr) (m c : Nat) (ps : List PC) (w : World) (h : LP.rd w AllB A m ps) (hm : m ≤ 9223372036854775807) (hs0 : 0 ≤ sent) (hb : RdB w oA on o.bs) (hc1 : on ≤ oc) (hc2 : oc ≤ 9223372036854775807) :
    Calls Try.prog 22 #[.agg (o.cells oA on oc), .agg #[.int .u64 sent, .slice A m c]] w (RunC w (runT o sent ps)) := by
  rcases kind_cases o with k | k | k | k | k | k | k | k
  · rw [show runT o sent ps = _ from by unfold runT; rw [k, if_pos (by decide)]]
    exact run_send0 o oA on oc sent A m c ps w k h hm hs0 hb hc1 hc2
  · rw [show runT o sent ps = _ from by unfold runT; rw [k, if_pos (by decide)]]
    exact run_send1 o oA on oc sent A m c ps w k h hm hs0 hb hc1 hc2
  · rw [show runT o sent ps = _ from by unfold runT; rw [k, if_pos (by decide)]]
    exact run_send2 o oA on oc sent A m c ps w k h hm hs0 hb hc1 hc2
  · rw [show runT o sent ps = _ from by unfold runT; rw [k, if_neg (by decide), if_pos rfl]]
    exact run_come o oA on oc sent A m c ps w k h hm
  · rw [show runT o sent ps = _ from by unfold runT; rw [k, if_neg (by decide), if_neg (by decide), if_pos rfl]]
    exact run_lose o oA on oc sent A m c ps w k h hm
  · rw [show runT o sent ps = _ from by unfold runT; rw [k, if_neg (by decide), if_neg (by decide), if_neg (by decide), if_pos rfl]]
    exact run_drop o oA on oc sent A m c ps w k h hm
  · rw [show runT o sent ps = _ from by unfold runT; rw [k, if_neg (by decide), if_neg (by decide), if_neg (by decide), if_neg (by decide), if_pos rfl]]
    exact run_twin o oA on oc sent A m c ps w k h hm hs0
  · rw [show runT o sent ps = _ from by unfold runT; rw [k, if_neg (by decide), if_neg (by decide), if_neg (by decide), if_neg (by decide), if_neg (by decide)]]
    exact run_spoil o oA on oc sent A m c ps w k h hm
end Go.Proofs.Ytnbcffnhgijmcaa
/- bowspritref24.Drop. Conditions: the slice reads as these parcels, not too many. -/
namespace Go.Proofs.Ytnbcffnhgijmcaa
open Go.RowKit
def Mid (a b : Nat) : Nat → Prop := fun k => a ≤ k ∧ k < b
theorem El.ok_keep {w w' : World} {F : Nat → Prop} {e : El} (h : e.ok w F) (hk : ∀ b, F b → b < w.heap.size → w'.heap[b]? = w.heap[b]?) : e.ok w' F := ⟨Lay.rd_keep hk h.1, h.2⟩
theorem el_frs {w : World} {F G : Nat → Prop} {e : El} (hk : ∀ b, F b → G b) (h : e.ok w F) : e.ok w G := ⟨Lay.rd_weak (fun b hb _ => hk b hb) h.1, h.2⟩
def rdropE (f t : Int) : Int := if pairB f t then 0 else 2
def rdropR (sent : Int) (ps : List PC) (f t : Int) : Int × List PC := if pairB f t then (sent, ps.filter fun p => !dropB f t p) else (0, [])
set_option maxRecDepth 100000 in
set_option maxHeartbeats 16000000 in
theorem rdrop_any (sent : Int) (A : Option Addr) (m c : Nat) (ps : List PC) (f t : Int) (w : World) (h : LP.rd w AllB A m ps) (hm : m ≤ 20000) (hb : ∀ p ∈ ps, p.bs.length ≤ 100000) :
    Calls Try.prog 57 #[.agg #[.int .u64 sent, .slice A m c], .int .i64 f, .int .i64 t] w fun e w' => ∃ A2 m2 c2, e = .returned (.tuple #[.agg #[.int .u64 (rdropR sent ps f t).1, .slice A2 m2 c2], .int .i64 (goneI f t ps), .int .i64 (rdropE f t)]) ∧ LP.rd w' (fun b => w.heap.size ≤ b) A2 m2 (rdropR sent ps f t).2 ∧ Below w.heap.size w w' := by
  have HL := Lib.hid h.1
  have bb := Below.refl w.heap.size w
  have bN := Blk.new w 26 #[.int .u64 sent, .slice A m c]
  replace bb := bl_al bb (.cells #[.int .u64 sent, .slice A m c] 26)
  replace bN := bN.ca (bl_al (Below.refl _ _) (.cells #[.int .u64 0, .slice none 0 0] 26))
  have bR : Blk ((w.alloc (.cells #[.int .u64 sent, .slice A m c] 26)).alloc (.cells #[.int .u64 0, .slice none 0 0] 26)) (w.heap.size + 1) 26 #[.int .u64 0, .slice none 0 0] := Blk.mk' (by simp only [World.size_alloc])
  replace bb := bl_al bb (.cells #[.int .u64 0, .slice none 0 0] 26)
  have hsz : w.heap.size + 2 ≤ ((w.alloc (.cells #[.int .u64 sent, .slice A m c] 26)).alloc (.cells #[.int .u64 0, .slice none 0 0] 26)).heap.size := by simp only [World.size_alloc]; omega
  have HR := Lib.hid bR
  have HB := Lib.hid bb
  have HPA := Lib.hid (fun w => rpair_any f t w)
  have hrd := Lib.hid (Lay.rd_below h bb)
  cases hpb : pairB f t
  · rw [hpb] at HPA
    rw [show rdropE f t = 2 from by unfold rdropE; rw [hpb]; rfl, show rdropR sent ps f t = (0, []) from by unfold rdropR; rw [hpb]; rfl, show goneI f t ps = 0 from by unfold goneI; rw [hpb]; rfl]
    clear hpb bN bR bb h
    go_enter Try.func57, Try.ntmps57
    go_wp2_with fail
    refine (HPA.out _).mono ?_
    rintro e w1 ⟨rfl, rfl⟩
    go_wp2_with (refine wpList_store_blk rfl 26 (.tmp 6) (.tmp 17) rfl (w.heap.size + 1) 26 _ _ rfl rfl HR.out rfl netI (by simp [Value.oneCell']) ?_; intro wz hZ gz)
    exact bodyPost_ret (res3 Try.results57 rfl rfl rfl hZ Try.underlying26 rfl netI) rfl ⟨none, 0, 0, rfl, Lay.rd_nil none, bl_gr HB.out gz (by omega)⟩
  · rw [hpb] at HPA
    rw [show rdropE f t = 0 from by unfold rdropE; rw [hpb]; rfl, show rdropR sent ps f t = (sent, ps.filter fun p => !dropB f t p) from by unfold rdropR; rw [hpb]; rfl]
    obtain ⟨G, hG⟩ : ∃ G, G = goneI f t ps := ⟨_, rfl⟩
    rw [← hG]
    have HG := Lib.hid (show G = (ps.length : Int) - ((ps.filter fun p => !dropB f t p).length : Int) from by rw [hG]; unfold goneI; rw [hpb]; rfl)
    clear hpb h hG
    have n0 : ((w.alloc (.cells #[.int .u64 sent, .slice A m c] 26)).alloc (.cells #[.int .u64 0, .slice none 0 0] 26)).cell? ⟨w.heap.size, 0, none⟩ = some (.int .u64 sent) := bN.cell 0
    have n1 : ((w.alloc (.cells #[.int .u64 sent, .slice A m c] 26)).alloc (.cells #[.int .u64 0, .slice none 0 0] 26)).cell? ⟨w.heap.size, 1, none⟩ = some (.slice A m c) := bN.cell 1
    go_enter Try.func57, Try.ntmps57
    go_wp2_with fail
    refine (HPA.out _).mono ?_
    rintro e w1 ⟨rfl, rfl⟩
    go_wp2_with fail
    generalize ((w.alloc (.cells #[.int .u64 sent, .slice A m c] 26)).alloc (.cells #[.int .u64 0, .slice none 0 0] 26)) = w1 at *
    refine (rcopy_any sent A m c ps w1 hrd.out (by omega) hb).mono ?_
    rintro e w3 ⟨A2, c2, rfl, hO, q3⟩
    have KN := Lib.hid (bN.ca q3)
    have KR := Lib.hid (bR.ca q3)
    have HO := Lib.hid hO
    have HB3 := Lib.hid (bl_ca bb q3)
    have hs3 := Nat.le_trans hsz q3.size
    clear n0 n1 hO q3 hrd HR HB bN bR bb
    go_wp2_with (refine wpList_store_blk rfl 26 (.tmp 3) (.tmp 19) rfl w.heap.size 26 _ _ rfl rfl KN.out rfl netI (by simp [Value.oneCell']) ?_; intro w5 hZ5 gz5; have z1 : w5.cell? ⟨w.heap.size, 1, none⟩ = some (.slice A2 m c2) := hZ5.cell 1)
    have hO5 := HO.out.kept gz5 (by omega)
    have hrd5 : LP.rd w5 (Mid (w.heap.size + 2) w5.heap.size) A2 m ps := Lay.rd_weak (fun b hF hb => ⟨hF, hb⟩) (hO5.rd (F := fun b => w.heap.size + 2 ≤ b) (fun b hb => by omega))
    have HN5 := Lib.hid hZ5
    have HR5 := Lib.hid (KR.out.apart gz5 (by omega))
    have HB5 := Lib.hid (bl_gr HB3.out gz5 (Nat.le_refl _))
    have hs5 := Nat.le_trans hs3 gz5.size
    clear z1 hZ5 gz5 hO5 HO KN KR HB3 hs3
    go_loopg [9, 23] m (fun g a b wr => ∃ i j A3 c3 es, i + g = m ∧ j ≤ i ∧ a = .slice A3 j c3 ∧ b = .int .i64 i ∧ Ro wr w5.heap.size A3 j c3 es ∧ (∀ e ∈ es, e.ok wr (Mid (w.heap.size + 2) w5.heap.size)) ∧ es.map El.p = (ps.take i).filter (fun p => !dropB f t p) ∧ Below w5.heap.size w5 wr)
    case atStart => exact ⟨0, 0, none, 0, [], by omega, by omega, rfl, rfl, Ro.nil _ _, by simp, by simp, Below.refl _ _⟩
    case round =>
      obtain ⟨i, j, A3, c3, es, hig, hji, rfl, rfl, hRo, hok, hes, bb⟩ := hrel
      have HRo := Lib.hid hRo
      have HOK := Lib.hid hok
      have HES := Lib.hid hes
      have HBB := Lib.hid bb
      clear hRo hok hes
      by_cases hlt : i < m
      · have hi1 : (i : Int) < (m : Int) := by omega
        obtain ⟨p, q, B', k', c', rfl, hx, s1⟩ := LP_at (Lay.rd_below hrd5 bb) hlt
        have e0 := s1.c0
        have e1 := s1.c1
        have e2 := s1.c2
        have e3 := s1.c3
        have e4 := s1.c4
        have HX := Lib.hid hx
        have HBY := Lib.hid s1.bs
        have hnc := s1.nc
        have hcm := s1.cm
        clear hx s1 bb hrd5
        cases h1 : (q.frm != f)
        · have h1' : (q.frm == f) = true := by simpa using h1
          cases h2 : (q.to != t)
          · have h2' : (q.to == t) = true := by simpa using h2
            have HK := Lib.hid (show (ps.take (i + 1)).filter (fun p => !dropB f t p) = (ps.take i).filter (fun p => !dropB f t p) from by rw [filt_next HX.out, show (!dropB f t q) = false from by unfold dropB; rw [h1', h2']; rfl]; simp)
            clear h1' h2'
            go_wp2_with (refine wpList_store_blk rfl 29 (.tmp 11) (.tmp 26) rfl wr.heap.size 29 _ _ rfl rfl (Blk.new _ _ _) rfl parcelI (by simp [Value.oneCell']) ?_; intro wz hZ gz; have y0 : wz.cell? ⟨wr.heap.size, 0, none⟩ = some (.int .u64 q.num) := hZ.cell 0; have y1 : wz.cell? ⟨wr.heap.size, 1, none⟩ = some (.int .i64 q.frm) := hZ.cell 1; have y2 : wz.cell? ⟨wr.heap.size, 2, none⟩ = some (.int .i64 q.to) := hZ.cell 2; have y3 : wz.cell? ⟨wr.heap.size, 3, none⟩ = some (.slice B' k' c') := hZ.cell 3; have y4 : wz.cell? ⟨wr.heap.size, 4, none⟩ = some (.bool q.sp) := hZ.cell 4; have T4 := bl_gr (bl_al (Below.refl wr.heap.size wr) _) gz (Nat.le_refl _); have hb6 : Blk (wz.alloc (.cells #[.int .u64 q.num, .int .i64 q.frm, .int .i64 q.to, .slice B' k' c', .bool q.sp] 29)) wz.heap.size 29 #[.int .u64 q.num, .int .i64 q.frm, .int .i64 q.to, .slice B' k' c', .bool q.sp] := Blk.mk' rfl; have T5 := bl_al T4 (.cells #[.int .u64 q.num, .int .i64 q.frm, .int .i64 q.to, .slice B' k' c', .bool q.sp] 29))
            have HT4 := Lib.hid T4
            clear T4 T5 hb6 hZ gz
            go_roundg (gk - 1)
            · exact ⟨i + 1, j, A3, c3, es, by omega, by omega, rfl, by go_num, HRo.out.below HT4.out, fun e he => El.ok_below (HOK.out e he) HT4.out, by rw [HES.out, HK.out], bl_ca HBB.out HT4.out⟩
            · omega
          · have h2' : (q.to == t) = false := by simpa using h2
            have HK := Lib.hid (show (ps.take (i + 1)).filter (fun p => !dropB f t p) = (ps.take i).filter (fun p => !dropB f t p) ++ [q] from by rw [filt_next HX.out, show (!dropB f t q) = true from by unfold dropB; rw [h2']; simp]; rfl)
            go_wp2_with (first | (refine wpList_store_blk rfl 29 (.tmp 11) (.tmp 26) rfl wr.heap.size 29 _ _ rfl rfl (Blk.new _ _ _) rfl parcelI (by simp [Value.oneCell']) ?_; intro wz hZ gz; have y0 : wz.cell? ⟨wr.heap.size, 0, none⟩ = some (.int .u64 q.num) := hZ.cell 0; have y1 : wz.cell? ⟨wr.heap.size, 1, none⟩ = some (.int .i64 q.frm) := hZ.cell 1; have y2 : wz.cell? ⟨wr.heap.size, 2, none⟩ = some (.int .i64 q.to) := hZ.cell 2; have y3 : wz.cell? ⟨wr.heap.size, 3, none⟩ = some (.slice B' k' c') := hZ.cell 3; have y4 : wz.cell? ⟨wr.heap.size, 4, none⟩ = some (.bool q.sp) := hZ.cell 4; have T4 := bl_gr (bl_al (Below.refl wr.heap.size wr) _) gz (Nat.le_refl _); have hb6 : Blk (wz.alloc (.cells #[.int .u64 q.num, .int .i64 q.frm, .int .i64 q.to, .slice B' k' c', .bool q.sp] 29)) wz.heap.size 29 #[.int .u64 q.num, .int .i64 q.frm, .int .i64 q.to, .slice B' k' c', .bool q.sp] := Blk.mk' rfl; have T5 := bl_al T4 (.cells #[.int .u64 q.num, .int .i64 q.frm, .int .i64 q.to, .slice B' k' c', .bool q.sp] 29)) | (at_builtin; refine wpList_appE rfl (.tmp 37) (.tmp 39) rfl w5.heap.size A3 j c3 es _ 1 1 [⟨q, B', k', c'⟩] rfl rfl (HRo.out.below T5) (reads_blk hb6 rfl rfl) (by omega) (Nat.le_trans HBB.out.size T5.size) ?_; intro A8 c8 w8 o8 b8 k8))
            have hT8 : ∀ b, b < w5.heap.size → w8.heap[b]? = wr.heap[b]? := fun b hb => by have := HBB.out.size; exact (b8.block b (by omega)).trans (T5.block b (by omega))
            have hk5 : ∀ e ∈ es ++ [⟨q, B', k', c'⟩], e.ok w8 (Mid (w.heap.size + 2) w5.heap.size) := by
              intro e he
              rcases List.mem_append.1 he with he | he
              · exact El.ok_keep (HOK.out e he) (fun b hF _ => hT8 b hF.2)
              · rw [List.mem_singleton.1 he]
                exact El.ok_keep (e := ⟨q, B', k', c'⟩) (show El.ok wr (Mid (w.heap.size + 2) w5.heap.size) ⟨q, B', k', c'⟩ from ⟨HBY.out, hnc, hcm⟩) (fun b hF _ => hT8 b hF.2)
            go_roundg (gk - 1)
            · exact ⟨i + 1, j + 1, A8, c8, es ++ [⟨q, B', k', c'⟩], by omega, by omega, rfl, by go_num, o8, hk5, by rw [List.map_append, HES.out, HK.out]; rfl, (bl_ca HBB.out T5).trans (b8.mono (Nat.le_refl _))⟩
            · omega
        · have h1' : (q.frm == f) = false := by simpa using h1
          have HK := Lib.hid (show (ps.take (i + 1)).filter (fun p => !dropB f t p) = (ps.take i).filter (fun p => !dropB f t p) ++ [q] from by rw [filt_next HX.out, show (!dropB f t q) = true from by unfold dropB; rw [h1']; rfl]; rfl)
          go_wp2_with (first | (refine wpList_store_blk rfl 29 (.tmp 11) (.tmp 26) rfl wr.heap.size 29 _ _ rfl rfl (Blk.new _ _ _) rfl parcelI (by simp [Value.oneCell']) ?_; intro wz hZ gz; have y0 : wz.cell? ⟨wr.heap.size, 0, none⟩ = some (.int .u64 q.num) := hZ.cell 0; have y1 : wz.cell? ⟨wr.heap.size, 1, none⟩ = some (.int .i64 q.frm) := hZ.cell 1; have y2 : wz.cell? ⟨wr.heap.size, 2, none⟩ = some (.int .i64 q.to) := hZ.cell 2; have y3 : wz.cell? ⟨wr.heap.size, 3, none⟩ = some (.slice B' k' c') := hZ.cell 3; have y4 : wz.cell? ⟨wr.heap.size, 4, none⟩ = some (.bool q.sp) := hZ.cell 4; have T4 := bl_gr (bl_al (Below.refl wr.heap.size wr) _) gz (Nat.le_refl _); have hb6 : Blk (wz.alloc (.cells #[.int .u64 q.num, .int .i64 q.frm, .int .i64 q.to, .slice B' k' c', .bool q.sp] 29)) wz.heap.size 29 #[.int .u64 q.num, .int .i64 q.frm, .int .i64 q.to, .slice B' k' c', .bool q.sp] := Blk.mk' rfl; have T5 := bl_al T4 (.cells #[.int .u64 q.num, .int .i64 q.frm, .int .i64 q.to, .slice B' k' c', .bool q.sp] 29)) | (at_builtin; refine wpList_appE rfl (.tmp 37) (.tmp 39) rfl w5.heap.size A3 j c3 es _ 1 1 [⟨q, B', k', c'⟩] rfl rfl (HRo.out.below T5) (reads_blk hb6 rfl rfl) (by omega) (Nat.le_trans HBB.out.size T5.size) ?_; intro A8 c8 w8 o8 b8 k8))
          have hT8 : ∀ b, b < w5.heap.size → w8.heap[b]? = wr.heap[b]? := fun b hb => by have := HBB.out.size; exact (b8.block b (by omega)).trans (T5.block b (by omega))
          have hk5 : ∀ e ∈ es ++ [⟨q, B', k', c'⟩], e.ok w8 (Mid (w.heap.size + 2) w5.heap.size) := by
            intro e he
            rcases List.mem_append.1 he with he | he
            · exact El.ok_keep (HOK.out e he) (fun b hF _ => hT8 b hF.2)
            · rw [List.mem_singleton.1 he]
              exact El.ok_keep (e := ⟨q, B', k', c'⟩) (show El.ok wr (Mid (w.heap.size + 2) w5.heap.size) ⟨q, B', k', c'⟩ from ⟨HBY.out, hnc, hcm⟩) (fun b hF _ => hT8 b hF.2)
          go_roundg (gk - 1)
          · exact ⟨i + 1, j + 1, A8, c8, es ++ [⟨q, B', k', c'⟩], by omega, by omega, rfl, by go_num, o8, hk5, by rw [List.map_append, HES.out, HK.out]; rfl, (bl_ca HBB.out T5).trans (b8.mono (Nat.le_refl _))⟩
          · omega
      · obtain rfl : i = m := by omega
        have hi1 : (i : Int) ≤ (i : Int) := by omega
        have hlen : es.length = j := HRo.out.len
        have HF := Lib.hid (show es.map El.p = ps.filter (fun p => !dropB f t p) from by rw [HES.out, List.take_of_length_le (by rw [HL.out]; exact Nat.le_refl _)])
        have HGG := Lib.hid (show G = (i : Int) - (j : Int) from by rw [HG.out, HL.out, ← HF.out, List.length_map, hlen])
        have hN6 := HN5.out.ca bb
        have z0 : wr.cell? ⟨w.heap.size, 0, none⟩ = some (.int .u64 sent) := hN6.cell 0
        have z1 : wr.cell? ⟨w.heap.size, 1, none⟩ = some (.slice A2 i c2) := hN6.cell 1
        have f1 : wr.frozen? ⟨w.heap.size, 1, none⟩ = false := hN6.frozen 1
        have gn : wr.grownBy (wr.setCell ⟨w.heap.size, 1, none⟩ (.slice A3 j c3)) (some w.heap.size) := only_setCell (World.grownBy.refl _ _) (.inl rfl) _
        have hN7 : Blk (wr.setCell ⟨w.heap.size, 1, none⟩ (.slice A3 j c3)) w.heap.size 26 #[.int .u64 sent, .slice A3 j c3] := by simpa using hN6.set_ 1 (.slice A3 j c3)
        have y0 : (wr.setCell ⟨w.heap.size, 1, none⟩ (.slice A3 j c3)).cell? ⟨w.heap.size, 0, none⟩ = some (.int .u64 sent) := hN7.cell 0
        have y1 : (wr.setCell ⟨w.heap.size, 1, none⟩ (.slice A3 j c3)).cell? ⟨w.heap.size, 1, none⟩ = some (.slice A3 j c3) := hN7.cell 1
        have HR6 := Lib.hid ((HR5.out.ca bb).apart gn (by omega))
        have HB6 := Lib.hid (bl_gr (bl_ca HB5.out bb) gn (Nat.le_refl _))
        have HGN := Lib.hid gn
        clear bb hN6 hN7 gn hlen hrd5
        go_wp2_with (refine wpList_store_blk rfl 26 (.tmp 6) (.tmp 50) rfl (w.heap.size + 1) 26 _ _ rfl rfl HR6.out rfl netI (by simp [Value.oneCell']) ?_; intro wz hZ gz)
        have hfar : ∀ b, b ≠ w.heap.size → b ≠ w.heap.size + 1 → b < wr.heap.size → wz.heap[b]? = wr.heap[b]? := fun b h1 h2 hb => (gz.block b (Nat.lt_of_lt_of_le hb HGN.out.size) (fun e => by injection e with e; omega)).trans (HGN.out.block b hb (fun e => by injection e with e; omega))
        have hok6 : ∀ e ∈ es, e.ok wz (fun b => w.heap.size ≤ b) := fun e he => el_frs (fun b hb => by have h9 := hb.1; show w.heap.size ≤ b; omega) (El.ok_keep (HOK.out e he) (fun b hF hb => hfar b (by have := hF.1; omega) (by have := hF.1; omega) hb))
        have hrow := (HRo.out.kept HGN.out (fun e => by have := (own_base' HRo.out _ e).1; omega)).kept gz (fun e => by have := (own_base' HRo.out _ e).1; omega)
        exact bodyPost_ret (res3 Try.results57 rfl rfl rfl hZ Try.underlying26 rfl netI) rfl ⟨A3, j, c3, by rw [HGG.out]; rfl, by rw [← HF.out]; exact hrow.rd hok6 (fun b hb => by show w.heap.size ≤ b; omega), bl_gr HB6.out gz (by omega)⟩
end Go.Proofs.Ytnbcffnhgijmcaa
