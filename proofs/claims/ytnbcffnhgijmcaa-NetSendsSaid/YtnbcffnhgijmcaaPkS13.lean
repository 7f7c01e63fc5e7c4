/- An op that is Twin is run. Conditions: the net's slice reads as these parcels. -/
import Derived.Test.YtnbcffnhgijmcaaPkS12
namespace Go.Proofs.Ytnbcffnhgijmcaa
open Go.RowKit
set_option maxRecDepth 100000 in
set_option maxHeartbeats 16000000 in
theorem run_twin (o : OpC) (oA : Option Addr) (on oc : Nat) (sent : Int) (A : Option Addr) (m c : Nat) (ps : List PC) (w : World) (hk : kindI o = 6) (h : LP.rd w AllB A m ps) (hm : m ≤ 9223372036854775807) (hs0 : 0 ≤ sent) :
    Calls Try.prog 22 #[.agg (o.cells oA on oc), .agg #[.int .u64 sent, .slice A m c]] w (RunC w ⟨(twinR sent ps (numI o ps)).1, (twinR sent ps (numI o ps)).2, (twinR sent ps (numI o ps)).1, zeroPC, 0, twinE sent ps (numI o ps)⟩) := by
  have HK := Lib.hid (fun w => kind_any o oA on oc w)
  rw [hk] at HK
  clear hk
  obtain ⟨k, f, t, a, p, ot, y, bs⟩ := o
  obtain ⟨x, hx⟩ : ∃ x, x = numI ⟨k, f, t, a, p, ot, y, bs⟩ ps := ⟨_, rfl⟩
  have HNU := Lib.hid (fun W h => num_any ⟨k, f, t, a, p, ot, y, bs⟩ oA on oc sent A m c ps W h hm)
  rw [← hx] at HNU
  rw [← hx]
  clear hx
  obtain ⟨s, hs⟩ : ∃ s, s = (twinR sent ps x).1 := ⟨_, rfl⟩
  obtain ⟨l, hl⟩ : ∃ l, l = (twinR sent ps x).2 := ⟨_, rfl⟩
  obtain ⟨E, hE⟩ : ∃ E, E = twinE sent ps x := ⟨_, rfl⟩
  have HCO := Lib.hid (fun W h => twin_any sent A m c ps x W h hm hs0)
  rw [← hs, ← hl, ← hE] at HCO
  rw [← hs, ← hl, ← hE]
  clear hs hl hE
  replace h := Lay.rd_weak (G := Old w) (fun b _ hb => hb) h
  have bb := Below.refl w.heap.size w
  have bO := Blk.new w 49 #[.int .i64 k, .int .i64 f, .int .i64 t, .int .i64 a, .int .i64 p, .bool ot, vb y, .slice oA on oc]
  replace bb := bl_al bb (.cells #[.int .i64 k, .int .i64 f, .int .i64 t, .int .i64 a, .int .i64 p, .bool ot, vb y, .slice oA on oc] 49)
  replace bO := bO.ca (bl_al (Below.refl _ _) (.cells #[.int .u64 sent, .slice A m c] 26))
  have bN : Blk ((w.alloc (.cells #[.int .i64 k, .int .i64 f, .int .i64 t, .int .i64 a, .int .i64 p, .bool ot, vb y, .slice oA on oc] 49)).alloc (.cells #[.int .u64 sent, .slice A m c] 26)) (w.heap.size + 1) 26 #[.int .u64 sent, .slice A m c] := Blk.mk' (by simp only [World.size_alloc])
  replace bb := bl_al bb (.cells #[.int .u64 sent, .slice A m c] 26)
  replace bO := bO.ca (bl_al (Below.refl _ _) (.cells #[.int .u64 0, .slice none 0 0, .int .u64 0, .int .u64 0, .int .i64 0, .int .i64 0, .slice none 0 0, .bool false, .int .i64 0, .int .i64 0] 51))
  replace bN := bN.ca (bl_al (Below.refl _ _) (.cells #[.int .u64 0, .slice none 0 0, .int .u64 0, .int .u64 0, .int .i64 0, .int .i64 0, .slice none 0 0, .bool false, .int .i64 0, .int .i64 0] 51))
  have bT : Blk (((w.alloc (.cells #[.int .i64 k, .int .i64 f, .int .i64 t, .int .i64 a, .int .i64 p, .bool ot, vb y, .slice oA on oc] 49)).alloc (.cells #[.int .u64 sent, .slice A m c] 26)).alloc (.cells #[.int .u64 0, .slice none 0 0, .int .u64 0, .int .u64 0, .int .i64 0, .int .i64 0, .slice none 0 0, .bool false, .int .i64 0, .int .i64 0] 51)) (w.heap.size + 2) 51 #[.int .u64 0, .slice none 0 0, .int .u64 0, .int .u64 0, .int .i64 0, .int .i64 0, .slice none 0 0, .bool false, .int .i64 0, .int .i64 0] := Blk.mk' (by simp only [World.size_alloc])
  replace bb := bl_al bb (.cells #[.int .u64 0, .slice none 0 0, .int .u64 0, .int .u64 0, .int .i64 0, .int .i64 0, .slice none 0 0, .bool false, .int .i64 0, .int .i64 0] 51)
  have hsz : w.heap.size + 3 ≤ (((w.alloc (.cells #[.int .i64 k, .int .i64 f, .int .i64 t, .int .i64 a, .int .i64 p, .bool ot, vb y, .slice oA on oc] 49)).alloc (.cells #[.int .u64 sent, .slice A m c] 26)).alloc (.cells #[.int .u64 0, .slice none 0 0, .int .u64 0, .int .u64 0, .int .i64 0, .int .i64 0, .slice none 0 0, .bool false, .int .i64 0, .int .i64 0] 51)).heap.size := by simp only [World.size_alloc]; omega
  have HR1 := Lib.hid (Lay.rd_below h bb)
  clear h
  go_enter Try.func22, Try.ntmps22
  go_wp2_with fail
  generalize (((w.alloc (.cells #[.int .i64 k, .int .i64 f, .int .i64 t, .int .i64 a, .int .i64 p, .bool ot, vb y, .slice oA on oc] 49)).alloc (.cells #[.int .u64 sent, .slice A m c] 26)).alloc (.cells #[.int .u64 0, .slice none 0 0, .int .u64 0, .int .u64 0, .int .i64 0, .int .i64 0, .slice none 0 0, .bool false, .int .i64 0, .int .i64 0] 51)) = w1 at *
  refine (HK.out _).mono ?_
  rintro e w5 ⟨rfl, q5⟩
  have HO := Lib.hid (bO.ca q5)
  have HN := Lib.hid (bN.ca q5)
  have HT := Lib.hid (bT.ca q5)
  have HR := Lib.hid (Lay.rd_below HR1.out q5)
  have BB := Lib.hid (bl_ca bb q5)
  have hs5 := Nat.le_trans hsz q5.size
  clear bO bN bT bb q5 HR1 HK
  go_wp2_with fail
  refine wp_region_ps (S := SeqN [3, 4, 10, 12, 14] (fun j m w' => match j with | 0 => Kept w5 w' (w.heap.size + 2) w5.heap.size ∧ Blk w' (w.heap.size + 2) 51 #[.int .u64 0, .slice none 0 0, .int .u64 0, .int .u64 0, .int .i64 0, .int .i64 0, .slice none 0 0, .bool false, .int .i64 0, .int .i64 0] | 1 => Kept w5 w' (w.heap.size + 2) w5.heap.size ∧ Blk w' (w.heap.size + 2) 51 #[.int .u64 0, .slice none 0 0, .int .u64 0, .int .u64 0, .int .i64 0, .int .i64 0, .slice none 0 0, .bool false, .int .i64 0, .int .i64 0] | 2 => Kept w5 w' (w.heap.size + 2) w5.heap.size ∧ ∃ A2 m2 c2, m 4 = Value.tuple #[.agg #[.int .u64 s, .slice A2 m2 c2], .int .u64 s, .int .i64 E] ∧ Sep w' w5.heap.size ⟨s, l, s, zeroPC, 0, E⟩ A2 m2 c2 none 0 0 ∧ Blk w' (w.heap.size + 2) 51 #[.int .u64 0, .slice none 0 0, .int .u64 0, .int .u64 0, .int .i64 0, .int .i64 0, .slice none 0 0, .bool false, .int .i64 0, .int .i64 0] | 3 => Kept w5 w' (w.heap.size + 2) w5.heap.size ∧ ∃ A2 m2 c2, m 4 = Value.tuple #[.agg #[.int .u64 s, .slice A2 m2 c2], .int .u64 s, .int .i64 E] ∧ Sep w' w5.heap.size ⟨s, l, s, zeroPC, 0, E⟩ A2 m2 c2 none 0 0 ∧ Blk w' (w.heap.size + 2) 51 #[.int .u64 s, .slice A2 m2 c2, .int .u64 0, .int .u64 0, .int .i64 0, .int .i64 0, .slice none 0 0, .bool false, .int .i64 0, .int .i64 0] | 4 => Kept w5 w' (w.heap.size + 2) w5.heap.size ∧ ∃ A2 m2 c2, m 4 = Value.tuple #[.agg #[.int .u64 s, .slice A2 m2 c2], .int .u64 s, .int .i64 E] ∧ Sep w' w5.heap.size ⟨s, l, s, zeroPC, 0, E⟩ A2 m2 c2 none 0 0 ∧ Blk w' (w.heap.size + 2) 51 #[.int .u64 s, .slice A2 m2 c2, .int .u64 s, .int .u64 0, .int .i64 0, .int .i64 0, .slice none 0 0, .bool false, .int .i64 0, .int .i64 0] | _ => Kept w5 w' (w.heap.size + 2) w5.heap.size ∧ ∃ A2 m2 c2, m 4 = Value.tuple #[.agg #[.int .u64 s, .slice A2 m2 c2], .int .u64 s, .int .i64 E] ∧ Sep w' w5.heap.size ⟨s, l, s, zeroPC, 0, E⟩ A2 m2 c2 none 0 0 ∧ Blk w' (w.heap.size + 2) 51 #[.int .u64 s, .slice A2 m2 c2, .int .u64 s, .int .u64 0, .int .i64 0, .int .i64 0, .slice none 0 0, .bool false, .int .i64 0, .int .i64 E])) (by kernel_rfl) ?spswq ?ppswq
  case spswq =>
    exact SeqN.start (by decide) ⟨Kept.of_below (Below.refl _ _).drew (Nat.le_refl _), HT.out.ca (Below.refl _ _).drew⟩
  refine Ps.step (i := 0) (d := some 99) (u := ?uwq_28) rfl rfl (by kernel_rfl) (by kernel_rfl) (by kernel_rfl) (by kernel_rfl) ?ywq_28 ?rwq_28
  case ywq_28 =>
    refine StepS.read [] (by kernel_rfl) (SeqN.pass (by decide)) (by rfl) (fun L9 m9 w9 hSh hAt hDn hS => ?_)
    have hK : Kept w5 w9 (w.heap.size + 2) w5.heap.size := SeqN.any (T := fun w9 => Kept w5 w9 (w.heap.size + 2) w5.heap.size) (fun j _ _ h => by match j, h with | 0, h => exact h.1 | 1, h => exact h.1 | 2, h => exact h.1 | 3, h => exact h.1 | 4, h => exact h.1 | _ + 5, h => exact h.1) hS
    have hT : Blk w9 (w.heap.size + 1) 26 #[.int .u64 sent, .slice A m c] := HN.out.kp hK (by omega) (by omega)
    have x0 : w9.cell? ⟨(w.heap.size + 1), 0, none⟩ = some (.int .u64 sent) := hT.cell 0
    have x1 : w9.cell? ⟨(w.heap.size + 1), 1, none⟩ = some (.slice A m c) := hT.cell 1
    clear hT hK hS
    go_simp
    try rfl
  try simp only [Act.put, List.setIfInBounds_toArray, List.set_cons_zero, List.set_cons_succ]
  refine Ps.step (i := 1) (d := some 100) (u := ?uwq_29) rfl rfl (by kernel_rfl) (by kernel_rfl) (by kernel_rfl) (by kernel_rfl) ?ywq_29 ?rwq_29
  case ywq_29 =>
    refine StepS.read [] (by kernel_rfl) (SeqN.pass (by decide)) (by rfl) (fun L9 m9 w9 hSh hAt hDn hS => ?_)
    have hK : Kept w5 w9 (w.heap.size + 2) w5.heap.size := SeqN.any (T := fun w9 => Kept w5 w9 (w.heap.size + 2) w5.heap.size) (fun j _ _ h => by match j, h with | 0, h => exact h.1 | 1, h => exact h.1 | 2, h => exact h.1 | 3, h => exact h.1 | 4, h => exact h.1 | _ + 5, h => exact h.1) hS
    have hT : Blk w9 w.heap.size 49 #[.int .i64 k, .int .i64 f, .int .i64 t, .int .i64 a, .int .i64 p, .bool ot, vb y, .slice oA on oc] := HO.out.kp hK (by omega) (by omega)
    have x0 : w9.cell? ⟨w.heap.size, 0, none⟩ = some (.int .i64 k) := hT.cell 0
    have x1 : w9.cell? ⟨w.heap.size, 1, none⟩ = some (.int .i64 f) := hT.cell 1
    have x2 : w9.cell? ⟨w.heap.size, 2, none⟩ = some (.int .i64 t) := hT.cell 2
    have x3 : w9.cell? ⟨w.heap.size, 3, none⟩ = some (.int .i64 a) := hT.cell 3
    have x4 : w9.cell? ⟨w.heap.size, 4, none⟩ = some (.int .i64 p) := hT.cell 4
    have x5 : w9.cell? ⟨w.heap.size, 5, none⟩ = some (.bool ot) := hT.cell 5
    have x6 : w9.cell? ⟨w.heap.size, 6, none⟩ = some (vb y) := hT.cell 6
    have x7 : w9.cell? ⟨w.heap.size, 7, none⟩ = some (.slice oA on oc) := hT.cell 7
    clear hT hK hS
    go_simp
    try rfl
  try simp only [Act.put, List.setIfInBounds_toArray, List.set_cons_zero, List.set_cons_succ]
  refine Ps.step (i := 2) (d := some 101) (u := ?uwq_30) rfl rfl (by kernel_rfl) (by kernel_rfl) (by kernel_rfl) (by kernel_rfl) ?ywq_30 ?rwq_30
  case ywq_30 =>
    refine StepS.read [] (by kernel_rfl) (SeqN.pass (by decide)) (by rfl) (fun L9 m9 w9 hSh hAt hDn hS => ?_)
    have hK : Kept w5 w9 (w.heap.size + 2) w5.heap.size := SeqN.any (T := fun w9 => Kept w5 w9 (w.heap.size + 2) w5.heap.size) (fun j _ _ h => by match j, h with | 0, h => exact h.1 | 1, h => exact h.1 | 2, h => exact h.1 | 3, h => exact h.1 | 4, h => exact h.1 | _ + 5, h => exact h.1) hS
    have hT : Blk w9 (w.heap.size + 1) 26 #[.int .u64 sent, .slice A m c] := HN.out.kp hK (by omega) (by omega)
    have x0 : w9.cell? ⟨(w.heap.size + 1), 0, none⟩ = some (.int .u64 sent) := hT.cell 0
    have x1 : w9.cell? ⟨(w.heap.size + 1), 1, none⟩ = some (.slice A m c) := hT.cell 1
    clear hT hK hS
    go_simp
    try rfl
  try simp only [Act.put, List.setIfInBounds_toArray, List.set_cons_zero, List.set_cons_succ]
  refine Ps.step (i := 3) (d := some 102) (u := (.int .u64 x)) rfl rfl (by kernel_rfl) (by kernel_rfl) (by kernel_rfl) (by kernel_rfl) ?ywq_31 ?rwq_31
  case ywq_31 =>
    refine StepS.call ?fwq_31 ?awq_31 [] (by kernel_rfl) (by rfl) (fun w9 => ?hwq_31) (fun L9 m9 w9 hSh hAt hDn hS => ?cwq_31)
    case hwq_31 => go_simp; refine ⟨?_, ?_⟩ <;> rfl
    case cwq_31 =>
      have hC := SeqN.at_ [] [4, 10, 12, 14] hSh hAt hDn (by kernel_rfl) hS
      refine (HNU.out w9 (rd_kp HR.out hC.1 (by omega) (by omega))).mono ?_
      rintro e w8 ⟨rfl, q8⟩
      refine ⟨rfl, SeqN.set_ [] [4, 10, 12, 14] hSh hAt hDn (by kernel_rfl) (by decide) (by decide) ⟨hC.1.trans (Kept.of_below q8 hC.1.size), hC.2.ca q8⟩⟩
  try simp only [Act.put, List.setIfInBounds_toArray, List.set_cons_zero, List.set_cons_succ]
  refine Ps.one (k := 4) (d := some 103) rfl rfl (by kernel_rfl) (TurnS.call (V := fun v => ∃ A2 m2 c2, v = Value.tuple #[.agg #[.int .u64 s, .slice A2 m2 c2], .int .u64 s, .int .i64 E]) ?fwq_32 ?awq_32 [3] (by kernel_rfl) (by rfl) (fun w9 => ?hwq_32) (fun L9 m9 w9 hSh hAt hDn hS => ?cwq_32)) (fun v4 hVv4 => ?rwq_32)
  case hwq_32 => go_simp; refine ⟨?_, ?_⟩ <;> rfl
  case cwq_32 =>
    have hC := SeqN.at_ [3] [10, 12, 14] hSh hAt hDn (by kernel_rfl) hS
    have hCA := HCO.out w9 (rd_kp HR.out hC.1 (by omega) (by omega))
    refine hCA.mono ?_
    rintro e w8 ⟨A2, m2, c2, rfl, ho, q8⟩
    have hs9 := hC.1.size
    have HSEP : Sep w8 w5.heap.size ⟨s, l, s, zeroPC, 0, E⟩ A2 m2 c2 none 0 0 := Sep.less (Sep.ofN ho _ _ _ _) hs9
    exact ⟨_, rfl, ⟨A2, m2, c2, rfl⟩, SeqN.set_ [3] [10, 12, 14] hSh hAt hDn (by kernel_rfl) (by decide) (by decide) ⟨hC.1.trans (Kept.of_below q8 hC.1.size), A2, m2, c2, upd_same _ _ _, HSEP, hC.2.ca q8⟩⟩
  try simp only [Act.put, List.setIfInBounds_toArray, List.set_cons_zero, List.set_cons_succ]
  obtain ⟨A2, m2, c2, rfl⟩ := hVv4
  refine Ps.step (i := 5) (d := some 98) (u := ?uwq_33) rfl rfl (by kernel_rfl) (by kernel_rfl) (by kernel_rfl) (by kernel_rfl) ?ywq_33 ?rwq_33
  case ywq_33 =>
    refine StepS.pure (SeqN.pass (by decide)) (by rfl) (fun w9 => ?_)
    go_simp
    try rfl
  try simp only [Act.put, List.setIfInBounds_toArray, List.set_cons_zero, List.set_cons_succ]
  refine Ps.step (i := 6) (d := some 104) (u := ?uwq_34) rfl rfl (by kernel_rfl) (by kernel_rfl) (by kernel_rfl) (by kernel_rfl) ?ywq_34 ?rwq_34
  case ywq_34 =>
    refine StepS.pure (SeqN.pass (by decide)) (by rfl) (fun w9 => ?_)
    go_simp
    try rfl
  try simp only [Act.put, List.setIfInBounds_toArray, List.set_cons_zero, List.set_cons_succ]
  refine Ps.step (i := 7) (d := some 105) (u := ?uwq_35) rfl rfl (by kernel_rfl) (by kernel_rfl) (by kernel_rfl) (by kernel_rfl) ?ywq_35 ?rwq_35
  case ywq_35 =>
    refine StepS.pure (SeqN.pass (by decide)) (by rfl) (fun w9 => ?_)
    go_simp
    try rfl
  try simp only [Act.put, List.setIfInBounds_toArray, List.set_cons_zero, List.set_cons_succ]
  refine Ps.step (i := 8) (d := some 106) (u := ?uwq_36) rfl rfl (by kernel_rfl) (by kernel_rfl) (by kernel_rfl) (by kernel_rfl) ?ywq_36 ?rwq_36
  case ywq_36 =>
    refine StepS.pure (SeqN.pass (by decide)) (by rfl) (fun w9 => ?_)
    go_simp
    try rfl
  try simp only [Act.put, List.setIfInBounds_toArray, List.set_cons_zero, List.set_cons_succ]
  refine Ps.step (i := 9) (d := some 107) (u := ?uwq_37) rfl rfl (by kernel_rfl) (by kernel_rfl) (by kernel_rfl) (by kernel_rfl) ?ywq_37 ?rwq_37
  case ywq_37 =>
    refine StepS.pure (SeqN.pass (by decide)) (by rfl) (fun w9 => ?_)
    go_simp
    try rfl
  try simp only [Act.put, List.setIfInBounds_toArray, List.set_cons_zero, List.set_cons_succ]
  refine Ps.step (i := 10) (d := none) (u := undef) rfl rfl (by kernel_rfl) (by kernel_rfl) (by kernel_rfl) (by kernel_rfl) ?ywq_38 ?rwq_38
  case ywq_38 =>
    refine StepS.store [3, 4] (by kernel_rfl) (by rfl) (fun L9 m9 w9 hSh hAt hDn hS => ?_)
    obtain ⟨hK, A2', m2', c2', hm4, hsep, hB⟩ := SeqN.at_ [3, 4] [12, 14] hSh hAt hDn (by kernel_rfl) hS
    obtain ⟨rfl, rfl, rfl⟩ := inj_n3 ((hAt 4 (by simp)).2.symm.trans hm4)
    refine (exec_store_part (w := w9) 26 (.tmp 107) (.tmp 104) (by rfl) (w.heap.size + 2) 0 51 #[.int .u64 0, .slice none 0 0, .int .u64 0, .int .u64 0, .int .i64 0, .int .i64 0, .slice none 0 0, .bool false, .int .i64 0, .int .i64 0] #[.int .u64 s, .slice A2 m2 c2] #[.int .u64 s, .slice A2 m2 c2, .int .u64 0, .int .u64 0, .int .i64 0, .int .i64 0, .slice none 0 0, .bool false, .int .i64 0, .int .i64 0] (by rfl) (by rfl) hB (by simp) netI (by simp [Value.oneCell']) (by rfl)).imp fun w7 hx => ⟨hx.1, SeqN.set_ [3, 4] [12, 14] hSh hAt hDn (by kernel_rfl) (by decide) (by decide) ⟨hK.trans (Kept.of_grown hx.2.2 hK.size (.inl rfl)), A2, m2, c2, hm4, hsep.kept hx.2.2 (by omega), hx.2.1⟩⟩
  try simp only [Act.put]
  refine Ps.step (i := 11) (d := some 108) (u := ?uwq_39) rfl rfl (by kernel_rfl) (by kernel_rfl) (by kernel_rfl) (by kernel_rfl) ?ywq_39 ?rwq_39
  case ywq_39 =>
    refine StepS.pure (SeqN.pass (by decide)) (by rfl) (fun w9 => ?_)
    go_simp
    try rfl
  try simp only [Act.put, List.setIfInBounds_toArray, List.set_cons_zero, List.set_cons_succ]
  refine Ps.step (i := 12) (d := none) (u := undef) rfl rfl (by kernel_rfl) (by kernel_rfl) (by kernel_rfl) (by kernel_rfl) ?ywq_40 ?rwq_40
  case ywq_40 =>
    refine StepS.store [3, 4, 10] (by kernel_rfl) (by rfl) (fun L9 m9 w9 hSh hAt hDn hS => ?_)
    obtain ⟨hK, A2', m2', c2', hm4, hsep, hB⟩ := SeqN.at_ [3, 4, 10] [14] hSh hAt hDn (by kernel_rfl) hS
    obtain ⟨rfl, rfl, rfl⟩ := inj_n3 ((hAt 4 (by simp)).2.symm.trans hm4)
    have xc : w9.cell? ⟨w.heap.size + 2, 2, none⟩ = some (.int .u64 0) := hB.cell 2
    have fx : w9.frozen? ⟨w.heap.size + 2, 2, none⟩ = false := hB.frozen 2
    have hB2 : Blk (w9.setCell ⟨w.heap.size + 2, 2, none⟩ (.int .u64 s)) (w.heap.size + 2) 51 #[.int .u64 s, .slice A2 m2 c2, .int .u64 s, .int .u64 0, .int .i64 0, .int .i64 0, .slice none 0 0, .bool false, .int .i64 0, .int .i64 0] := by simpa using hB.set_ 2 (.int .u64 s)
    have hg2 : w9.grownBy (w9.setCell ⟨w.heap.size + 2, 2, none⟩ (.int .u64 s)) (some (w.heap.size + 2)) := only_setCell (World.grownBy.refl _ _) (.inl rfl) _
    refine ⟨w9.setCell ⟨w.heap.size + 2, 2, none⟩ (.int .u64 s), ?_, SeqN.set_ [3, 4, 10] [14] hSh hAt hDn (by kernel_rfl) (by decide) (by decide) ⟨hK.trans (Kept.of_grown hg2 hK.size (.inl rfl)), A2, m2, c2, hm4, hsep.kept hg2 (by omega), hB2⟩⟩
    clear hB hB2 hg2 hS hK hsep hm4
    go_simp
  try simp only [Act.put]
  refine Ps.step (i := 13) (d := some 109) (u := ?uwq_41) rfl rfl (by kernel_rfl) (by kernel_rfl) (by kernel_rfl) (by kernel_rfl) ?ywq_41 ?rwq_41
  case ywq_41 =>
    refine StepS.pure (SeqN.pass (by decide)) (by rfl) (fun w9 => ?_)
    go_simp
    try rfl
  try simp only [Act.put, List.setIfInBounds_toArray, List.set_cons_zero, List.set_cons_succ]
  refine Ps.step (i := 14) (d := none) (u := undef) rfl rfl (by kernel_rfl) (by kernel_rfl) (by kernel_rfl) (by kernel_rfl) ?ywq_42 ?rwq_42
  case ywq_42 =>
    refine StepS.store [3, 4, 10, 12] (by kernel_rfl) (by rfl) (fun L9 m9 w9 hSh hAt hDn hS => ?_)
    obtain ⟨hK, A2', m2', c2', hm4, hsep, hB⟩ := SeqN.at_ [3, 4, 10, 12] [] hSh hAt hDn (by kernel_rfl) hS
    obtain ⟨rfl, rfl, rfl⟩ := inj_n3 ((hAt 4 (by simp)).2.symm.trans hm4)
    have xc : w9.cell? ⟨w.heap.size + 2, 9, none⟩ = some (.int .i64 0) := hB.cell 9
    have fx : w9.frozen? ⟨w.heap.size + 2, 9, none⟩ = false := hB.frozen 9
    have hB2 : Blk (w9.setCell ⟨w.heap.size + 2, 9, none⟩ (.int .i64 E)) (w.heap.size + 2) 51 #[.int .u64 s, .slice A2 m2 c2, .int .u64 s, .int .u64 0, .int .i64 0, .int .i64 0, .slice none 0 0, .bool false, .int .i64 0, .int .i64 E] := by simpa using hB.set_ 9 (.int .i64 E)
    have hg2 : w9.grownBy (w9.setCell ⟨w.heap.size + 2, 9, none⟩ (.int .i64 E)) (some (w.heap.size + 2)) := only_setCell (World.grownBy.refl _ _) (.inl rfl) _
    refine ⟨w9.setCell ⟨w.heap.size + 2, 9, none⟩ (.int .i64 E), ?_, SeqN.set_ [3, 4, 10, 12] [] hSh hAt hDn (by kernel_rfl) (by decide) (by decide) ⟨hK.trans (Kept.of_grown hg2 hK.size (.inl rfl)), A2, m2, c2, hm4, hsep.kept hg2 (by omega), hB2⟩⟩
    clear hB hB2 hg2 hS hK hsep hm4
    go_simp
  try simp only [Act.put]
  refine Ps.done (by kernel_rfl) (fun wq hS => ?_) _
  obtain ⟨hK, A2', m2', c2', hm4, hsep, hB⟩ := SeqN.fin (by rfl) hS
  clear hS
  obtain ⟨rfl, rfl, rfl⟩ := inj_n3 hm4
  clear hm4
  go_wp2_with (first | (refine wpList_load_blk rfl 51 (.tmp 4) rfl (w.heap.size + 2) rfl 51 #[.int .u64 s, .slice A2 m2 c2, .int .u64 s, .int .u64 0, .int .i64 0, .int .i64 0, .slice none 0 0, .bool false, .int .i64 0, .int .i64 E] _ hB Try.underlying51 rfl toldI ?_) | (refine wpList_store_blk rfl 51 (.tmp 4) (.tmp 110) rfl (w.heap.size + 2) 51 #[.int .u64 s, .slice A2 m2 c2, .int .u64 s, .int .u64 0, .int .i64 0, .int .i64 0, .slice none 0 0, .bool false, .int .i64 0, .int .i64 E] #[.int .u64 s, .slice A2 m2 c2, .int .u64 s, .int .u64 0, .int .i64 0, .int .i64 0, .slice none 0 0, .bool false, .int .i64 0, .int .i64 E] rfl rfl hB rfl toldI (by simp [Value.oneCell']) ?_; intro wz hZ gz))
  exact bodyPost_ret (res1 Try.results22 rfl hZ Try.underlying51 rfl toldI) rfl ⟨_, _, _, _, _, _, rfl, (hsep.kept gz (by omega)).less (by omega), bl_gr (hK.below BB.out (by omega) (by omega)) gz (by omega)⟩
end Go.Proofs.Ytnbcffnhgijmcaa
/- An op that is Spoil is run. Conditions: the net's slice reads as these parcels. -/
namespace Go.Proofs.Ytnbcffnhgijmcaa
open Go.RowKit
set_option maxRecDepth 100000 in
set_option maxHeartbeats 16000000 in
theorem run_spoil (o : OpC) (oA : Option Addr) (on oc : Nat) (sent : Int) (A : Option Addr) (m c : Nat) (ps : List PC) (w : World) (hk : kindI o = 7) (h : LP.rd w AllB A m ps) (hm : m ≤ 9223372036854775807) :
    Calls Try.prog 22 #[.agg (o.cells oA on oc), .agg #[.int .u64 sent, .slice A m c]] w (RunC w ⟨(spoilR sent ps (numI o ps) o.place o.by_).1, (spoilR sent ps (numI o ps) o.place o.by_).2, 0, zeroPC, 0, spoilE sent ps (numI o ps) o.place o.by_⟩) := by
  have HK := Lib.hid (fun w => kind_any o oA on oc w)
  rw [hk] at HK
  clear hk
  obtain ⟨k, f, t, a, p, ot, y, bs⟩ := o
  obtain ⟨x, hx⟩ : ∃ x, x = numI ⟨k, f, t, a, p, ot, y, bs⟩ ps := ⟨_, rfl⟩
  have HNU := Lib.hid (fun W h => num_any ⟨k, f, t, a, p, ot, y, bs⟩ oA on oc sent A m c ps W h hm)
  rw [← hx] at HNU
  rw [← hx]
  clear hx
  obtain ⟨s, hs⟩ : ∃ s, s = (spoilR sent ps x p y).1 := ⟨_, rfl⟩
  obtain ⟨l, hl⟩ : ∃ l, l = (spoilR sent ps x p y).2 := ⟨_, rfl⟩
  obtain ⟨E, hE⟩ : ∃ E, E = spoilE sent ps x p y := ⟨_, rfl⟩
  dsimp only at hs hl hE ⊢
  have HCO := Lib.hid (fun W h => spoil_any sent A m c ps x p y W h hm)
  rw [← hs, ← hl, ← hE] at HCO
  rw [← hs, ← hl, ← hE]
  clear hs hl hE
  replace h := Lay.rd_weak (G := Old w) (fun b _ hb => hb) h
  have bb := Below.refl w.heap.size w
  have bO := Blk.new w 49 #[.int .i64 k, .int .i64 f, .int .i64 t, .int .i64 a, .int .i64 p, .bool ot, vb y, .slice oA on oc]
  replace bb := bl_al bb (.cells #[.int .i64 k, .int .i64 f, .int .i64 t, .int .i64 a, .int .i64 p, .bool ot, vb y, .slice oA on oc] 49)
  replace bO := bO.ca (bl_al (Below.refl _ _) (.cells #[.int .u64 sent, .slice A m c] 26))
  have bN : Blk ((w.alloc (.cells #[.int .i64 k, .int .i64 f, .int .i64 t, .int .i64 a, .int .i64 p, .bool ot, vb y, .slice oA on oc] 49)).alloc (.cells #[.int .u64 sent, .slice A m c] 26)) (w.heap.size + 1) 26 #[.int .u64 sent, .slice A m c] := Blk.mk' (by simp only [World.size_alloc])
  replace bb := bl_al bb (.cells #[.int .u64 sent, .slice A m c] 26)
  replace bO := bO.ca (bl_al (Below.refl _ _) (.cells #[.int .u64 0, .slice none 0 0, .int .u64 0, .int .u64 0, .int .i64 0, .int .i64 0, .slice none 0 0, .bool false, .int .i64 0, .int .i64 0] 51))
  replace bN := bN.ca (bl_al (Below.refl _ _) (.cells #[.int .u64 0, .slice none 0 0, .int .u64 0, .int .u64 0, .int .i64 0, .int .i64 0, .slice none 0 0, .bool false, .int .i64 0, .int .i64 0] 51))
  have bT : Blk (((w.alloc (.cells #[.int .i64 k, .int .i64 f, .int .i64 t, .int .i64 a, .int .i64 p, .bool ot, vb y, .slice oA on oc] 49)).alloc (.cells #[.int .u64 sent, .slice A m c] 26)).alloc (.cells #[.int .u64 0, .slice none 0 0, .int .u64 0, .int .u64 0, .int .i64 0, .int .i64 0, .slice none 0 0, .bool false, .int .i64 0, .int .i64 0] 51)) (w.heap.size + 2) 51 #[.int .u64 0, .slice none 0 0, .int .u64 0, .int .u64 0, .int .i64 0, .int .i64 0, .slice none 0 0, .bool false, .int .i64 0, .int .i64 0] := Blk.mk' (by simp only [World.size_alloc])
  replace bb := bl_al bb (.cells #[.int .u64 0, .slice none 0 0, .int .u64 0, .int .u64 0, .int .i64 0, .int .i64 0, .slice none 0 0, .bool false, .int .i64 0, .int .i64 0] 51)
  have hsz : w.heap.size + 3 ≤ (((w.alloc (.cells #[.int .i64 k, .int .i64 f, .int .i64 t, .int .i64 a, .int .i64 p, .bool ot, vb y, .slice oA on oc] 49)).alloc (.cells #[.int .u64 sent, .slice A m c] 26)).alloc (.cells #[.int .u64 0, .slice none 0 0, .int .u64 0, .int .u64 0, .int .i64 0, .int .i64 0, .slice none 0 0, .bool false, .int .i64 0, .int .i64 0] 51)).heap.size := by simp only [World.size_alloc]; omega
  have HR1 := Lib.hid (Lay.rd_below h bb)
  clear h
  go_enter Try.func22, Try.ntmps22
  go_wp2_with fail
  generalize (((w.alloc (.cells #[.int .i64 k, .int .i64 f, .int .i64 t, .int .i64 a, .int .i64 p, .bool ot, vb y, .slice oA on oc] 49)).alloc (.cells #[.int .u64 sent, .slice A m c] 26)).alloc (.cells #[.int .u64 0, .slice none 0 0, .int .u64 0, .int .u64 0, .int .i64 0, .int .i64 0, .slice none 0 0, .bool false, .int .i64 0, .int .i64 0] 51)) = w1 at *
  refine (HK.out _).mono ?_
  rintro e w5 ⟨rfl, q5⟩
  have HO := Lib.hid (bO.ca q5)
  have HN := Lib.hid (bN.ca q5)
  have HT := Lib.hid (bT.ca q5)
  have HR := Lib.hid (Lay.rd_below HR1.out q5)
  have BB := Lib.hid (bl_ca bb q5)
  have hs5 := Nat.le_trans hsz q5.size
  clear bO bN bT bb q5 HR1 HK
  go_wp2_with fail
  refine wp_region_ps (S := SeqN [3, 8, 13, 15] (fun j m w' => match j with | 0 => Kept w5 w' (w.heap.size + 2) w5.heap.size ∧ Blk w' (w.heap.size + 2) 51 #[.int .u64 0, .slice none 0 0, .int .u64 0, .int .u64 0, .int .i64 0, .int .i64 0, .slice none 0 0, .bool false, .int .i64 0, .int .i64 0] | 1 => Kept w5 w' (w.heap.size + 2) w5.heap.size ∧ Blk w' (w.heap.size + 2) 51 #[.int .u64 0, .slice none 0 0, .int .u64 0, .int .u64 0, .int .i64 0, .int .i64 0, .slice none 0 0, .bool false, .int .i64 0, .int .i64 0] | 2 => Kept w5 w' (w.heap.size + 2) w5.heap.size ∧ ∃ A2 m2 c2, m 8 = Value.tuple #[.agg #[.int .u64 s, .slice A2 m2 c2], .int .i64 E] ∧ Sep w' w5.heap.size ⟨s, l, 0, zeroPC, 0, E⟩ A2 m2 c2 none 0 0 ∧ Blk w' (w.heap.size + 2) 51 #[.int .u64 0, .slice none 0 0, .int .u64 0, .int .u64 0, .int .i64 0, .int .i64 0, .slice none 0 0, .bool false, .int .i64 0, .int .i64 0] | 3 => Kept w5 w' (w.heap.size + 2) w5.heap.size ∧ ∃ A2 m2 c2, m 8 = Value.tuple #[.agg #[.int .u64 s, .slice A2 m2 c2], .int .i64 E] ∧ Sep w' w5.heap.size ⟨s, l, 0, zeroPC, 0, E⟩ A2 m2 c2 none 0 0 ∧ Blk w' (w.heap.size + 2) 51 #[.int .u64 s, .slice A2 m2 c2, .int .u64 0, .int .u64 0, .int .i64 0, .int .i64 0, .slice none 0 0, .bool false, .int .i64 0, .int .i64 0] | _ => Kept w5 w' (w.heap.size + 2) w5.heap.size ∧ ∃ A2 m2 c2, m 8 = Value.tuple #[.agg #[.int .u64 s, .slice A2 m2 c2], .int .i64 E] ∧ Sep w' w5.heap.size ⟨s, l, 0, zeroPC, 0, E⟩ A2 m2 c2 none 0 0 ∧ Blk w' (w.heap.size + 2) 51 #[.int .u64 s, .slice A2 m2 c2, .int .u64 0, .int .u64 0, .int .i64 0, .int .i64 0, .slice none 0 0, .bool false, .int .i64 0, .int .i64 E])) (by kernel_rfl) ?spswq ?ppswq
  case spswq =>
    exact SeqN.start (by decide) ⟨Kept.of_below (Below.refl _ _).drew (Nat.le_refl _), HT.out.ca (Below.refl _ _).drew⟩
  refine Ps.step (i := 0) (d := some 10) (u := ?uwq_43) rfl rfl (by kernel_rfl) (by kernel_rfl) (by kernel_rfl) (by kernel_rfl) ?ywq_43 ?rwq_43
  case ywq_43 =>
    refine StepS.read [] (by kernel_rfl) (SeqN.pass (by decide)) (by rfl) (fun L9 m9 w9 hSh hAt hDn hS => ?_)
    have hK : Kept w5 w9 (w.heap.size + 2) w5.heap.size := SeqN.any (T := fun w9 => Kept w5 w9 (w.heap.size + 2) w5.heap.size) (fun j _ _ h => by match j, h with | 0, h => exact h.1 | 1, h => exact h.1 | 2, h => exact h.1 | 3, h => exact h.1 | _ + 4, h => exact h.1) hS
    have hT : Blk w9 (w.heap.size + 1) 26 #[.int .u64 sent, .slice A m c] := HN.out.kp hK (by omega) (by omega)
    have x0 : w9.cell? ⟨(w.heap.size + 1), 0, none⟩ = some (.int .u64 sent) := hT.cell 0
    have x1 : w9.cell? ⟨(w.heap.size + 1), 1, none⟩ = some (.slice A m c) := hT.cell 1
    clear hT hK hS
    go_simp
    try rfl
  try simp only [Act.put, List.setIfInBounds_toArray, List.set_cons_zero, List.set_cons_succ]
  refine Ps.step (i := 1) (d := some 11) (u := ?uwq_44) rfl rfl (by kernel_rfl) (by kernel_rfl) (by kernel_rfl) (by kernel_rfl) ?ywq_44 ?rwq_44
  case ywq_44 =>
    refine StepS.read [] (by kernel_rfl) (SeqN.pass (by decide)) (by rfl) (fun L9 m9 w9 hSh hAt hDn hS => ?_)
    have hK : Kept w5 w9 (w.heap.size + 2) w5.heap.size := SeqN.any (T := fun w9 => Kept w5 w9 (w.heap.size + 2) w5.heap.size) (fun j _ _ h => by match j, h with | 0, h => exact h.1 | 1, h => exact h.1 | 2, h => exact h.1 | 3, h => exact h.1 | _ + 4, h => exact h.1) hS
    have hT : Blk w9 w.heap.size 49 #[.int .i64 k, .int .i64 f, .int .i64 t, .int .i64 a, .int .i64 p, .bool ot, vb y, .slice oA on oc] := HO.out.kp hK (by omega) (by omega)
    have x0 : w9.cell? ⟨w.heap.size, 0, none⟩ = some (.int .i64 k) := hT.cell 0
    have x1 : w9.cell? ⟨w.heap.size, 1, none⟩ = some (.int .i64 f) := hT.cell 1
    have x2 : w9.cell? ⟨w.heap.size, 2, none⟩ = some (.int .i64 t) := hT.cell 2
    have x3 : w9.cell? ⟨w.heap.size, 3, none⟩ = some (.int .i64 a) := hT.cell 3
    have x4 : w9.cell? ⟨w.heap.size, 4, none⟩ = some (.int .i64 p) := hT.cell 4
    have x5 : w9.cell? ⟨w.heap.size, 5, none⟩ = some (.bool ot) := hT.cell 5
    have x6 : w9.cell? ⟨w.heap.size, 6, none⟩ = some (vb y) := hT.cell 6
    have x7 : w9.cell? ⟨w.heap.size, 7, none⟩ = some (.slice oA on oc) := hT.cell 7
    clear hT hK hS
    go_simp
    try rfl
  try simp only [Act.put, List.setIfInBounds_toArray, List.set_cons_zero, List.set_cons_succ]
  refine Ps.step (i := 2) (d := some 12) (u := ?uwq_45) rfl rfl (by kernel_rfl) (by kernel_rfl) (by kernel_rfl) (by kernel_rfl) ?ywq_45 ?rwq_45
  case ywq_45 =>
    refine StepS.read [] (by kernel_rfl) (SeqN.pass (by decide)) (by rfl) (fun L9 m9 w9 hSh hAt hDn hS => ?_)
    have hK : Kept w5 w9 (w.heap.size + 2) w5.heap.size := SeqN.any (T := fun w9 => Kept w5 w9 (w.heap.size + 2) w5.heap.size) (fun j _ _ h => by match j, h with | 0, h => exact h.1 | 1, h => exact h.1 | 2, h => exact h.1 | 3, h => exact h.1 | _ + 4, h => exact h.1) hS
    have hT : Blk w9 (w.heap.size + 1) 26 #[.int .u64 sent, .slice A m c] := HN.out.kp hK (by omega) (by omega)
    have x0 : w9.cell? ⟨(w.heap.size + 1), 0, none⟩ = some (.int .u64 sent) := hT.cell 0
    have x1 : w9.cell? ⟨(w.heap.size + 1), 1, none⟩ = some (.slice A m c) := hT.cell 1
    clear hT hK hS
    go_simp
    try rfl
  try simp only [Act.put, List.setIfInBounds_toArray, List.set_cons_zero, List.set_cons_succ]
  refine Ps.step (i := 3) (d := some 13) (u := (.int .u64 x)) rfl rfl (by kernel_rfl) (by kernel_rfl) (by kernel_rfl) (by kernel_rfl) ?ywq_46 ?rwq_46
  case ywq_46 =>
    refine StepS.call ?fwq_46 ?awq_46 [] (by kernel_rfl) (by rfl) (fun w9 => ?hwq_46) (fun L9 m9 w9 hSh hAt hDn hS => ?cwq_46)
    case hwq_46 => go_simp; refine ⟨?_, ?_⟩ <;> rfl
    case cwq_46 =>
      have hC := SeqN.at_ [] [8, 13, 15] hSh hAt hDn (by kernel_rfl) hS
      refine (HNU.out w9 (rd_kp HR.out hC.1 (by omega) (by omega))).mono ?_
      rintro e w8 ⟨rfl, q8⟩
      refine ⟨rfl, SeqN.set_ [] [8, 13, 15] hSh hAt hDn (by kernel_rfl) (by decide) (by decide) ⟨hC.1.trans (Kept.of_below q8 hC.1.size), hC.2.ca q8⟩⟩
  try simp only [Act.put, List.setIfInBounds_toArray, List.set_cons_zero, List.set_cons_succ]
  refine Ps.step (i := 4) (d := some 14) (u := ?uwq_47) rfl rfl (by kernel_rfl) (by kernel_rfl) (by kernel_rfl) (by kernel_rfl) ?ywq_47 ?rwq_47
  case ywq_47 =>
    refine StepS.pure (SeqN.pass (by decide)) (by rfl) (fun w9 => ?_)
    go_simp
    try rfl
  try simp only [Act.put, List.setIfInBounds_toArray, List.set_cons_zero, List.set_cons_succ]
  refine Ps.step (i := 5) (d := some 15) (u := ?uwq_48) rfl rfl (by kernel_rfl) (by kernel_rfl) (by kernel_rfl) (by kernel_rfl) ?ywq_48 ?rwq_48
  case ywq_48 =>
    refine StepS.read [] (by kernel_rfl) (SeqN.pass (by decide)) (by rfl) (fun L9 m9 w9 hSh hAt hDn hS => ?_)
    have hK : Kept w5 w9 (w.heap.size + 2) w5.heap.size := SeqN.any (T := fun w9 => Kept w5 w9 (w.heap.size + 2) w5.heap.size) (fun j _ _ h => by match j, h with | 0, h => exact h.1 | 1, h => exact h.1 | 2, h => exact h.1 | 3, h => exact h.1 | _ + 4, h => exact h.1) hS
    have hT : Blk w9 w.heap.size 49 #[.int .i64 k, .int .i64 f, .int .i64 t, .int .i64 a, .int .i64 p, .bool ot, vb y, .slice oA on oc] := HO.out.kp hK (by omega) (by omega)
    have x4 : w9.cell? ⟨w.heap.size, 4, none⟩ = some (.int .i64 p) := hT.cell 4
    clear hT hK hS
    go_simp
    try rfl
  try simp only [Act.put, List.setIfInBounds_toArray, List.set_cons_zero, List.set_cons_succ]
  refine Ps.step (i := 6) (d := some 16) (u := ?uwq_49) rfl rfl (by kernel_rfl) (by kernel_rfl) (by kernel_rfl) (by kernel_rfl) ?ywq_49 ?rwq_49
  case ywq_49 =>
    refine StepS.pure (SeqN.pass (by decide)) (by rfl) (fun w9 => ?_)
    go_simp
    try rfl
  try simp only [Act.put, List.setIfInBounds_toArray, List.set_cons_zero, List.set_cons_succ]
  refine Ps.step (i := 7) (d := some 17) (u := ?uwq_50) rfl rfl (by kernel_rfl) (by kernel_rfl) (by kernel_rfl) (by kernel_rfl) ?ywq_50 ?rwq_50
  case ywq_50 =>
    refine StepS.read [] (by kernel_rfl) (SeqN.pass (by decide)) (by rfl) (fun L9 m9 w9 hSh hAt hDn hS => ?_)
    have hK : Kept w5 w9 (w.heap.size + 2) w5.heap.size := SeqN.any (T := fun w9 => Kept w5 w9 (w.heap.size + 2) w5.heap.size) (fun j _ _ h => by match j, h with | 0, h => exact h.1 | 1, h => exact h.1 | 2, h => exact h.1 | 3, h => exact h.1 | _ + 4, h => exact h.1) hS
    have hT : Blk w9 w.heap.size 49 #[.int .i64 k, .int .i64 f, .int .i64 t, .int .i64 a, .int .i64 p, .bool ot, vb y, .slice oA on oc] := HO.out.kp hK (by omega) (by omega)
    have x6 : w9.cell? ⟨w.heap.size, 6, none⟩ = some (vb y) := hT.cell 6
    clear hT hK hS
    go_simp
    try rfl
  try simp only [Act.put, List.setIfInBounds_toArray, List.set_cons_zero, List.set_cons_succ]
  refine Ps.one (k := 8) (d := some 18) rfl rfl (by kernel_rfl) (TurnS.call (V := fun v => ∃ A2 m2 c2, v = Value.tuple #[.agg #[.int .u64 s, .slice A2 m2 c2], .int .i64 E]) ?fwq_51 ?awq_51 [3] (by kernel_rfl) (by rfl) (fun w9 => ?hwq_51) (fun L9 m9 w9 hSh hAt hDn hS => ?cwq_51)) (fun v8 hVv8 => ?rwq_51)
  case hwq_51 => go_simp; refine ⟨?_, ?_⟩ <;> rfl
  case cwq_51 =>
    have hC := SeqN.at_ [3] [13, 15] hSh hAt hDn (by kernel_rfl) hS
    have hCA := HCO.out w9 (rd_kp HR.out hC.1 (by omega) (by omega))
    refine hCA.mono ?_
    rintro e w8 ⟨A2, m2, c2, rfl, ho, q8⟩
    have hs9 := hC.1.size
    have HSEP : Sep w8 w5.heap.size ⟨s, l, 0, zeroPC, 0, E⟩ A2 m2 c2 none 0 0 := Sep.less (Sep.ofN ho _ _ _ _) hs9
    exact ⟨_, rfl, ⟨A2, m2, c2, rfl⟩, SeqN.set_ [3] [13, 15] hSh hAt hDn (by kernel_rfl) (by decide) (by decide) ⟨hC.1.trans (Kept.of_below q8 hC.1.size), A2, m2, c2, upd_same _ _ _, HSEP, hC.2.ca q8⟩⟩
  try simp only [Act.put, List.setIfInBounds_toArray, List.set_cons_zero, List.set_cons_succ]
  obtain ⟨A2, m2, c2, rfl⟩ := hVv8
  refine Ps.step (i := 9) (d := some 9) (u := ?uwq_52) rfl rfl (by kernel_rfl) (by kernel_rfl) (by kernel_rfl) (by kernel_rfl) ?ywq_52 ?rwq_52
  case ywq_52 =>
    refine StepS.pure (SeqN.pass (by decide)) (by rfl) (fun w9 => ?_)
    go_simp
    try rfl
  try simp only [Act.put, List.setIfInBounds_toArray, List.set_cons_zero, List.set_cons_succ]
  refine Ps.step (i := 10) (d := some 19) (u := ?uwq_53) rfl rfl (by kernel_rfl) (by kernel_rfl) (by kernel_rfl) (by kernel_rfl) ?ywq_53 ?rwq_53
  case ywq_53 =>
    refine StepS.pure (SeqN.pass (by decide)) (by rfl) (fun w9 => ?_)
    go_simp
    try rfl
  try simp only [Act.put, List.setIfInBounds_toArray, List.set_cons_zero, List.set_cons_succ]
  refine Ps.step (i := 11) (d := some 20) (u := ?uwq_54) rfl rfl (by kernel_rfl) (by kernel_rfl) (by kernel_rfl) (by kernel_rfl) ?ywq_54 ?rwq_54
  case ywq_54 =>
    refine StepS.pure (SeqN.pass (by decide)) (by rfl) (fun w9 => ?_)
    go_simp
    try rfl
  try simp only [Act.put, List.setIfInBounds_toArray, List.set_cons_zero, List.set_cons_succ]
  refine Ps.step (i := 12) (d := some 21) (u := ?uwq_55) rfl rfl (by kernel_rfl) (by kernel_rfl) (by kernel_rfl) (by kernel_rfl) ?ywq_55 ?rwq_55
  case ywq_55 =>
    refine StepS.pure (SeqN.pass (by decide)) (by rfl) (fun w9 => ?_)
    go_simp
    try rfl
  try simp only [Act.put, List.setIfInBounds_toArray, List.set_cons_zero, List.set_cons_succ]
  refine Ps.step (i := 13) (d := none) (u := undef) rfl rfl (by kernel_rfl) (by kernel_rfl) (by kernel_rfl) (by kernel_rfl) ?ywq_56 ?rwq_56
  case ywq_56 =>
    refine StepS.store [3, 8] (by kernel_rfl) (by rfl) (fun L9 m9 w9 hSh hAt hDn hS => ?_)
    obtain ⟨hK, A2', m2', c2', hm4, hsep, hB⟩ := SeqN.at_ [3, 8] [15] hSh hAt hDn (by kernel_rfl) hS
    obtain ⟨rfl, rfl, rfl⟩ := inj_n2 ((hAt 8 (by simp)).2.symm.trans hm4)
    refine (exec_store_part (w := w9) 26 (.tmp 21) (.tmp 19) (by rfl) (w.heap.size + 2) 0 51 #[.int .u64 0, .slice none 0 0, .int .u64 0, .int .u64 0, .int .i64 0, .int .i64 0, .slice none 0 0, .bool false, .int .i64 0, .int .i64 0] #[.int .u64 s, .slice A2 m2 c2] #[.int .u64 s, .slice A2 m2 c2, .int .u64 0, .int .u64 0, .int .i64 0, .int .i64 0, .slice none 0 0, .bool false, .int .i64 0, .int .i64 0] (by rfl) (by rfl) hB (by simp) netI (by simp [Value.oneCell']) (by rfl)).imp fun w7 hx => ⟨hx.1, SeqN.set_ [3, 8] [15] hSh hAt hDn (by kernel_rfl) (by decide) (by decide) ⟨hK.trans (Kept.of_grown hx.2.2 hK.size (.inl rfl)), A2, m2, c2, hm4, hsep.kept hx.2.2 (by omega), hx.2.1⟩⟩
  try simp only [Act.put]
  refine Ps.step (i := 14) (d := some 22) (u := ?uwq_57) rfl rfl (by kernel_rfl) (by kernel_rfl) (by kernel_rfl) (by kernel_rfl) ?ywq_57 ?rwq_57
  case ywq_57 =>
    refine StepS.pure (SeqN.pass (by decide)) (by rfl) (fun w9 => ?_)
    go_simp
    try rfl
  try simp only [Act.put, List.setIfInBounds_toArray, List.set_cons_zero, List.set_cons_succ]
  refine Ps.step (i := 15) (d := none) (u := undef) rfl rfl (by kernel_rfl) (by kernel_rfl) (by kernel_rfl) (by kernel_rfl) ?ywq_58 ?rwq_58
  case ywq_58 =>
    refine StepS.store [3, 8, 13] (by kernel_rfl) (by rfl) (fun L9 m9 w9 hSh hAt hDn hS => ?_)
    obtain ⟨hK, A2', m2', c2', hm4, hsep, hB⟩ := SeqN.at_ [3, 8, 13] [] hSh hAt hDn (by kernel_rfl) hS
    obtain ⟨rfl, rfl, rfl⟩ := inj_n2 ((hAt 8 (by simp)).2.symm.trans hm4)
    have xc : w9.cell? ⟨w.heap.size + 2, 9, none⟩ = some (.int .i64 0) := hB.cell 9
    have fx : w9.frozen? ⟨w.heap.size + 2, 9, none⟩ = false := hB.frozen 9
    have hB2 : Blk (w9.setCell ⟨w.heap.size + 2, 9, none⟩ (.int .i64 E)) (w.heap.size + 2) 51 #[.int .u64 s, .slice A2 m2 c2, .int .u64 0, .int .u64 0, .int .i64 0, .int .i64 0, .slice none 0 0, .bool false, .int .i64 0, .int .i64 E] := by simpa using hB.set_ 9 (.int .i64 E)
    have hg2 : w9.grownBy (w9.setCell ⟨w.heap.size + 2, 9, none⟩ (.int .i64 E)) (some (w.heap.size + 2)) := only_setCell (World.grownBy.refl _ _) (.inl rfl) _
    refine ⟨w9.setCell ⟨w.heap.size + 2, 9, none⟩ (.int .i64 E), ?_, SeqN.set_ [3, 8, 13] [] hSh hAt hDn (by kernel_rfl) (by decide) (by decide) ⟨hK.trans (Kept.of_grown hg2 hK.size (.inl rfl)), A2, m2, c2, hm4, hsep.kept hg2 (by omega), hB2⟩⟩
    clear hB hB2 hg2 hS hK hsep hm4
    go_simp
  try simp only [Act.put]
  refine Ps.done (by kernel_rfl) (fun wq hS => ?_) _
  obtain ⟨hK, A2', m2', c2', hm4, hsep, hB⟩ := SeqN.fin (by rfl) hS
  clear hS
  obtain ⟨rfl, rfl, rfl⟩ := inj_n2 hm4
  clear hm4
  go_wp2_with (first | (refine wpList_load_blk rfl 51 (.tmp 4) rfl (w.heap.size + 2) rfl 51 #[.int .u64 s, .slice A2 m2 c2, .int .u64 0, .int .u64 0, .int .i64 0, .int .i64 0, .slice none 0 0, .bool false, .int .i64 0, .int .i64 E] _ hB Try.underlying51 rfl toldI ?_) | (refine wpList_store_blk rfl 51 (.tmp 4) (.tmp 110) rfl (w.heap.size + 2) 51 #[.int .u64 s, .slice A2 m2 c2, .int .u64 0, .int .u64 0, .int .i64 0, .int .i64 0, .slice none 0 0, .bool false, .int .i64 0, .int .i64 E] #[.int .u64 s, .slice A2 m2 c2, .int .u64 0, .int .u64 0, .int .i64 0, .int .i64 0, .slice none 0 0, .bool false, .int .i64 0, .int .i64 E] rfl rfl hB rfl toldI (by simp [Value.oneCell']) ?_; intro wz hZ gz))
  exact bodyPost_ret (res1 Try.results22 rfl hZ Try.underlying51 rfl toldI) rfl ⟨_, _, _, _, _, _, rfl, (hsep.kept gz (by omega)).less (by omega), bl_gr (hK.below BB.out (by omega) (by omega)) gz (by omega)⟩
end Go.Proofs.Ytnbcffnhgijmcaa
/- Op.run. Conditions: the net's slice reads as these parcels, the op's as these bytes. -/
namespace Go.Proofs.Ytnbcffnhgijmcaa
open Go.RowKit
def runT (o : OpC) (sent : Int) (ps : List PC) : Told :=
  if kindI o < 3 then ⟨(sendR sent ps o.frm o.to (bytesO o)).1, (sendR sent ps o.frm o.to (bytesO o)).2, (sendR sent ps o.frm o.to (bytesO o)).1, zeroPC, 0, sendE sent ps o.frm o.to (bytesO o)⟩
  else if kindI o = 3 then ⟨(comeR sent ps (numI o ps)).1, (comeR sent ps (numI o ps)).2, 0, comeP sent ps (numI o ps), 0, comeE sent ps (numI o ps)⟩
  else if kindI o = 4 then ⟨(comeR sent ps (numI o ps)).1, (comeR sent ps (numI o ps)).2, 0, zeroPC, 0, comeE sent ps (numI o ps)⟩
  else if kindI o = 5 then ⟨(dropR sent ps o.frm o.to).1, (dropR sent ps o.frm o.to).2, 0, zeroPC, dropG sent ps o.frm o.to, dropE sent ps o.frm o.to⟩
  else if kindI o = 6 then ⟨(twinR sent ps (numI o ps)).1, (twinR sent ps (numI o ps)).2, (twinR sent ps (numI o ps)).1, zeroPC, 0, twinE sent ps (numI o ps)⟩
  else ⟨(spoilR sent ps (numI o ps) o.place o.by_).1, (spoilR sent ps (numI o ps) o.place o.by_).2, 0, zeroPC, 0, spoilE sent ps (numI o ps) o.place o.by_⟩
theorem kind_cases (o : OpC) : kindI o = 0 ∨ kindI o = 1 ∨ kindI o = 2 ∨ kindI o = 3 ∨ kindI o = 4 ∨ kindI o = 5 ∨ kindI o = 6 ∨ kindI o = 7 := by
  unfold kindI
  omega
theorem run_any (o : OpC) (oA : Option Addr) (on oc : Nat) (sent : Int) (A : Option Addr) (m c : Nat) (ps : List PC) (w : World) (h : LP.rd w AllB A m ps) (hm : m ≤ 9223372036854775807) (hs0 : 0 ≤ sent) (hb : RdB w oA on o.bs) (hc1 : on ≤ oc) (hc2 : oc ≤ 9223372036854775807) :
    Calls Try.prog 22 #[.agg (o.cells oA on oc), .agg #[.int .u64 sent, .slice A m c]] w (RunC w (runT o sent ps)) := by
  rcases kind_cases o with k | k | k | k | k | k | k | k
  · rw [show runT o sent ps = _ from by unfold runT; rw [k, if_pos (by decide)]]
    exact run_send0 o oA on oc sent A m c ps w k h hm hs0 hb hc1 hc2
  · rw [show runT o sent ps = _ from by unfold runT; rw [k, if_pos (by decide)]]
    exact run_send1 o oA on oc sent A m c ps w k h hm hs0 hb hc1 hc2
  · rw [show runT o sent ps = _ from by unfold runT; rw [k, if_pos (by decide)]]
    exact run_send2 o oA on oc sent A m c ps w k h hm hs0 hb hc1 hc2
  · rw [show runT o sent ps = _ from by unfold runT; rw [k, if_neg (by decide), if_pos rfl]]
    exact run_come o oA on oc sent A m c ps w k h hm
  · rw [show runT o sent ps = _ from by unfold runT; rw [k, if_neg (by decide), if_neg (by decide), if_pos rfl]]
    exact run_lose o oA on oc sent A m c ps w k h hm
  · rw [show runT o sent ps = _ from by unfold runT; rw [k, if_neg (by decide), if_neg (by decide), if_neg (by decide), if_pos rfl]]
    exact run_drop o oA on oc sent A m c ps w k h hm
  · rw [show runT o sent ps = _ from by unfold runT; rw [k, if_neg (by decide), if_neg (by decide), if_neg (by decide), if_neg (by decide), if_pos rfl]]
    exact run_twin o oA on oc sent A m c ps w k h hm hs0
  · rw [show runT o sent ps = _ from by unfold runT; rw [k, if_neg (by decide), if_neg (by decide), if_neg (by decide), if_neg (by decide), if_neg (by decide)]]
    exact run_spoil o oA on oc sent A m c ps w k h hm
end Go.Proofs.Ytnbcffnhgijmcaa
/- Nets that may be, and what is done to them: plain lists. Conditions: none. -/
namespace Go.Proofs.Ytnbcffnhgijmcaa
/-- a parcel that may be, of a net with so many sent -/
structure Fit (sent : Int) (p : PC) : Prop where
  pos : 0 < p.num
  le : p.num ≤ sent
  pair : pairB p.frm p.to = true
  len : p.bs.length ≤ 60000
  full : 0 < p.bs.length ∨ p.sp = false
def Asc (ps : List PC) : Prop := ps.Pairwise fun p q => p.num < q.num
theorem go_iff {sent : Int} : ∀ {ps : List PC} {last : Int}, 0 ≤ last → (goB sent last ps = true ↔ (∀ p ∈ ps, last < p.num ∧ Fit sent p) ∧ Asc ps)
  | [], last, _ => by simp [goB, Asc]
  | p :: l, last, h0 => by
    unfold goB Asc
    rw [Bool.and_eq_true, List.pairwise_cons]
    have hp : parB sent last p = true ↔ last < p.num ∧ Fit sent p := by
      unfold parB
      simp only [Bool.and_eq_true, Bool.or_eq_true, decide_eq_true_eq, Bool.not_eq_true']
      refine ⟨fun ⟨⟨⟨⟨a, b⟩, c⟩, d⟩, e⟩ => ⟨a, by omega, b, c, by omega, e.imp (fun h => by omega) id⟩, fun ⟨a, f⟩ => ⟨⟨⟨⟨a, f.le⟩, f.pair⟩, by have := f.len; omega⟩, f.full.imp (fun h => by omega) id⟩⟩
    rw [hp]
    refine ⟨fun ⟨⟨a, f⟩, g⟩ => ?_, fun ⟨h1, h2, h3⟩ => ?_⟩
    · obtain ⟨g1, g2⟩ := (go_iff (by omega)).1 g
      exact ⟨fun q hq => (List.mem_cons.1 hq).elim (fun e => e ▸ ⟨a, f⟩) (fun hq => ⟨by have := (g1 q hq).1; omega, (g1 q hq).2⟩), fun q hq => (g1 q hq).1, g2⟩
    · obtain ⟨a, f⟩ := h1 p (by simp)
      exact ⟨⟨a, f⟩, (go_iff (by omega)).2 ⟨fun q hq => ⟨h2 q hq, (h1 q (by simp [hq])).2⟩, h3⟩⟩
theorem chk_iff {sent : Int} {ps : List PC} : chkB sent ps = true ↔ sent ≤ 1099511627776 ∧ ps.length ≤ 20000 ∧ (∀ p ∈ ps, Fit sent p) ∧ Asc ps := by
  unfold chkB
  simp only [Bool.and_eq_true, decide_eq_true_eq]
  rw [go_iff (Int.le_refl 0)]
  refine ⟨fun ⟨⟨a, b⟩, c, d⟩ => ⟨a, by omega, fun p hp => (c p hp).2, d⟩, fun ⟨a, b, c, d⟩ => ⟨⟨a, by omega⟩, fun p hp => ⟨(c p hp).pos, c p hp⟩, d⟩⟩
theorem Asc.uniq {ps : List PC} (h : Asc ps) {p q : PC} (hp : p ∈ ps) (hq : q ∈ ps) (e : p.num = q.num) : p = q := by
  induction ps with
  | nil => cases hp
  | cons x l ih =>
    obtain ⟨h1, h2⟩ := List.pairwise_cons.1 h
    rcases List.mem_cons.1 hp with ep | hp' <;> rcases List.mem_cons.1 hq with eq | hq'
    · rw [ep, eq]
    · have := h1 q hq'; rw [ep] at e; omega
    · have := h1 p hp'; rw [eq] at e; omega
    · exact ih h2 hp' hq'
/-- without the parcel of a number -/
theorem without {ps : List PC} {x : Int} (h : Asc ps) (hh : hasB ps x = true) : ps.take (ixP ps x) ++ ps.drop (ixP ps x + 1) = ps.filter fun p => !(p.num == x) := by
  induction ps with
  | nil => simp [hasB] at hh
  | cons p l ih =>
    obtain ⟨h1, h2⟩ := List.pairwise_cons.1 h
    by_cases hx : p.num = x
    · have e0 : ixP (p :: l) x = 0 := by simp [ixP, List.findIdx_cons, hx]
      rw [e0, List.filter_cons_of_neg (by simp [hx]), List.filter_eq_self.2 (fun q hq => by have := h1 q hq; simp; omega)]
      rfl
    · have e0 : ixP (p :: l) x = ixP l x + 1 := by simp [ixP, List.findIdx_cons, hx]
      have hh' : hasB l x = true := by simpa [hasB, hx] using hh
      rw [e0, List.filter_cons_of_pos (by simp [hx]), ← ih h2 hh']
      rfl
/-- with the parcel of a number changed -/
theorem changed {ps : List PC} {x : Int} (f : PC → PC) (h : Asc ps) (hh : hasB ps x = true) : ps.set (ixP ps x) (f (getP ps x)) = ps.map fun p => if p.num = x then f p else p := by
  induction ps with
  | nil => simp [hasB] at hh
  | cons p l ih =>
    obtain ⟨h1, h2⟩ := List.pairwise_cons.1 h
    by_cases hx : p.num = x
    · have e0 : ixP (p :: l) x = 0 := by simp [ixP, List.findIdx_cons, hx]
      have e1 : getP (p :: l) x = p := by unfold getP; rw [e0]; rfl
      rw [e0, e1, List.map_cons, if_pos hx, List.set_cons_zero]
      congr 1
      refine ((List.map_congr_left fun q hq => ?_).trans (List.map_id l)).symm
      have := h1 q hq
      rw [if_neg (by omega)]; rfl
    · have e0 : ixP (p :: l) x = ixP l x + 1 := by simp [ixP, List.findIdx_cons, hx]
      have e1 : getP (p :: l) x = getP l x := by unfold getP; rw [e0]; rfl
      have hh' : hasB l x = true := by simpa [hasB, hx] using hh
      rw [e0, e1, List.set_cons_succ, List.map_cons, if_neg hx, ih h2 hh']
theorem getP_mem {ps : List PC} {x : Int} (hh : hasB ps x = true) : getP ps x ∈ ps ∧ (getP ps x).num = x := by
  unfold hasB at hh
  obtain ⟨p, hp, hx⟩ := List.any_eq_true.1 hh
  have hl : ixP ps x < ps.length := List.findIdx_lt_length_of_exists ⟨p, hp, hx⟩
  have he : getP ps x = ps[ixP ps x] := by unfold getP; rw [List.getElem?_eq_getElem hl]; rfl
  rw [he]
  refine ⟨List.getElem_mem hl, ?_⟩
  have := List.findIdx_getElem (xs := ps) (p := fun p : PC => decide (p.num = x)) (w := by exact hl)
  unfold ixP
  simpa using this
theorem idxF_some {f : PC → Bool} {ps : List PC} (h : ∃ q ∈ ps, f q = true) : ∃ (i : Nat) (q : PC), idxF f ps = i ∧ ps[i]? = some q ∧ f q = true := by
  obtain ⟨q, hq, hf⟩ := h
  have hl := List.findIdx_lt_length_of_exists ⟨q, hq, hf⟩
  refine ⟨ps.findIdx f, ps[ps.findIdx f], ?_, List.getElem?_eq_getElem hl, List.findIdx_getElem (w := hl)⟩
  unfold idxF
  rw [List.any_eq_true.2 ⟨q, hq, hf⟩, if_pos rfl]
theorem idxF_none {f : PC → Bool} {ps : List PC} (h : ∀ q ∈ ps, f q = false) : idxF f ps = -1 := by
  unfold idxF
  rw [List.any_eq_false.2 (fun q hq => by rw [h q hq]; decide)]
  rfl
theorem set_ne {l : List UInt8} {a : Nat} {y : UInt8} (ha : a < l.length) (hy : y ≠ 0) : (l.set a (l.getD a 0 ^^^ y) == l) = false := by
  rw [beq_eq_false_iff_ne]
  intro e
  have h1 : (l.set a (l.getD a 0 ^^^ y))[a]? = l[a]? := by rw [e]
  rw [List.getElem?_set_self ha, List.getElem?_eq_getElem ha] at h1
  injection h1 with h1
  rw [List.getD_eq_getElem?_getD, List.getElem?_eq_getElem ha] at h1
  simp only [Option.getD_some] at h1
  apply hy
  have h2 : l[a] ^^^ (l[a] ^^^ y) = l[a] ^^^ l[a] := by rw [h1]
  rw [← UInt8.xor_assoc, UInt8.xor_self, UInt8.zero_xor] at h2
  exact h2
end Go.Proofs.Ytnbcffnhgijmcaa
