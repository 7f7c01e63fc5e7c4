/- Op.wants, an op that sends. Conditions: the net is right. -/
import Derived.Test.YtnbcffnhgijmcaaPkD16
namespace Go.Proofs.Ytnbcffnhgijmcaa
open Go.RowKit
theorem inj_sl {A A' : Option Addr} {m c m' c' : Nat} (h : Value.slice A m c = .slice A' m' c') : A = A' ∧ m = m' ∧ c = c' := by
  injection h with h1 h2 h3
  exact ⟨h1, h2, h3⟩
theorem Reads.kp9 {w0 w w' : World} {g : Nat} {A : Option Addr} {n : Nat} {xs : List Value} (h : Reads w w0.heap.size 1 A n xs) (k : Kept w w' g w.heap.size) (h0 : w0.heap.size ≤ w.heap.size) (hg : w0.heap.size ≤ g) : Reads w' w'.heap.size 1 A n xs :=
  (h.keep fun p hp => World.cell?_of_block (k.block p.block (by omega) (by omega))).more (Nat.le_trans h0 k.size)
set_option maxRecDepth 100000 in
set_option maxHeartbeats 16000000 in
theorem want_send0 (o : OpC) (oA : Option Addr) (on oc : Nat) (sent : Int) (A : Option Addr) (m c : Nat) (ps : List PC) (w : World) (hk : kindI o = 0) (h : LP.rd w AllB A m ps) (hc : chkB sent ps = true) (hm : m ≤ 20000) (hb : ∀ p ∈ ps, p.bs.length ≤ 100000) (hs0 : 0 ≤ sent) (hob : RdB w oA on o.bs) (hc1 : on ≤ oc) (hc2 : oc ≤ 9223372036854775807) :
    Calls Try.prog 23 #[.agg (o.cells oA on oc), .agg #[.int .u64 sent, .slice A m c]] w (WantC w ⟨(sendR sent ps o.frm o.to (bytesO o)).1, (sendR sent ps o.frm o.to (bytesO o)).2, (sendR sent ps o.frm o.to (bytesO o)).1, zeroPC, 0, sendE sent ps o.frm o.to (bytesO o)⟩) := by
  have HK := Lib.hid (fun w => kind_any o oA on oc w)
  rw [hk] at HK
  clear hk
  have HBY := Lib.hid (fun W h => bytes_any o oA on oc W h hc1 hc2)
  obtain ⟨bb8, hbb8⟩ : ∃ bb8, bb8 = bytesO o := ⟨_, rfl⟩
  rw [← hbb8]
  rw [← hbb8] at HBY
  clear hbb8
  obtain ⟨k, f, t, a, p, ot, y, bs⟩ := o
  dsimp only at hob HBY ⊢
  rw [send_eqE hc, send_eqR hc]
  have HCO := Lib.hid (fun bA bn bc W h hb' => rsend_any sent A m c ps f t bA bn bc bb8 W h hm hb hb' hs0 (chk_rng hc).1)
  generalize rsendR sent ps f t bb8 = R at *
  generalize rsendE sent ps f t bb8 = E at *
  obtain ⟨s, l⟩ := R
  dsimp only
  replace h := Lay.rd_weak (G := Old w) (fun b _ hb => hb) h
  have bb := Below.refl w.heap.size w
  have bO := Blk.new w 49 #[.int .i64 k, .int .i64 f, .int .i64 t, .int .i64 a, .int .i64 p, .bool ot, vb y, .slice oA on oc]
  replace bb := bl_al bb (.cells #[.int .i64 k, .int .i64 f, .int .i64 t, .int .i64 a, .int .i64 p, .bool ot, vb y, .slice oA on oc] 49)
  replace bO := bO.ca (bl_al (Below.refl _ _) (.cells #[.int .u64 sent, .slice A m c] 26))
  have bN : Blk ((w.alloc (.cells #[.int .i64 k, .int .i64 f, .int .i64 t, .int .i64 a, .int .i64 p, .bool ot, vb y, .slice oA on oc] 49)).alloc (.cells #[.int .u64 sent, .slice A m c] 26)) (w.heap.size + 1) 26 #[.int .u64 sent, .slice A m c] := Blk.mk' (by simp only [World.size_alloc])
  replace bb := bl_al bb (.cells #[.int .u64 sent, .slice A m c] 26)
  replace bO := bO.ca (bl_al (Below.refl _ _) (.cells #[.int .u64 0, .slice none 0 0, .int .u64 0, .int .u64 0, .int .i64 0, .int .i64 0, .slice none 0 0, .bool false, .int .i64 0, .int .i64 0] 51))
  replace bN := bN.ca (bl_al (Below.refl _ _) (.cells #[.int .u64 0, .slice none 0 0, .int .u64 0, .int .u64 0, .int .i64 0, .int .i64 0, .slice none 0 0, .bool false, .int .i64 0, .int .i64 0] 51))
  have bT : Blk (((w.alloc (.cells #[.int .i64 k, .int .i64 f, .int .i64 t, .int .i64 a, .int .i64 p, .bool ot, vb y, .slice oA on oc] 49)).alloc (.cells #[.int .u64 sent, .slice A m c] 26)).alloc (.cells #[.int .u64 0, .slice none 0 0, .int .u64 0, .int .u64 0, .int .i64 0, .int .i64 0, .slice none 0 0, .bool false, .int .i64 0, .int .i64 0] 51)) (w.heap.size + 2) 51 #[.int .u64 0, .slice none 0 0, .int .u64 0, .int .u64 0, .int .i64 0, .int .i64 0, .slice none 0 0, .bool false, .int .i64 0, .int .i64 0] := Blk.mk' (by simp only [World.size_alloc])
  replace bb := bl_al bb (.cells #[.int .u64 0, .slice none 0 0, .int .u64 0, .int .u64 0, .int .i64 0, .int .i64 0, .slice none 0 0, .bool false, .int .i64 0, .int .i64 0] 51)
  have hsz : w.heap.size + 3 ≤ (((w.alloc (.cells #[.int .i64 k, .int .i64 f, .int .i64 t, .int .i64 a, .int .i64 p, .bool ot, vb y, .slice oA on oc] 49)).alloc (.cells #[.int .u64 sent, .slice A m c] 26)).alloc (.cells #[.int .u64 0, .slice none 0 0, .int .u64 0, .int .u64 0, .int .i64 0, .int .i64 0, .slice none 0 0, .bool false, .int .i64 0, .int .i64 0] 51)).heap.size := by simp only [World.size_alloc]; omega
  have HRT := Lib.hid (right_any sent A m c ps _ (Lay.rd_below (Lay.rd_weak (fun _ _ _ => trivial) h) bb) (by omega))
  rw [hc] at HRT
  have HR1 := Lib.hid (Lay.rd_below h bb)
  have HB1 := Lib.hid (show Reads _ w.heap.size 1 oA on (bs.map vb) from hob)
  clear h hc hob
  have x0 : (((w.alloc (.cells #[.int .i64 k, .int .i64 f, .int .i64 t, .int .i64 a, .int .i64 p, .bool ot, vb y, .slice oA on oc] 49)).alloc (.cells #[.int .u64 sent, .slice A m c] 26)).alloc (.cells #[.int .u64 0, .slice none 0 0, .int .u64 0, .int .u64 0, .int .i64 0, .int .i64 0, .slice none 0 0, .bool false, .int .i64 0, .int .i64 0] 51)).cell? ⟨w.heap.size + 1, 0, none⟩ = some (.int .u64 sent) := bN.cell 0
  have x1 : (((w.alloc (.cells #[.int .i64 k, .int .i64 f, .int .i64 t, .int .i64 a, .int .i64 p, .bool ot, vb y, .slice oA on oc] 49)).alloc (.cells #[.int .u64 sent, .slice A m c] 26)).alloc (.cells #[.int .u64 0, .slice none 0 0, .int .u64 0, .int .u64 0, .int .i64 0, .int .i64 0, .slice none 0 0, .bool false, .int .i64 0, .int .i64 0] 51)).cell? ⟨w.heap.size + 1, 1, none⟩ = some (.slice A m c) := bN.cell 1
  go_enter Try.func23, Try.ntmps23
  go_wp2_with fail
  generalize (((w.alloc (.cells #[.int .i64 k, .int .i64 f, .int .i64 t, .int .i64 a, .int .i64 p, .bool ot, vb y, .slice oA on oc] 49)).alloc (.cells #[.int .u64 sent, .slice A m c] 26)).alloc (.cells #[.int .u64 0, .slice none 0 0, .int .u64 0, .int .u64 0, .int .i64 0, .int .i64 0, .slice none 0 0, .bool false, .int .i64 0, .int .i64 0] 51)) = w1 at *
  refine HRT.out.mono ?_
  rintro e w4 ⟨rfl, q4⟩
  have v0 : w4.cell? ⟨w.heap.size, 0, none⟩ = some (.int .i64 k) := (bO.ca q4).cell 0
  have v1 : w4.cell? ⟨w.heap.size, 1, none⟩ = some (.int .i64 f) := (bO.ca q4).cell 1
  have v2 : w4.cell? ⟨w.heap.size, 2, none⟩ = some (.int .i64 t) := (bO.ca q4).cell 2
  have v3 : w4.cell? ⟨w.heap.size, 3, none⟩ = some (.int .i64 a) := (bO.ca q4).cell 3
  have v4 : w4.cell? ⟨w.heap.size, 4, none⟩ = some (.int .i64 p) := (bO.ca q4).cell 4
  have v5 : w4.cell? ⟨w.heap.size, 5, none⟩ = some (.bool ot) := (bO.ca q4).cell 5
  have v6 : w4.cell? ⟨w.heap.size, 6, none⟩ = some (vb y) := (bO.ca q4).cell 6
  have v7 : w4.cell? ⟨w.heap.size, 7, none⟩ = some (.slice oA on oc) := (bO.ca q4).cell 7
  clear x0 x1 HRT
  go_wp2_with fail
  refine (HK.out _).mono ?_
  rintro e w5 ⟨rfl, q6⟩
  have q5 := q4.trans (q6.mono q4.size)
  have HO := Lib.hid (bO.ca q5)
  have HN := Lib.hid (bN.ca q5)
  have HT := Lib.hid (bT.ca q5)
  have HR := Lib.hid (Lay.rd_below HR1.out q5)
  have BB := Lib.hid (bl_ca bb q5)
  have hs5 := Nat.le_trans hsz q5.size
  have HB5 := Lib.hid (HB1.out.below (bl_ca bb q5))
  clear HB1 bO bN bT bb q4 q5 q6 HR1 HK v0 v1 v2 v3 v4 v5 v6 v7
  go_wp2_with fail
  refine wp_region_ps (S := SeqN [6, 7, 13, 15, 17] (fun j m w' => match j with | 0 => Kept w5 w' (w.heap.size + 2) w5.heap.size ∧ Blk w' (w.heap.size + 2) 51 #[.int .u64 0, .slice none 0 0, .int .u64 0, .int .u64 0, .int .i64 0, .int .i64 0, .slice none 0 0, .bool false, .int .i64 0, .int .i64 0] | 1 => Kept w5 w' (w.heap.size + 2) w5.heap.size ∧ ∃ bA bk bc, m 6 = .slice bA bk bc ∧ bk ≤ bc ∧ bc ≤ 9223372036854775807 ∧ OwnB w' w5.heap.size bA bk bc bb8 ∧ Blk w' (w.heap.size + 2) 51 #[.int .u64 0, .slice none 0 0, .int .u64 0, .int .u64 0, .int .i64 0, .int .i64 0, .slice none 0 0, .bool false, .int .i64 0, .int .i64 0] | 2 => Kept w5 w' (w.heap.size + 2) w5.heap.size ∧ ∃ A2 m2 c2, m 7 = Value.tuple #[.agg #[.int .u64 s, .slice A2 m2 c2], .int .u64 s, .int .i64 E] ∧ RSep w' w5.heap.size ⟨s, l, s, zeroPC, 0, E⟩ A2 m2 c2 none 0 0 ∧ Blk w' (w.heap.size + 2) 51 #[.int .u64 0, .slice none 0 0, .int .u64 0, .int .u64 0, .int .i64 0, .int .i64 0, .slice none 0 0, .bool false, .int .i64 0, .int .i64 0] | 3 => Kept w5 w' (w.heap.size + 2) w5.heap.size ∧ ∃ A2 m2 c2, m 7 = Value.tuple #[.agg #[.int .u64 s, .slice A2 m2 c2], .int .u64 s, .int .i64 E] ∧ RSep w' w5.heap.size ⟨s, l, s, zeroPC, 0, E⟩ A2 m2 c2 none 0 0 ∧ Blk w' (w.heap.size + 2) 51 #[.int .u64 s, .slice A2 m2 c2, .int .u64 0, .int .u64 0, .int .i64 0, .int .i64 0, .slice none 0 0, .bool false, .int .i64 0, .int .i64 0] | 4 => Kept w5 w' (w.heap.size + 2) w5.heap.size ∧ ∃ A2 m2 c2, m 7 = Value.tuple #[.agg #[.int .u64 s, .slice A2 m2 c2], .int .u64 s, .int .i64 E] ∧ RSep w' w5.heap.size ⟨s, l, s, zeroPC, 0, E⟩ A2 m2 c2 none 0 0 ∧ Blk w' (w.heap.size + 2) 51 #[.int .u64 s, .slice A2 m2 c2, .int .u64 s, .int .u64 0, .int .i64 0, .int .i64 0, .slice none 0 0, .bool false, .int .i64 0, .int .i64 0] | _ => Kept w5 w' (w.heap.size + 2) w5.heap.size ∧ ∃ A2 m2 c2, m 7 = Value.tuple #[.agg #[.int .u64 s, .slice A2 m2 c2], .int .u64 s, .int .i64 E] ∧ RSep w' w5.heap.size ⟨s, l, s, zeroPC, 0, E⟩ A2 m2 c2 none 0 0 ∧ Blk w' (w.heap.size + 2) 51 #[.int .u64 s, .slice A2 m2 c2, .int .u64 s, .int .u64 0, .int .i64 0, .int .i64 0, .slice none 0 0, .bool false, .int .i64 0, .int .i64 E])) (by kernel_rfl) ?spswq ?ppswq
  case spswq =>
    exact SeqN.start (by decide) ⟨Kept.of_below (Below.refl _ _).drew (Nat.le_refl _), HT.out.ca (Below.refl _ _).drew⟩
  refine Ps.step (i := 0) (d := some 31) (u := ?uwq_59) rfl rfl (by kernel_rfl) (by kernel_rfl) (by kernel_rfl) (by kernel_rfl) ?ywq_59 ?rwq_59
  case ywq_59 =>
    refine StepS.read [] (by kernel_rfl) (SeqN.pass (by decide)) (by rfl) (fun L9 m9 w9 hSh hAt hDn hS => ?_)
    have hK : Kept w5 w9 (w.heap.size + 2) w5.heap.size := SeqN.any (T := fun w9 => Kept w5 w9 (w.heap.size + 2) w5.heap.size) (fun j _ _ h => by match j, h with | 0, h => exact h.1 | 1, h => exact h.1 | 2, h => exact h.1 | 3, h => exact h.1 | 4, h => exact h.1 | _ + 5, h => exact h.1) hS
    have hT : Blk w9 (w.heap.size + 1) 26 #[.int .u64 sent, .slice A m c] := HN.out.kp hK (by omega) (by omega)
    have x0 : w9.cell? ⟨(w.heap.size + 1), 0, none⟩ = some (.int .u64 sent) := hT.cell 0
    have x1 : w9.cell? ⟨(w.heap.size + 1), 1, none⟩ = some (.slice A m c) := hT.cell 1
    clear hT hK hS
    go_simp
    try rfl
  try simp only [Act.put, List.setIfInBounds_toArray, List.set_cons_zero, List.set_cons_succ]
  refine Ps.step (i := 1) (d := some 32) (u := ?uwq_60) rfl rfl (by kernel_rfl) (by kernel_rfl) (by kernel_rfl) (by kernel_rfl) ?ywq_60 ?rwq_60
  case ywq_60 =>
    refine StepS.pure (SeqN.pass (by decide)) (by rfl) (fun w9 => ?_)
    go_simp
    try rfl
  try simp only [Act.put, List.setIfInBounds_toArray, List.set_cons_zero, List.set_cons_succ]
  refine Ps.step (i := 2) (d := some 33) (u := ?uwq_61) rfl rfl (by kernel_rfl) (by kernel_rfl) (by kernel_rfl) (by kernel_rfl) ?ywq_61 ?rwq_61
  case ywq_61 =>
    refine StepS.read [] (by kernel_rfl) (SeqN.pass (by decide)) (by rfl) (fun L9 m9 w9 hSh hAt hDn hS => ?_)
    have hK : Kept w5 w9 (w.heap.size + 2) w5.heap.size := SeqN.any (T := fun w9 => Kept w5 w9 (w.heap.size + 2) w5.heap.size) (fun j _ _ h => by match j, h with | 0, h => exact h.1 | 1, h => exact h.1 | 2, h => exact h.1 | 3, h => exact h.1 | 4, h => exact h.1 | _ + 5, h => exact h.1) hS
    have hT : Blk w9 w.heap.size 49 #[.int .i64 k, .int .i64 f, .int .i64 t, .int .i64 a, .int .i64 p, .bool ot, vb y, .slice oA on oc] := HO.out.kp hK (by omega) (by omega)
    have x1 : w9.cell? ⟨w.heap.size, 1, none⟩ = some (.int .i64 f) := hT.cell 1
    clear hT hK hS
    go_simp
    try rfl
  try simp only [Act.put, List.setIfInBounds_toArray, List.set_cons_zero, List.set_cons_succ]
  refine Ps.step (i := 3) (d := some 34) (u := ?uwq_62) rfl rfl (by kernel_rfl) (by kernel_rfl) (by kernel_rfl) (by kernel_rfl) ?ywq_62 ?rwq_62
  case ywq_62 =>
    refine StepS.pure (SeqN.pass (by decide)) (by rfl) (fun w9 => ?_)
    go_simp
    try rfl
  try simp only [Act.put, List.setIfInBounds_toArray, List.set_cons_zero, List.set_cons_succ]
  refine Ps.step (i := 4) (d := some 35) (u := ?uwq_63) rfl rfl (by kernel_rfl) (by kernel_rfl) (by kernel_rfl) (by kernel_rfl) ?ywq_63 ?rwq_63
  case ywq_63 =>
    refine StepS.read [] (by kernel_rfl) (SeqN.pass (by decide)) (by rfl) (fun L9 m9 w9 hSh hAt hDn hS => ?_)
    have hK : Kept w5 w9 (w.heap.size + 2) w5.heap.size := SeqN.any (T := fun w9 => Kept w5 w9 (w.heap.size + 2) w5.heap.size) (fun j _ _ h => by match j, h with | 0, h => exact h.1 | 1, h => exact h.1 | 2, h => exact h.1 | 3, h => exact h.1 | 4, h => exact h.1 | _ + 5, h => exact h.1) hS
    have hT : Blk w9 w.heap.size 49 #[.int .i64 k, .int .i64 f, .int .i64 t, .int .i64 a, .int .i64 p, .bool ot, vb y, .slice oA on oc] := HO.out.kp hK (by omega) (by omega)
    have x2 : w9.cell? ⟨w.heap.size, 2, none⟩ = some (.int .i64 t) := hT.cell 2
    clear hT hK hS
    go_simp
    try rfl
  try simp only [Act.put, List.setIfInBounds_toArray, List.set_cons_zero, List.set_cons_succ]
  refine Ps.step (i := 5) (d := some 36) (u := ?uwq_64) rfl rfl (by kernel_rfl) (by kernel_rfl) (by kernel_rfl) (by kernel_rfl) ?ywq_64 ?rwq_64
  case ywq_64 =>
    refine StepS.read [] (by kernel_rfl) (SeqN.pass (by decide)) (by rfl) (fun L9 m9 w9 hSh hAt hDn hS => ?_)
    have hK : Kept w5 w9 (w.heap.size + 2) w5.heap.size := SeqN.any (T := fun w9 => Kept w5 w9 (w.heap.size + 2) w5.heap.size) (fun j _ _ h => by match j, h with | 0, h => exact h.1 | 1, h => exact h.1 | 2, h => exact h.1 | 3, h => exact h.1 | 4, h => exact h.1 | _ + 5, h => exact h.1) hS
    have hT : Blk w9 w.heap.size 49 #[.int .i64 k, .int .i64 f, .int .i64 t, .int .i64 a, .int .i64 p, .bool ot, vb y, .slice oA on oc] := HO.out.kp hK (by omega) (by omega)
    have x0 : w9.cell? ⟨w.heap.size, 0, none⟩ = some (.int .i64 k) := hT.cell 0
    have x1 : w9.cell? ⟨w.heap.size, 1, none⟩ = some (.int .i64 f) := hT.cell 1
    have x2 : w9.cell? ⟨w.heap.size, 2, none⟩ = some (.int .i64 t) := hT.cell 2
    have x3 : w9.cell? ⟨w.heap.size, 3, none⟩ = some (.int .i64 a) := hT.cell 3
    have x4 : w9.cell? ⟨w.heap.size, 4, none⟩ = some (.int .i64 p) := hT.cell 4
    have x5 : w9.cell? ⟨w.heap.size, 5, none⟩ = some (.bool ot) := hT.cell 5
    have x6 : w9.cell? ⟨w.heap.size, 6, none⟩ = some (vb y) := hT.cell 6
    have x7 : w9.cell? ⟨w.heap.size, 7, none⟩ = some (.slice oA on oc) := hT.cell 7
    clear hT hK hS
    go_simp
    try rfl
  try simp only [Act.put, List.setIfInBounds_toArray, List.set_cons_zero, List.set_cons_succ]
  refine Ps.one (k := 6) (d := some 37) rfl rfl (by kernel_rfl) (TurnS.call (V := fun v => ∃ bA bk bc, v = .slice bA bk bc) ?fwq_65 ?awq_65 [] (by kernel_rfl) (by rfl) (fun w9 => ?hwq_65) (fun L9 m9 w9 hSh hAt hDn hS => ?cwq_65)) (fun v6 hVv6 => ?rwq_65)
  case hwq_65 => go_simp; refine ⟨?_, ?_⟩ <;> rfl
  case cwq_65 =>
    have hC := SeqN.at_ [] [7, 13, 15, 17] hSh hAt hDn (by kernel_rfl) hS
    refine (HBY.out w9 (Reads.kp9 HB5.out hC.1 (by omega) (by omega))).mono ?_
    rintro e w8 ⟨bA, bk, bc, rfl, hob, q8⟩
    have hcap := hob.cap
    have hcap2 : bc ≤ 9223372036854775807 := by have := hcap.2; unfold maxLen at this; omega
    exact ⟨_, rfl, ⟨bA, bk, bc, rfl⟩, SeqN.set_ [] [7, 13, 15, 17] hSh hAt hDn (by kernel_rfl) (by decide) (by decide) ⟨hC.1.trans (Kept.of_below q8 hC.1.size), bA, bk, bc, upd_same _ _ _, hcap.1, hcap2, hob.less hC.1.size, hC.2.ca q8⟩⟩
  try simp only [Act.put, List.setIfInBounds_toArray, List.set_cons_zero, List.set_cons_succ]
  obtain ⟨bA, bk, bc, rfl⟩ := hVv6
  refine Ps.one (k := 7) (d := some 38) rfl rfl (by kernel_rfl) (TurnS.call (V := fun v => ∃ A2 m2 c2, v = Value.tuple #[.agg #[.int .u64 s, .slice A2 m2 c2], .int .u64 s, .int .i64 E]) ?fwq_66 ?awq_66 [6] (by kernel_rfl) (by rfl) (fun w9 => ?hwq_66) (fun L9 m9 w9 hSh hAt hDn hS => ?cwq_66)) (fun v7 hVv7 => ?rwq_66)
  case hwq_66 => go_simp; refine ⟨?_, ?_⟩ <;> rfl
  case cwq_66 =>
    obtain ⟨hK, A6, k6, c6, h6, hc6, hc7, hob, hB⟩ := SeqN.at_ [6] [13, 15, 17] hSh hAt hDn (by kernel_rfl) hS
    obtain ⟨rfl, rfl, rfl⟩ : bA = A6 ∧ bk = k6 ∧ bc = c6 := by have h9 := (hAt 6 (by simp)).2.symm.trans h6; exact inj_sl h9
    have hCA := HCO.out bA bk bc w9 (rd_kp HR.out hK (by omega) (by omega)) hob.rd
    refine hCA.mono ?_
    rintro e w8 ⟨A2, m2, c2, rfl, ⟨es, hd, hes⟩, q8⟩
    have hs9 := hK.size
    have HSEP : RSep w8 w5.heap.size ⟨s, l, s, zeroPC, 0, E⟩ A2 m2 c2 none 0 0 := RSep.less ⟨by rw [show l = es.map El.p from hes.symm]; exact hd.rd (fun b hb => hb), OwnB.none_ _ _⟩ hs9
    exact ⟨_, rfl, ⟨A2, m2, c2, rfl⟩, SeqN.set_ [6] [13, 15, 17] hSh hAt hDn (by kernel_rfl) (by decide) (by decide) ⟨hK.trans (Kept.of_below q8 hK.size), A2, m2, c2, upd_same _ _ _, HSEP, hB.ca q8⟩⟩
  try simp only [Act.put, List.setIfInBounds_toArray, List.set_cons_zero, List.set_cons_succ]
  obtain ⟨A2, m2, c2, rfl⟩ := hVv7
  refine Ps.step (i := 8) (d := some 30) (u := ?uwq_67) rfl rfl (by kernel_rfl) (by kernel_rfl) (by kernel_rfl) (by kernel_rfl) ?ywq_67 ?rwq_67
  case ywq_67 =>
    refine StepS.pure (SeqN.pass (by decide)) (by rfl) (fun w9 => ?_)
    go_simp
    try rfl
  try simp only [Act.put, List.setIfInBounds_toArray, List.set_cons_zero, List.set_cons_succ]
  refine Ps.step (i := 9) (d := some 39) (u := ?uwq_68) rfl rfl (by kernel_rfl) (by kernel_rfl) (by kernel_rfl) (by kernel_rfl) ?ywq_68 ?rwq_68
  case ywq_68 =>
    refine StepS.pure (SeqN.pass (by decide)) (by rfl) (fun w9 => ?_)
    go_simp
    try rfl
  try simp only [Act.put, List.setIfInBounds_toArray, List.set_cons_zero, List.set_cons_succ]
  refine Ps.step (i := 10) (d := some 40) (u := ?uwq_69) rfl rfl (by kernel_rfl) (by kernel_rfl) (by kernel_rfl) (by kernel_rfl) ?ywq_69 ?rwq_69
  case ywq_69 =>
    refine StepS.pure (SeqN.pass (by decide)) (by rfl) (fun w9 => ?_)
    go_simp
    try rfl
  try simp only [Act.put, List.setIfInBounds_toArray, List.set_cons_zero, List.set_cons_succ]
  refine Ps.step (i := 11) (d := some 41) (u := ?uwq_70) rfl rfl (by kernel_rfl) (by kernel_rfl) (by kernel_rfl) (by kernel_rfl) ?ywq_70 ?rwq_70
  case ywq_70 =>
    refine StepS.pure (SeqN.pass (by decide)) (by rfl) (fun w9 => ?_)
    go_simp
    try rfl
  try simp only [Act.put, List.setIfInBounds_toArray, List.set_cons_zero, List.set_cons_succ]
  refine Ps.step (i := 12) (d := some 42) (u := ?uwq_71) rfl rfl (by kernel_rfl) (by kernel_rfl) (by kernel_rfl) (by kernel_rfl) ?ywq_71 ?rwq_71
  case ywq_71 =>
    refine StepS.pure (SeqN.pass (by decide)) (by rfl) (fun w9 => ?_)
    go_simp
    try rfl
  try simp only [Act.put, List.setIfInBounds_toArray, List.set_cons_zero, List.set_cons_succ]
  refine Ps.step (i := 13) (d := none) (u := undef) rfl rfl (by kernel_rfl) (by kernel_rfl) (by kernel_rfl) (by kernel_rfl) ?ywq_72 ?rwq_72
  case ywq_72 =>
    refine StepS.store [6, 7] (by kernel_rfl) (by rfl) (fun L9 m9 w9 hSh hAt hDn hS => ?_)
    obtain ⟨hK, A2', m2', c2', hm4, hsep, hB⟩ := SeqN.at_ [6, 7] [15, 17] hSh hAt hDn (by kernel_rfl) hS
    obtain ⟨rfl, rfl, rfl⟩ := inj_n3 ((hAt 7 (by simp)).2.symm.trans hm4)
    refine (exec_store_part (w := w9) 26 (.tmp 42) (.tmp 39) (by rfl) (w.heap.size + 2) 0 51 #[.int .u64 0, .slice none 0 0, .int .u64 0, .int .u64 0, .int .i64 0, .int .i64 0, .slice none 0 0, .bool false, .int .i64 0, .int .i64 0] #[.int .u64 s, .slice A2 m2 c2] #[.int .u64 s, .slice A2 m2 c2, .int .u64 0, .int .u64 0, .int .i64 0, .int .i64 0, .slice none 0 0, .bool false, .int .i64 0, .int .i64 0] (by rfl) (by rfl) hB (by simp) netI (by simp [Value.oneCell']) (by rfl)).imp fun w7 hx => ⟨hx.1, SeqN.set_ [6, 7] [15, 17] hSh hAt hDn (by kernel_rfl) (by decide) (by decide) ⟨hK.trans (Kept.of_grown hx.2.2 hK.size (.inl rfl)), A2, m2, c2, hm4, hsep.kept hx.2.2 (by omega), hx.2.1⟩⟩
  try simp only [Act.put]
  refine Ps.step (i := 14) (d := some 43) (u := ?uwq_73) rfl rfl (by kernel_rfl) (by kernel_rfl) (by kernel_rfl) (by kernel_rfl) ?ywq_73 ?rwq_73
  case ywq_73 =>
    refine StepS.pure (SeqN.pass (by decide)) (by rfl) (fun w9 => ?_)
    go_simp
    try rfl
  try simp only [Act.put, List.setIfInBounds_toArray, List.set_cons_zero, List.set_cons_succ]
  refine Ps.step (i := 15) (d := none) (u := undef) rfl rfl (by kernel_rfl) (by kernel_rfl) (by kernel_rfl) (by kernel_rfl) ?ywq_74 ?rwq_74
  case ywq_74 =>
    refine StepS.store [6, 7, 13] (by kernel_rfl) (by rfl) (fun L9 m9 w9 hSh hAt hDn hS => ?_)
    obtain ⟨hK, A2', m2', c2', hm4, hsep, hB⟩ := SeqN.at_ [6, 7, 13] [17] hSh hAt hDn (by kernel_rfl) hS
    obtain ⟨rfl, rfl, rfl⟩ := inj_n3 ((hAt 7 (by simp)).2.symm.trans hm4)
    have xc : w9.cell? ⟨w.heap.size + 2, 2, none⟩ = some (.int .u64 0) := hB.cell 2
    have fx : w9.frozen? ⟨w.heap.size + 2, 2, none⟩ = false := hB.frozen 2
    have hB2 : Blk (w9.setCell ⟨w.heap.size + 2, 2, none⟩ (.int .u64 s)) (w.heap.size + 2) 51 #[.int .u64 s, .slice A2 m2 c2, .int .u64 s, .int .u64 0, .int .i64 0, .int .i64 0, .slice none 0 0, .bool false, .int .i64 0, .int .i64 0] := by simpa using hB.set_ 2 (.int .u64 s)
    have hg2 : w9.grownBy (w9.setCell ⟨w.heap.size + 2, 2, none⟩ (.int .u64 s)) (some (w.heap.size + 2)) := only_setCell (World.grownBy.refl _ _) (.inl rfl) _
    refine ⟨w9.setCell ⟨w.heap.size + 2, 2, none⟩ (.int .u64 s), ?_, SeqN.set_ [6, 7, 13] [17] hSh hAt hDn (by kernel_rfl) (by decide) (by decide) ⟨hK.trans (Kept.of_grown hg2 hK.size (.inl rfl)), A2, m2, c2, hm4, hsep.kept hg2 (by omega), hB2⟩⟩
    clear hB hB2 hg2 hS hK hsep hm4
    go_simp
  try simp only [Act.put]
  refine Ps.step (i := 16) (d := some 44) (u := ?uwq_75) rfl rfl (by kernel_rfl) (by kernel_rfl) (by kernel_rfl) (by kernel_rfl) ?ywq_75 ?rwq_75
  case ywq_75 =>
    refine StepS.pure (SeqN.pass (by decide)) (by rfl) (fun w9 => ?_)
    go_simp
    try rfl
  try simp only [Act.put, List.setIfInBounds_toArray, List.set_cons_zero, List.set_cons_succ]
  refine Ps.step (i := 17) (d := none) (u := undef) rfl rfl (by kernel_rfl) (by kernel_rfl) (by kernel_rfl) (by kernel_rfl) ?ywq_76 ?rwq_76
  case ywq_76 =>
    refine StepS.store [6, 7, 13, 15] (by kernel_rfl) (by rfl) (fun L9 m9 w9 hSh hAt hDn hS => ?_)
    obtain ⟨hK, A2', m2', c2', hm4, hsep, hB⟩ := SeqN.at_ [6, 7, 13, 15] [] hSh hAt hDn (by kernel_rfl) hS
    obtain ⟨rfl, rfl, rfl⟩ := inj_n3 ((hAt 7 (by simp)).2.symm.trans hm4)
    have xc : w9.cell? ⟨w.heap.size + 2, 9, none⟩ = some (.int .i64 0) := hB.cell 9
    have fx : w9.frozen? ⟨w.heap.size + 2, 9, none⟩ = false := hB.frozen 9
    have hB2 : Blk (w9.setCell ⟨w.heap.size + 2, 9, none⟩ (.int .i64 E)) (w.heap.size + 2) 51 #[.int .u64 s, .slice A2 m2 c2, .int .u64 s, .int .u64 0, .int .i64 0, .int .i64 0, .slice none 0 0, .bool false, .int .i64 0, .int .i64 E] := by simpa using hB.set_ 9 (.int .i64 E)
    have hg2 : w9.grownBy (w9.setCell ⟨w.heap.size + 2, 9, none⟩ (.int .i64 E)) (some (w.heap.size + 2)) := only_setCell (World.grownBy.refl _ _) (.inl rfl) _
    refine ⟨w9.setCell ⟨w.heap.size + 2, 9, none⟩ (.int .i64 E), ?_, SeqN.set_ [6, 7, 13, 15] [] hSh hAt hDn (by kernel_rfl) (by decide) (by decide) ⟨hK.trans (Kept.of_grown hg2 hK.size (.inl rfl)), A2, m2, c2, hm4, hsep.kept hg2 (by omega), hB2⟩⟩
    clear hB hB2 hg2 hS hK hsep hm4
    go_simp
  try simp only [Act.put]
  refine Ps.done (by kernel_rfl) (fun wq hS => ?_) _
  obtain ⟨hK, A2', m2', c2', hm4, hsep, hB⟩ := SeqN.fin (by rfl) hS
  clear hS
  obtain ⟨rfl, rfl, rfl⟩ := inj_n3 hm4
  clear hm4
  go_wp2_with (first | (refine wpList_load_blk rfl 51 (.tmp 4) rfl (w.heap.size + 2) rfl 51 #[.int .u64 s, .slice A2 m2 c2, .int .u64 s, .int .u64 0, .int .i64 0, .int .i64 0, .slice none 0 0, .bool false, .int .i64 0, .int .i64 E] _ hB Try.underlying51 rfl toldI ?_) | (refine wpList_store_blk rfl 51 (.tmp 4) (.tmp 101) rfl (w.heap.size + 2) 51 #[.int .u64 s, .slice A2 m2 c2, .int .u64 s, .int .u64 0, .int .i64 0, .int .i64 0, .slice none 0 0, .bool false, .int .i64 0, .int .i64 E] #[.int .u64 s, .slice A2 m2 c2, .int .u64 s, .int .u64 0, .int .i64 0, .int .i64 0, .slice none 0 0, .bool false, .int .i64 0, .int .i64 E] rfl rfl hB rfl toldI (by simp [Value.oneCell']) ?_; intro wz hZ gz))
  exact bodyPost_ret (res1 Try.results23 rfl hZ Try.underlying51 rfl toldI) rfl ⟨_, _, _, _, _, _, rfl, (hsep.kept gz (by omega)).less (by omega), bl_gr (hK.below BB.out (by omega) (by omega)) gz (by omega)⟩
set_option maxRecDepth 100000 in
set_option maxHeartbeats 16000000 in
theorem want_send1 (o : OpC) (oA : Option Addr) (on oc : Nat) (sent : Int) (A : Option Addr) (m c : Nat) (ps : List PC) (w : World) (hk : kindI o = 1) (h : LP.rd w AllB A m ps) (hc : chkB sent ps = true) (hm : m ≤ 20000) (hb : ∀ p ∈ ps, p.bs.length ≤ 100000) (hs0 : 0 ≤ sent) (hob : RdB w oA on o.bs) (hc1 : on ≤ oc) (hc2 : oc ≤ 9223372036854775807) :
    Calls Try.prog 23 #[.agg (o.cells oA on oc), .agg #[.int .u64 sent, .slice A m c]] w (WantC w ⟨(sendR sent ps o.frm o.to (bytesO o)).1, (sendR sent ps o.frm o.to (bytesO o)).2, (sendR sent ps o.frm o.to (bytesO o)).1, zeroPC, 0, sendE sent ps o.frm o.to (bytesO o)⟩) := by
  have HK := Lib.hid (fun w => kind_any o oA on oc w)
  rw [hk] at HK
  clear hk
  have HBY := Lib.hid (fun W h => bytes_any o oA on oc W h hc1 hc2)
  obtain ⟨bb8, hbb8⟩ : ∃ bb8, bb8 = bytesO o := ⟨_, rfl⟩
  rw [← hbb8]
  rw [← hbb8] at HBY
  clear hbb8
  obtain ⟨k, f, t, a, p, ot, y, bs⟩ := o
  dsimp only at hob HBY ⊢
  rw [send_eqE hc, send_eqR hc]
  have HCO := Lib.hid (fun bA bn bc W h hb' => rsend_any sent A m c ps f t bA bn bc bb8 W h hm hb hb' hs0 (chk_rng hc).1)
  generalize rsendR sent ps f t bb8 = R at *
  generalize rsendE sent ps f t bb8 = E at *
  obtain ⟨s, l⟩ := R
  dsimp only
  replace h := Lay.rd_weak (G := Old w) (fun b _ hb => hb) h
  have bb := Below.refl w.heap.size w
  have bO := Blk.new w 49 #[.int .i64 k, .int .i64 f, .int .i64 t, .int .i64 a, .int .i64 p, .bool ot, vb y, .slice oA on oc]
  replace bb := bl_al bb (.cells #[.int .i64 k, .int .i64 f, .int .i64 t, .int .i64 a, .int .i64 p, .bool ot, vb y, .slice oA on oc] 49)
  replace bO := bO.ca (bl_al (Below.refl _ _) (.cells #[.int .u64 sent, .slice A m c] 26))
  have bN : Blk ((w.alloc (.cells #[.int .i64 k, .int .i64 f, .int .i64 t, .int .i64 a, .int .i64 p, .bool ot, vb y, .slice oA on oc] 49)).alloc (.cells #[.int .u64 sent, .slice A m c] 26)) (w.heap.size + 1) 26 #[.int .u64 sent, .slice A m c] := Blk.mk' (by simp only [World.size_alloc])
  replace bb := bl_al bb (.cells #[.int .u64 sent, .slice A m c] 26)
  replace bO := bO.ca (bl_al (Below.refl _ _) (.cells #[.int .u64 0, .slice none 0 0, .int .u64 0, .int .u64 0, .int .i64 0, .int .i64 0, .slice none 0 0, .bool false, .int .i64 0, .int .i64 0] 51))
  replace bN := bN.ca (bl_al (Below.refl _ _) (.cells #[.int .u64 0, .slice none 0 0, .int .u64 0, .int .u64 0, .int .i64 0, .int .i64 0, .slice none 0 0, .bool false, .int .i64 0, .int .i64 0] 51))
  have bT : Blk (((w.alloc (.cells #[.int .i64 k, .int .i64 f, .int .i64 t, .int .i64 a, .int .i64 p, .bool ot, vb y, .slice oA on oc] 49)).alloc (.cells #[.int .u64 sent, .slice A m c] 26)).alloc (.cells #[.int .u64 0, .slice none 0 0, .int .u64 0, .int .u64 0, .int .i64 0, .int .i64 0, .slice none 0 0, .bool false, .int .i64 0, .int .i64 0] 51)) (w.heap.size + 2) 51 #[.int .u64 0, .slice none 0 0, .int .u64 0, .int .u64 0, .int .i64 0, .int .i64 0, .slice none 0 0, .bool false, .int .i64 0, .int .i64 0] := Blk.mk' (by simp only [World.size_alloc])
  replace bb := bl_al bb (.cells #[.int .u64 0, .slice none 0 0, .int .u64 0, .int .u64 0, .int .i64 0, .int .i64 0, .slice none 0 0, .bool false, .int .i64 0, .int .i64 0] 51)
  have hsz : w.heap.size + 3 ≤ (((w.alloc (.cells #[.int .i64 k, .int .i64 f, .int .i64 t, .int .i64 a, .int .i64 p, .bool ot, vb y, .slice oA on oc] 49)).alloc (.cells #[.int .u64 sent, .slice A m c] 26)).alloc (.cells #[.int .u64 0, .slice none 0 0, .int .u64 0, .int .u64 0, .int .i64 0, .int .i64 0, .slice none 0 0, .bool false, .int .i64 0, .int .i64 0] 51)).heap.size := by simp only [World.size_alloc]; omega
  have HRT := Lib.hid (right_any sent A m c ps _ (Lay.rd_below (Lay.rd_weak (fun _ _ _ => trivial) h) bb) (by omega))
  rw [hc] at HRT
  have HR1 := Lib.hid (Lay.rd_below h bb)
  have HB1 := Lib.hid (show Reads _ w.heap.size 1 oA on (bs.map vb) from hob)
  clear h hc hob
  have x0 : (((w.alloc (.cells #[.int .i64 k, .int .i64 f, .int .i64 t, .int .i64 a, .int .i64 p, .bool ot, vb y, .slice oA on oc] 49)).alloc (.cells #[.int .u64 sent, .slice A m c] 26)).alloc (.cells #[.int .u64 0, .slice none 0 0, .int .u64 0, .int .u64 0, .int .i64 0, .int .i64 0, .slice none 0 0, .bool false, .int .i64 0, .int .i64 0] 51)).cell? ⟨w.heap.size + 1, 0, none⟩ = some (.int .u64 sent) := bN.cell 0
  have x1 : (((w.alloc (.cells #[.int .i64 k, .int .i64 f, .int .i64 t, .int .i64 a, .int .i64 p, .bool ot, vb y, .slice oA on oc] 49)).alloc (.cells #[.int .u64 sent, .slice A m c] 26)).alloc (.cells #[.int .u64 0, .slice none 0 0, .int .u64 0, .int .u64 0, .int .i64 0, .int .i64 0, .slice none 0 0, .bool false, .int .i64 0, .int .i64 0] 51)).cell? ⟨w.heap.size + 1, 1, none⟩ = some (.slice A m c) := bN.cell 1
  go_enter Try.func23, Try.ntmps23
  go_wp2_with fail
  generalize (((w.alloc (.cells #[.int .i64 k, .int .i64 f, .int .i64 t, .int .i64 a, .int .i64 p, .bool ot, vb y, .slice oA on oc] 49)).alloc (.cells #[.int .u64 sent, .slice A m c] 26)).alloc (.cells #[.int .u64 0, .slice none 0 0, .int .u64 0, .int .u64 0, .int .i64 0, .int .i64 0, .slice none 0 0, .bool false, .int .i64 0, .int .i64 0] 51)) = w1 at *
  refine HRT.out.mono ?_
  rintro e w4 ⟨rfl, q4⟩
  have v0 : w4.cell? ⟨w.heap.size, 0, none⟩ = some (.int .i64 k) := (bO.ca q4).cell 0
  have v1 : w4.cell? ⟨w.heap.size, 1, none⟩ = some (.int .i64 f) := (bO.ca q4).cell 1
  have v2 : w4.cell? ⟨w.heap.size, 2, none⟩ = some (.int .i64 t) := (bO.ca q4).cell 2
  have v3 : w4.cell? ⟨w.heap.size, 3, none⟩ = some (.int .i64 a) := (bO.ca q4).cell 3
  have v4 : w4.cell? ⟨w.heap.size, 4, none⟩ = some (.int .i64 p) := (bO.ca q4).cell 4
  have v5 : w4.cell? ⟨w.heap.size, 5, none⟩ = some (.bool ot) := (bO.ca q4).cell 5
  have v6 : w4.cell? ⟨w.heap.size, 6, none⟩ = some (vb y) := (bO.ca q4).cell 6
  have v7 : w4.cell? ⟨w.heap.size, 7, none⟩ = some (.slice oA on oc) := (bO.ca q4).cell 7
  clear x0 x1 HRT
  go_wp2_with fail
  refine (HK.out _).mono ?_
  rintro e w5 ⟨rfl, q6⟩
  have q5 := q4.trans (q6.mono q4.size)
  have HO := Lib.hid (bO.ca q5)
  have HN := Lib.hid (bN.ca q5)
  have HT := Lib.hid (bT.ca q5)
  have HR := Lib.hid (Lay.rd_below HR1.out q5)
  have BB := Lib.hid (bl_ca bb q5)
  have hs5 := Nat.le_trans hsz q5.size
  have HB5 := Lib.hid (HB1.out.below (bl_ca bb q5))
  clear HB1 bO bN bT bb q4 q5 q6 HR1 HK v0 v1 v2 v3 v4 v5 v6 v7
  go_wp2_with fail
  refine wp_region_ps (S := SeqN [6, 7, 13, 15, 17] (fun j m w' => match j with | 0 => Kept w5 w' (w.heap.size + 2) w5.heap.size ∧ Blk w' (w.heap.size + 2) 51 #[.int .u64 0, .slice none 0 0, .int .u64 0, .int .u64 0, .int .i64 0, .int .i64 0, .slice none 0 0, .bool false, .int .i64 0, .int .i64 0] | 1 => Kept w5 w' (w.heap.size + 2) w5.heap.size ∧ ∃ bA bk bc, m 6 = .slice bA bk bc ∧ bk ≤ bc ∧ bc ≤ 9223372036854775807 ∧ OwnB w' w5.heap.size bA bk bc bb8 ∧ Blk w' (w.heap.size + 2) 51 #[.int .u64 0, .slice none 0 0, .int .u64 0, .int .u64 0, .int .i64 0, .int .i64 0, .slice none 0 0, .bool false, .int .i64 0, .int .i64 0] | 2 => Kept w5 w' (w.heap.size + 2) w5.heap.size ∧ ∃ A2 m2 c2, m 7 = Value.tuple #[.agg #[.int .u64 s, .slice A2 m2 c2], .int .u64 s, .int .i64 E] ∧ RSep w' w5.heap.size ⟨s, l, s, zeroPC, 0, E⟩ A2 m2 c2 none 0 0 ∧ Blk w' (w.heap.size + 2) 51 #[.int .u64 0, .slice none 0 0, .int .u64 0, .int .u64 0, .int .i64 0, .int .i64 0, .slice none 0 0, .bool false, .int .i64 0, .int .i64 0] | 3 => Kept w5 w' (w.heap.size + 2) w5.heap.size ∧ ∃ A2 m2 c2, m 7 = Value.tuple #[.agg #[.int .u64 s, .slice A2 m2 c2], .int .u64 s, .int .i64 E] ∧ RSep w' w5.heap.size ⟨s, l, s, zeroPC, 0, E⟩ A2 m2 c2 none 0 0 ∧ Blk w' (w.heap.size + 2) 51 #[.int .u64 s, .slice A2 m2 c2, .int .u64 0, .int .u64 0, .int .i64 0, .int .i64 0, .slice none 0 0, .bool false, .int .i64 0, .int .i64 0] | 4 => Kept w5 w' (w.heap.size + 2) w5.heap.size ∧ ∃ A2 m2 c2, m 7 = Value.tuple #[.agg #[.int .u64 s, .slice A2 m2 c2], .int .u64 s, .int .i64 E] ∧ RSep w' w5.heap.size ⟨s, l, s, zeroPC, 0, E⟩ A2 m2 c2 none 0 0 ∧ Blk w' (w.heap.size + 2) 51 #[.int .u64 s, .slice A2 m2 c2, .int .u64 s, .int .u64 0, .int .i64 0, .int .i64 0, .slice none 0 0, .bool false, .int .i64 0, .int .i64 0] | _ => Kept w5 w' (w.heap.size + 2) w5.heap.size ∧ ∃ A2 m2 c2, m 7 = Value.tuple #[.agg #[.int .u64 s, .slice A2 m2 c2], .int .u64 s, .int .i64 E] ∧ RSep w' w5.heap.size ⟨s, l, s, zeroPC, 0, E⟩ A2 m2 c2 none 0 0 ∧ Blk w' (w.heap.size + 2) 51 #[.int .u64 s, .slice A2 m2 c2, .int .u64 s, .int .u64 0, .int .i64 0, .int .i64 0, .slice none 0 0, .bool false, .int .i64 0, .int .i64 E])) (by kernel_rfl) ?spswq ?ppswq
  case spswq =>
    exact SeqN.start (by decide) ⟨Kept.of_below (Below.refl _ _).drew (Nat.le_refl _), HT.out.ca (Below.refl _ _).drew⟩
  refine Ps.step (i := 0) (d := some 31) (u := ?uwq_77) rfl rfl (by kernel_rfl) (by kernel_rfl) (by kernel_rfl) (by kernel_rfl) ?ywq_77 ?rwq_77
  case ywq_77 =>
    refine StepS.read [] (by kernel_rfl) (SeqN.pass (by decide)) (by rfl) (fun L9 m9 w9 hSh hAt hDn hS => ?_)
    have hK : Kept w5 w9 (w.heap.size + 2) w5.heap.size := SeqN.any (T := fun w9 => Kept w5 w9 (w.heap.size + 2) w5.heap.size) (fun j _ _ h => by match j, h with | 0, h => exact h.1 | 1, h => exact h.1 | 2, h => exact h.1 | 3, h => exact h.1 | 4, h => exact h.1 | _ + 5, h => exact h.1) hS
    have hT : Blk w9 (w.heap.size + 1) 26 #[.int .u64 sent, .slice A m c] := HN.out.kp hK (by omega) (by omega)
    have x0 : w9.cell? ⟨(w.heap.size + 1), 0, none⟩ = some (.int .u64 sent) := hT.cell 0
    have x1 : w9.cell? ⟨(w.heap.size + 1), 1, none⟩ = some (.slice A m c) := hT.cell 1
    clear hT hK hS
    go_simp
    try rfl
  try simp only [Act.put, List.setIfInBounds_toArray, List.set_cons_zero, List.set_cons_succ]
  refine Ps.step (i := 1) (d := some 32) (u := ?uwq_78) rfl rfl (by kernel_rfl) (by kernel_rfl) (by kernel_rfl) (by kernel_rfl) ?ywq_78 ?rwq_78
  case ywq_78 =>
    refine StepS.pure (SeqN.pass (by decide)) (by rfl) (fun w9 => ?_)
    go_simp
    try rfl
  try simp only [Act.put, List.setIfInBounds_toArray, List.set_cons_zero, List.set_cons_succ]
  refine Ps.step (i := 2) (d := some 33) (u := ?uwq_79) rfl rfl (by kernel_rfl) (by kernel_rfl) (by kernel_rfl) (by kernel_rfl) ?ywq_79 ?rwq_79
  case ywq_79 =>
    refine StepS.read [] (by kernel_rfl) (SeqN.pass (by decide)) (by rfl) (fun L9 m9 w9 hSh hAt hDn hS => ?_)
    have hK : Kept w5 w9 (w.heap.size + 2) w5.heap.size := SeqN.any (T := fun w9 => Kept w5 w9 (w.heap.size + 2) w5.heap.size) (fun j _ _ h => by match j, h with | 0, h => exact h.1 | 1, h => exact h.1 | 2, h => exact h.1 | 3, h => exact h.1 | 4, h => exact h.1 | _ + 5, h => exact h.1) hS
    have hT : Blk w9 w.heap.size 49 #[.int .i64 k, .int .i64 f, .int .i64 t, .int .i64 a, .int .i64 p, .bool ot, vb y, .slice oA on oc] := HO.out.kp hK (by omega) (by omega)
    have x1 : w9.cell? ⟨w.heap.size, 1, none⟩ = some (.int .i64 f) := hT.cell 1
    clear hT hK hS
    go_simp
    try rfl
  try simp only [Act.put, List.setIfInBounds_toArray, List.set_cons_zero, List.set_cons_succ]
  refine Ps.step (i := 3) (d := some 34) (u := ?uwq_80) rfl rfl (by kernel_rfl) (by kernel_rfl) (by kernel_rfl) (by kernel_rfl) ?ywq_80 ?rwq_80
  case ywq_80 =>
    refine StepS.pure (SeqN.pass (by decide)) (by rfl) (fun w9 => ?_)
    go_simp
    try rfl
  try simp only [Act.put, List.setIfInBounds_toArray, List.set_cons_zero, List.set_cons_succ]
  refine Ps.step (i := 4) (d := some 35) (u := ?uwq_81) rfl rfl (by kernel_rfl) (by kernel_rfl) (by kernel_rfl) (by kernel_rfl) ?ywq_81 ?rwq_81
  case ywq_81 =>
    refine StepS.read [] (by kernel_rfl) (SeqN.pass (by decide)) (by rfl) (fun L9 m9 w9 hSh hAt hDn hS => ?_)
    have hK : Kept w5 w9 (w.heap.size + 2) w5.heap.size := SeqN.any (T := fun w9 => Kept w5 w9 (w.heap.size + 2) w5.heap.size) (fun j _ _ h => by match j, h with | 0, h => exact h.1 | 1, h => exact h.1 | 2, h => exact h.1 | 3, h => exact h.1 | 4, h => exact h.1 | _ + 5, h => exact h.1) hS
    have hT : Blk w9 w.heap.size 49 #[.int .i64 k, .int .i64 f, .int .i64 t, .int .i64 a, .int .i64 p, .bool ot, vb y, .slice oA on oc] := HO.out.kp hK (by omega) (by omega)
    have x2 : w9.cell? ⟨w.heap.size, 2, none⟩ = some (.int .i64 t) := hT.cell 2
    clear hT hK hS
    go_simp
    try rfl
  try simp only [Act.put, List.setIfInBounds_toArray, List.set_cons_zero, List.set_cons_succ]
  refine Ps.step (i := 5) (d := some 36) (u := ?uwq_82) rfl rfl (by kernel_rfl) (by kernel_rfl) (by kernel_rfl) (by kernel_rfl) ?ywq_82 ?rwq_82
  case ywq_82 =>
    refine StepS.read [] (by kernel_rfl) (SeqN.pass (by decide)) (by rfl) (fun L9 m9 w9 hSh hAt hDn hS => ?_)
    have hK : Kept w5 w9 (w.heap.size + 2) w5.heap.size := SeqN.any (T := fun w9 => Kept w5 w9 (w.heap.size + 2) w5.heap.size) (fun j _ _ h => by match j, h with | 0, h => exact h.1 | 1, h => exact h.1 | 2, h => exact h.1 | 3, h => exact h.1 | 4, h => exact h.1 | _ + 5, h => exact h.1) hS
    have hT : Blk w9 w.heap.size 49 #[.int .i64 k, .int .i64 f, .int .i64 t, .int .i64 a, .int .i64 p, .bool ot, vb y, .slice oA on oc] := HO.out.kp hK (by omega) (by omega)
    have x0 : w9.cell? ⟨w.heap.size, 0, none⟩ = some (.int .i64 k) := hT.cell 0
    have x1 : w9.cell? ⟨w.heap.size, 1, none⟩ = some (.int .i64 f) := hT.cell 1
    have x2 : w9.cell? ⟨w.heap.size, 2, none⟩ = some (.int .i64 t) := hT.cell 2
    have x3 : w9.cell? ⟨w.heap.size, 3, none⟩ = some (.int .i64 a) := hT.cell 3
    have x4 : w9.cell? ⟨w.heap.size, 4, none⟩ = some (.int .i64 p) := hT.cell 4
    have x5 : w9.cell? ⟨w.heap.size, 5, none⟩ = some (.bool ot) := hT.cell 5
    have x6 : w9.cell? ⟨w.heap.size, 6, none⟩ = some (vb y) := hT.cell 6
    have x7 : w9.cell? ⟨w.heap.size, 7, none⟩ = some (.slice oA on oc) := hT.cell 7
    clear hT hK hS
    go_simp
    try rfl
  try simp only [Act.put, List.setIfInBounds_toArray, List.set_cons_zero, List.set_cons_succ]
  refine Ps.one (k := 6) (d := some 37) rfl rfl (by kernel_rfl) (TurnS.call (V := fun v => ∃ bA bk bc, v = .slice bA bk bc) ?fwq_83 ?awq_83 [] (by kernel_rfl) (by rfl) (fun w9 => ?hwq_83) (fun L9 m9 w9 hSh hAt hDn hS => ?cwq_83)) (fun v6 hVv6 => ?rwq_83)
  case hwq_83 => go_simp; refine ⟨?_, ?_⟩ <;> rfl
  case cwq_83 =>
    have hC := SeqN.at_ [] [7, 13, 15, 17] hSh hAt hDn (by kernel_rfl) hS
    refine (HBY.out w9 (Reads.kp9 HB5.out hC.1 (by omega) (by omega))).mono ?_
    rintro e w8 ⟨bA, bk, bc, rfl, hob, q8⟩
    have hcap := hob.cap
    have hcap2 : bc ≤ 9223372036854775807 := by have := hcap.2; unfold maxLen at this; omega
    exact ⟨_, rfl, ⟨bA, bk, bc, rfl⟩, SeqN.set_ [] [7, 13, 15, 17] hSh hAt hDn (by kernel_rfl) (by decide) (by decide) ⟨hC.1.trans (Kept.of_below q8 hC.1.size), bA, bk, bc, upd_same _ _ _, hcap.1, hcap2, hob.less hC.1.size, hC.2.ca q8⟩⟩
  try simp only [Act.put, List.setIfInBounds_toArray, List.set_cons_zero, List.set_cons_succ]
  obtain ⟨bA, bk, bc, rfl⟩ := hVv6
  refine Ps.one (k := 7) (d := some 38) rfl rfl (by kernel_rfl) (TurnS.call (V := fun v => ∃ A2 m2 c2, v = Value.tuple #[.agg #[.int .u64 s, .slice A2 m2 c2], .int .u64 s, .int .i64 E]) ?fwq_84 ?awq_84 [6] (by kernel_rfl) (by rfl) (fun w9 => ?hwq_84) (fun L9 m9 w9 hSh hAt hDn hS => ?cwq_84)) (fun v7 hVv7 => ?rwq_84)
  case hwq_84 => go_simp; refine ⟨?_, ?_⟩ <;> rfl
  case cwq_84 =>
    obtain ⟨hK, A6, k6, c6, h6, hc6, hc7, hob, hB⟩ := SeqN.at_ [6] [13, 15, 17] hSh hAt hDn (by kernel_rfl) hS
    obtain ⟨rfl, rfl, rfl⟩ : bA = A6 ∧ bk = k6 ∧ bc = c6 := by have h9 := (hAt 6 (by simp)).2.symm.trans h6; exact inj_sl h9
    have hCA := HCO.out bA bk bc w9 (rd_kp HR.out hK (by omega) (by omega)) hob.rd
    refine hCA.mono ?_
    rintro e w8 ⟨A2, m2, c2, rfl, ⟨es, hd, hes⟩, q8⟩
    have hs9 := hK.size
    have HSEP : RSep w8 w5.heap.size ⟨s, l, s, zeroPC, 0, E⟩ A2 m2 c2 none 0 0 := RSep.less ⟨by rw [show l = es.map El.p from hes.symm]; exact hd.rd (fun b hb => hb), OwnB.none_ _ _⟩ hs9
    exact ⟨_, rfl, ⟨A2, m2, c2, rfl⟩, SeqN.set_ [6] [13, 15, 17] hSh hAt hDn (by kernel_rfl) (by decide) (by decide) ⟨hK.trans (Kept.of_below q8 hK.size), A2, m2, c2, upd_same _ _ _, HSEP, hB.ca q8⟩⟩
  try simp only [Act.put, List.setIfInBounds_toArray, List.set_cons_zero, List.set_cons_succ]
  obtain ⟨A2, m2, c2, rfl⟩ := hVv7
  refine Ps.step (i := 8) (d := some 30) (u := ?uwq_85) rfl rfl (by kernel_rfl) (by kernel_rfl) (by kernel_rfl) (by kernel_rfl) ?ywq_85 ?rwq_85
  case ywq_85 =>
    refine StepS.pure (SeqN.pass (by decide)) (by rfl) (fun w9 => ?_)
    go_simp
    try rfl
  try simp only [Act.put, List.setIfInBounds_toArray, List.set_cons_zero, List.set_cons_succ]
  refine Ps.step (i := 9) (d := some 39) (u := ?uwq_86) rfl rfl (by kernel_rfl) (by kernel_rfl) (by kernel_rfl) (by kernel_rfl) ?ywq_86 ?rwq_86
  case ywq_86 =>
    refine StepS.pure (SeqN.pass (by decide)) (by rfl) (fun w9 => ?_)
    go_simp
    try rfl
  try simp only [Act.put, List.setIfInBounds_toArray, List.set_cons_zero, List.set_cons_succ]
  refine Ps.step (i := 10) (d := some 40) (u := ?uwq_87) rfl rfl (by kernel_rfl) (by kernel_rfl) (by kernel_rfl) (by kernel_rfl) ?ywq_87 ?rwq_87
  case ywq_87 =>
    refine StepS.pure (SeqN.pass (by decide)) (by rfl) (fun w9 => ?_)
    go_simp
    try rfl
  try simp only [Act.put, List.setIfInBounds_toArray, List.set_cons_zero, List.set_cons_succ]
  refine Ps.step (i := 11) (d := some 41) (u := ?uwq_88) rfl rfl (by kernel_rfl) (by kernel_rfl) (by kernel_rfl) (by kernel_rfl) ?ywq_88 ?rwq_88
  case ywq_88 =>
    refine StepS.pure (SeqN.pass (by decide)) (by rfl) (fun w9 => ?_)
    go_simp
    try rfl
  try simp only [Act.put, List.setIfInBounds_toArray, List.set_cons_zero, List.set_cons_succ]
  refine Ps.step (i := 12) (d := some 42) (u := ?uwq_89) rfl rfl (by kernel_rfl) (by kernel_rfl) (by kernel_rfl) (by kernel_rfl) ?ywq_89 ?rwq_89
  case ywq_89 =>
    refine StepS.pure (SeqN.pass (by decide)) (by rfl) (fun w9 => ?_)
    go_simp
    try rfl
  try simp only [Act.put, List.setIfInBounds_toArray, List.set_cons_zero, List.set_cons_succ]
  refine Ps.step (i := 13) (d := none) (u := undef) rfl rfl (by kernel_rfl) (by kernel_rfl) (by kernel_rfl) (by kernel_rfl) ?ywq_90 ?rwq_90
  case ywq_90 =>
    refine StepS.store [6, 7] (by kernel_rfl) (by rfl) (fun L9 m9 w9 hSh hAt hDn hS => ?_)
    obtain ⟨hK, A2', m2', c2', hm4, hsep, hB⟩ := SeqN.at_ [6, 7] [15, 17] hSh hAt hDn (by kernel_rfl) hS
    obtain ⟨rfl, rfl, rfl⟩ := inj_n3 ((hAt 7 (by simp)).2.symm.trans hm4)
    refine (exec_store_part (w := w9) 26 (.tmp 42) (.tmp 39) (by rfl) (w.heap.size + 2) 0 51 #[.int .u64 0, .slice none 0 0, .int .u64 0, .int .u64 0, .int .i64 0, .int .i64 0, .slice none 0 0, .bool false, .int .i64 0, .int .i64 0] #[.int .u64 s, .slice A2 m2 c2] #[.int .u64 s, .slice A2 m2 c2, .int .u64 0, .int .u64 0, .int .i64 0, .int .i64 0, .slice none 0 0, .bool false, .int .i64 0, .int .i64 0] (by rfl) (by rfl) hB (by simp) netI (by simp [Value.oneCell']) (by rfl)).imp fun w7 hx => ⟨hx.1, SeqN.set_ [6, 7] [15, 17] hSh hAt hDn (by kernel_rfl) (by decide) (by decide) ⟨hK.trans (Kept.of_grown hx.2.2 hK.size (.inl rfl)), A2, m2, c2, hm4, hsep.kept hx.2.2 (by omega), hx.2.1⟩⟩
  try simp only [Act.put]
  refine Ps.step (i := 14) (d := some 43) (u := ?uwq_91) rfl rfl (by kernel_rfl) (by kernel_rfl) (by kernel_rfl) (by kernel_rfl) ?ywq_91 ?rwq_91
  case ywq_91 =>
    refine StepS.pure (SeqN.pass (by decide)) (by rfl) (fun w9 => ?_)
    go_simp
    try rfl
  try simp only [Act.put, List.setIfInBounds_toArray, List.set_cons_zero, List.set_cons_succ]
  refine Ps.step (i := 15) (d := none) (u := undef) rfl rfl (by kernel_rfl) (by kernel_rfl) (by kernel_rfl) (by kernel_rfl) ?ywq_92 ?rwq_92
  case ywq_92 =>
    refine StepS.store [6, 7, 13] (by kernel_rfl) (by rfl) (fun L9 m9 w9 hSh hAt hDn hS => ?_)
    obtain ⟨hK, A2', m2', c2', hm4, hsep, hB⟩ := SeqN.at_ [6, 7, 13] [17] hSh hAt hDn (by kernel_rfl) hS
    obtain ⟨rfl, rfl, rfl⟩ := inj_n3 ((hAt 7 (by simp)).2.symm.trans hm4)
    have xc : w9.cell? ⟨w.heap.size + 2, 2, none⟩ = some (.int .u64 0) := hB.cell 2
    have fx : w9.frozen? ⟨w.heap.size + 2, 2, none⟩ = false := hB.frozen 2
    have hB2 : Blk (w9.setCell ⟨w.heap.size + 2, 2, none⟩ (.int .u64 s)) (w.heap.size + 2) 51 #[.int .u64 s, .slice A2 m2 c2, .int .u64 s, .int .u64 0, .int .i64 0, .int .i64 0, .slice none 0 0, .bool false, .int .i64 0, .int .i64 0] := by simpa using hB.set_ 2 (.int .u64 s)
    have hg2 : w9.grownBy (w9.setCell ⟨w.heap.size + 2, 2, none⟩ (.int .u64 s)) (some (w.heap.size + 2)) := only_setCell (World.grownBy.refl _ _) (.inl rfl) _
    refine ⟨w9.setCell ⟨w.heap.size + 2, 2, none⟩ (.int .u64 s), ?_, SeqN.set_ [6, 7, 13] [17] hSh hAt hDn (by kernel_rfl) (by decide) (by decide) ⟨hK.trans (Kept.of_grown hg2 hK.size (.inl rfl)), A2, m2, c2, hm4, hsep.kept hg2 (by omega), hB2⟩⟩
    clear hB hB2 hg2 hS hK hsep hm4
    go_simp
  try simp only [Act.put]
  refine Ps.step (i := 16) (d := some 44) (u := ?uwq_93) rfl rfl (by kernel_rfl) (by kernel_rfl) (by kernel_rfl) (by kernel_rfl) ?ywq_93 ?rwq_93
  case ywq_93 =>
    refine StepS.pure (SeqN.pass (by decide)) (by rfl) (fun w9 => ?_)
    go_simp
    try rfl
  try simp only [Act.put, List.setIfInBounds_toArray, List.set_cons_zero, List.set_cons_succ]
  refine Ps.step (i := 17) (d := none) (u := undef) rfl rfl (by kernel_rfl) (by kernel_rfl) (by kernel_rfl) (by kernel_rfl) ?ywq_94 ?rwq_94
  case ywq_94 =>
    refine StepS.store [6, 7, 13, 15] (by kernel_rfl) (by rfl) (fun L9 m9 w9 hSh hAt hDn hS => ?_)
    obtain ⟨hK, A2', m2', c2', hm4, hsep, hB⟩ := SeqN.at_ [6, 7, 13, 15] [] hSh hAt hDn (by kernel_rfl) hS
    obtain ⟨rfl, rfl, rfl⟩ := inj_n3 ((hAt 7 (by simp)).2.symm.trans hm4)
    have xc : w9.cell? ⟨w.heap.size + 2, 9, none⟩ = some (.int .i64 0) := hB.cell 9
    have fx : w9.frozen? ⟨w.heap.size + 2, 9, none⟩ = false := hB.frozen 9
    have hB2 : Blk (w9.setCell ⟨w.heap.size + 2, 9, none⟩ (.int .i64 E)) (w.heap.size + 2) 51 #[.int .u64 s, .slice A2 m2 c2, .int .u64 s, .int .u64 0, .int .i64 0, .int .i64 0, .slice none 0 0, .bool false, .int .i64 0, .int .i64 E] := by simpa using hB.set_ 9 (.int .i64 E)
    have hg2 : w9.grownBy (w9.setCell ⟨w.heap.size + 2, 9, none⟩ (.int .i64 E)) (some (w.heap.size + 2)) := only_setCell (World.grownBy.refl _ _) (.inl rfl) _
    refine ⟨w9.setCell ⟨w.heap.size + 2, 9, none⟩ (.int .i64 E), ?_, SeqN.set_ [6, 7, 13, 15] [] hSh hAt hDn (by kernel_rfl) (by decide) (by decide) ⟨hK.trans (Kept.of_grown hg2 hK.size (.inl rfl)), A2, m2, c2, hm4, hsep.kept hg2 (by omega), hB2⟩⟩
    clear hB hB2 hg2 hS hK hsep hm4
    go_simp
  try simp only [Act.put]
  refine Ps.done (by kernel_rfl) (fun wq hS => ?_) _
  obtain ⟨hK, A2', m2', c2', hm4, hsep, hB⟩ := SeqN.fin (by rfl) hS
  clear hS
  obtain ⟨rfl, rfl, rfl⟩ := inj_n3 hm4
  clear hm4
  go_wp2_with (first | (refine wpList_load_blk rfl 51 (.tmp 4) rfl (w.heap.size + 2) rfl 51 #[.int .u64 s, .slice A2 m2 c2, .int .u64 s, .int .u64 0, .int .i64 0, .int .i64 0, .slice none 0 0, .bool false, .int .i64 0, .int .i64 E] _ hB Try.underlying51 rfl toldI ?_) | (refine wpList_store_blk rfl 51 (.tmp 4) (.tmp 101) rfl (w.heap.size + 2) 51 #[.int .u64 s, .slice A2 m2 c2, .int .u64 s, .int .u64 0, .int .i64 0, .int .i64 0, .slice none 0 0, .bool false, .int .i64 0, .int .i64 E] #[.int .u64 s, .slice A2 m2 c2, .int .u64 s, .int .u64 0, .int .i64 0, .int .i64 0, .slice none 0 0, .bool false, .int .i64 0, .int .i64 E] rfl rfl hB rfl toldI (by simp [Value.oneCell']) ?_; intro wz hZ gz))
  exact bodyPost_ret (res1 Try.results23 rfl hZ Try.underlying51 rfl toldI) rfl ⟨_, _, _, _, _, _, rfl, (hsep.kept gz (by omega)).less (by omega), bl_gr (hK.below BB.out (by omega) (by omega)) gz (by omega)⟩
set_option maxRecDepth 100000 in
set_option maxHeartbeats 16000000 in
theorem want_send2 (o : OpC) (oA : Option Addr) (on oc : Nat) (sent : Int) (A : Option Addr) (m c : Nat) (ps : List PC) (w : World) (hk : kindI o = 2) (h : LP.rd w AllB A m ps) (hc : chkB sent ps = true) (hm : m ≤ 20000) (hb : ∀ p ∈ ps, p.bs.length ≤ 100000) (hs0 : 0 ≤ sent) (hob : RdB w oA on o.bs) (hc1 : on ≤ oc) (hc2 : oc ≤ 9223372036854775807) :
    Calls Try.prog 23 #[.agg (o.cells oA on oc), .agg #[.int .u64 sent, .slice A m c]] w (WantC w ⟨(sendR sent ps o.frm o.to (bytesO o)).1, (sendR sent ps o.frm o.to (bytesO o)).2, (sendR sent ps o.frm o.to (bytesO o)).1, zeroPC, 0, sendE sent ps o.frm o.to (bytesO o)⟩) := by
  have HK := Lib.hid (fun w => kind_any o oA on oc w)
  rw [hk] at HK
  clear hk
  have HBY := Lib.hid (fun W h => bytes_any o oA on oc W h hc1 hc2)
  obtain ⟨bb8, hbb8⟩ : ∃ bb8, bb8 = bytesO o := ⟨_, rfl⟩
  rw [← hbb8]
  rw [← hbb8] at HBY
  clear hbb8
  obtain ⟨k, f, t, a, p, ot, y, bs⟩ := o
  dsimp only at hob HBY ⊢
  rw [send_eqE hc, send_eqR hc]
  have HCO := Lib.hid (fun bA bn bc W h hb' => rsend_any sent A m c ps f t bA bn bc bb8 W h hm hb hb' hs0 (chk_rng hc).1)
  generalize rsendR sent ps f t bb8 = R at *
  generalize rsendE sent ps f t bb8 = E at *
  obtain ⟨s, l⟩ := R
  dsimp only
  replace h := Lay.rd_weak (G := Old w) (fun b _ hb => hb) h
  have bb := Below.refl w.heap.size w
  have bO := Blk.new w 49 #[.int .i64 k, .int .i64 f, .int .i64 t, .int .i64 a, .int .i64 p, .bool ot, vb y, .slice oA on oc]
  replace bb := bl_al bb (.cells #[.int .i64 k, .int .i64 f, .int .i64 t, .int .i64 a, .int .i64 p, .bool ot, vb y, .slice oA on oc] 49)
  replace bO := bO.ca (bl_al (Below.refl _ _) (.cells #[.int .u64 sent, .slice A m c] 26))
  have bN : Blk ((w.alloc (.cells #[.int .i64 k, .int .i64 f, .int .i64 t, .int .i64 a, .int .i64 p, .bool ot, vb y, .slice oA on oc] 49)).alloc (.cells #[.int .u64 sent, .slice A m c] 26)) (w.heap.size + 1) 26 #[.int .u64 sent, .slice A m c] := Blk.mk' (by simp only [World.size_alloc])
  replace bb := bl_al bb (.cells #[.int .u64 sent, .slice A m c] 26)
  replace bO := bO.ca (bl_al (Below.refl _ _) (.cells #[.int .u64 0, .slice none 0 0, .int .u64 0, .int .u64 0, .int .i64 0, .int .i64 0, .slice none 0 0, .bool false, .int .i64 0, .int .i64 0] 51))
  replace bN := bN.ca (bl_al (Below.refl _ _) (.cells #[.int .u64 0, .slice none 0 0, .int .u64 0, .int .u64 0, .int .i64 0, .int .i64 0, .slice none 0 0, .bool false, .int .i64 0, .int .i64 0] 51))
  have bT : Blk (((w.alloc (.cells #[.int .i64 k, .int .i64 f, .int .i64 t, .int .i64 a, .int .i64 p, .bool ot, vb y, .slice oA on oc] 49)).alloc (.cells #[.int .u64 sent, .slice A m c] 26)).alloc (.cells #[.int .u64 0, .slice none 0 0, .int .u64 0, .int .u64 0, .int .i64 0, .int .i64 0, .slice none 0 0, .bool false, .int .i64 0, .int .i64 0] 51)) (w.heap.size + 2) 51 #[.int .u64 0, .slice none 0 0, .int .u64 0, .int .u64 0, .int .i64 0, .int .i64 0, .slice none 0 0, .bool false, .int .i64 0, .int .i64 0] := Blk.mk' (by simp only [World.size_alloc])
  replace bb := bl_al bb (.cells #[.int .u64 0, .slice none 0 0, .int .u64 0, .int .u64 0, .int .i64 0, .int .i64 0, .slice none 0 0, .bool false, .int .i64 0, .int .i64 0] 51)
  have hsz : w.heap.size + 3 ≤ (((w.alloc (.cells #[.int .i64 k, .int .i64 f, .int .i64 t, .int .i64 a, .int .i64 p, .bool ot, vb y, .slice oA on oc] 49)).alloc (.cells #[.int .u64 sent, .slice A m c] 26)).alloc (.cells #[.int .u64 0, .slice none 0 0, .int .u64 0, .int .u64 0, .int .i64 0, .int .i64 0, .slice none 0 0, .bool false, .int .i64 0, .int .i64 0] 51)).heap.size := by simp only [World.size_alloc]; omega
  have HRT := Lib.hid (right_any sent A m c ps _ (Lay.rd_below (Lay.rd_weak (fun _ _ _ => trivial) h) bb) (by omega))
  rw [hc] at HRT
  have HR1 := Lib.hid (Lay.rd_below h bb)
  have HB1 := Lib.hid (show Reads _ w.heap.size 1 oA on (bs.map vb) from hob)
  clear h hc hob
  have x0 : (((w.alloc (.cells #[.int .i64 k, .int .i64 f, .int .i64 t, .int .i64 a, .int .i64 p, .bool ot, vb y, .slice oA on oc] 49)).alloc (.cells #[.int .u64 sent, .slice A m c] 26)).alloc (.cells #[.int .u64 0, .slice none 0 0, .int .u64 0, .int .u64 0, .int .i64 0, .int .i64 0, .slice none 0 0, .bool false, .int .i64 0, .int .i64 0] 51)).cell? ⟨w.heap.size + 1, 0, none⟩ = some (.int .u64 sent) := bN.cell 0
  have x1 : (((w.alloc (.cells #[.int .i64 k, .int .i64 f, .int .i64 t, .int .i64 a, .int .i64 p, .bool ot, vb y, .slice oA on oc] 49)).alloc (.cells #[.int .u64 sent, .slice A m c] 26)).alloc (.cells #[.int .u64 0, .slice none 0 0, .int .u64 0, .int .u64 0, .int .i64 0, .int .i64 0, .slice none 0 0, .bool false, .int .i64 0, .int .i64 0] 51)).cell? ⟨w.heap.size + 1, 1, none⟩ = some (.slice A m c) := bN.cell 1
  go_enter Try.func23, Try.ntmps23
  go_wp2_with fail
  generalize (((w.alloc (.cells #[.int .i64 k, .int .i64 f, .int .i64 t, .int .i64 a, .int .i64 p, .bool ot, vb y, .slice oA on oc] 49)).alloc (.cells #[.int .u64 sent, .slice A m c] 26)).alloc (.cells #[.int .u64 0, .slice none 0 0, .int .u64 0, .int .u64 0, .int .i64 0, .int .i64 0, .slice none 0 0, .bool false, .int .i64 0, .int .i64 0] 51)) = w1 at *
  refine HRT.out.mono ?_
  rintro e w4 ⟨rfl, q4⟩
  have v0 : w4.cell? ⟨w.heap.size, 0, none⟩ = some (.int .i64 k) := (bO.ca q4).cell 0
  have v1 : w4.cell? ⟨w.heap.size, 1, none⟩ = some (.int .i64 f) := (bO.ca q4).cell 1
  have v2 : w4.cell? ⟨w.heap.size, 2, none⟩ = some (.int .i64 t) := (bO.ca q4).cell 2
  have v3 : w4.cell? ⟨w.heap.size, 3, none⟩ = some (.int .i64 a) := (bO.ca q4).cell 3
  have v4 : w4.cell? ⟨w.heap.size, 4, none⟩ = some (.int .i64 p) := (bO.ca q4).cell 4
  have v5 : w4.cell? ⟨w.heap.size, 5, none⟩ = some (.bool ot) := (bO.ca q4).cell 5
  have v6 : w4.cell? ⟨w.heap.size, 6, none⟩ = some (vb y) := (bO.ca q4).cell 6
  have v7 : w4.cell? ⟨w.heap.size, 7, none⟩ = some (.slice oA on oc) := (bO.ca q4).cell 7
  clear x0 x1 HRT
  go_wp2_with fail
  refine (HK.out _).mono ?_
  rintro e w5 ⟨rfl, q6⟩
  have q5 := q4.trans (q6.mono q4.size)
  have HO := Lib.hid (bO.ca q5)
  have HN := Lib.hid (bN.ca q5)
  have HT := Lib.hid (bT.ca q5)
  have HR := Lib.hid (Lay.rd_below HR1.out q5)
  have BB := Lib.hid (bl_ca bb q5)
  have hs5 := Nat.le_trans hsz q5.size
  have HB5 := Lib.hid (HB1.out.below (bl_ca bb q5))
  clear HB1 bO bN bT bb q4 q5 q6 HR1 HK v0 v1 v2 v3 v4 v5 v6 v7
  go_wp2_with fail
  refine wp_region_ps (S := SeqN [6, 7, 13, 15, 17] (fun j m w' => match j with | 0 => Kept w5 w' (w.heap.size + 2) w5.heap.size ∧ Blk w' (w.heap.size + 2) 51 #[.int .u64 0, .slice none 0 0, .int .u64 0, .int .u64 0, .int .i64 0, .int .i64 0, .slice none 0 0, .bool false, .int .i64 0, .int .i64 0] | 1 => Kept w5 w' (w.heap.size + 2) w5.heap.size ∧ ∃ bA bk bc, m 6 = .slice bA bk bc ∧ bk ≤ bc ∧ bc ≤ 9223372036854775807 ∧ OwnB w' w5.heap.size bA bk bc bb8 ∧ Blk w' (w.heap.size + 2) 51 #[.int .u64 0, .slice none 0 0, .int .u64 0, .int .u64 0, .int .i64 0, .int .i64 0, .slice none 0 0, .bool false, .int .i64 0, .int .i64 0] | 2 => Kept w5 w' (w.heap.size + 2) w5.heap.size ∧ ∃ A2 m2 c2, m 7 = Value.tuple #[.agg #[.int .u64 s, .slice A2 m2 c2], .int .u64 s, .int .i64 E] ∧ RSep w' w5.heap.size ⟨s, l, s, zeroPC, 0, E⟩ A2 m2 c2 none 0 0 ∧ Blk w' (w.heap.size + 2) 51 #[.int .u64 0, .slice none 0 0, .int .u64 0, .int .u64 0, .int .i64 0, .int .i64 0, .slice none 0 0, .bool false, .int .i64 0, .int .i64 0] | 3 => Kept w5 w' (w.heap.size + 2) w5.heap.size ∧ ∃ A2 m2 c2, m 7 = Value.tuple #[.agg #[.int .u64 s, .slice A2 m2 c2], .int .u64 s, .int .i64 E] ∧ RSep w' w5.heap.size ⟨s, l, s, zeroPC, 0, E⟩ A2 m2 c2 none 0 0 ∧ Blk w' (w.heap.size + 2) 51 #[.int .u64 s, .slice A2 m2 c2, .int .u64 0, .int .u64 0, .int .i64 0, .int .i64 0, .slice none 0 0, .bool false, .int .i64 0, .int .i64 0] | 4 => Kept w5 w' (w.heap.size + 2) w5.heap.size ∧ ∃ A2 m2 c2, m 7 = Value.tuple #[.agg #[.int .u64 s, .slice A2 m2 c2], .int .u64 s, .int .i64 E] ∧ RSep w' w5.heap.size ⟨s, l, s, zeroPC, 0, E⟩ A2 m2 c2 none 0 0 ∧ Blk w' (w.heap.size + 2) 51 #[.int .u64 s, .slice A2 m2 c2, .int .u64 s, .int .u64 0, .int .i64 0, .int .i64 0, .slice none 0 0, .bool false, .int .i64 0, .int .i64 0] | _ => Kept w5 w' (w.heap.size + 2) w5.heap.size ∧ ∃ A2 m2 c2, m 7 = Value.tuple #[.agg #[.int .u64 s, .slice A2 m2 c2], .int .u64 s, .int .i64 E] ∧ RSep w' w5.heap.size ⟨s, l, s, zeroPC, 0, E⟩ A2 m2 c2 none 0 0 ∧ Blk w' (w.heap.size + 2) 51 #[.int .u64 s, .slice A2 m2 c2, .int .u64 s, .int .u64 0, .int .i64 0, .int .i64 0, .slice none 0 0, .bool false, .int .i64 0, .int .i64 E])) (by kernel_rfl) ?spswq ?ppswq
  case spswq =>
    exact SeqN.start (by decide) ⟨Kept.of_below (Below.refl _ _).drew (Nat.le_refl _), HT.out.ca (Below.refl _ _).drew⟩
  refine Ps.step (i := 0) (d := some 31) (u := ?uwq_95) rfl rfl (by kernel_rfl) (by kernel_rfl) (by kernel_rfl) (by kernel_rfl) ?ywq_95 ?rwq_95
  case ywq_95 =>
    refine StepS.read [] (by kernel_rfl) (SeqN.pass (by decide)) (by rfl) (fun L9 m9 w9 hSh hAt hDn hS => ?_)
    have hK : Kept w5 w9 (w.heap.size + 2) w5.heap.size := SeqN.any (T := fun w9 => Kept w5 w9 (w.heap.size + 2) w5.heap.size) (fun j _ _ h => by match j, h with | 0, h => exact h.1 | 1, h => exact h.1 | 2, h => exact h.1 | 3, h => exact h.1 | 4, h => exact h.1 | _ + 5, h => exact h.1) hS
    have hT : Blk w9 (w.heap.size + 1) 26 #[.int .u64 sent, .slice A m c] := HN.out.kp hK (by omega) (by omega)
    have x0 : w9.cell? ⟨(w.heap.size + 1), 0, none⟩ = some (.int .u64 sent) := hT.cell 0
    have x1 : w9.cell? ⟨(w.heap.size + 1), 1, none⟩ = some (.slice A m c) := hT.cell 1
    clear hT hK hS
    go_simp
    try rfl
  try simp only [Act.put, List.setIfInBounds_toArray, List.set_cons_zero, List.set_cons_succ]
  refine Ps.step (i := 1) (d := some 32) (u := ?uwq_96) rfl rfl (by kernel_rfl) (by kernel_rfl) (by kernel_rfl) (by kernel_rfl) ?ywq_96 ?rwq_96
  case ywq_96 =>
    refine StepS.pure (SeqN.pass (by decide)) (by rfl) (fun w9 => ?_)
    go_simp
    try rfl
  try simp only [Act.put, List.setIfInBounds_toArray, List.set_cons_zero, List.set_cons_succ]
  refine Ps.step (i := 2) (d := some 33) (u := ?uwq_97) rfl rfl (by kernel_rfl) (by kernel_rfl) (by kernel_rfl) (by kernel_rfl) ?ywq_97 ?rwq_97
  case ywq_97 =>
    refine StepS.read [] (by kernel_rfl) (SeqN.pass (by decide)) (by rfl) (fun L9 m9 w9 hSh hAt hDn hS => ?_)
    have hK : Kept w5 w9 (w.heap.size + 2) w5.heap.size := SeqN.any (T := fun w9 => Kept w5 w9 (w.heap.size + 2) w5.heap.size) (fun j _ _ h => by match j, h with | 0, h => exact h.1 | 1, h => exact h.1 | 2, h => exact h.1 | 3, h => exact h.1 | 4, h => exact h.1 | _ + 5, h => exact h.1) hS
    have hT : Blk w9 w.heap.size 49 #[.int .i64 k, .int .i64 f, .int .i64 t, .int .i64 a, .int .i64 p, .bool ot, vb y, .slice oA on oc] := HO.out.kp hK (by omega) (by omega)
    have x1 : w9.cell? ⟨w.heap.size, 1, none⟩ = some (.int .i64 f) := hT.cell 1
    clear hT hK hS
    go_simp
    try rfl
  try simp only [Act.put, List.setIfInBounds_toArray, List.set_cons_zero, List.set_cons_succ]
  refine Ps.step (i := 3) (d := some 34) (u := ?uwq_98) rfl rfl (by kernel_rfl) (by kernel_rfl) (by kernel_rfl) (by kernel_rfl) ?ywq_98 ?rwq_98
  case ywq_98 =>
    refine StepS.pure (SeqN.pass (by decide)) (by rfl) (fun w9 => ?_)
    go_simp
    try rfl
  try simp only [Act.put, List.setIfInBounds_toArray, List.set_cons_zero, List.set_cons_succ]
  refine Ps.step (i := 4) (d := some 35) (u := ?uwq_99) rfl rfl (by kernel_rfl) (by kernel_rfl) (by kernel_rfl) (by kernel_rfl) ?ywq_99 ?rwq_99
  case ywq_99 =>
    refine StepS.read [] (by kernel_rfl) (SeqN.pass (by decide)) (by rfl) (fun L9 m9 w9 hSh hAt hDn hS => ?_)
    have hK : Kept w5 w9 (w.heap.size + 2) w5.heap.size := SeqN.any (T := fun w9 => Kept w5 w9 (w.heap.size + 2) w5.heap.size) (fun j _ _ h => by match j, h with | 0, h => exact h.1 | 1, h => exact h.1 | 2, h => exact h.1 | 3, h => exact h.1 | 4, h => exact h.1 | _ + 5, h => exact h.1) hS
    have hT : Blk w9 w.heap.size 49 #[.int .i64 k, .int .i64 f, .int .i64 t, .int .i64 a, .int .i64 p, .bool ot, vb y, .slice oA on oc] := HO.out.kp hK (by omega) (by omega)
    have x2 : w9.cell? ⟨w.heap.size, 2, none⟩ = some (.int .i64 t) := hT.cell 2
    clear hT hK hS
    go_simp
    try rfl
  try simp only [Act.put, List.setIfInBounds_toArray, List.set_cons_zero, List.set_cons_succ]
  refine Ps.step (i := 5) (d := some 36) (u := ?uwq_100) rfl rfl (by kernel_rfl) (by kernel_rfl) (by kernel_rfl) (by kernel_rfl) ?ywq_100 ?rwq_100
  case ywq_100 =>
    refine StepS.read [] (by kernel_rfl) (SeqN.pass (by decide)) (by rfl) (fun L9 m9 w9 hSh hAt hDn hS => ?_)
    have hK : Kept w5 w9 (w.heap.size + 2) w5.heap.size := SeqN.any (T := fun w9 => Kept w5 w9 (w.heap.size + 2) w5.heap.size) (fun j _ _ h => by match j, h with | 0, h => exact h.1 | 1, h => exact h.1 | 2, h => exact h.1 | 3, h => exact h.1 | 4, h => exact h.1 | _ + 5, h => exact h.1) hS
    have hT : Blk w9 w.heap.size 49 #[.int .i64 k, .int .i64 f, .int .i64 t, .int .i64 a, .int .i64 p, .bool ot, vb y, .slice oA on oc] := HO.out.kp hK (by omega) (by omega)
    have x0 : w9.cell? ⟨w.heap.size, 0, none⟩ = some (.int .i64 k) := hT.cell 0
    have x1 : w9.cell? ⟨w.heap.size, 1, none⟩ = some (.int .i64 f) := hT.cell 1
    have x2 : w9.cell? ⟨w.heap.size, 2, none⟩ = some (.int .i64 t) := hT.cell 2
    have x3 : w9.cell? ⟨w.heap.size, 3, none⟩ = some (.int .i64 a) := hT.cell 3
    have x4 : w9.cell? ⟨w.heap.size, 4, none⟩ = some (.int .i64 p) := hT.cell 4
    have x5 : w9.cell? ⟨w.heap.size, 5, none⟩ = some (.bool ot) := hT.cell 5
    have x6 : w9.cell? ⟨w.heap.size, 6, none⟩ = some (vb y) := hT.cell 6
    have x7 : w9.cell? ⟨w.heap.size, 7, none⟩ = some (.slice oA on oc) := hT.cell 7
    clear hT hK hS
    go_simp
    try rfl
  try simp only [Act.put, List.setIfInBounds_toArray, List.set_cons_zero, List.set_cons_succ]
  refine Ps.one (k := 6) (d := some 37) rfl rfl (by kernel_rfl) (TurnS.call (V := fun v => ∃ bA bk bc, v = .slice bA bk bc) ?fwq_101 ?awq_101 [] (by kernel_rfl) (by rfl) (fun w9 => ?hwq_101) (fun L9 m9 w9 hSh hAt hDn hS => ?cwq_101)) (fun v6 hVv6 => ?rwq_101)
  case hwq_101 => go_simp; refine ⟨?_, ?_⟩ <;> rfl
  case cwq_101 =>
    have hC := SeqN.at_ [] [7, 13, 15, 17] hSh hAt hDn (by kernel_rfl) hS
    refine (HBY.out w9 (Reads.kp9 HB5.out hC.1 (by omega) (by omega))).mono ?_
    rintro e w8 ⟨bA, bk, bc, rfl, hob, q8⟩
    have hcap := hob.cap
    have hcap2 : bc ≤ 9223372036854775807 := by have := hcap.2; unfold maxLen at this; omega
    exact ⟨_, rfl, ⟨bA, bk, bc, rfl⟩, SeqN.set_ [] [7, 13, 15, 17] hSh hAt hDn (by kernel_rfl) (by decide) (by decide) ⟨hC.1.trans (Kept.of_below q8 hC.1.size), bA, bk, bc, upd_same _ _ _, hcap.1, hcap2, hob.less hC.1.size, hC.2.ca q8⟩⟩
  try simp only [Act.put, List.setIfInBounds_toArray, List.set_cons_zero, List.set_cons_succ]
  obtain ⟨bA, bk, bc, rfl⟩ := hVv6
  refine Ps.one (k := 7) (d := some 38) rfl rfl (by kernel_rfl) (TurnS.call (V := fun v => ∃ A2 m2 c2, v = Value.tuple #[.agg #[.int .u64 s, .slice A2 m2 c2], .int .u64 s, .int .i64 E]) ?fwq_102 ?awq_102 [6] (by kernel_rfl) (by rfl) (fun w9 => ?hwq_102) (fun L9 m9 w9 hSh hAt hDn hS => ?cwq_102)) (fun v7 hVv7 => ?rwq_102)
  case hwq_102 => go_simp; refine ⟨?_, ?_⟩ <;> rfl
  case cwq_102 =>
    obtain ⟨hK, A6, k6, c6, h6, hc6, hc7, hob, hB⟩ := SeqN.at_ [6] [13, 15, 17] hSh hAt hDn (by kernel_rfl) hS
    obtain ⟨rfl, rfl, rfl⟩ : bA = A6 ∧ bk = k6 ∧ bc = c6 := by have h9 := (hAt 6 (by simp)).2.symm.trans h6; exact inj_sl h9
    have hCA := HCO.out bA bk bc w9 (rd_kp HR.out hK (by omega) (by omega)) hob.rd
    refine hCA.mono ?_
    rintro e w8 ⟨A2, m2, c2, rfl, ⟨es, hd, hes⟩, q8⟩
    have hs9 := hK.size
    have HSEP : RSep w8 w5.heap.size ⟨s, l, s, zeroPC, 0, E⟩ A2 m2 c2 none 0 0 := RSep.less ⟨by rw [show l = es.map El.p from hes.symm]; exact hd.rd (fun b hb => hb), OwnB.none_ _ _⟩ hs9
    exact ⟨_, rfl, ⟨A2, m2, c2, rfl⟩, SeqN.set_ [6] [13, 15, 17] hSh hAt hDn (by kernel_rfl) (by decide) (by decide) ⟨hK.trans (Kept.of_below q8 hK.size), A2, m2, c2, upd_same _ _ _, HSEP, hB.ca q8⟩⟩
  try simp only [Act.put, List.setIfInBounds_toArray, List.set_cons_zero, List.set_cons_succ]
  obtain ⟨A2, m2, c2, rfl⟩ := hVv7
  refine Ps.step (i := 8) (d := some 30) (u := ?uwq_103) rfl rfl (by kernel_rfl) (by kernel_rfl) (by kernel_rfl) (by kernel_rfl) ?ywq_103 ?rwq_103
  case ywq_103 =>
    refine StepS.pure (SeqN.pass (by decide)) (by rfl) (fun w9 => ?_)
    go_simp
    try rfl
  try simp only [Act.put, List.setIfInBounds_toArray, List.set_cons_zero, List.set_cons_succ]
  refine Ps.step (i := 9) (d := some 39) (u := ?uwq_104) rfl rfl (by kernel_rfl) (by kernel_rfl) (by kernel_rfl) (by kernel_rfl) ?ywq_104 ?rwq_104
  case ywq_104 =>
    refine StepS.pure (SeqN.pass (by decide)) (by rfl) (fun w9 => ?_)
    go_simp
    try rfl
  try simp only [Act.put, List.setIfInBounds_toArray, List.set_cons_zero, List.set_cons_succ]
  refine Ps.step (i := 10) (d := some 40) (u := ?uwq_105) rfl rfl (by kernel_rfl) (by kernel_rfl) (by kernel_rfl) (by kernel_rfl) ?ywq_105 ?rwq_105
  case ywq_105 =>
    refine StepS.pure (SeqN.pass (by decide)) (by rfl) (fun w9 => ?_)
    go_simp
    try rfl
  try simp only [Act.put, List.setIfInBounds_toArray, List.set_cons_zero, List.set_cons_succ]
  refine Ps.step (i := 11) (d := some 41) (u := ?uwq_106) rfl rfl (by kernel_rfl) (by kernel_rfl) (by kernel_rfl) (by kernel_rfl) ?ywq_106 ?rwq_106
  case ywq_106 =>
    refine StepS.pure (SeqN.pass (by decide)) (by rfl) (fun w9 => ?_)
    go_simp
    try rfl
  try simp only [Act.put, List.setIfInBounds_toArray, List.set_cons_zero, List.set_cons_succ]
  refine Ps.step (i := 12) (d := some 42) (u := ?uwq_107) rfl rfl (by kernel_rfl) (by kernel_rfl) (by kernel_rfl) (by kernel_rfl) ?ywq_107 ?rwq_107
  case ywq_107 =>
    refine StepS.pure (SeqN.pass (by decide)) (by rfl) (fun w9 => ?_)
    go_simp
    try rfl
  try simp only [Act.put, List.setIfInBounds_toArray, List.set_cons_zero, List.set_cons_succ]
  refine Ps.step (i := 13) (d := none) (u := undef) rfl rfl (by kernel_rfl) (by kernel_rfl) (by kernel_rfl) (by kernel_rfl) ?ywq_108 ?rwq_108
  case ywq_108 =>
    refine StepS.store [6, 7] (by kernel_rfl) (by rfl) (fun L9 m9 w9 hSh hAt hDn hS => ?_)
    obtain ⟨hK, A2', m2', c2', hm4, hsep, hB⟩ := SeqN.at_ [6, 7] [15, 17] hSh hAt hDn (by kernel_rfl) hS
    obtain ⟨rfl, rfl, rfl⟩ := inj_n3 ((hAt 7 (by simp)).2.symm.trans hm4)
    refine (exec_store_part (w := w9) 26 (.tmp 42) (.tmp 39) (by rfl) (w.heap.size + 2) 0 51 #[.int .u64 0, .slice none 0 0, .int .u64 0, .int .u64 0, .int .i64 0, .int .i64 0, .slice none 0 0, .bool false, .int .i64 0, .int .i64 0] #[.int .u64 s, .slice A2 m2 c2] #[.int .u64 s, .slice A2 m2 c2, .int .u64 0, .int .u64 0, .int .i64 0, .int .i64 0, .slice none 0 0, .bool false, .int .i64 0, .int .i64 0] (by rfl) (by rfl) hB (by simp) netI (by simp [Value.oneCell']) (by rfl)).imp fun w7 hx => ⟨hx.1, SeqN.set_ [6, 7] [15, 17] hSh hAt hDn (by kernel_rfl) (by decide) (by decide) ⟨hK.trans (Kept.of_grown hx.2.2 hK.size (.inl rfl)), A2, m2, c2, hm4, hsep.kept hx.2.2 (by omega), hx.2.1⟩⟩
  try simp only [Act.put]
  refine Ps.step (i := 14) (d := some 43) (u := ?uwq_109) rfl rfl (by kernel_rfl) (by kernel_rfl) (by kernel_rfl) (by kernel_rfl) ?ywq_109 ?rwq_109
  case ywq_109 =>
    refine StepS.pure (SeqN.pass (by decide)) (by rfl) (fun w9 => ?_)
    go_simp
    try rfl
  try simp only [Act.put, List.setIfInBounds_toArray, List.set_cons_zero, List.set_cons_succ]
  refine Ps.step (i := 15) (d := none) (u := undef) rfl rfl (by kernel_rfl) (by kernel_rfl) (by kernel_rfl) (by kernel_rfl) ?ywq_110 ?rwq_110
  case ywq_110 =>
    refine StepS.store [6, 7, 13] (by kernel_rfl) (by rfl) (fun L9 m9 w9 hSh hAt hDn hS => ?_)
    obtain ⟨hK, A2', m2', c2', hm4, hsep, hB⟩ := SeqN.at_ [6, 7, 13] [17] hSh hAt hDn (by kernel_rfl) hS
    obtain ⟨rfl, rfl, rfl⟩ := inj_n3 ((hAt 7 (by simp)).2.symm.trans hm4)
    have xc : w9.cell? ⟨w.heap.size + 2, 2, none⟩ = some (.int .u64 0) := hB.cell 2
    have fx : w9.frozen? ⟨w.heap.size + 2, 2, none⟩ = false := hB.frozen 2
    have hB2 : Blk (w9.setCell ⟨w.heap.size + 2, 2, none⟩ (.int .u64 s)) (w.heap.size + 2) 51 #[.int .u64 s, .slice A2 m2 c2, .int .u64 s, .int .u64 0, .int .i64 0, .int .i64 0, .slice none 0 0, .bool false, .int .i64 0, .int .i64 0] := by simpa using hB.set_ 2 (.int .u64 s)
    have hg2 : w9.grownBy (w9.setCell ⟨w.heap.size + 2, 2, none⟩ (.int .u64 s)) (some (w.heap.size + 2)) := only_setCell (World.grownBy.refl _ _) (.inl rfl) _
    refine ⟨w9.setCell ⟨w.heap.size + 2, 2, none⟩ (.int .u64 s), ?_, SeqN.set_ [6, 7, 13] [17] hSh hAt hDn (by kernel_rfl) (by decide) (by decide) ⟨hK.trans (Kept.of_grown hg2 hK.size (.inl rfl)), A2, m2, c2, hm4, hsep.kept hg2 (by omega), hB2⟩⟩
    clear hB hB2 hg2 hS hK hsep hm4
    go_simp
  try simp only [Act.put]
  refine Ps.step (i := 16) (d := some 44) (u := ?uwq_111) rfl rfl (by kernel_rfl) (by kernel_rfl) (by kernel_rfl) (by kernel_rfl) ?ywq_111 ?rwq_111
  case ywq_111 =>
    refine StepS.pure (SeqN.pass (by decide)) (by rfl) (fun w9 => ?_)
    go_simp
    try rfl
  try simp only [Act.put, List.setIfInBounds_toArray, List.set_cons_zero, List.set_cons_succ]
  refine Ps.step (i := 17) (d := none) (u := undef) rfl rfl (by kernel_rfl) (by kernel_rfl) (by kernel_rfl) (by kernel_rfl) ?ywq_112 ?rwq_112
  case ywq_112 =>
    refine StepS.store [6, 7, 13, 15] (by kernel_rfl) (by rfl) (fun L9 m9 w9 hSh hAt hDn hS => ?_)
    obtain ⟨hK, A2', m2', c2', hm4, hsep, hB⟩ := SeqN.at_ [6, 7, 13, 15] [] hSh hAt hDn (by kernel_rfl) hS
    obtain ⟨rfl, rfl, rfl⟩ := inj_n3 ((hAt 7 (by simp)).2.symm.trans hm4)
    have xc : w9.cell? ⟨w.heap.size + 2, 9, none⟩ = some (.int .i64 0) := hB.cell 9
    have fx : w9.frozen? ⟨w.heap.size + 2, 9, none⟩ = false := hB.frozen 9
    have hB2 : Blk (w9.setCell ⟨w.heap.size + 2, 9, none⟩ (.int .i64 E)) (w.heap.size + 2) 51 #[.int .u64 s, .slice A2 m2 c2, .int .u64 s, .int .u64 0, .int .i64 0, .int .i64 0, .slice none 0 0, .bool false, .int .i64 0, .int .i64 E] := by simpa using hB.set_ 9 (.int .i64 E)
    have hg2 : w9.grownBy (w9.setCell ⟨w.heap.size + 2, 9, none⟩ (.int .i64 E)) (some (w.heap.size + 2)) := only_setCell (World.grownBy.refl _ _) (.inl rfl) _
    refine ⟨w9.setCell ⟨w.heap.size + 2, 9, none⟩ (.int .i64 E), ?_, SeqN.set_ [6, 7, 13, 15] [] hSh hAt hDn (by kernel_rfl) (by decide) (by decide) ⟨hK.trans (Kept.of_grown hg2 hK.size (.inl rfl)), A2, m2, c2, hm4, hsep.kept hg2 (by omega), hB2⟩⟩
    clear hB hB2 hg2 hS hK hsep hm4
    go_simp
  try simp only [Act.put]
  refine Ps.done (by kernel_rfl) (fun wq hS => ?_) _
  obtain ⟨hK, A2', m2', c2', hm4, hsep, hB⟩ := SeqN.fin (by rfl) hS
  clear hS
  obtain ⟨rfl, rfl, rfl⟩ := inj_n3 hm4
  clear hm4
  go_wp2_with (first | (refine wpList_load_blk rfl 51 (.tmp 4) rfl (w.heap.size + 2) rfl 51 #[.int .u64 s, .slice A2 m2 c2, .int .u64 s, .int .u64 0, .int .i64 0, .int .i64 0, .slice none 0 0, .bool false, .int .i64 0, .int .i64 E] _ hB Try.underlying51 rfl toldI ?_) | (refine wpList_store_blk rfl 51 (.tmp 4) (.tmp 101) rfl (w.heap.size + 2) 51 #[.int .u64 s, .slice A2 m2 c2, .int .u64 s, .int .u64 0, .int .i64 0, .int .i64 0, .slice none 0 0, .bool false, .int .i64 0, .int .i64 E] #[.int .u64 s, .slice A2 m2 c2, .int .u64 s, .int .u64 0, .int .i64 0, .int .i64 0, .slice none 0 0, .bool false, .int .i64 0, .int .i64 E] rfl rfl hB rfl toldI (by simp [Value.oneCell']) ?_; intro wz hZ gz))
  exact bodyPost_ret (res1 Try.results23 rfl hZ Try.underlying51 rfl toldI) rfl ⟨_, _, _, _, _, _, rfl, (hsep.kept gz (by omega)).less (by omega), bl_gr (hK.below BB.out (by omega) (by omega)) gz (by omega)⟩
end Go.Proofs.Ytnbcffnhgijmcaa
