/- bowspritref24.with. Conditions: the slice reads as these parcels, not too many. -/
import Derived.Test.YtnbcffnhgijmcaaPkS8
namespace Go.Proofs.Ytnbcffnhgijmcaa
open Go.RowKit
theorem Seq3.set0 {k1 k2 k3 j : Nat} {B0 B1 B2 B3 : (Nat → Value) → World → Prop} {L : Array Bool} {m' : Nat → Value} {w' : World} (e1 : k1 ≠ j) (e2 : k2 ≠ j) (e3 : k3 ≠ j) (h1 : Dn L k1 = false) (h2 : Dn L k2 = false) (h3 : Dn L k3 = false) (h : B0 m' w') : Seq3 k1 k2 k3 B0 B1 B2 B3 (L.setIfInBounds j true) m' w' := by
  unfold Seq3 Sk3
  rw [dn_ne e1, dn_ne e2, dn_ne e3, h1, h2, h3]
  exact ⟨fun _ _ _ => h, fun e => (by cases e), fun e => (by cases e), fun e => (by cases e)⟩
def withR (sent : Int) (ps : List PC) (p : PC) : Int × List PC := if addE sent ps = 0 then (sent + 1, ps ++ [added sent p]) else (0, [])
def WithC (w : World) (r : Int × List PC) (er : Int) (e : Ending) (w' : World) : Prop := ∃ A2 m2 c2, e = .returned (.tuple #[.agg #[.int .u64 r.1, .slice A2 m2 c2], .int .u64 r.1, .int .i64 er]) ∧ OutN w' w.heap.size A2 m2 c2 r.2 ∧ Below w.heap.size w w'
set_option maxRecDepth 100000 in
set_option maxHeartbeats 8000000 in
theorem rwith_full (sent : Int) (A : Option Addr) (m c : Nat) (p : PC) (pA : Option Addr) (pn pc : Nat) (w : World) (hf : m = 20000 ∨ sent = 1099511627776) :
    Calls Try.prog 46 #[.agg #[.int .u64 sent, .slice A m c], .agg #[.int .u64 p.num, .int .i64 p.frm, .int .i64 p.to, .slice pA pn pc, .bool p.sp]] w (WithC w (0, []) 6) := by
  have bb := Below.refl w.heap.size w
  have bN := Blk.new w 26 #[.int .u64 sent, .slice A m c]
  replace bb := bl_al bb (.cells #[.int .u64 sent, .slice A m c] 26)
  replace bN := bN.ca (bl_al (Below.refl _ _) (.cells #[.int .u64 p.num, .int .i64 p.frm, .int .i64 p.to, .slice pA pn pc, .bool p.sp] 29))
  have bX : Blk ((w.alloc (.cells #[.int .u64 sent, .slice A m c] 26)).alloc (.cells #[.int .u64 p.num, .int .i64 p.frm, .int .i64 p.to, .slice pA pn pc, .bool p.sp] 29)) (w.heap.size + 1) 29 #[.int .u64 p.num, .int .i64 p.frm, .int .i64 p.to, .slice pA pn pc, .bool p.sp] := Blk.mk' (by simp only [World.size_alloc])
  replace bb := bl_al bb (.cells #[.int .u64 p.num, .int .i64 p.frm, .int .i64 p.to, .slice pA pn pc, .bool p.sp] 29)
  replace bN := bN.ca (bl_al (Below.refl _ _) (.cells #[.int .u64 0, .slice none 0 0] 26))
  replace bX := bX.ca (bl_al (Below.refl _ _) (.cells #[.int .u64 0, .slice none 0 0] 26))
  have bR : Blk (((w.alloc (.cells #[.int .u64 sent, .slice A m c] 26)).alloc (.cells #[.int .u64 p.num, .int .i64 p.frm, .int .i64 p.to, .slice pA pn pc, .bool p.sp] 29)).alloc (.cells #[.int .u64 0, .slice none 0 0] 26)) (w.heap.size + 2) 26 #[.int .u64 0, .slice none 0 0] := Blk.mk' (by simp only [World.size_alloc])
  replace bb := bl_al bb (.cells #[.int .u64 0, .slice none 0 0] 26)
  have hsz : w.heap.size + 3 ≤ (((w.alloc (.cells #[.int .u64 sent, .slice A m c] 26)).alloc (.cells #[.int .u64 p.num, .int .i64 p.frm, .int .i64 p.to, .slice pA pn pc, .bool p.sp] 29)).alloc (.cells #[.int .u64 0, .slice none 0 0] 26)).heap.size := by simp only [World.size_alloc]; omega
  have n0 : (((w.alloc (.cells #[.int .u64 sent, .slice A m c] 26)).alloc (.cells #[.int .u64 p.num, .int .i64 p.frm, .int .i64 p.to, .slice pA pn pc, .bool p.sp] 29)).alloc (.cells #[.int .u64 0, .slice none 0 0] 26)).cell? ⟨w.heap.size, 0, none⟩ = some (.int .u64 sent) := bN.cell 0
  have n1 : (((w.alloc (.cells #[.int .u64 sent, .slice A m c] 26)).alloc (.cells #[.int .u64 p.num, .int .i64 p.frm, .int .i64 p.to, .slice pA pn pc, .bool p.sp] 29)).alloc (.cells #[.int .u64 0, .slice none 0 0] 26)).cell? ⟨w.heap.size, 1, none⟩ = some (.slice A m c) := bN.cell 1
  have HR := Lib.hid bR
  have HB := Lib.hid bb
  clear bN bX bR bb
  by_cases h : m = 20000
  · have d1 : ((m : Int) == 20000) = true := by simp; omega
    clear hf h
    go_enter Try.func46, Try.ntmps46
    go_wp2_with (refine wpList_store_blk rfl 26 (.tmp 4) (.tmp 16) rfl (w.heap.size + 2) 26 _ _ rfl rfl HR.out rfl netI (by simp [Value.oneCell']) ?_; intro wz hZ gz)
    exact bodyPost_ret (res3 Try.results46 rfl rfl rfl hZ Try.underlying26 rfl netI) rfl ⟨none, 0, 0, rfl, OutN.nil _ _, bl_gr HB.out gz (by omega)⟩
  · have d1 : ((m : Int) == 20000) = false := by simp; omega
    have d2 : (sent == 1099511627776) = true := by simp; omega
    clear hf h
    go_enter Try.func46, Try.ntmps46
    go_wp2_with (refine wpList_store_blk rfl 26 (.tmp 4) (.tmp 16) rfl (w.heap.size + 2) 26 _ _ rfl rfl HR.out rfl netI (by simp [Value.oneCell']) ?_; intro wz hZ gz)
    exact bodyPost_ret (res3 Try.results46 rfl rfl rfl hZ Try.underlying26 rfl netI) rfl ⟨none, 0, 0, rfl, OutN.nil _ _, bl_gr HB.out gz (by omega)⟩
set_option maxRecDepth 100000 in
set_option maxHeartbeats 16000000 in
theorem rwith_adds (sent : Int) (A : Option Addr) (m c : Nat) (ps : List PC) (p : PC) (pA : Option Addr) (pn pc : Nat) (w : World) (h : LP.rd w AllB A m ps) (hm : m < 20000) (hb : ∀ p ∈ ps, p.bs.length ≤ 100000) (hp : RdB w pA pn p.bs) (hpn : pn ≤ 100000) (hs0 : 0 ≤ sent) (hs : sent < 1099511627776) :
    Calls Try.prog 46 #[.agg #[.int .u64 sent, .slice A m c], .agg #[.int .u64 p.num, .int .i64 p.frm, .int .i64 p.to, .slice pA pn pc, .bool p.sp]] w (WithC w (sent + 1, ps ++ [added sent p]) 0) := by
  have bb := Below.refl w.heap.size w
  have bN := Blk.new w 26 #[.int .u64 sent, .slice A m c]
  replace bb := bl_al bb (.cells #[.int .u64 sent, .slice A m c] 26)
  replace bN := bN.ca (bl_al (Below.refl _ _) (.cells #[.int .u64 p.num, .int .i64 p.frm, .int .i64 p.to, .slice pA pn pc, .bool p.sp] 29))
  have bX : Blk ((w.alloc (.cells #[.int .u64 sent, .slice A m c] 26)).alloc (.cells #[.int .u64 p.num, .int .i64 p.frm, .int .i64 p.to, .slice pA pn pc, .bool p.sp] 29)) (w.heap.size + 1) 29 #[.int .u64 p.num, .int .i64 p.frm, .int .i64 p.to, .slice pA pn pc, .bool p.sp] := Blk.mk' (by simp only [World.size_alloc])
  replace bb := bl_al bb (.cells #[.int .u64 p.num, .int .i64 p.frm, .int .i64 p.to, .slice pA pn pc, .bool p.sp] 29)
  replace bN := bN.ca (bl_al (Below.refl _ _) (.cells #[.int .u64 0, .slice none 0 0] 26))
  replace bX := bX.ca (bl_al (Below.refl _ _) (.cells #[.int .u64 0, .slice none 0 0] 26))
  have bR : Blk (((w.alloc (.cells #[.int .u64 sent, .slice A m c] 26)).alloc (.cells #[.int .u64 p.num, .int .i64 p.frm, .int .i64 p.to, .slice pA pn pc, .bool p.sp] 29)).alloc (.cells #[.int .u64 0, .slice none 0 0] 26)) (w.heap.size + 2) 26 #[.int .u64 0, .slice none 0 0] := Blk.mk' (by simp only [World.size_alloc])
  replace bb := bl_al bb (.cells #[.int .u64 0, .slice none 0 0] 26)
  have hsz : w.heap.size + 3 ≤ (((w.alloc (.cells #[.int .u64 sent, .slice A m c] 26)).alloc (.cells #[.int .u64 p.num, .int .i64 p.frm, .int .i64 p.to, .slice pA pn pc, .bool p.sp] 29)).alloc (.cells #[.int .u64 0, .slice none 0 0] 26)).heap.size := by simp only [World.size_alloc]; omega
  have n0 : (((w.alloc (.cells #[.int .u64 sent, .slice A m c] 26)).alloc (.cells #[.int .u64 p.num, .int .i64 p.frm, .int .i64 p.to, .slice pA pn pc, .bool p.sp] 29)).alloc (.cells #[.int .u64 0, .slice none 0 0] 26)).cell? ⟨w.heap.size, 0, none⟩ = some (.int .u64 sent) := bN.cell 0
  have n1 : (((w.alloc (.cells #[.int .u64 sent, .slice A m c] 26)).alloc (.cells #[.int .u64 p.num, .int .i64 p.frm, .int .i64 p.to, .slice pA pn pc, .bool p.sp] 29)).alloc (.cells #[.int .u64 0, .slice none 0 0] 26)).cell? ⟨w.heap.size, 1, none⟩ = some (.slice A m c) := bN.cell 1
  have HC := Lib.hid (rcopy_any sent A m c ps _ (Lay.rd_below h bb) (by omega) hb)
  have HP := Lib.hid hp
  have HN := Lib.hid bN
  have HX := Lib.hid bX
  have HR := Lib.hid bR
  have HB := Lib.hid bb
  clear bN bX bR bb h hb hp
  have d1 : ((m : Int) == 20000) = false := by simp; omega
  have d2 : (sent == 1099511627776) = false := by simp; omega
  go_enter Try.func46, Try.ntmps46
  go_wp2_with fail
  clear n0 n1 d1 d2
  refine HC.out.mono ?_
  clear HC
  rintro e w2 ⟨A2, c2, rfl, ⟨es, hD, hes⟩, hb2⟩
  have HES := Lib.hid hes
  have HD2 := Lib.hid hD
  have HN2 := Lib.hid (HN.out.ca hb2)
  have HX2 := Lib.hid (HX.out.ca hb2)
  have HR2 := Lib.hid (HR.out.ca hb2)
  have HB2 := Lib.hid (bl_ca HB.out hb2)
  have hz2 := Nat.le_trans hsz hb2.size
  clear HN HX HR HB hes hD
  generalize (((w.alloc (.cells #[.int .u64 sent, .slice A m c] 26)).alloc (.cells #[.int .u64 p.num, .int .i64 p.frm, .int .i64 p.to, .slice pA pn pc, .bool p.sp] 29)).alloc (.cells #[.int .u64 0, .slice none 0 0] 26)).heap.size = z1 at *
  clear hb2
  go_wp2_with (refine wpList_store_blk rfl 26 (.tmp 2) (.tmp 18) rfl w.heap.size 26 _ _ rfl rfl HN2.out rfl netI (by simp [Value.oneCell']) ?_; intro wz hZ gz; have z0 : wz.cell? ⟨w.heap.size, 0, none⟩ = some (.int .u64 sent) := hZ.cell 0; have f0 : wz.frozen? ⟨w.heap.size, 0, none⟩ = false := hZ.frozen 0)
  have hg4 : wz.grownBy (wz.setCell ⟨w.heap.size, 0, none⟩ (.int .u64 (sent + 1))) (some w.heap.size) := only_setCell (World.grownBy.refl _ _) (.inl rfl) _
  have HN4 := Lib.hid (show Blk (wz.setCell ⟨w.heap.size, 0, none⟩ (.int .u64 (sent + 1))) w.heap.size 26 #[.int .u64 (sent + 1), .slice A2 m c2] from by simpa using hZ.set_ 0 (.int .u64 (sent + 1)))
  have HX4 := Lib.hid ((HX2.out.apart gz (by omega)).apart hg4 (by omega))
  have HR4 := Lib.hid ((HR2.out.apart gz (by omega)).apart hg4 (by omega))
  have HB4 := Lib.hid (bl_gr (bl_gr HB2.out gz (Nat.le_refl _)) hg4 (Nat.le_refl _))
  have HD4 := Lib.hid (show DO (wz.setCell ⟨w.heap.size, 0, none⟩ (.int .u64 (sent + 1))) (w.heap.size + 3) A2 m c2 es from ((HD2.out.kept gz (by omega)).kept hg4 (by omega)).less hsz)
  have HP4 := Lib.hid (show ∀ W, Below (wz.setCell ⟨w.heap.size, 0, none⟩ (.int .u64 (sent + 1))).heap.size (wz.setCell ⟨w.heap.size, 0, none⟩ (.int .u64 (sent + 1))) W → RdB W pA pn p.bs from fun W q => HP.out.below (bl_ca HB4.out q))
  have hB4 : w.heap.size + 3 ≤ (wz.setCell ⟨w.heap.size, 0, none⟩ (.int .u64 (sent + 1))).heap.size := Nat.le_trans hz2 (Nat.le_trans gz.size hg4.size)
  clear z0 f0 hZ gz hg4 HN2 HX2 HR2 HP HB2 HD2
  generalize wz.setCell ⟨w.heap.size, 0, none⟩ (.int .u64 (sent + 1)) = w4 at *
  refine wp_region_ps (S := Seq3 5 7 9 (fun m w' => Below w4.heap.size w4 w' ∧ (m 2 = undef ∨ ∃ g, m 2 = .slice (some ⟨g, 0, none⟩) 0 0 ∧ OwnB w' w4.heap.size (some ⟨g, 0, none⟩) 0 0 [])) (fun m w' => Below w4.heap.size w4 w' ∧ ∃ A4 c4, m 5 = .slice A4 pn c4 ∧ OwnB w' w4.heap.size A4 pn c4 p.bs) (fun m w' => ∃ w5, Below w4.heap.size w4 w5 ∧ (∃ A4 c4, m 5 = .slice A4 pn c4 ∧ OwnB w5 w4.heap.size A4 pn c4 p.bs) ∧ w' = w5.setCell ⟨w.heap.size + 1, 0, none⟩ (.int .u64 (sent + 1))) (fun m w' => ∃ w5 A4 c4, Below w4.heap.size w4 w5 ∧ m 5 = .slice A4 pn c4 ∧ OwnB w5 w4.heap.size A4 pn c4 p.bs ∧ w' = (w5.setCell ⟨w.heap.size + 1, 0, none⟩ (.int .u64 (sent + 1))).setCell ⟨w.heap.size + 1, 3, none⟩ (.slice A4 pn c4))) (by kernel_rfl) ?spswq ?ppswq
  case spswq =>
    exact Seq3.start (by decide) (by decide) (by decide) ⟨(Below.refl _ _).drew, .inl rfl⟩
  refine Ps.step (i := 0) (d := some 23) (u := ?uwq_1) rfl rfl (by kernel_rfl) (by kernel_rfl) (by kernel_rfl) (by kernel_rfl) ?ywq_1 ?rwq_1
  case ywq_1 =>
    refine StepS.pure (Seq3.pass (by decide) (by decide) (by decide)) (by rfl) (fun w9 => ?_)
    go_simp
    try rfl
  try simp only [Act.put, List.setIfInBounds_toArray, List.set_cons_zero, List.set_cons_succ]
  refine Ps.step (i := 1) (d := some 24) (u := ?uwq_2) rfl rfl (by kernel_rfl) (by kernel_rfl) (by kernel_rfl) (by kernel_rfl) ?ywq_2 ?rwq_2
  case ywq_2 =>
    refine StepS.read [] (by kernel_rfl) (Seq3.pass (by decide) (by decide) (by decide)) (by rfl) (fun L9 m9 w9 hSh hAt hDn hS => ?_)
    have hT : Below w4.heap.size w4 w9 := Seq3.early1 (T := fun w9 => Below w4.heap.size w4 w9) (fun _ _ h => h.1) (fun _ _ h => h.1) (reach_no hSh (f := 10) (j := 7) (by kernel_rfl) hDn) (reach_no hSh (f := 10) (j := 9) (by kernel_rfl) hDn) hS
    have n0 : w9.cell? ⟨w.heap.size, 0, none⟩ = some (.int .u64 (sent + 1)) := (HN4.out.ca hT).cell 0
    go_simp
    try rfl
  try simp only [Act.put, List.setIfInBounds_toArray, List.set_cons_zero, List.set_cons_succ]
  refine Ps.step (i := 3) (d := some 26) (u := ?uwq_3) rfl rfl (by kernel_rfl) (by kernel_rfl) (by kernel_rfl) (by kernel_rfl) ?ywq_3 ?rwq_3
  case ywq_3 =>
    refine StepS.pure (Seq3.pass (by decide) (by decide) (by decide)) (by rfl) (fun w9 => ?_)
    go_simp
    try rfl
  try simp only [Act.put, List.setIfInBounds_toArray, List.set_cons_zero, List.set_cons_succ]
  refine Ps.step (i := 4) (d := some 27) (u := ?uwq_4) rfl rfl (by kernel_rfl) (by kernel_rfl) (by kernel_rfl) (by kernel_rfl) ?ywq_4 ?rwq_4
  case ywq_4 =>
    refine StepS.read [] (by kernel_rfl) (Seq3.pass (by decide) (by decide) (by decide)) (by rfl) (fun L9 m9 w9 hSh hAt hDn hS => ?_)
    have hT : Below w4.heap.size w4 w9 := Seq3.early1 (T := fun w9 => Below w4.heap.size w4 w9) (fun _ _ h => h.1) (fun _ _ h => h.1) (reach_no hSh (f := 10) (j := 7) (by kernel_rfl) hDn) (reach_no hSh (f := 10) (j := 9) (by kernel_rfl) hDn) hS
    have x3 : w9.cell? ⟨w.heap.size + 1, 3, none⟩ = some (.slice pA pn pc) := (HX4.out.ca hT).cell 3
    go_simp
    try rfl
  try simp only [Act.put, List.setIfInBounds_toArray, List.set_cons_zero, List.set_cons_succ]
  refine Ps.step (i := 6) (d := some 29) (u := ?uwq_5) rfl rfl (by kernel_rfl) (by kernel_rfl) (by kernel_rfl) (by kernel_rfl) ?ywq_5 ?rwq_5
  case ywq_5 =>
    refine StepS.pure (Seq3.pass (by decide) (by decide) (by decide)) (by rfl) (fun w9 => ?_)
    go_simp
    try rfl
  try simp only [Act.put, List.setIfInBounds_toArray, List.set_cons_zero, List.set_cons_succ]
  refine Ps.one (k := 2) (d := some 25) rfl rfl (by kernel_rfl) (TurnS.value (V := fun v => ∃ g, v = .slice (some ⟨g, 0, none⟩) 0 0) [] (by kernel_rfl) (by rfl) (fun L9 m9 w9 hSh hAt hDn hS => ?cwq_6)) (fun v2 hVv2 => ?rwq_6)
  case cwq_6 =>
    obtain ⟨hT, _⟩ := Seq3.at1 (reach_no hSh (f := 10) (j := 5) (by kernel_rfl) hDn) (reach_no hSh (f := 10) (j := 7) (by kernel_rfl) hDn) (reach_no hSh (f := 10) (j := 9) (by kernel_rfl) hDn) hS
    refine ⟨.slice (some ⟨w9.heap.size, 0, none⟩) 0 0, w9.alloc (.cells #[] 5), ?_, ⟨_, rfl⟩, Seq3.set0 (by decide) (by decide) (by decide) (reach_no hSh (f := 10) (j := 5) (by kernel_rfl) hDn) (reach_no hSh (f := 10) (j := 7) (by kernel_rfl) hDn) (reach_no hSh (f := 10) (j := 9) (by kernel_rfl) hDn) ⟨bl_al hT _, .inr ⟨w9.heap.size, upd_same _ _ _, OwnB.less (OwnB.empty w9) hT.size⟩⟩⟩
    go_simp
  try simp only [Act.put, List.setIfInBounds_toArray, List.set_cons_zero, List.set_cons_succ]
  obtain ⟨g2, rfl⟩ := hVv2
  refine Ps.one (k := 5) (d := some 28) rfl rfl (by kernel_rfl) (TurnS.value (V := fun _ => True) [2] (by kernel_rfl) (by rfl) (fun L9 m9 w9 hSh hAt hDn hS => ?cwq_7)) (fun v5 hVv5 => ?rwq_7)
  case cwq_7 =>
    obtain ⟨hT, hv⟩ := Seq3.at1 hDn (reach_no hSh (f := 10) (j := 7) (by kernel_rfl) hDn) (reach_no hSh (f := 10) (j := 9) (by kernel_rfl) hDn) hS
    have h2 : m9 2 = .slice (some ⟨g2, 0, none⟩) 0 0 := (hAt 2 (by simp)).2
    rcases hv with hv | ⟨g, hv, ho⟩
    · rw [h2] at hv; exact absurd hv (by simp [undef])
    rw [h2] at hv
    injection hv with hv
    injection hv with hv
    injection hv with hv
    subst hv
    obtain ⟨i0, hi0, hz0, hz1, hz2⟩ := info_parts Try.byteInfo
    obtain ⟨v', w', hrun, hown, hgr, _⟩ := run_append_any (P := Try.prog) w9 w4.heap.size 27 27 5 i0 _ 1 1 Try.underlying27 hi0 hz0 hz1 hz2 rfl (by omega) _ 0 _ ho w9.heap.size pA pn pc (p.bs.map vb) (HP4.out w9 hT) (vb_one p.bs) (by simp only [maxLen]; omega) (by omega) hT.size
    rw [Nat.zero_add, List.map_nil, List.nil_append] at hown
    obtain ⟨A4, c4, rfl⟩ := own_form hown
    refine ⟨.slice A4 pn c4, w', ?_, trivial, Seq3.set1 (by decide) (by decide) (reach_no hSh (f := 10) (j := 7) (by kernel_rfl) hDn) (reach_no hSh (f := 10) (j := 9) (by kernel_rfl) hDn) ⟨hT.grown hgr hT.size (own_base ho), A4, c4, upd_same _ _ _, hown⟩⟩
    exact exec_append (.tmp 25) (.tmp 27) 27 rfl rfl rfl hrun
  try simp only [Act.put, List.setIfInBounds_toArray, List.set_cons_zero, List.set_cons_succ]
  clear hVv5
  refine Ps.step (i := 7) (d := none) (u := undef) rfl rfl (by kernel_rfl) (by kernel_rfl) (by kernel_rfl) (by kernel_rfl) ?ywq_8 ?rwq_8
  case ywq_8 =>
    refine StepS.store [5] (by kernel_rfl) (by rfl) (fun L9 m9 w9 hSh hAt hDn hS => ?_)
    obtain ⟨hT, hv⟩ := Seq3.at2 (hAt 5 (by simp)).1 hDn (reach_no hSh (f := 10) (j := 9) (by kernel_rfl) hDn) hS
    have x0 : w9.cell? ⟨w.heap.size + 1, 0, none⟩ = some (.int .u64 p.num) := (HX4.out.ca hT).cell 0
    have fx : w9.frozen? ⟨w.heap.size + 1, 0, none⟩ = false := (HX4.out.ca hT).frozen 0
    refine ⟨w9.setCell ⟨w.heap.size + 1, 0, none⟩ (.int .u64 (sent + 1)), ?_, Seq3.set2 (by decide) (by decide) (reach_no hSh (f := 10) (j := 9) (by kernel_rfl) hDn) ⟨w9, hT, hv, rfl⟩⟩
    clear hv
    go_simp
  try simp only [Act.put]
  refine Ps.step (i := 8) (d := some 30) (u := ?uwq_9) rfl rfl (by kernel_rfl) (by kernel_rfl) (by kernel_rfl) (by kernel_rfl) ?ywq_9 ?rwq_9
  case ywq_9 =>
    refine StepS.pure (Seq3.pass (by decide) (by decide) (by decide)) (by rfl) (fun w9 => ?_)
    go_simp
    try rfl
  try simp only [Act.put, List.setIfInBounds_toArray, List.set_cons_zero, List.set_cons_succ]
  refine Ps.step (i := 9) (d := none) (u := undef) rfl rfl (by kernel_rfl) (by kernel_rfl) (by kernel_rfl) (by kernel_rfl) ?ywq_10 ?rwq_10
  case ywq_10 =>
    refine StepS.store [5, 7] (by kernel_rfl) (by rfl) (fun L9 m9 w9 hSh hAt hDn hS => ?_)
    obtain ⟨w5, hT, ⟨A4, c4, hv, ho⟩, rfl⟩ := Seq3.at3 (hAt 7 (by simp)).1 hDn hS
    have hv' : v5 = .slice A4 pn c4 := (hAt 5 (by simp)).2.symm.trans hv
    subst hv'
    have hX5 := (HX4.out.ca hT).set_ 0 (.int .u64 (sent + 1))
    have x3 : (w5.setCell ⟨w.heap.size + 1, 0, none⟩ (.int .u64 (sent + 1))).cell? ⟨w.heap.size + 1, 3, none⟩ = some (.slice pA pn pc) := hX5.cell 3
    have fx : (w5.setCell ⟨w.heap.size + 1, 0, none⟩ (.int .u64 (sent + 1))).frozen? ⟨w.heap.size + 1, 3, none⟩ = false := hX5.frozen 3
    refine ⟨_, ?_, Seq3.set3 (by decide) (by decide) ⟨w5, A4, c4, hT, hv, ho, rfl⟩⟩
    clear hv hX5
    go_simp
  try simp only [Act.put]
  refine Ps.done (by kernel_rfl) (fun wq hS => ?_) _
  have hF := Seq3.fin (by rfl) hS
  clear hS
  obtain ⟨w5, A4, c4, hT, hv, ho, rfl⟩ := hF
  have hv' : v5 = .slice A4 pn c4 := hv
  subst hv'
  clear hv

  have hX6 : Blk ((w5.setCell ⟨w.heap.size + 1, 0, none⟩ (.int .u64 (sent + 1))).setCell ⟨w.heap.size + 1, 3, none⟩ (.slice A4 pn c4)) (w.heap.size + 1) 29 #[.int .u64 (sent + 1), .int .i64 p.frm, .int .i64 p.to, .slice A4 pn c4, .bool p.sp] := by simpa using ((HX4.out.ca hT).set_ 0 (.int .u64 (sent + 1))).set_ 3 (.slice A4 pn c4)
  have hg6 : w5.grownBy ((w5.setCell ⟨w.heap.size + 1, 0, none⟩ (.int .u64 (sent + 1))).setCell ⟨w.heap.size + 1, 3, none⟩ (.slice A4 pn c4)) (some (w.heap.size + 1)) := only_setCell (p := ⟨w.heap.size + 1, 3, none⟩) (only_setCell (p := ⟨w.heap.size + 1, 0, none⟩) (World.grownBy.refl _ _) (.inl rfl) _) (.inl rfl) _
  have HN6 := Lib.hid ((HN4.out.ca hT).apart hg6 (by omega))
  have HR6 := Lib.hid ((HR4.out.ca hT).apart hg6 (by omega))
  have HO6 := Lib.hid (ho.kept hg6 (fun e => by have := (ho.base_ _ e).1; omega))
  have HD6 := Lib.hid ((HD4.out.below hT).kept hg6 (by omega))
  have HB6 := Lib.hid (bl_gr (bl_ca HB4.out hT) hg6 (by omega))
  have hs6 : w4.heap.size ≤ ((w5.setCell ⟨w.heap.size + 1, 0, none⟩ (.int .u64 (sent + 1))).setCell ⟨w.heap.size + 1, 3, none⟩ (.slice A4 pn c4)).heap.size := Nat.le_trans hT.size hg6.size
  have HX6 := Lib.hid hX6
  clear hT ho hg6 hX6 HN4 HR4 HX4 HP4 HB4
  generalize (w5.setCell ⟨w.heap.size + 1, 0, none⟩ (.int .u64 (sent + 1))).setCell ⟨w.heap.size + 1, 3, none⟩ (.slice A4 pn c4) = w6 at *
  have n1 : w6.cell? ⟨w.heap.size, 1, none⟩ = some (.slice A2 m c2) := HN6.out.cell 1
  have x0 : w6.cell? ⟨w.heap.size + 1, 0, none⟩ = some (.int .u64 (sent + 1)) := HX6.out.cell 0
  have x1 : w6.cell? ⟨w.heap.size + 1, 1, none⟩ = some (.int .i64 p.frm) := HX6.out.cell 1
  have x2 : w6.cell? ⟨w.heap.size + 1, 2, none⟩ = some (.int .i64 p.to) := HX6.out.cell 2
  have x3 : w6.cell? ⟨w.heap.size + 1, 3, none⟩ = some (.slice A4 pn c4) := HX6.out.cell 3
  have x4 : w6.cell? ⟨w.heap.size + 1, 4, none⟩ = some (.bool p.sp) := HX6.out.cell 4
  have T7 := bl_al (Below.refl w6.heap.size w6) (.cells #[.int .u64 (sent + 1), .int .i64 p.frm, .int .i64 p.to, .slice A4 pn c4, .bool p.sp] 29)
  go_wp2_with (at_builtin; refine wpList_appE rfl (.tmp 32) (.tmp 34) rfl (w.heap.size + 3) A2 m c2 es _ 1 1 [⟨added sent p, A4, pn, c4⟩] rfl rfl (HD6.out.below T7).row (reads_blk (vs := #[.int .u64 (sent + 1), .int .i64 p.frm, .int .i64 p.to, .slice A4 pn c4, .bool p.sp]) (Blk.mk' rfl) rfl rfl) (by omega) (Nat.le_trans (Nat.le_trans hB4 hs6) T7.size) ?_; intro A8 c8 w8 o8 b8 k8; have HN8 := (HN6.out.ca T7).below b8 (by omega); have y1 : w8.cell? ⟨w.heap.size, 1, none⟩ = some (.slice A2 m c2) := HN8.cell 1; have fy : w8.frozen? ⟨w.heap.size, 1, none⟩ = false := HN8.frozen 1)
  have hg9 : w8.grownBy (w8.setCell ⟨w.heap.size, 1, none⟩ (.slice A8 (m + 1) c8)) (some w.heap.size) := only_setCell (World.grownBy.refl _ _) (.inl rfl) _
  have HD9 := Lib.hid (DO.push (e2 := ⟨added sent p, A4, pn, c4⟩) HD4.out (HD6.out.below T7) (HO6.out.below T7) hB4 o8 k8 hg9 (by omega))
  have HN9 := Lib.hid (show Blk (w8.setCell ⟨w.heap.size, 1, none⟩ (.slice A8 (m + 1) c8)) w.heap.size 26 #[.int .u64 (sent + 1), .slice A8 (m + 1) c8] from by simpa using HN8.set_ 1 (.slice A8 (m + 1) c8))
  have HR9 := Lib.hid (((HR6.out.ca T7).below b8 (by omega)).apart hg9 (by omega))
  have HB9 := Lib.hid (bl_gr ((bl_ca HB6.out T7).trans (b8.mono (by omega))) hg9 (Nat.le_refl _))
  clear HN8 HX6 HR6 HO6 HD6 HB6 n1 x0 x1 x2 x3 x4 T7 o8 b8 k8 y1 fy hg9 HD4
  generalize w8.setCell ⟨w.heap.size, 1, none⟩ (.slice A8 (m + 1) c8) = w9a at *

  refine wp_region_ps (S := Seq1 3 (fun _ w' => Below w9a.heap.size w9a w') (fun _ w' => ∃ w6, Below w9a.heap.size w9a w6 ∧ Blk w' (w.heap.size + 2) 26 #[.int .u64 (sent + 1), .slice A8 (m + 1) c8] ∧ w6.grownBy w' (some (w.heap.size + 2)))) (by kernel_rfl) ?spswr ?ppswr
  case spswr =>
    exact Seq1.start (by decide) (Below.refl _ _).drew
  refine Ps.step (i := 0) (d := some 37) (u := ?uwr_11) rfl rfl (by kernel_rfl) (by kernel_rfl) (by kernel_rfl) (by kernel_rfl) ?ywr_11 ?rwr_11
  case ywr_11 =>
    refine StepS.read [] (by kernel_rfl) (Seq1.pass (by decide)) (by rfl) (fun L9 m9 w9 hSh hAt hDn hS => ?_)
    have hT : Blk w9 w.heap.size 26 #[.int .u64 (sent + 1), .slice A8 (m + 1) c8] := Seq1.any (T := fun w9 => Blk w9 w.heap.size 26 #[.int .u64 (sent + 1), .slice A8 (m + 1) c8]) (fun _ _ h => HN9.out.ca h) (fun _ _ ⟨_, h1, _, h3⟩ => (HN9.out.ca h1).apart h3 (by omega)) hS
    have x0 : w9.cell? ⟨w.heap.size, 0, none⟩ = some (.int .u64 (sent + 1)) := hT.cell 0
    have x1 : w9.cell? ⟨w.heap.size, 1, none⟩ = some (.slice A8 (m + 1) c8) := hT.cell 1
    clear hT hS
    go_simp
    try rfl
  try simp only [Act.put, List.setIfInBounds_toArray, List.set_cons_zero, List.set_cons_succ]
  refine Ps.step (i := 1) (d := some 38) (u := ?uwr_12) rfl rfl (by kernel_rfl) (by kernel_rfl) (by kernel_rfl) (by kernel_rfl) ?ywr_12 ?rwr_12
  case ywr_12 =>
    refine StepS.pure (Seq1.pass (by decide)) (by rfl) (fun w9 => ?_)
    go_simp
    try rfl
  try simp only [Act.put, List.setIfInBounds_toArray, List.set_cons_zero, List.set_cons_succ]
  refine Ps.step (i := 2) (d := some 39) (u := ?uwr_13) rfl rfl (by kernel_rfl) (by kernel_rfl) (by kernel_rfl) (by kernel_rfl) ?ywr_13 ?rwr_13
  case ywr_13 =>
    refine StepS.read [] (by kernel_rfl) (Seq1.pass (by decide)) (by rfl) (fun L9 m9 w9 hSh hAt hDn hS => ?_)
    have hT : Blk w9 w.heap.size 26 #[.int .u64 (sent + 1), .slice A8 (m + 1) c8] := Seq1.any (T := fun w9 => Blk w9 w.heap.size 26 #[.int .u64 (sent + 1), .slice A8 (m + 1) c8]) (fun _ _ h => HN9.out.ca h) (fun _ _ ⟨_, h1, _, h3⟩ => (HN9.out.ca h1).apart h3 (by omega)) hS
    have x0 : w9.cell? ⟨w.heap.size, 0, none⟩ = some (.int .u64 (sent + 1)) := hT.cell 0
    clear hT hS
    go_simp
    try rfl
  try simp only [Act.put, List.setIfInBounds_toArray, List.set_cons_zero, List.set_cons_succ]
  refine Ps.step (i := 3) (d := none) (u := undef) rfl rfl (by kernel_rfl) (by kernel_rfl) (by kernel_rfl) (by kernel_rfl) ?ywr_14 ?rwr_14
  case ywr_14 =>
    refine StepS.store [] (by kernel_rfl) (by rfl) (fun L9 m9 w9 hSh hAt hDn hS => ?_)
    have hT := Seq1.at1 hDn hS
    refine (exec_store_blk (w := w9) 26 (.tmp 4) (.tmp 37) (by rfl) (w.heap.size + 2) 26 #[.int .u64 0, .slice none 0 0] #[.int .u64 (sent + 1), .slice A8 (m + 1) c8] (by rfl) (by rfl) (HR9.out.ca hT) rfl netI (by simp [Value.oneCell'])).imp fun w7 hx => ⟨hx.1, Seq1.set1 ⟨w9, hT, hx.2.1, hx.2.2⟩⟩
  try simp only [Act.put]
  refine Ps.step (i := 4) (d := some 5) (u := ?uwr_15) rfl rfl (by kernel_rfl) (by kernel_rfl) (by kernel_rfl) (by kernel_rfl) ?ywr_15 ?rwr_15
  case ywr_15 =>
    refine StepS.pure (Seq1.pass (by decide)) (by rfl) (fun w9 => ?_)
    go_simp
    try rfl
  try simp only [Act.put, List.setIfInBounds_toArray, List.set_cons_zero, List.set_cons_succ]
  refine Ps.step (i := 5) (d := some 6) (u := ?uwr_16) rfl rfl (by kernel_rfl) (by kernel_rfl) (by kernel_rfl) (by kernel_rfl) ?ywr_16 ?rwr_16
  case ywr_16 =>
    refine StepS.pure (Seq1.pass (by decide)) (by rfl) (fun w9 => ?_)
    go_simp
    try rfl
  try simp only [Act.put, List.setIfInBounds_toArray, List.set_cons_zero, List.set_cons_succ]
  refine Ps.done (by kernel_rfl) (fun wr hS => ?_) _
  obtain ⟨w6, hT, hZ, gz⟩ := Seq1.fin (by rfl) hS
  clear hS
  go_wp2
  exact bodyPost_ret (res3 Try.results46 rfl rfl rfl hZ Try.underlying26 rfl netI) rfl ⟨A8, m + 1, c8, rfl, (show OutN _ _ _ _ _ _ from ⟨_, ((HD9.out.below hT).kept gz (by omega)).less (by omega), by rw [List.map_append, HES.out]; rfl⟩), bl_gr (bl_ca HB9.out hT) gz (by omega)⟩
theorem rwith_any (sent : Int) (A : Option Addr) (m c : Nat) (ps : List PC) (p : PC) (pA : Option Addr) (pn pc : Nat) (w : World) (h : LP.rd w AllB A m ps) (hm : m ≤ 20000) (hb : ∀ p ∈ ps, p.bs.length ≤ 100000) (hp : RdB w pA pn p.bs) (hpn : pn ≤ 100000) (hs0 : 0 ≤ sent) (hs : sent ≤ 1099511627776) :
    Calls Try.prog 46 #[.agg #[.int .u64 sent, .slice A m c], .agg #[.int .u64 p.num, .int .i64 p.frm, .int .i64 p.to, .slice pA pn pc, .bool p.sp]] w (WithC w (withR sent ps p) (addE sent ps)) := by
  have hl := h.1
  unfold withR addE
  cases hf : fullB sent ps
  · unfold fullB at hf
    simp only [Bool.or_eq_false_iff, decide_eq_false_iff_not] at hf
    exact rwith_adds sent A m c ps p pA pn pc w h (by omega) hb hp hpn hs0 (by omega)
  · unfold fullB at hf
    simp only [Bool.or_eq_true, decide_eq_true_eq] at hf
    exact rwith_full sent A m c p pA pn pc w (by omega)
end Go.Proofs.Ytnbcffnhgijmcaa
/- bowspritref24.Send, bowspritref24.Twin. Conditions: the slice reads as these parcels, not too many. -/
namespace Go.Proofs.Ytnbcffnhgijmcaa
open Go.RowKit
def rsendE (sent : Int) (ps : List PC) (f t : Int) (bs : List UInt8) : Int := if pairB f t then (if 60000 < bs.length then 3 else addE sent ps) else 2
def rsendR (sent : Int) (ps : List PC) (f t : Int) (bs : List UInt8) : Int × List PC := if pairB f t then (if 60000 < bs.length then (0, []) else withR sent ps (newP f t bs)) else (0, [])
set_option maxRecDepth 100000 in
set_option maxHeartbeats 8000000 in
theorem rsend_any (sent : Int) (A : Option Addr) (m c : Nat) (ps : List PC) (f t : Int) (bA : Option Addr) (bn bc : Nat) (bs : List UInt8) (w : World) (h : LP.rd w AllB A m ps) (hm : m ≤ 20000) (hb : ∀ p ∈ ps, p.bs.length ≤ 100000) (hp : RdB w bA bn bs) (hs0 : 0 ≤ sent) (hs : sent ≤ 1099511627776) :
    Calls Try.prog 12 #[.agg #[.int .u64 sent, .slice A m c], .int .i64 f, .int .i64 t, .slice bA bn bc] w (WithC w (rsendR sent ps f t bs) (rsendE sent ps f t bs)) := by
  have bb := Below.refl w.heap.size w
  have bN := Blk.new w 26 #[.int .u64 sent, .slice A m c]
  replace bb := bl_al bb (.cells #[.int .u64 sent, .slice A m c] 26)
  replace bN := bN.ca (bl_al (Below.refl _ _) (.cells #[.int .u64 0, .slice none 0 0] 26))
  have bR : Blk ((w.alloc (.cells #[.int .u64 sent, .slice A m c] 26)).alloc (.cells #[.int .u64 0, .slice none 0 0] 26)) (w.heap.size + 1) 26 #[.int .u64 0, .slice none 0 0] := Blk.mk' (by simp only [World.size_alloc])
  replace bb := bl_al bb (.cells #[.int .u64 0, .slice none 0 0] 26)
  have hsz : w.heap.size + 2 ≤ ((w.alloc (.cells #[.int .u64 sent, .slice A m c] 26)).alloc (.cells #[.int .u64 0, .slice none 0 0] 26)).heap.size := by simp only [World.size_alloc]; omega
  have n0 : ((w.alloc (.cells #[.int .u64 sent, .slice A m c] 26)).alloc (.cells #[.int .u64 0, .slice none 0 0] 26)).cell? ⟨w.heap.size, 0, none⟩ = some (.int .u64 sent) := bN.cell 0
  have n1 : ((w.alloc (.cells #[.int .u64 sent, .slice A m c] 26)).alloc (.cells #[.int .u64 0, .slice none 0 0] 26)).cell? ⟨w.heap.size, 1, none⟩ = some (.slice A m c) := bN.cell 1
  have hlen := hp.len
  have HW := Lib.hid (fun (hpn : bn ≤ 100000) => rwith_any sent A m c ps (newP f t bs) bA bn bc _ (Lay.rd_below h bb) hm hb (hp.below bb) hpn hs0 hs)
  have HR := Lib.hid bR
  have HB := Lib.hid bb
  have HPA := Lib.hid (fun w => rpair_any f t w)
  clear bN bR bb h hb hp
  unfold rsendR rsendE
  cases hpb : pairB f t
  · rw [hpb] at HPA
    clear hpb
    go_enter Try.func12, Try.ntmps12
    go_wp2_with fail
    refine (HPA.out _).mono ?_
    rintro e w1 ⟨rfl, rfl⟩
    go_wp2_with (refine wpList_store_blk rfl 26 (.tmp 8) (.tmp 16) rfl (w.heap.size + 1) 26 _ _ rfl rfl HR.out rfl netI (by simp [Value.oneCell']) ?_; intro wz hZ gz)
    exact bodyPost_ret (res3 Try.results12 rfl rfl rfl hZ Try.underlying26 rfl netI) rfl ⟨none, 0, 0, rfl, OutN.nil _ _, bl_gr HB.out gz (by omega)⟩
  · rw [hpb] at HPA
    clear hpb
    by_cases hl : 60000 < bs.length
    · have hl1 : (60000 : Int) < (bn : Int) := by omega
      simp only [hl, if_true]
      go_enter Try.func12, Try.ntmps12
      go_wp2_with fail
      refine (HPA.out _).mono ?_
      rintro e w1 ⟨rfl, rfl⟩
      go_wp2_with (refine wpList_store_blk rfl 26 (.tmp 8) (.tmp 21) rfl (w.heap.size + 1) 26 _ _ rfl rfl HR.out rfl netI (by simp [Value.oneCell']) ?_; intro wz hZ gz)
      exact bodyPost_ret (res3 Try.results12 rfl rfl rfl hZ Try.underlying26 rfl netI) rfl ⟨none, 0, 0, rfl, OutN.nil _ _, bl_gr HB.out gz (by omega)⟩
    · have hl1 : (bn : Int) ≤ 60000 := by omega
      have HW2 := Lib.hid (HW.out (by omega))
      simp only [hl, if_true, if_false]
      clear HW hl hlen
      generalize withR sent ps (newP f t bs) = R at *
      generalize addE sent ps = E at *
      obtain ⟨s, l⟩ := R
      go_enter Try.func12, Try.ntmps12
      go_wp2_with fail
      refine (HPA.out _).mono ?_
      rintro e w1 ⟨rfl, rfl⟩
      go_wp2_with fail
      refine HW2.out.mono ?_
      rintro e w2 ⟨A2, m2, c2, rfl, hO, hb2⟩
      have HR2 := Lib.hid (HR.out.ca hb2)
      have HO := Lib.hid hO
      have HB2 := Lib.hid (bl_ca HB.out hb2)
      have hz2 := Nat.le_trans hsz hb2.size
      clear n0 n1 HW2 hb2 hO HR HB HPA
      generalize ((w.alloc (.cells #[.int .u64 sent, .slice A m c] 26)).alloc (.cells #[.int .u64 0, .slice none 0 0] 26)).heap.size = z1 at *
      go_wp2_with (refine wpList_store_blk rfl 26 (.tmp 8) (.tmp 28) rfl (w.heap.size + 1) 26 _ _ rfl rfl HR2.out rfl netI (by simp [Value.oneCell']) ?_; intro wz hZ gz)
      exact bodyPost_ret (res3 Try.results12 rfl rfl rfl hZ Try.underlying26 rfl netI) rfl ⟨A2, m2, c2, rfl, (HO.out.kept gz (by omega)).less (by omega), bl_gr HB2.out gz (by omega)⟩
theorem tup_inj {s E : Int} {A2 A3 : Option Addr} {m2 m3 c2 c3 : Nat} (h : (Value.tuple #[.agg #[.int .u64 s, .slice A2 m2 c2], .int .u64 s, .int .i64 E]) = .tuple #[.agg #[.int .u64 s, .slice A3 m3 c3], .int .u64 s, .int .i64 E]) : A2 = A3 ∧ m2 = m3 ∧ c2 = c3 := by
  simpa using h
def rtwinE (sent : Int) (ps : List PC) (x : Int) : Int := if hasB ps x then addE sent ps else 4
def rtwinR (sent : Int) (ps : List PC) (x : Int) : Int × List PC := if hasB ps x then withR sent ps (getP ps x) else (0, [])
theorem has_at {ps : List PC} {x : Int} (h : hasB ps x = true) : ps[ixP ps x]? = some (getP ps x) ∧ ixP ps x < ps.length ∧ (getP ps x).num = x := by
  obtain ⟨p, hp, hx⟩ := List.any_eq_true.1 h
  have hl : ixP ps x < ps.length := List.findIdx_lt_length_of_exists ⟨p, hp, hx⟩
  have he : ps[ixP ps x]? = some ps[ixP ps x] := List.getElem?_eq_getElem hl
  have hg : getP ps x = ps[ixP ps x] := by unfold getP; rw [he]; rfl
  refine ⟨by rw [he, hg], hl, ?_⟩
  rw [hg]
  have := List.findIdx_getElem (xs := ps) (p := fun p : PC => decide (p.num = x)) (w := hl)
  exact of_decide_eq_true this
set_option maxRecDepth 100000 in
set_option maxHeartbeats 16000000 in
theorem rtwin_any (sent : Int) (A : Option Addr) (m c : Nat) (ps : List PC) (x : Int) (w : World) (h : LP.rd w AllB A m ps) (hm : m ≤ 20000) (hb : ∀ p ∈ ps, p.bs.length ≤ 100000) (hs0 : 0 ≤ sent) (hs : sent ≤ 1099511627776) :
    Calls Try.prog 14 #[.agg #[.int .u64 sent, .slice A m c], .int .u64 x] w (WithC w (rtwinR sent ps x) (rtwinE sent ps x)) := by
  have hL := h.1
  have bb := Below.refl w.heap.size w
  have bN := Blk.new w 26 #[.int .u64 sent, .slice A m c]
  replace bb := bl_al bb (.cells #[.int .u64 sent, .slice A m c] 26)
  replace bN := bN.ca (bl_al (Below.refl _ _) (.cells #[.int .u64 0, .slice none 0 0] 26))
  have bR : Blk ((w.alloc (.cells #[.int .u64 sent, .slice A m c] 26)).alloc (.cells #[.int .u64 0, .slice none 0 0] 26)) (w.heap.size + 1) 26 #[.int .u64 0, .slice none 0 0] := Blk.mk' (by simp only [World.size_alloc])
  replace bb := bl_al bb (.cells #[.int .u64 0, .slice none 0 0] 26)
  have hsz : w.heap.size + 2 ≤ ((w.alloc (.cells #[.int .u64 sent, .slice A m c] 26)).alloc (.cells #[.int .u64 0, .slice none 0 0] 26)).heap.size := by simp only [World.size_alloc]; omega
  have n0 : ((w.alloc (.cells #[.int .u64 sent, .slice A m c] 26)).alloc (.cells #[.int .u64 0, .slice none 0 0] 26)).cell? ⟨w.heap.size, 0, none⟩ = some (.int .u64 sent) := bN.cell 0
  have n1 : ((w.alloc (.cells #[.int .u64 sent, .slice A m c] 26)).alloc (.cells #[.int .u64 0, .slice none 0 0] 26)).cell? ⟨w.heap.size, 1, none⟩ = some (.slice A m c) := bN.cell 1
  have HF := Lib.hid (rfind_any sent A m c ps x _ (Lay.rd_below h bb) (by omega))
  have HR := Lib.hid bR
  have HN := Lib.hid bN
  have HB := Lib.hid bb
  have HH := Lib.hid h
  have HLB := Lib.hid hb
  clear bN bR bb h hb
  unfold rtwinR rtwinE
  cases hh : hasB ps x
  · rw [show findI ps x = -1 from by unfold findI; rw [hh]; rfl] at HF
    clear hh
    go_enter Try.func14, Try.ntmps14
    go_wp2_with fail
    refine HF.out.mono ?_
    rintro e w1 ⟨rfl, hb1⟩
    have HR1 := Lib.hid (HR.out.ca hb1)
    have HB1 := Lib.hid (bl_ca HB.out hb1)
    clear hb1 HF HR HB
    go_wp2_with (refine wpList_store_blk rfl 26 (.tmp 4) (.tmp 13) rfl (w.heap.size + 1) 26 _ _ rfl rfl HR1.out rfl netI (by simp [Value.oneCell']) ?_; intro wz hZ gz)
    exact bodyPost_ret (res3 Try.results14 rfl rfl rfl hZ Try.underlying26 rfl netI) rfl ⟨none, 0, 0, rfl, OutN.nil _ _, bl_gr HB1.out gz (by omega)⟩
  · obtain ⟨i, hi⟩ : ∃ i, i = ixP ps x := ⟨_, rfl⟩
    obtain ⟨hx, hlt, -⟩ := has_at hh
    rw [show findI ps x = (i : Int) from by unfold findI; rw [hh, hi]; rfl] at HF
    rw [← hi] at hx hlt
    clear hh hi
    have him : i < m := by omega
    have hi0 : (0 : Int) ≤ (i : Int) := by omega
    have him1 : (i : Int) < (m : Int) := by omega
    simp only [if_true]
    have HX := Lib.hid hx
    clear hx hlt
    generalize getP ps x = gp at *
    have HWX := Lib.hid (fun (A' : Option Addr) (B : Option Addr) (n' c' : Nat) (W : World) (h : LP.rd W AllB A' m ps) (hp : RdB W B n' gp.bs) (hpn : n' ≤ 100000) => rwith_any sent A' m c ps gp B n' c' W h hm HLB.out hp hpn hs0 hs)
    generalize withR sent ps gp = R at *
    generalize addE sent ps = E at *
    obtain ⟨s, l⟩ := R
    go_enter Try.func14, Try.ntmps14
    go_wp2_with fail
    refine HF.out.mono ?_
    rintro e w4 ⟨rfl, hb1⟩
    have HR4 := Lib.hid (HR.out.ca hb1)
    have HN4 := Lib.hid (HN.out.ca hb1)
    have HB4 := Lib.hid (bl_ca HB.out hb1)
    have hz4 := Nat.le_trans hsz hb1.size
    clear hb1 HF HR HB HN n0 n1 hsz
    obtain ⟨p, q, B, n', c', rfl, hx2, s1⟩ := LP_at (Lay.rd_below HH.out HB4.out) him
    have e0 := s1.c0
    have e1 := s1.c1
    have e2 := s1.c2
    have e3 := s1.c3
    have e4 := s1.c4
    have el := s1.lt
    have hq : q = gp := by have h1 := HX.out; rw [hx2] at h1; injection h1
    subst hq
    have hqn : n' ≤ 100000 := by have := HLB.out q (List.mem_of_getElem? hx2); have := s1.len; omega
    have HRB := Lib.hid s1.rb
    have HW4 := Lib.hid (show ∀ W, Below w4.heap.size w4 W → Calls Try.prog 46 #[.agg #[.int .u64 sent, .slice (some p) m c], .agg #[.int .u64 q.num, .int .i64 q.frm, .int .i64 q.to, .slice B n' c', .bool q.sp]] W fun e w' => ∃ A2 m2 c2, e = .returned (.tuple #[.agg #[.int .u64 s, .slice A2 m2 c2], .int .u64 s, .int .i64 E]) ∧ OutN w' W.heap.size A2 m2 c2 l ∧ Below W.heap.size W w' from fun W hT => HWX.out (some p) B n' c' W (Lay.rd_below HH.out (bl_ca HB4.out hT)) (HRB.out.below hT) hqn)
    clear hx2 s1 HRB HH HX HLB HWX
    go_wp2_with fail
    refine wp_region_ps (S := SeqT 6 10 (fun _ w' => Below w4.heap.size w4 w') (fun m9 w' => ∃ A2 m2 c2, m9 6 = .tuple #[.agg #[.int .u64 s, .slice A2 m2 c2], .int .u64 s, .int .i64 E] ∧ OutN w' w4.heap.size A2 m2 c2 l ∧ Below w4.heap.size w4 w') (fun m9 w' => ∃ w6 A2 m2 c2, m9 6 = .tuple #[.agg #[.int .u64 s, .slice A2 m2 c2], .int .u64 s, .int .i64 E] ∧ OutN w6 w4.heap.size A2 m2 c2 l ∧ Below w4.heap.size w4 w6 ∧ Blk w' (w.heap.size + 1) 26 #[.int .u64 s, .slice A2 m2 c2] ∧ w6.grownBy w' (some (w.heap.size + 1)))) (by kernel_rfl) ?spswr ?ppswr
    case spswr =>
      exact SeqT.start (by decide) (by decide) (Below.refl _ _).drew
    refine Ps.step (i := 0) (d := some 14) (u := ?uwr_1) rfl rfl (by kernel_rfl) (by kernel_rfl) (by kernel_rfl) (by kernel_rfl) ?ywr_1 ?rwr_1
    case ywr_1 =>
      refine StepS.read [] (by kernel_rfl) (SeqT.pass (by decide) (by decide)) (by rfl) (fun L9 m9 w9 hSh hAt hDn hS => ?_)
      have hT : Below w4.heap.size w4 w9 := SeqT.at1 (reach_no hSh (f := 13) (j := 6) (by kernel_rfl) hDn) (reach_no hSh (f := 13) (j := 10) (by kernel_rfl) hDn) hS
      have n0 : w9.cell? ⟨w.heap.size, 0, none⟩ = some (.int .u64 sent) := (HN4.out.ca hT).cell 0
      have n1 : w9.cell? ⟨w.heap.size, 1, none⟩ = some (.slice (some p) m c) := (HN4.out.ca hT).cell 1
      go_simp
      try rfl
    try simp only [Act.put, List.setIfInBounds_toArray, List.set_cons_zero, List.set_cons_succ]
    refine Ps.step (i := 1) (d := some 15) (u := ?uwr_2) rfl rfl (by kernel_rfl) (by kernel_rfl) (by kernel_rfl) (by kernel_rfl) ?ywr_2 ?rwr_2
    case ywr_2 =>
      refine StepS.pure (SeqT.pass (by decide) (by decide)) (by rfl) (fun w9 => ?_)
      go_simp
      try rfl
    try simp only [Act.put, List.setIfInBounds_toArray, List.set_cons_zero, List.set_cons_succ]
    refine Ps.step (i := 2) (d := some 16) (u := ?uwr_3) rfl rfl (by kernel_rfl) (by kernel_rfl) (by kernel_rfl) (by kernel_rfl) ?ywr_3 ?rwr_3
    case ywr_3 =>
      refine StepS.read [] (by kernel_rfl) (SeqT.pass (by decide) (by decide)) (by rfl) (fun L9 m9 w9 hSh hAt hDn hS => ?_)
      have hT : Below w4.heap.size w4 w9 := SeqT.at1 (reach_no hSh (f := 13) (j := 6) (by kernel_rfl) hDn) (reach_no hSh (f := 13) (j := 10) (by kernel_rfl) hDn) hS
      have n1 : w9.cell? ⟨w.heap.size, 1, none⟩ = some (.slice (some p) m c) := (HN4.out.ca hT).cell 1
      go_simp
      try rfl
    try simp only [Act.put, List.setIfInBounds_toArray, List.set_cons_zero, List.set_cons_succ]
    refine Ps.step (i := 3) (d := some 17) (u := ?uwr_4) rfl rfl (by kernel_rfl) (by kernel_rfl) (by kernel_rfl) (by kernel_rfl) ?ywr_4 ?rwr_4
    case ywr_4 =>
      refine StepS.pure (SeqT.pass (by decide) (by decide)) (by rfl) (fun w9 => ?_)
      go_simp
      try rfl
    try simp only [Act.put, List.setIfInBounds_toArray, List.set_cons_zero, List.set_cons_succ]
    refine Ps.step (i := 4) (d := some 18) (u := ?uwr_5) rfl rfl (by kernel_rfl) (by kernel_rfl) (by kernel_rfl) (by kernel_rfl) ?ywr_5 ?rwr_5
    case ywr_5 =>
      refine StepS.pure (SeqT.pass (by decide) (by decide)) (by rfl) (fun w9 => ?_)
      go_simp
      try rfl
    try simp only [Act.put, List.setIfInBounds_toArray, List.set_cons_zero, List.set_cons_succ]
    refine Ps.step (i := 5) (d := some 19) (u := ?uwr_6) rfl rfl (by kernel_rfl) (by kernel_rfl) (by kernel_rfl) (by kernel_rfl) ?ywr_6 ?rwr_6
    case ywr_6 =>
      refine StepS.read [] (by kernel_rfl) (SeqT.pass (by decide) (by decide)) (by rfl) (fun L9 m9 w9 hSh hAt hDn hS => ?_)
      have hT : Below w4.heap.size w4 w9 := SeqT.at1 (reach_no hSh (f := 13) (j := 6) (by kernel_rfl) hDn) (reach_no hSh (f := 13) (j := 10) (by kernel_rfl) hDn) hS
      have k0 : w9.cell? (p.add (i * 5)) = some (.int .u64 q.num) := cell_ca e0 el hT
      have k1 : w9.cell? ⟨(p.add (i * 5)).block, (p.add (i * 5)).off + 1, none⟩ = some (.int .i64 q.frm) := cell_ca e1 el hT
      have k2 : w9.cell? ⟨(p.add (i * 5)).block, (p.add (i * 5)).off + 2, none⟩ = some (.int .i64 q.to) := cell_ca e2 el hT
      have k3 : w9.cell? ⟨(p.add (i * 5)).block, (p.add (i * 5)).off + 3, none⟩ = some (.slice B n' c') := cell_ca e3 el hT
      have k4 : w9.cell? ⟨(p.add (i * 5)).block, (p.add (i * 5)).off + 4, none⟩ = some (.bool q.sp) := cell_ca e4 el hT
      go_simp
      try rfl
    try simp only [Act.put, List.setIfInBounds_toArray, List.set_cons_zero, List.set_cons_succ]
    refine Ps.one (k := 6) (d := some 20) rfl rfl (by kernel_rfl) (TurnS.call (V := fun v => ∃ A2 m2 c2, v = .tuple #[.agg #[.int .u64 s, .slice A2 m2 c2], .int .u64 s, .int .i64 E]) ?fwr_7 ?awr_7 [] (by kernel_rfl) (by rfl) (fun w9 => ?hwr_7) (fun L9 m9 w9 hSh hAt hDn hS => ?cwr_7)) (fun v6 hVv6 => ?rwr_7)
    case hwr_7 => go_simp; refine ⟨?_, ?_⟩ <;> rfl
    case cwr_7 =>
      have hT : Below w4.heap.size w4 w9 := SeqT.at1 hDn (reach_no hSh (f := 13) (j := 10) (by kernel_rfl) hDn) hS
      exact (HW4.out w9 hT).mono fun _ _ ⟨A2, m2, c2, h1, h2, h3⟩ => ⟨_, h1, ⟨A2, m2, c2, rfl⟩, SeqT.set1 (by decide) (reach_no hSh (f := 13) (j := 10) (by kernel_rfl) hDn) ⟨A2, m2, c2, upd_same _ _ _, h2.less hT.size, bl_ca hT h3⟩⟩
    try simp only [Act.put, List.setIfInBounds_toArray, List.set_cons_zero, List.set_cons_succ]
    obtain ⟨A2, m2, c2, rfl⟩ := hVv6
    refine Ps.step (i := 7) (d := some 21) (u := ?uwr_8) rfl rfl (by kernel_rfl) (by kernel_rfl) (by kernel_rfl) (by kernel_rfl) ?ywr_8 ?rwr_8
    case ywr_8 =>
      refine StepS.pure (SeqT.pass (by decide) (by decide)) (by rfl) (fun w9 => ?_)
      go_simp
      try rfl
    try simp only [Act.put, List.setIfInBounds_toArray, List.set_cons_zero, List.set_cons_succ]
    refine Ps.step (i := 8) (d := some 22) (u := ?uwr_9) rfl rfl (by kernel_rfl) (by kernel_rfl) (by kernel_rfl) (by kernel_rfl) ?ywr_9 ?rwr_9
    case ywr_9 =>
      refine StepS.pure (SeqT.pass (by decide) (by decide)) (by rfl) (fun w9 => ?_)
      go_simp
      try rfl
    try simp only [Act.put, List.setIfInBounds_toArray, List.set_cons_zero, List.set_cons_succ]
    refine Ps.step (i := 9) (d := some 23) (u := ?uwr_10) rfl rfl (by kernel_rfl) (by kernel_rfl) (by kernel_rfl) (by kernel_rfl) ?ywr_10 ?rwr_10
    case ywr_10 =>
      refine StepS.pure (SeqT.pass (by decide) (by decide)) (by rfl) (fun w9 => ?_)
      go_simp
      try rfl
    try simp only [Act.put, List.setIfInBounds_toArray, List.set_cons_zero, List.set_cons_succ]
    refine Ps.step (i := 10) (d := none) (u := undef) rfl rfl (by kernel_rfl) (by kernel_rfl) (by kernel_rfl) (by kernel_rfl) ?ywr_11 ?rwr_11
    case ywr_11 =>
      refine StepS.store [6] (by kernel_rfl) (by rfl) (fun L9 m9 w9 hSh hAt hDn hS => ?_)
      obtain ⟨A3, m3, c3, hv, hO, hT⟩ := SeqT.at2 (hAt 6 (by simp)).1 hDn hS
      have h6 : m9 6 = .tuple #[.agg #[.int .u64 s, .slice A2 m2 c2], .int .u64 s, .int .i64 E] := (hAt 6 (by simp)).2
      rw [h6] at hv
      obtain ⟨rfl, rfl, rfl⟩ := tup_inj hv
      refine (exec_store_blk (w := w9) 26 (.tmp 4) (.tmp 21) (by rfl) (w.heap.size + 1) 26 #[.int .u64 0, .slice none 0 0] #[.int .u64 s, .slice A2 m2 c2] (by rfl) (by rfl) (HR4.out.ca hT) rfl netI (by simp [Value.oneCell'])).imp fun w7 hx => ⟨hx.1, SeqT.set2 (by decide) ⟨w9, A2, m2, c2, h6, hO, hT, hx.2.1, hx.2.2⟩⟩
    try simp only [Act.put]
    refine Ps.step (i := 11) (d := some 5) (u := ?uwr_12) rfl rfl (by kernel_rfl) (by kernel_rfl) (by kernel_rfl) (by kernel_rfl) ?ywr_12 ?rwr_12
    case ywr_12 =>
      refine StepS.pure (SeqT.pass (by decide) (by decide)) (by rfl) (fun w9 => ?_)
      go_simp
      try rfl
    try simp only [Act.put, List.setIfInBounds_toArray, List.set_cons_zero, List.set_cons_succ]
    refine Ps.step (i := 12) (d := some 6) (u := ?uwr_13) rfl rfl (by kernel_rfl) (by kernel_rfl) (by kernel_rfl) (by kernel_rfl) ?ywr_13 ?rwr_13
    case ywr_13 =>
      refine StepS.pure (SeqT.pass (by decide) (by decide)) (by rfl) (fun w9 => ?_)
      go_simp
      try rfl
    try simp only [Act.put, List.setIfInBounds_toArray, List.set_cons_zero, List.set_cons_succ]
    refine Ps.done (by kernel_rfl) (fun wr hS => ?_) _
    obtain ⟨w6, A3, m3, c3, hv, hO, hT, hZ, gz⟩ := SeqT.fin (by rfl) hS
    clear hS
    obtain ⟨rfl, rfl, rfl⟩ := tup_inj (show (.tuple #[.agg #[.int .u64 s, .slice A2 m2 c2], .int .u64 s, .int .i64 E] : Value) = _ from hv)
    clear hv
    go_wp2
    exact bodyPost_ret (res3 Try.results14 rfl rfl rfl hZ Try.underlying26 rfl netI) rfl ⟨A2, m2, c2, rfl, (hO.kept gz (by omega)).less (by omega), bl_gr (bl_ca HB4.out hT) gz (by omega)⟩
end Go.Proofs.Ytnbcffnhgijmcaa
/- bowspritlaw24.wakes. Conditions: none. -/
namespace Go.Proofs.Ytnbcffnhgijmcaa
open Go.RowKit
theorem OutN.rd {w : World} {B : Nat} {A : Option Addr} {m c : Nat} {ps : List PC} {F : Nat → Prop} (h : OutN w B A m c ps) (hF : ∀ b, B ≤ b → F b) : LP.rd w F A m ps := by
  obtain ⟨es, h1, rfl⟩ := h
  exact h1.rd hF
theorem OutN.len {w : World} {B : Nat} {A : Option Addr} {m c : Nat} {ps : List PC} (h : OutN w B A m c ps) : m = ps.length := by
  obtain ⟨es, h1, rfl⟩ := h
  rw [List.length_map, h1.len]
theorem rd_kept {w w' : World} {g : Nat} {A : Option Addr} {m : Nat} {ps : List PC} (h : LP.rd w (fun b => b ≠ g) A m ps) (hk : Kept w w' g w.heap.size) : LP.rd w' (fun b => b ≠ g) A m ps := Lay.rd_keep (fun b hF hb => hk.block b hb hF) h
theorem rd_all {w : World} {F : Nat → Prop} {A : Option Addr} {m : Nat} {ps : List PC} (h : LP.rd w F A m ps) : LP.rd w AllB A m ps := Lay.rd_weak (fun _ _ _ => trivial) h
/-- one byte that the call owns -/
theorem own_one {w : World} {B : Nat} {A : Option Addr} {n c : Nat} {x : UInt8} (h : OwnB w B A n c [x]) : n = 1 ∧ ∃ g, A = some ⟨g, 0, none⟩ ∧ B ≤ g ∧ g < w.heap.size ∧ w.cell? ⟨g, 0, none⟩ = some (vb x) := by
  have hn : n = 1 := by have := (OwnB.rd h).len; simpa using this.symm
  subst hn
  obtain ⟨g, cap, hv, _, hlt⟩ := World.ownsRow.form h (by omega)
  injection hv with hA
  subst hA
  exact ⟨rfl, g, rfl, (h.base_ g (by simp [Value.ownBlock])).1, hlt, (World.ownsRow.cellAt h 0 (by omega)).trans rfl⟩
theorem wk1 : sendR 0 [] 1 4 [7] = (1, [⟨1, 1, 4, [7], false⟩]) ∧ sendE 0 [] 1 4 [7] = 0 := by decide
theorem wk2 : twinR 1 [⟨1, 1, 4, [7], false⟩] 1 = (2, [⟨1, 1, 4, [7], false⟩, ⟨2, 1, 4, [7], false⟩]) ∧ twinE 1 [⟨1, 1, 4, [7], false⟩] 1 = 0 := by decide
theorem wk3 : spoilR 2 [⟨1, 1, 4, [7], false⟩, ⟨2, 1, 4, [7], false⟩] 2 0 1 = (2, [⟨1, 1, 4, [7], false⟩, ⟨2, 1, 4, [6], true⟩]) ∧ spoilE 2 [⟨1, 1, 4, [7], false⟩, ⟨2, 1, 4, [7], false⟩] 2 0 1 = 0 := by decide
theorem wk4 : comeR 2 [⟨1, 1, 4, [7], false⟩, ⟨2, 1, 4, [6], true⟩] 1 = (2, [⟨2, 1, 4, [6], true⟩]) ∧ comeE 2 [⟨1, 1, 4, [7], false⟩, ⟨2, 1, 4, [6], true⟩] 1 = 0 ∧ comeP 2 [⟨1, 1, 4, [7], false⟩, ⟨2, 1, 4, [6], true⟩] 1 = ⟨1, 1, 4, [7], false⟩ := by decide
theorem wk5 : comeR 2 [⟨2, 1, 4, [6], true⟩] 2 = (2, []) ∧ comeE 2 [⟨2, 1, 4, [6], true⟩] 2 = 0 ∧ comeP 2 [⟨2, 1, 4, [6], true⟩] 2 = ⟨2, 1, 4, [6], true⟩ := by decide
set_option maxRecDepth 100000 in
set_option maxHeartbeats 8000000 in
theorem wakes_any (w : World) : Calls Try.prog 10 #[] w fun e w' => e = .returned (.bool true) ∧ Below w.heap.size w w' := by
  have b0 := bl_al (Below.refl w.heap.size w) (.cells #[.int .u8 7] 5)
  have hr : RdB (w.alloc (.cells #[.int .u8 7] 5)) (some ⟨w.heap.size, 0, none⟩) 1 [7] := reads_blk (Blk.new w 5 #[.int .u8 7]) rfl rfl
  have HS := Lib.hid (send_any 0 none 0 0 [] 1 4 (some ⟨w.heap.size, 0, none⟩) 1 1 [7] _ (Lay.rd_nil none) (by omega) (by omega) hr)
  rw [wk1.1, wk1.2] at HS
  dsimp only at HS
  clear hr
  go_enter Try.func10, Try.ntmps10
  go_wp2_with fail
  refine HS.out.mono ?_
  clear HS
  rintro e w1 ⟨A1, m1, c1, rfl, hO1, q1⟩
  have hb1 := bl_ca b0 q1
  clear q1 b0
  go_wp2_with (refine wpList_store_blk rfl 26 (.tmp 1) (.tmp 16) rfl w1.heap.size 26 _ _ rfl rfl (Blk.new _ _ _) rfl netI (by simp [Value.oneCell']) ?_; intro wa hZa ga; have x0 : wa.cell? ⟨w1.heap.size, 0, none⟩ = some (.int .u64 1) := hZa.cell 0; have x1 : wa.cell? ⟨w1.heap.size, 1, none⟩ = some (.slice A1 m1 c1) := hZa.cell 1)
  have hm1 := hO1.len
  have hba := bl_gr (bl_al hb1 _) ga hb1.size
  have hgw : w.heap.size ≤ w1.heap.size := hb1.size
  have rda : LP.rd wa AllB A1 m1 [⟨1, 1, 4, [7], false⟩] := Lay.rd_below (hO1.rd (fun _ _ => trivial)) (bl_gr (bl_al (Below.refl _ _) _) ga (Nat.le_refl _))
  have hgl : w1.heap.size < wa.heap.size := hZa.lt
  have HT := Lib.hid (twin_any 1 A1 m1 c1 [⟨1, 1, 4, [7], false⟩] 1 wa rda (by simp at hm1; omega) (by omega))
  rw [wk2.1, wk2.2] at HT
  dsimp only at HT
  clear rda hm1 hO1 ga hb1
  generalize w1.heap.size = g at *
  refine HT.out.mono ?_
  clear HT x0 x1
  rintro e w2 ⟨A2, m2, c2, rfl, hO2, q2⟩
  have hb2 := bl_ca hba q2
  have hZ2 := hZa.ca q2
  clear hZa hba
  go_wp2_with (refine wpList_store_blk rfl 26 (.tmp 1) (.tmp 23) rfl g 26 _ _ rfl rfl hZ2 rfl netI (by simp [Value.oneCell']) ?_; intro wb hZb gb; have x0 : wb.cell? ⟨g, 0, none⟩ = some (.int .u64 2) := hZb.cell 0; have x1 : wb.cell? ⟨g, 1, none⟩ = some (.slice A2 m2 c2) := hZb.cell 1)
  have hm2 := hO2.len
  have hbb := bl_gr hb2 gb hgw
  have rdb : LP.rd wb (fun b => b ≠ g) A2 m2 [⟨1, 1, 4, [7], false⟩, ⟨2, 1, 4, [7], false⟩] := rd_kept (hO2.rd (fun b hb => by omega)) (Kept.of_grown gb (Nat.le_refl _) (.inl rfl))
  have HS := Lib.hid (spoil_any 2 A2 m2 c2 [⟨1, 1, 4, [7], false⟩, ⟨2, 1, 4, [7], false⟩] 2 0 1 wb (rd_all rdb) (by simp at hm2; omega))
  rw [wk3.1, wk3.2] at HS
  dsimp only at HS
  have hgl2 : g < wb.heap.size := hZb.lt
  clear rdb hm2 hO2 gb hb2 hZ2 q2 hgl
  refine HS.out.mono ?_
  clear HS x0 x1
  rintro e w3 ⟨A3, m3, c3, rfl, hO3, q3⟩
  have hb3 := bl_ca hbb q3
  have hZ3 := hZb.ca q3
  clear hZb hbb
  go_wp2_with (refine wpList_store_blk rfl 26 (.tmp 1) (.tmp 30) rfl g 26 _ _ rfl rfl hZ3 rfl netI (by simp [Value.oneCell']) ?_; intro wc hZc gc; have x0 : wc.cell? ⟨g, 0, none⟩ = some (.int .u64 2) := hZc.cell 0; have x1 : wc.cell? ⟨g, 1, none⟩ = some (.slice A3 m3 c3) := hZc.cell 1)
  have hm3 := hO3.len
  have hbc := bl_gr hb3 gc hgw
  have rdc : LP.rd wc (fun b => b ≠ g) A3 m3 [⟨1, 1, 4, [7], false⟩, ⟨2, 1, 4, [6], true⟩] := rd_kept (hO3.rd (fun b hb => by omega)) (Kept.of_grown gc (Nat.le_refl _) (.inl rfl))
  have HC := Lib.hid (come_any 2 A3 m3 c3 [⟨1, 1, 4, [7], false⟩, ⟨2, 1, 4, [6], true⟩] 1 wc (rd_all rdc) (by simp at hm3; omega))
  rw [wk4.1, wk4.2.1, wk4.2.2] at HC
  dsimp only at HC
  have hgl3 : g < wc.heap.size := hZc.lt
  clear rdc hm3 hO3 gc hb3 hZ3 q3 hgl2
  refine HC.out.mono ?_
  clear HC x0 x1
  rintro e w4 ⟨A4, m4, c4, pA, pn, pc, es4, rfl, hD4, hes4, ho4, _, q4⟩
  have hO4 : OutN w4 wc.heap.size A4 m4 c4 [⟨2, 1, 4, [6], true⟩] := ⟨es4, hD4, hes4⟩
  have hb4 := bl_ca hbc q4
  have hZ4 := hZc.ca q4
  obtain ⟨rfl, gp, rfl, hgp1, hgp2, hgp3⟩ := own_one ho4
  have hg4 : g < w4.heap.size := hZ4.lt
  clear hZc hbc hD4 hes4 ho4
  go_wp2_with (first | (refine wpList_store_blk rfl 26 (.tmp 1) (.tmp 36) rfl g 26 _ _ rfl rfl (hZ4.ca (bl_al (Below.refl _ _) _)) rfl netI (by simp [Value.oneCell']) ?_; intro wd hZd gd) | (refine wpList_store_blk rfl 29 (.tmp 7) (.tmp 37) rfl w4.heap.size 29 _ _ rfl rfl ((Blk.new _ _ _).apart gd (by omega)) rfl parcelI (by simp [Value.oneCell']) ?_; intro we hZe ge; have hZg := (hZd.apart ge (by omega)); have x0 : we.cell? ⟨g, 0, none⟩ = some (.int .u64 2) := hZg.cell 0; have x1 : we.cell? ⟨g, 1, none⟩ = some (.slice A4 m4 c4) := hZg.cell 1))
  have hm4 := hO4.len
  have hk4 : Kept w4 we g w4.heap.size := ((Kept.of_below (bl_al (Below.refl _ _) _) (Nat.le_refl _)).trans (Kept.of_grown gd (by simp) (.inl rfl))).trans (Kept.of_grown ge (by have := gd.size; simp at this; omega) (.inr (Nat.le_refl _)))
  have hbe := bl_gr (bl_gr (bl_al hb4 _) gd hgw) ge hb4.size
  have rde : LP.rd we (fun b => b ≠ g) A4 m4 [⟨2, 1, 4, [6], true⟩] := rd_kept (hO4.rd (fun b hb => by omega)) hk4
  have hgp4 : we.cell? ⟨gp, 0, none⟩ = some (.int .u8 7) := (cell_of_heap (hk4.block gp hgp2 (by omega))).trans hgp3
  have hgp5 : gp < we.heap.size := Nat.lt_of_lt_of_le hgp2 hk4.size
  have HC := Lib.hid (come_any 2 A4 m4 c4 [⟨2, 1, 4, [6], true⟩] 2 we (rd_all rde) (by simp at hm4; omega))
  rw [wk5.1, wk5.2.1, wk5.2.2] at HC
  dsimp only at HC
  have hh4 : w.heap.size ≤ w4.heap.size := hb4.size
  clear rde hm4 hO4 gd ge hb4 hZ4 q4 hgl3 hk4 hgp1 hgp2 hgp3 hZd hg4
  generalize w4.heap.size = h at *
  refine HC.out.mono ?_
  clear HC x0 x1
  rintro e w5 ⟨A5, m5, c5, qA, qn, qc, es5, rfl, hD5, hes5, ho5, _, q5⟩
  obtain ⟨rfl, gq, rfl, hgq1, hgq2, hgq3⟩ := own_one ho5
  have hb5 := bl_ca hbe q5
  have hZ5 := hZe.ca q5
  have hgp6 : w5.cell? ⟨gp, 0, none⟩ = some (.int .u8 7) := cell_ca hgp4 hgp5 q5
  have hgp7 : gp < w5.heap.size := Nat.lt_of_lt_of_le hgp5 q5.size
  clear hZe hbe hD5 hes5 ho5 q5 hgp4 hgp5
  go_wp2_with (first | (refine wpList_store_blk rfl 26 (.tmp 9) (.tmp 43) rfl w5.heap.size 26 _ _ rfl rfl ((Blk.new _ _ _).ca (bl_al (Below.refl _ _) _)) rfl netI (by simp [Value.oneCell']) ?_; intro wf hZf gf) | (refine wpList_store_blk rfl 29 (.tmp 10) (.tmp 44) rfl (w5.heap.size + 1) 29 _ _ rfl rfl ((Blk.mk' (by simp)).apart gf (by omega)) rfl parcelI (by simp [Value.oneCell']) ?_; intro wh hZhh gh; have T5 := bl_gr (bl_gr (bl_al (bl_al (Below.refl w5.heap.size w5) _) _) gf (Nat.le_refl _)) gh (Nat.le_succ _); have hZh := hZ5.ca T5; have y3 : wh.cell? ⟨h, 3, none⟩ = some (.slice (some ⟨gp, 0, none⟩) 1 pc) := hZh.cell 3; have y4 : wh.cell? ⟨gp, 0, none⟩ = some (.int .u8 7) := cell_ca hgp6 hgp7 T5; have y5 : wh.cell? ⟨gq, 0, none⟩ = some (.int .u8 6) := cell_ca hgq3 hgq2 T5; have y6 : wh.cell? ⟨w5.heap.size + 1, 3, none⟩ = some (.slice (some ⟨gq, 0, none⟩) 1 qc) := hZhh.cell 3; have y7 : wh.cell? ⟨w5.heap.size + 1, 4, none⟩ = some (.bool true) := hZhh.cell 4))
  go_ret
  exact ⟨rfl, bl_gr (bl_gr (bl_al (bl_al hb5 _) _) gf hb5.size) gh (Nat.le_trans hb5.size (Nat.le_succ _))⟩
end Go.Proofs.Ytnbcffnhgijmcaa
