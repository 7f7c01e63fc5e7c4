/- bowspritref24.with. Conditions: the slice reads as these parcels, not too many. -/
import Derived.Test.YtnbcffnhgijmcaaRSame
namespace Go.Proofs.Ytnbcffnhgijmcaa
open Go.RowKit
theorem Seq3.set0 {k1 k2 k3 j : Nat} {B0 B1 B2 B3 : (Nat → Value) → World → Prop} {L : Array Bool} {m' : Nat → Value} {w' : World} (e1 : k1 ≠ j) (e2 : k2 ≠ j) (e3 : k3 ≠ j) (h1 : Dn L k1 = false) (h2 : Dn L k2 = false) (h3 : Dn L k3 = false) (h : B0 m' w') : Seq3 k1 k2 k3 B0 B1 B2 B3 (L.setIfInBounds j true) m' w' := by
  unfold Seq3 Sk3
  rw [dn_ne e1, dn_ne e2, dn_ne e3, h1, h2, h3]
  exact ⟨fun _ _ _ => h, fun e => (by cases e), fun e => (by cases e), fun e => (by cases e)⟩
def withR (sent : Int) (ps : List PC) (p : PC) : Int × List PC := if addE sent ps = 0 then (sent + 1, ps ++ [added sent p]) else (0, [])
def WithC (w : World) (r : Int × List PC) (er : Int) (e : Ending) (w' : World) : Prop := ∃ A2 m2 c2, e = .returned (.tuple #[.agg #[.int .u64 r.1, .slice A2 m2 c2], .int .u64 r.1, .int .i64 er]) ∧ OutN w' w.heap.size A2 m2 c2 r.2 ∧ Below w.heap.size w w'
set_option maxRecDepth 100000 in
set_option maxHeartbeats 8000000 in
theorem rwith_full (sent : Int) (A : Option Addr) (m c : Nat) (p : PC) (pA : Option Addr) (pn pc : Nat) (w : World) (hf : m = 20000 ∨ sent = 1099511627776) :
    Calls Try.prog 46 #[.agg #[.int .u64 sent, .slice A m c], .agg #[.int .u64 p.num, .int .i64 p.frm, .int .i64 p.to, .slice pA pn pc, .bool p.sp]] w (WithC w (0, []) 6) := by
  have bb := Below.refl w.heap.size w
  have bN := Blk.new w 26 #[.int .u64 sent, .slice A m c]
  replace bb := bl_al bb (.cells #[.int .u64 sent, .slice A m c] 26)
  replace bN := bN.ca (bl_al (Below.refl _ _) (.cells #[.int .u64 p.num, .int .i64 p.frm, .int .i64 p.to, .slice pA pn pc, .bool p.sp] 29))
  have bX : Blk ((w.alloc (.cells #[.int .u64 sent, .slice A m c] 26)).alloc (.cells #[.int .u64 p.num, .int .i64 p.frm, .int .i64 p.to, .slice pA pn pc, .bool p.sp] 29)) (w.heap.size + 1) 29 #[.int .u64 p.num, .int .i64 p.frm, .int .i64 p.to, .slice pA pn pc, .bool p.sp] := Blk.mk' (by simp only [World.size_alloc])
  replace bb := bl_al bb (.cells #[.int .u64 p.num, .int .i64 p.frm, .int .i64 p.to, .slice pA pn pc, .bool p.sp] 29)
  replace bN := bN.ca (bl_al (Below.refl _ _) (.cells #[.int .u64 0, .slice none 0 0] 26))
  replace bX := bX.ca (bl_al (Below.refl _ _) (.cells #[.int .u64 0, .slice none 0 0] 26))
  have bR : Blk (((w.alloc (.cells #[.int .u64 sent, .slice A m c] 26)).alloc (.cells #[.int .u64 p.num, .int .i64 p.frm, .int .i64 p.to, .slice pA pn pc, .bool p.sp] 29)).alloc (.cells #[.int .u64 0, .slice none 0 0] 26)) (w.heap.size + 2) 26 #[.int .u64 0, .slice none 0 0] := Blk.mk' (by simp only [World.size_alloc])
  replace bb := bl_al bb (.cells #[.int .u64 0, .slice none 0 0] 26)
  have hsz : w.heap.size + 3 ≤ (((w.alloc (.cells #[.int .u64 sent, .slice A m c] 26)).alloc (.cells #[.int .u64 p.num, .int .i64 p.frm, .int .i64 p.to, .slice pA pn pc, .bool p.sp] 29)).alloc (.cells #[.int .u64 0, .slice none 0 0] 26)).heap.size := by simp only [World.size_alloc]; omega
  have n0 : (((w.alloc (.cells #[.int .u64 sent, .slice A m c] 26)).alloc (.cells #[.int .u64 p.num, .int .i64 p.frm, .int .i64 p.to, .slice pA pn pc, .bool p.sp] 29)).alloc (.cells #[.int .u64 0, .slice none 0 0] 26)).cell? ⟨w.heap.size, 0, none⟩ = some (.int .u64 sent) := bN.cell 0
  have n1 : (((w.alloc (.cells #[.int .u64 sent, .slice A m c] 26)).alloc (.cells #[.int .u64 p.num, .int .i64 p.frm, .int .i64 p.to, .slice pA pn pc, .bool p.sp] 29)).alloc (.cells #[.int .u64 0, .slice none 0 0] 26)).cell? ⟨w.heap.size, 1, none⟩ = some (.slice A m c) := bN.cell 1
  have HR := Lib.hid bR
  have HB := Lib.hid bb
  clear bN bX bR bb
  by_cases h : m = 20000
  · have d1 : ((m : Int) == 20000) = true := by simp; omega
    clear hf h
    go_enter Try.func46, Try.ntmps46
    go_wp2_with (refine wpList_store_blk rfl 26 (.tmp 4) (.tmp 16) rfl (w.heap.size + 2) 26 _ _ rfl rfl HR.out rfl netI (by simp [Value.oneCell']) ?_; intro wz hZ gz)
    exact bodyPost_ret (res3 Try.results46 rfl rfl rfl hZ Try.underlying26 rfl netI) rfl ⟨none, 0, 0, rfl, OutN.nil _ _, bl_gr HB.out gz (by omega)⟩
  · have d1 : ((m : Int) == 20000) = false := by simp; omega
    have d2 : (sent == 1099511627776) = true := by simp; omega
    clear hf h
    go_enter Try.func46, Try.ntmps46
    go_wp2_with (refine wpList_store_blk rfl 26 (.tmp 4) (.tmp 16) rfl (w.heap.size + 2) 26 _ _ rfl rfl HR.out rfl netI (by simp [Value.oneCell']) ?_; intro wz hZ gz)
    exact bodyPost_ret (res3 Try.results46 rfl rfl rfl hZ Try.underlying26 rfl netI) rfl ⟨none, 0, 0, rfl, OutN.nil _ _, bl_gr HB.out gz (by omega)⟩
set_option maxRecDepth 100000 in
set_option maxHeartbeats 16000000 in
theorem rwith_adds (sent : Int) (A : Option Addr) (m c : Nat) (ps : List PC) (p : PC) (pA : Option Addr) (pn pc : Nat) (w : World) (h : LP.rd w AllB A m ps) (hm : m < 20000) (hb : ∀ p ∈ ps, p.bs.length ≤ 100000) (hp : RdB w pA pn p.bs) (hpn : pn ≤ 100000) (hs0 : 0 ≤ sent) (hs : sent < 1099511627776) :
    Calls Try.prog 46 #[.agg #[.int .u64 sent, .slice A m c], .agg #[.int .u64 p.num, .int .i64 p.frm, .int .i64 p.to, .slice pA pn pc, .bool p.sp]] w (WithC w (sent + 1, ps ++ [added sent p]) 0) := by
  have bb := Below.refl w.heap.size w
  have bN := Blk.new w 26 #[.int .u64 sent, .slice A m c]
  replace bb := bl_al bb (.cells #[.int .u64 sent, .slice A m c] 26)
  replace bN := bN.ca (bl_al (Below.refl _ _) (.cells #[.int .u64 p.num, .int .i64 p.frm, .int .i64 p.to, .slice pA pn pc, .bool p.sp] 29))
  have bX : Blk ((w.alloc (.cells #[.int .u64 sent, .slice A m c] 26)).alloc (.cells #[.int .u64 p.num, .int .i64 p.frm, .int .i64 p.to, .slice pA pn pc, .bool p.sp] 29)) (w.heap.size + 1) 29 #[.int .u64 p.num, .int .i64 p.frm, .int .i64 p.to, .slice pA pn pc, .bool p.sp] := Blk.mk' (by simp only [World.size_alloc])
  replace bb := bl_al bb (.cells #[.int .u64 p.num, .int .i64 p.frm, .int .i64 p.to, .slice pA pn pc, .bool p.sp] 29)
  replace bN := bN.ca (bl_al (Below.refl _ _) (.cells #[.int .u64 0, .slice none 0 0] 26))
  replace bX := bX.ca (bl_al (Below.refl _ _) (.cells #[.int .u64 0, .slice none 0 0] 26))
  have bR : Blk (((w.alloc (.cells #[.int .u64 sent, .slice A m c] 26)).alloc (.cells #[.int .u64 p.num, .int .i64 p.frm, .int .i64 p.to, .slice pA pn pc, .bool p.sp] 29)).alloc (.cells #[.int .u64 0, .slice none 0 0] 26)) (w.heap.size + 2) 26 #[.int .u64 0, .slice none 0 0] := Blk.mk' (by simp only [World.size_alloc])
  replace bb := bl_al bb (.cells #[.int .u64 0, .slice none 0 0] 26)
  have hsz : w.heap.size + 3 ≤ (((w.alloc (.cells #[.int .u64 sent, .slice A m c] 26)).alloc (.cells #[.int .u64 p.num, .int .i64 p.frm, .int .i64 p.to, .slice pA pn pc, .bool p.sp] 29)).alloc (.cells #[.int .u64 0, .slice none 0 0] 26)).heap.size := by simp only [World.size_alloc]; omega
  have n0 : (((w.alloc (.cells #[.int .u64 sent, .slice A m c] 26)).alloc (.cells #[.int .u64 p.num, .int .i64 p.frm, .int .i64 p.to, .slice pA pn pc, .bool p.sp] 29)).alloc (.cells #[.int .u64 0, .slice none 0 0] 26)).cell? ⟨w.heap.size, 0, none⟩ = some (.int .u64 sent) := bN.cell 0
  have n1 : (((w.alloc (.cells #[.int .u64 sent, .slice A m c] 26)).alloc (.cells #[.int .u64 p.num, .int .i64 p.frm, .int .i64 p.to, .slice pA pn pc, .bool p.sp] 29)).alloc (.cells #[.int .u64 0, .slice none 0 0] 26)).cell? ⟨w.heap.size, 1, none⟩ = some (.slice A m c) := bN.cell 1
  have HC := Lib.hid (rcopy_any sent A m c ps _ (Lay.rd_below h bb) (by omega) hb)
  have HP := Lib.hid hp
  have HN := Lib.hid bN
  have HX := Lib.hid bX
  have HR := Lib.hid bR
  have HB := Lib.hid bb
  clear bN bX bR bb h hb hp
  have d1 : ((m : Int) == 20000) = false := by simp; omega
  have d2 : (sent == 1099511627776) = false := by simp; omega
  go_enter Try.func46, Try.ntmps46
  go_wp2_with fail
  clear n0 n1 d1 d2
  refine HC.out.mono ?_
  clear HC
  rintro e w2 ⟨A2, c2, rfl, ⟨es, hD, hes⟩, hb2⟩
  have HES := Lib.hid hes
  have HD2 := Lib.hid hD
  have HN2 := Lib.hid (HN.out.ca hb2)
  have HX2 := Lib.hid (HX.out.ca hb2)
  have HR2 := Lib.hid (HR.out.ca hb2)
  have HB2 := Lib.hid (bl_ca HB.out hb2)
  have hz2 := Nat.le_trans hsz hb2.size
  clear HN HX HR HB hes hD
  generalize (((w.alloc (.cells #[.int .u64 sent, .slice A m c] 26)).alloc (.cells #[.int .u64 p.num, .int .i64 p.frm, .int .i64 p.to, .slice pA pn pc, .bool p.sp] 29)).alloc (.cells #[.int .u64 0, .slice none 0 0] 26)).heap.size = z1 at *
  clear hb2
  go_wp2_with (refine wpList_store_blk rfl 26 (.tmp 2) (.tmp 18) rfl w.heap.size 26 _ _ rfl rfl HN2.out rfl netI (by simp [Value.oneCell']) ?_; intro wz hZ gz; have z0 : wz.cell? ⟨w.heap.size, 0, none⟩ = some (.int .u64 sent) := hZ.cell 0; have f0 : wz.frozen? ⟨w.heap.size, 0, none⟩ = false := hZ.frozen 0)
  have hg4 : wz.grownBy (wz.setCell ⟨w.heap.size, 0, none⟩ (.int .u64 (sent + 1))) (some w.heap.size) := only_setCell (World.grownBy.refl _ _) (.inl rfl) _
  have HN4 := Lib.hid (show Blk (wz.setCell ⟨w.heap.size, 0, none⟩ (.int .u64 (sent + 1))) w.heap.size 26 #[.int .u64 (sent + 1), .slice A2 m c2] from by simpa using hZ.set_ 0 (.int .u64 (sent + 1)))
  have HX4 := Lib.hid ((HX2.out.apart gz (by omega)).apart hg4 (by omega))
  have HR4 := Lib.hid ((HR2.out.apart gz (by omega)).apart hg4 (by omega))
  have HB4 := Lib.hid (bl_gr (bl_gr HB2.out gz (Nat.le_refl _)) hg4 (Nat.le_refl _))
  have HD4 := Lib.hid (show DO (wz.setCell ⟨w.heap.size, 0, none⟩ (.int .u64 (sent + 1))) (w.heap.size + 3) A2 m c2 es from ((HD2.out.kept gz (by omega)).kept hg4 (by omega)).less hsz)
  have HP4 := Lib.hid (show ∀ W, Below (wz.setCell ⟨w.heap.size, 0, none⟩ (.int .u64 (sent + 1))).heap.size (wz.setCell ⟨w.heap.size, 0, none⟩ (.int .u64 (sent + 1))) W → RdB W pA pn p.bs from fun W q => HP.out.below (bl_ca HB4.out q))
  have hB4 : w.heap.size + 3 ≤ (wz.setCell ⟨w.heap.size, 0, none⟩ (.int .u64 (sent + 1))).heap.size := Nat.le_trans hz2 (Nat.le_trans gz.size hg4.size)
  clear z0 f0 hZ gz hg4 HN2 HX2 HR2 HP HB2 HD2
  generalize wz.setCell ⟨w.heap.size, 0, none⟩ (.int .u64 (sent + 1)) = w4 at *
  refine wp_region_ps (S := Seq3 5 7 9 (fun m w' => Below w4.heap.size w4 w' ∧ (m 2 = undef ∨ ∃ g, m 2 = .slice (some ⟨g, 0, none⟩) 0 0 ∧ OwnB w' w4.heap.size (some ⟨g, 0, none⟩) 0 0 [])) (fun m w' => Below w4.heap.size w4 w' ∧ ∃ A4 c4, m 5 = .slice A4 pn c4 ∧ OwnB w' w4.heap.size A4 pn c4 p.bs) (fun m w' => ∃ w5, Below w4.heap.size w4 w5 ∧ (∃ A4 c4, m 5 = .slice A4 pn c4 ∧ OwnB w5 w4.heap.size A4 pn c4 p.bs) ∧ w' = w5.setCell ⟨w.heap.size + 1, 0, none⟩ (.int .u64 (sent + 1))) (fun m w' => ∃ w5 A4 c4, Below w4.heap.size w4 w5 ∧ m 5 = .slice A4 pn c4 ∧ OwnB w5 w4.heap.size A4 pn c4 p.bs ∧ w' = (w5.setCell ⟨w.heap.size + 1, 0, none⟩ (.int .u64 (sent + 1))).setCell ⟨w.heap.size + 1, 3, none⟩ (.slice A4 pn c4))) (by kernel_rfl) ?spswq ?ppswq
  case spswq =>
    exact Seq3.start (by decide) (by decide) (by decide) ⟨(Below.refl _ _).drew, .inl rfl⟩
  refine Ps.step (i := 0) (d := some 23) (u := ?uwq_1) rfl rfl (by kernel_rfl) (by kernel_rfl) (by kernel_rfl) (by kernel_rfl) ?ywq_1 ?rwq_1
  case ywq_1 =>
    refine StepS.pure (Seq3.pass (by decide) (by decide) (by decide)) (by rfl) (fun w9 => ?_)
    go_simp
    try rfl
  try simp only [Act.put, List.setIfInBounds_toArray, List.set_cons_zero, List.set_cons_succ]
  refine Ps.step (i := 1) (d := some 24) (u := ?uwq_2) rfl rfl (by kernel_rfl) (by kernel_rfl) (by kernel_rfl) (by kernel_rfl) ?ywq_2 ?rwq_2
  case ywq_2 =>
    refine StepS.read [] (by kernel_rfl) (Seq3.pass (by decide) (by decide) (by decide)) (by rfl) (fun L9 m9 w9 hSh hAt hDn hS => ?_)
    have hT : Below w4.heap.size w4 w9 := Seq3.early1 (T := fun w9 => Below w4.heap.size w4 w9) (fun _ _ h => h.1) (fun _ _ h => h.1) (reach_no hSh (f := 10) (j := 7) (by kernel_rfl) hDn) (reach_no hSh (f := 10) (j := 9) (by kernel_rfl) hDn) hS
    have n0 : w9.cell? ⟨w.heap.size, 0, none⟩ = some (.int .u64 (sent + 1)) := (HN4.out.ca hT).cell 0
    go_simp
    try rfl
  try simp only [Act.put, List.setIfInBounds_toArray, List.set_cons_zero, List.set_cons_succ]
  refine Ps.step (i := 3) (d := some 26) (u := ?uwq_3) rfl rfl (by kernel_rfl) (by kernel_rfl) (by kernel_rfl) (by kernel_rfl) ?ywq_3 ?rwq_3
  case ywq_3 =>
    refine StepS.pure (Seq3.pass (by decide) (by decide) (by decide)) (by rfl) (fun w9 => ?_)
    go_simp
    try rfl
  try simp only [Act.put, List.setIfInBounds_toArray, List.set_cons_zero, List.set_cons_succ]
  refine Ps.step (i := 4) (d := some 27) (u := ?uwq_4) rfl rfl (by kernel_rfl) (by kernel_rfl) (by kernel_rfl) (by kernel_rfl) ?ywq_4 ?rwq_4
  case ywq_4 =>
    refine StepS.read [] (by kernel_rfl) (Seq3.pass (by decide) (by decide) (by decide)) (by rfl) (fun L9 m9 w9 hSh hAt hDn hS => ?_)
    have hT : Below w4.heap.size w4 w9 := Seq3.early1 (T := fun w9 => Below w4.heap.size w4 w9) (fun _ _ h => h.1) (fun _ _ h => h.1) (reach_no hSh (f := 10) (j := 7) (by kernel_rfl) hDn) (reach_no hSh (f := 10) (j := 9) (by kernel_rfl) hDn) hS
    have x3 : w9.cell? ⟨w.heap.size + 1, 3, none⟩ = some (.slice pA pn pc) := (HX4.out.ca hT).cell 3
    go_simp
    try rfl
  try simp only [Act.put, List.setIfInBounds_toArray, List.set_cons_zero, List.set_cons_succ]
  refine Ps.step (i := 6) (d := some 29) (u := ?uwq_5) rfl rfl (by kernel_rfl) (by kernel_rfl) (by kernel_rfl) (by kernel_rfl) ?ywq_5 ?rwq_5
  case ywq_5 =>
    refine StepS.pure (Seq3.pass (by decide) (by decide) (by decide)) (by rfl) (fun w9 => ?_)
    go_simp
    try rfl
  try simp only [Act.put, List.setIfInBounds_toArray, List.set_cons_zero, List.set_cons_succ]
  refine Ps.one (k := 2) (d := some 25) rfl rfl (by kernel_rfl) (TurnS.value (V := fun v => ∃ g, v = .slice (some ⟨g, 0, none⟩) 0 0) [] (by kernel_rfl) (by rfl) (fun L9 m9 w9 hSh hAt hDn hS => ?cwq_6)) (fun v2 hVv2 => ?rwq_6)
  case cwq_6 =>
    obtain ⟨hT, _⟩ := Seq3.at1 (reach_no hSh (f := 10) (j := 5) (by kernel_rfl) hDn) (reach_no hSh (f := 10) (j := 7) (by kernel_rfl) hDn) (reach_no hSh (f := 10) (j := 9) (by kernel_rfl) hDn) hS
    refine ⟨.slice (some ⟨w9.heap.size, 0, none⟩) 0 0, w9.alloc (.cells #[] 5), ?_, ⟨_, rfl⟩, Seq3.set0 (by decide) (by decide) (by decide) (reach_no hSh (f := 10) (j := 5) (by kernel_rfl) hDn) (reach_no hSh (f := 10) (j := 7) (by kernel_rfl) hDn) (reach_no hSh (f := 10) (j := 9) (by kernel_rfl) hDn) ⟨bl_al hT _, .inr ⟨w9.heap.size, upd_same _ _ _, OwnB.less (OwnB.empty w9) hT.size⟩⟩⟩
    go_simp
  try simp only [Act.put, List.setIfInBounds_toArray, List.set_cons_zero, List.set_cons_succ]
  obtain ⟨g2, rfl⟩ := hVv2
  refine Ps.one (k := 5) (d := some 28) rfl rfl (by kernel_rfl) (TurnS.value (V := fun _ => True) [2] (by kernel_rfl) (by rfl) (fun L9 m9 w9 hSh hAt hDn hS => ?cwq_7)) (fun v5 hVv5 => ?rwq_7)
  case cwq_7 =>
    obtain ⟨hT, hv⟩ := Seq3.at1 hDn (reach_no hSh (f := 10) (j := 7) (by kernel_rfl) hDn) (reach_no hSh (f := 10) (j := 9) (by kernel_rfl) hDn) hS
    have h2 : m9 2 = .slice (some ⟨g2, 0, none⟩) 0 0 := (hAt 2 (by simp)).2
    rcases hv with hv | ⟨g, hv, ho⟩
    · rw [h2] at hv; exact absurd hv (by simp [undef])
    rw [h2] at hv
    injection hv with hv
    injection hv with hv
    injection hv with hv
    subst hv
    obtain ⟨i0, hi0, hz0, hz1, hz2⟩ := info_parts Try.byteInfo
    obtain ⟨v', w', hrun, hown, hgr, _⟩ := run_append_any (P := Try.prog) w9 w4.heap.size 27 27 5 i0 _ 1 1 Try.underlying27 hi0 hz0 hz1 hz2 rfl (by omega) _ 0 _ ho w9.heap.size pA pn pc (p.bs.map vb) (HP4.out w9 hT) (vb_one p.bs) (by simp only [maxLen]; omega) (by omega) hT.size
    rw [Nat.zero_add, List.map_nil, List.nil_append] at hown
    obtain ⟨A4, c4, rfl⟩ := own_form hown
    refine ⟨.slice A4 pn c4, w', ?_, trivial, Seq3.set1 (by decide) (by decide) (reach_no hSh (f := 10) (j := 7) (by kernel_rfl) hDn) (reach_no hSh (f := 10) (j := 9) (by kernel_rfl) hDn) ⟨hT.grown hgr hT.size (own_base ho), A4, c4, upd_same _ _ _, hown⟩⟩
    exact exec_append (.tmp 25) (.tmp 27) 27 rfl rfl rfl hrun
  try simp only [Act.put, List.setIfInBounds_toArray, List.set_cons_zero, List.set_cons_succ]
  clear hVv5
  refine Ps.step (i := 7) (d := none) (u := undef) rfl rfl (by kernel_rfl) (by kernel_rfl) (by kernel_rfl) (by kernel_rfl) ?ywq_8 ?rwq_8
  case ywq_8 =>
    refine StepS.store [5] (by kernel_rfl) (by rfl) (fun L9 m9 w9 hSh hAt hDn hS => ?_)
    obtain ⟨hT, hv⟩ := Seq3.at2 (hAt 5 (by simp)).1 hDn (reach_no hSh (f := 10) (j := 9) (by kernel_rfl) hDn) hS
    have x0 : w9.cell? ⟨w.heap.size + 1, 0, none⟩ = some (.int .u64 p.num) := (HX4.out.ca hT).cell 0
    have fx : w9.frozen? ⟨w.heap.size + 1, 0, none⟩ = false := (HX4.out.ca hT).frozen 0
    refine ⟨w9.setCell ⟨w.heap.size + 1, 0, none⟩ (.int .u64 (sent + 1)), ?_, Seq3.set2 (by decide) (by decide) (reach_no hSh (f := 10) (j := 9) (by kernel_rfl) hDn) ⟨w9, hT, hv, rfl⟩⟩
    clear hv
    go_simp
  try simp only [Act.put]
  refine Ps.step (i := 8) (d := some 30) (u := ?uwq_9) rfl rfl (by kernel_rfl) (by kernel_rfl) (by kernel_rfl) (by kernel_rfl) ?ywq_9 ?rwq_9
  case ywq_9 =>
    refine StepS.pure (Seq3.pass (by decide) (by decide) (by decide)) (by rfl) (fun w9 => ?_)
    go_simp
    try rfl
  try simp only [Act.put, List.setIfInBounds_toArray, List.set_cons_zero, List.set_cons_succ]
  refine Ps.step (i := 9) (d := none) (u := undef) rfl rfl (by kernel_rfl) (by kernel_rfl) (by kernel_rfl) (by kernel_rfl) ?ywq_10 ?rwq_10
  case ywq_10 =>
    refine StepS.store [5, 7] (by kernel_rfl) (by rfl) (fun L9 m9 w9 hSh hAt hDn hS => ?_)
    obtain ⟨w5, hT, ⟨A4, c4, hv, ho⟩, rfl⟩ := Seq3.at3 (hAt 7 (by simp)).1 hDn hS
    have hv' : v5 = .slice A4 pn c4 := (hAt 5 (by simp)).2.symm.trans hv
    subst hv'
    have hX5 := (HX4.out.ca hT).set_ 0 (.int .u64 (sent + 1))
    have x3 : (w5.setCell ⟨w.heap.size + 1, 0, none⟩ (.int .u64 (sent + 1))).cell? ⟨w.heap.size + 1, 3, none⟩ = some (.slice pA pn pc) := hX5.cell 3
    have fx : (w5.setCell ⟨w.heap.size + 1, 0, none⟩ (.int .u64 (sent + 1))).frozen? ⟨w.heap.size + 1, 3, none⟩ = false := hX5.frozen 3
    refine ⟨_, ?_, Seq3.set3 (by decide) (by decide) ⟨w5, A4, c4, hT, hv, ho, rfl⟩⟩
    clear hv hX5
    go_simp
  try simp only [Act.put]
  refine Ps.done (by kernel_rfl) (fun wq hS => ?_) _
  have hF := Seq3.fin (by rfl) hS
  clear hS
  obtain ⟨w5, A4, c4, hT, hv, ho, rfl⟩ := hF
  have hv' : v5 = .slice A4 pn c4 := hv
  subst hv'
  clear hv

  have hX6 : Blk ((w5.setCell ⟨w.heap.size + 1, 0, none⟩ (.int .u64 (sent + 1))).setCell ⟨w.heap.size + 1, 3, none⟩ (.slice A4 pn c4)) (w.heap.size + 1) 29 #[.int .u64 (sent + 1), .int .i64 p.frm, .int .i64 p.to, .slice A4 pn c4, .bool p.sp] := by simpa using ((HX4.out.ca hT).set_ 0 (.int .u64 (sent + 1))).set_ 3 (.slice A4 pn c4)
  have hg6 : w5.grownBy ((w5.setCell ⟨w.heap.size + 1, 0, none⟩ (.int .u64 (sent + 1))).setCell ⟨w.heap.size + 1, 3, none⟩ (.slice A4 pn c4)) (some (w.heap.size + 1)) := only_setCell (p := ⟨w.heap.size + 1, 3, none⟩) (only_setCell (p := ⟨w.heap.size + 1, 0, none⟩) (World.grownBy.refl _ _) (.inl rfl) _) (.inl rfl) _
  have HN6 := Lib.hid ((HN4.out.ca hT).apart hg6 (by omega))
  have HR6 := Lib.hid ((HR4.out.ca hT).apart hg6 (by omega))
  have HO6 := Lib.hid (ho.kept hg6 (fun e => by have := (ho.base_ _ e).1; omega))
  have HD6 := Lib.hid ((HD4.out.below hT).kept hg6 (by omega))
  have HB6 := Lib.hid (bl_gr (bl_ca HB4.out hT) hg6 (by omega))
  have hs6 : w4.heap.size ≤ ((w5.setCell ⟨w.heap.size + 1, 0, none⟩ (.int .u64 (sent + 1))).setCell ⟨w.heap.size + 1, 3, none⟩ (.slice A4 pn c4)).heap.size := Nat.le_trans hT.size hg6.size
  have HX6 := Lib.hid hX6
  clear hT ho hg6 hX6 HN4 HR4 HX4 HP4 HB4
  generalize (w5.setCell ⟨w.heap.size + 1, 0, none⟩ (.int .u64 (sent + 1))).setCell ⟨w.heap.size + 1, 3, none⟩ (.slice A4 pn c4) = w6 at *
  have n1 : w6.cell? ⟨w.heap.size, 1, none⟩ = some (.slice A2 m c2) := HN6.out.cell 1
  have x0 : w6.cell? ⟨w.heap.size + 1, 0, none⟩ = some (.int .u64 (sent + 1)) := HX6.out.cell 0
  have x1 : w6.cell? ⟨w.heap.size + 1, 1, none⟩ = some (.int .i64 p.frm) := HX6.out.cell 1
  have x2 : w6.cell? ⟨w.heap.size + 1, 2, none⟩ = some (.int .i64 p.to) := HX6.out.cell 2
  have x3 : w6.cell? ⟨w.heap.size + 1, 3, none⟩ = some (.slice A4 pn c4) := HX6.out.cell 3
  have x4 : w6.cell? ⟨w.heap.size + 1, 4, none⟩ = some (.bool p.sp) := HX6.out.cell 4
  have T7 := bl_al (Below.refl w6.heap.size w6) (.cells #[.int .u64 (sent + 1), .int .i64 p.frm, .int .i64 p.to, .slice A4 pn c4, .bool p.sp] 29)
  go_wp2_with (at_builtin; refine wpList_appE rfl (.tmp 32) (.tmp 34) rfl (w.heap.size + 3) A2 m c2 es _ 1 1 [⟨added sent p, A4, pn, c4⟩] rfl rfl (HD6.out.below T7).row (reads_blk (vs := #[.int .u64 (sent + 1), .int .i64 p.frm, .int .i64 p.to, .slice A4 pn c4, .bool p.sp]) (Blk.mk' rfl) rfl rfl) (by omega) (Nat.le_trans (Nat.le_trans hB4 hs6) T7.size) ?_; intro A8 c8 w8 o8 b8 k8; have HN8 := (HN6.out.ca T7).below b8 (by omega); have y1 : w8.cell? ⟨w.heap.size, 1, none⟩ = some (.slice A2 m c2) := HN8.cell 1; have fy : w8.frozen? ⟨w.heap.size, 1, none⟩ = false := HN8.frozen 1)
  have hg9 : w8.grownBy (w8.setCell ⟨w.heap.size, 1, none⟩ (.slice A8 (m + 1) c8)) (some w.heap.size) := only_setCell (World.grownBy.refl _ _) (.inl rfl) _
  have HD9 := Lib.hid (DO.push (e2 := ⟨added sent p, A4, pn, c4⟩) HD4.out (HD6.out.below T7) (HO6.out.below T7) hB4 o8 k8 hg9 (by omega))
  have HN9 := Lib.hid (show Blk (w8.setCell ⟨w.heap.size, 1, none⟩ (.slice A8 (m + 1) c8)) w.heap.size 26 #[.int .u64 (sent + 1), .slice A8 (m + 1) c8] from by simpa using HN8.set_ 1 (.slice A8 (m + 1) c8))
  have HR9 := Lib.hid (((HR6.out.ca T7).below b8 (by omega)).apart hg9 (by omega))
  have HB9 := Lib.hid (bl_gr ((bl_ca HB6.out T7).trans (b8.mono (by omega))) hg9 (Nat.le_refl _))
  clear HN8 HX6 HR6 HO6 HD6 HB6 n1 x0 x1 x2 x3 x4 T7 o8 b8 k8 y1 fy hg9 HD4
  generalize w8.setCell ⟨w.heap.size, 1, none⟩ (.slice A8 (m + 1) c8) = w9a at *

  refine wp_region_ps (S := Seq1 3 (fun _ w' => Below w9a.heap.size w9a w') (fun _ w' => ∃ w6, Below w9a.heap.size w9a w6 ∧ Blk w' (w.heap.size + 2) 26 #[.int .u64 (sent + 1), .slice A8 (m + 1) c8] ∧ w6.grownBy w' (some (w.heap.size + 2)))) (by kernel_rfl) ?spswr ?ppswr
  case spswr =>
    exact Seq1.start (by decide) (Below.refl _ _).drew
  refine Ps.step (i := 0) (d := some 37) (u := ?uwr_11) rfl rfl (by kernel_rfl) (by kernel_rfl) (by kernel_rfl) (by kernel_rfl) ?ywr_11 ?rwr_11
  case ywr_11 =>
    refine StepS.read [] (by kernel_rfl) (Seq1.pass (by decide)) (by rfl) (fun L9 m9 w9 hSh hAt hDn hS => ?_)
    have hT : Blk w9 w.heap.size 26 #[.int .u64 (sent + 1), .slice A8 (m + 1) c8] := Seq1.any (T := fun w9 => Blk w9 w.heap.size 26 #[.int .u64 (sent + 1), .slice A8 (m + 1) c8]) (fun _ _ h => HN9.out.ca h) (fun _ _ ⟨_, h1, _, h3⟩ => (HN9.out.ca h1).apart h3 (by omega)) hS
    have x0 : w9.cell? ⟨w.heap.size, 0, none⟩ = some (.int .u64 (sent + 1)) := hT.cell 0
    have x1 : w9.cell? ⟨w.heap.size, 1, none⟩ = some (.slice A8 (m + 1) c8) := hT.cell 1
    clear hT hS
    go_simp
    try rfl
  try simp only [Act.put, List.setIfInBounds_toArray, List.set_cons_zero, List.set_cons_succ]
  refine Ps.step (i := 1) (d := some 38) (u := ?uwr_12) rfl rfl (by kernel_rfl) (by kernel_rfl) (by kernel_rfl) (by kernel_rfl) ?ywr_12 ?rwr_12
  case ywr_12 =>
    refine StepS.pure (Seq1.pass (by decide)) (by rfl) (fun w9 => ?_)
    go_simp
    try rfl
  try simp only [Act.put, List.setIfInBounds_toArray, List.set_cons_zero, List.set_cons_succ]
  refine Ps.step (i := 2) (d := some 39) (u := ?uwr_13) rfl rfl (by kernel_rfl) (by kernel_rfl) (by kernel_rfl) (by kernel_rfl) ?ywr_13 ?rwr_13
  case ywr_13 =>
    refine StepS.read [] (by kernel_rfl) (Seq1.pass (by decide)) (by rfl) (fun L9 m9 w9 hSh hAt hDn hS => ?_)
    have hT : Blk w9 w.heap.size 26 #[.int .u64 (sent + 1), .slice A8 (m + 1) c8] := Seq1.any (T := fun w9 => Blk w9 w.heap.size 26 #[.int .u64 (sent + 1), .slice A8 (m + 1) c8]) (fun _ _ h => HN9.out.ca h) (fun _ _ ⟨_, h1, _, h3⟩ => (HN9.out.ca h1).apart h3 (by omega)) hS
    have x0 : w9.cell? ⟨w.heap.size, 0, none⟩ = some (.int .u64 (sent + 1)) := hT.cell 0
    clear hT hS
    go_simp
    try rfl
  try simp only [Act.put, List.setIfInBounds_toArray, List.set_cons_zero, List.set_cons_succ]
  refine Ps.step (i := 3) (d := none) (u := undef) rfl rfl (by kernel_rfl) (by kernel_rfl) (by kernel_rfl) (by kernel_rfl) ?ywr_14 ?rwr_14
  case ywr_14 =>
    refine StepS.store [] (by kernel_rfl) (by rfl) (fun L9 m9 w9 hSh hAt hDn hS => ?_)
    have hT := Seq1.at1 hDn hS
    refine (exec_store_blk (w := w9) 26 (.tmp 4) (.tmp 37) (by rfl) (w.heap.size + 2) 26 #[.int .u64 0, .slice none 0 0] #[.int .u64 (sent + 1), .slice A8 (m + 1) c8] (by rfl) (by rfl) (HR9.out.ca hT) rfl netI (by simp [Value.oneCell'])).imp fun w7 hx => ⟨hx.1, Seq1.set1 ⟨w9, hT, hx.2.1, hx.2.2⟩⟩
  try simp only [Act.put]
  refine Ps.step (i := 4) (d := some 5) (u := ?uwr_15) rfl rfl (by kernel_rfl) (by kernel_rfl) (by kernel_rfl) (by kernel_rfl) ?ywr_15 ?rwr_15
  case ywr_15 =>
    refine StepS.pure (Seq1.pass (by decide)) (by rfl) (fun w9 => ?_)
    go_simp
    try rfl
  try simp only [Act.put, List.setIfInBounds_toArray, List.set_cons_zero, List.set_cons_succ]
  refine Ps.step (i := 5) (d := some 6) (u := ?uwr_16) rfl rfl (by kernel_rfl) (by kernel_rfl) (by kernel_rfl) (by kernel_rfl) ?ywr_16 ?rwr_16
  case ywr_16 =>
    refine StepS.pure (Seq1.pass (by decide)) (by rfl) (fun w9 => ?_)
    go_simp
    try rfl
  try simp only [Act.put, List.setIfInBounds_toArray, List.set_cons_zero, List.set_cons_succ]
  refine Ps.done (by kernel_rfl) (fun wr hS => ?_) _
  obtain ⟨w6, hT, hZ, gz⟩ := Seq1.fin (by rfl) hS
  clear hS
  go_wp2
  exact bodyPost_ret (res3 Try.results46 rfl rfl rfl hZ Try.underlying26 rfl netI) rfl ⟨A8, m + 1, c8, rfl, (show OutN _ _ _ _ _ _ from ⟨_, ((HD9.out.below hT).kept gz (by omega)).less (by omega), by rw [List.map_append, HES.out]; rfl⟩), bl_gr (bl_ca HB9.out hT) gz (by omega)⟩
theorem rwith_any (sent : Int) (A : Option Addr) (m c : Nat) (ps : List PC) (p : PC) (pA : Option Addr) (pn pc : Nat) (w : World) (h : LP.rd w AllB A m ps) (hm : m ≤ 20000) (hb : ∀ p ∈ ps, p.bs.length ≤ 100000) (hp : RdB w pA pn p.bs) (hpn : pn ≤ 100000) (hs0 : 0 ≤ sent) (hs : sent ≤ 1099511627776) :
    Calls Try.prog 46 #[.agg #[.int .u64 sent, .slice A m c], .agg #[.int .u64 p.num, .int .i64 p.frm, .int .i64 p.to, .slice pA pn pc, .bool p.sp]] w (WithC w (withR sent ps p) (addE sent ps)) := by
  have hl := h.1
  unfold withR addE
  cases hf : fullB sent ps
  · unfold fullB at hf
    simp only [Bool.or_eq_false_iff, decide_eq_false_iff_not] at hf
    exact rwith_adds sent A m c ps p pA pn pc w h (by omega) hb hp hpn hs0 (by omega)
  · unfold fullB at hf
    simp only [Bool.or_eq_true, decide_eq_true_eq] at hf
    exact rwith_full sent A m c p pA pn pc w (by omega)
end Go.Proofs.Ytnbcffnhgijmcaa
