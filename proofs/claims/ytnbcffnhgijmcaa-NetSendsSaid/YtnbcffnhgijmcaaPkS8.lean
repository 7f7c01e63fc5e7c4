/- net.Come, whole. Conditions: the slice reads as these parcels. -/
import Derived.Test.YtnbcffnhgijmcaaPkS7
namespace Go.Proofs.Ytnbcffnhgijmcaa
open Go.RowKit
theorem resNP {P : Program} {fn : Func} {p q r : Tmp} {ty tz : TypeId} (h : fn.results = #[.cell p ty, .cell q tz, .tmp r]) {tmps : Array Value} {w : World} {g g' : Nat} {t t' : TypeId} {cs cs' : Array Value} {d d' : TypeDesc} {u : Value}
    (hp : tmps.getD p undef = .pointer (some ⟨g, 0, none⟩)) (hq : tmps.getD q undef = .pointer (some ⟨g', 0, none⟩)) (hr : tmps.getD r undef = u) (hg : Blk w g t cs) (hg' : Blk w g' t' cs') (hu : P.underlying ty = some d) (hu' : P.underlying tz = some d') (hd : (match d with | .struct _ | .array _ _ => true | _ => false) = true) (hd' : (match d' with | .struct _ | .array _ _ => true | _ => false) = true) (hi : (P.info? ty).map (·.size) = some cs.size) (hi' : (P.info? tz).map (·.size) = some cs'.size) :
    (results fn tmps).run P w = .ok (.tuple #[.agg cs, .agg cs', u]) w := by
  have hp' : tmps[p]?.getD undef = .pointer (some ⟨g, 0, none⟩) := by simpa using hp
  have hq' : tmps[q]?.getD undef = .pointer (some ⟨g', 0, none⟩) := by simpa using hq
  have hr' : tmps[r]?.getD undef = u := by simpa using hr
  simp [results, h, hp', hq', hr', asAddr, run_loadVar_row w g t ty cs (0, 0) d hg hu hd hi, run_loadVar_row w g' t' tz cs' (0, 0) d' hg' hu' hd' hi']
theorem comeR_z {sent : Int} {ps : List PC} {x : Int} (h : comeE sent ps x ≠ 0) : (comeR sent ps x).1 = 0 ∧ (comeR sent ps x).2 = [] := by unfold comeR; rw [if_neg h]; exact ⟨rfl, rfl⟩
theorem come_on (sent : Int) (A : Option Addr) (m c : Nat) (ps : List PC) (x : Int) (w : World) (g : Nat) (h : LP.rd w AllB A m ps) (hm : m ≤ 9223372036854775807) (hg : Blk w g 29 #[.int .u64 0, .int .i64 0, .int .i64 0, .slice none 0 0, .bool false]) :
    Calls Try.prog 47 #[.agg #[.int .u64 sent, .slice A m c], .int .u64 x, .func (.func 53) #[] #[.pointer (some ⟨g, 0, none⟩)]] w fun e w' => ∃ A2 m2 c2, e = .returned (.tuple #[.agg #[.int .u64 (comeR sent ps x).1, .slice A2 m2 c2], .int .i64 (comeE sent ps x)]) ∧ (∃ es, DO w' w.heap.size A2 m2 c2 es ∧ es.map El.p = (comeR sent ps x).2 ∧ (comeE sent ps x = 0 → ComeZ g w' es)) ∧ ComeK w g (w.heap.size + 6) (comeP sent ps x) w' := by
  have hgl := hg.lt
  cases hc : chkB sent ps
  · have e1 : comeE sent ps x = 340 := by unfold comeE; rw [hc]; rfl
    have e2 : comeR sent ps x = (0, []) := by unfold comeR; rw [e1]; rfl
    have e3 : comeP sent ps x = zeroPC := by unfold comeP; rw [e1]; rfl
    rw [e1, e2, e3]
    exact (on_no sent A m c ps x _ _ w h hm hc).mono fun _ _ ⟨a, b⟩ => ⟨none, 0, 0, a, ⟨[], DO.nil _ _, rfl, fun h => by cases h⟩, ComeK.no hg b⟩
  · cases hh : hasB ps x
    · have e1 : comeE sent ps x = 4 := by unfold comeE; rw [hc, if_pos rfl, hh]; rfl
      have e2 : comeR sent ps x = (0, []) := by unfold comeR; rw [e1]; rfl
      have e3 : comeP sent ps x = zeroPC := by unfold comeP; rw [e1]; rfl
      rw [e1, e2, e3]
      exact on_any sent A m c ps x _ _ 4 0 [] (ComeK w g (w.heap.size + 6) zeroPC) (ComeZ g) w h hc (Go.Proofs.enters_of Try.func53 (by kernel_rfl) rfl) (fun w1 w2 r hr hr2 hk hgr => hk.grown hgr hr hgl hr2) (fun w1 w2 r es hr _ hz hgr => hz.grown hgr (by omega)) (fun _ => ⟨rfl, rfl⟩) (fun _ => ⟨rfl, fun w' q => ComeK.no hg q⟩) (fun W i q hsz hb hlow hh2 => by rw [hh] at hh2; cases hh2)
    · have e1 : comeE sent ps x = 0 := by unfold comeE; rw [hc, if_pos rfl, hh]; rfl
      have e2 : comeR sent ps x = (sent, ps.take (ixP ps x) ++ ps.drop (ixP ps x + 1)) := by unfold comeR; rw [e1, if_pos rfl]
      have e3 : comeP sent ps x = getP ps x := by unfold comeP; rw [e1, if_pos rfl]
      rw [e1, e2, e3]
      exact on_any sent A m c ps x _ _ 0 sent _ (ComeK w g (w.heap.size + 6) (getP ps x)) (ComeZ g) w h hc (Go.Proofs.enters_of Try.func53 (by kernel_rfl) rfl) (fun w1 w2 r hr hr2 hk hgr => hk.grown hgr hr hgl hr2) (fun w1 w2 r es hr _ hz hgr => hz.grown hgr (by omega)) (fun h => absurd rfl h) (fun hh2 => by rw [hh] at hh2; cases hh2) (fun W i q hsz hb hlow hh2 => come1_doc sent m ps x W w g i hc h.1 hlow hh2 hgl q hsz.symm (hg.ca q) hb)
set_option maxRecDepth 100000 in
set_option maxHeartbeats 8000000 in
theorem come_any (sent : Int) (A : Option Addr) (m c : Nat) (ps : List PC) (x : Int) (w : World) (h : LP.rd w AllB A m ps) (hm : m ≤ 9223372036854775807) :
    Calls Try.prog 19 #[.agg #[.int .u64 sent, .slice A m c], .int .u64 x] w fun e w' => ∃ A2 m2 c2 pA pn pc es, e = .returned (.tuple #[.agg #[.int .u64 (comeR sent ps x).1, .slice A2 m2 c2], .agg #[.int .u64 (comeP sent ps x).num, .int .i64 (comeP sent ps x).frm, .int .i64 (comeP sent ps x).to, .slice pA pn pc, .bool (comeP sent ps x).sp], .int .i64 (comeE sent ps x)]) ∧
      DO w' w.heap.size A2 m2 c2 es ∧ es.map El.p = (comeR sent ps x).2 ∧ OwnB w' w.heap.size pA pn pc (comeP sent ps x).bs ∧ (∀ y ∈ es, ∀ k, (Value.slice pA pn pc).ownBlock = some k → y.bk ≠ some k) ∧ Below w.heap.size w w' := by
  have HW := Lib.hid (fun W g h hg => come_on sent A m c ps x W g h hm hg)
  have hne : comeE sent ps x ≠ 0 → (comeR sent ps x).2 = [] := fun h => (comeR_z h).2
  generalize comeR sent ps x = R at *
  generalize comeP sent ps x = P at *
  generalize comeE sent ps x = E at *
  obtain ⟨s, l⟩ := R
  have HH := Lib.hid h
  have HNE := Lib.hid hne
  clear h hne
  have bb := Below.refl w.heap.size w
  have bN := Blk.new w 26 #[.int .u64 sent, .slice A m c]
  replace bb := bl_al bb (.cells #[.int .u64 sent, .slice A m c] 26)
  replace bN := bN.ca (bl_al (Below.refl _ _) (.cells #[.int .u64 0, .slice none 0 0] 26))
  have bR : Blk ((w.alloc (.cells #[.int .u64 sent, .slice A m c] 26)).alloc (.cells #[.int .u64 0, .slice none 0 0] 26)) (w.heap.size + 1) 26 #[.int .u64 0, .slice none 0 0] := Blk.mk' (by simp only [World.size_alloc])
  replace bb := bl_al bb (.cells #[.int .u64 0, .slice none 0 0] 26)
  replace bN := bN.ca (bl_al (Below.refl _ _) (.cells #[.int .u64 0, .int .i64 0, .int .i64 0, .slice none 0 0, .bool false] 29))
  replace bR := bR.ca (bl_al (Below.refl _ _) (.cells #[.int .u64 0, .int .i64 0, .int .i64 0, .slice none 0 0, .bool false] 29))
  have bQ : Blk (((w.alloc (.cells #[.int .u64 sent, .slice A m c] 26)).alloc (.cells #[.int .u64 0, .slice none 0 0] 26)).alloc (.cells #[.int .u64 0, .int .i64 0, .int .i64 0, .slice none 0 0, .bool false] 29)) (w.heap.size + 2) 29 #[.int .u64 0, .int .i64 0, .int .i64 0, .slice none 0 0, .bool false] := Blk.mk' (by simp only [World.size_alloc])
  replace bb := bl_al bb (.cells #[.int .u64 0, .int .i64 0, .int .i64 0, .slice none 0 0, .bool false] 29)
  replace bN := bN.ca (bl_al (Below.refl _ _) (.cells #[.int .u64 0, .int .i64 0, .int .i64 0, .slice none 0 0, .bool false] 29))
  replace bR := bR.ca (bl_al (Below.refl _ _) (.cells #[.int .u64 0, .int .i64 0, .int .i64 0, .slice none 0 0, .bool false] 29))
  replace bQ := bQ.ca (bl_al (Below.refl _ _) (.cells #[.int .u64 0, .int .i64 0, .int .i64 0, .slice none 0 0, .bool false] 29))
  have bP : Blk ((((w.alloc (.cells #[.int .u64 sent, .slice A m c] 26)).alloc (.cells #[.int .u64 0, .slice none 0 0] 26)).alloc (.cells #[.int .u64 0, .int .i64 0, .int .i64 0, .slice none 0 0, .bool false] 29)).alloc (.cells #[.int .u64 0, .int .i64 0, .int .i64 0, .slice none 0 0, .bool false] 29)) (w.heap.size + 3) 29 #[.int .u64 0, .int .i64 0, .int .i64 0, .slice none 0 0, .bool false] := Blk.mk' (by simp only [World.size_alloc])
  replace bb := bl_al bb (.cells #[.int .u64 0, .int .i64 0, .int .i64 0, .slice none 0 0, .bool false] 29)
  have hsz : w.heap.size + 4 ≤ ((((w.alloc (.cells #[.int .u64 sent, .slice A m c] 26)).alloc (.cells #[.int .u64 0, .slice none 0 0] 26)).alloc (.cells #[.int .u64 0, .int .i64 0, .int .i64 0, .slice none 0 0, .bool false] 29)).alloc (.cells #[.int .u64 0, .int .i64 0, .int .i64 0, .slice none 0 0, .bool false] 29)).heap.size := by simp only [World.size_alloc]; omega
  go_enter Try.func19, Try.ntmps19
  go_wp2_with fail
  generalize ((((w.alloc (.cells #[.int .u64 sent, .slice A m c] 26)).alloc (.cells #[.int .u64 0, .slice none 0 0] 26)).alloc (.cells #[.int .u64 0, .int .i64 0, .int .i64 0, .slice none 0 0, .bool false] 29)).alloc (.cells #[.int .u64 0, .int .i64 0, .int .i64 0, .slice none 0 0, .bool false] 29)) = w1 at *
  refine (HW.out w1 _ (Lay.rd_below HH.out bb) bP).mono ?_
  rintro e w2 ⟨A2, m2, c2, rfl, ⟨es, hd, hes, hz⟩, ⟨⟨pA, pn, pc, hpb, hpo⟩, hk⟩⟩
  have hl := Lib.hid hk
  have hk1 := hk.block
  have hR2 : Blk w2 (w.heap.size + 1) 26 #[.int .u64 0, .slice none 0 0] := (hk1 _ (by omega) (by omega)).trans bR
  have hQ2 : Blk w2 (w.heap.size + 2) 29 #[.int .u64 0, .int .i64 0, .int .i64 0, .slice none 0 0, .bool false] := (hk1 _ (by omega) (by omega)).trans bQ
  have KR := Lib.hid (hR2.ca (bl_al (Below.refl _ _) (.cells #[.int .u64 s, .slice A2 m2 c2] 26)))
  have KQ := Lib.hid (hQ2.ca (bl_al (Below.refl _ _) (.cells #[.int .u64 s, .slice A2 m2 c2] 26)))
  have HP := Lib.hid (hpb.ca (bl_al (Below.refl _ _) (.cells #[.int .u64 s, .slice A2 m2 c2] 26)))
  have HM := Lib.hid (Blk.new w2 26 #[.int .u64 s, .slice A2 m2 c2])
  have HD := Lib.hid (hd.below (bl_al (Below.refl _ _) (.cells #[.int .u64 s, .slice A2 m2 c2] 26)))
  have HO := Lib.hid (hpo.below (bl_al (Below.refl _ _) (.cells #[.int .u64 s, .slice A2 m2 c2] 26)))
  have HES := Lib.hid hes
  have HZ := Lib.hid (show ∀ y ∈ es, ∀ k, (Value.slice pA pn pc).ownBlock = some k → y.bk ≠ some k from by
    by_cases h0 : E = 0
    · exact (hz h0).2 _ _ _ _ hpb rfl
    · have h1 := HNE.out h0
      rw [← hes] at h1
      have h2 : es = [] := List.map_eq_nil_iff.1 h1
      subst h2
      simp)
  have hz2 := hk.size
  have HBB := Lib.hid (bl_al (hk.below bb (by omega) (by omega)) (.cells #[.int .u64 s, .slice A2 m2 c2] 26))
  clear hk hk1 hR2 hQ2 hpb hd hpo hes hz bN bR bQ bP bb
  go_wp2_with fail
  obtain ⟨g11, hg11⟩ : ∃ g, g = w2.heap.size := ⟨_, rfl⟩
  have hg12 : w.heap.size + 4 ≤ g11 := by omega
  rw [← hg11] at HM
  generalize w2.heap.size = G2 at *
  subst hg11
  generalize w2.alloc (.cells #[.int .u64 s, .slice A2 m2 c2] 26) = w5 at *
  refine wp_region_ps (S := SeqT 3 4 (fun _ w' => Below w5.heap.size w5 w') (fun _ w' => ∃ w6, Below w5.heap.size w5 w6 ∧ Blk w' (w.heap.size + 1) 26 #[.int .u64 s, .slice A2 m2 c2] ∧ w6.grownBy w' (some (w.heap.size + 1))) (fun _ w' => ∃ w6 w7, Below w5.heap.size w5 w6 ∧ w6.grownBy w7 (some (w.heap.size + 1)) ∧ Blk w7 (w.heap.size + 1) 26 #[.int .u64 s, .slice A2 m2 c2] ∧ w7.grownBy w' (some (w.heap.size + 2)) ∧ Blk w' (w.heap.size + 2) 29 #[.int .u64 P.num, .int .i64 P.frm, .int .i64 P.to, .slice pA pn pc, .bool P.sp])) (by kernel_rfl) ?spswq ?ppswq
  case spswq =>
    exact SeqT.start (by decide) (by decide) (Below.refl _ _).drew
  refine Ps.step (i := 0) (d := some 17) (u := ?uwq_1) rfl rfl (by kernel_rfl) (by kernel_rfl) (by kernel_rfl) (by kernel_rfl) ?ywq_1 ?rwq_1
  case ywq_1 =>
    refine StepS.read [] (by kernel_rfl) (SeqT.pass (by decide) (by decide)) (by rfl) (fun L9 m9 w9 hSh hAt hDn hS => ?_)
    have hT : Blk w9 g11 26 #[.int .u64 s, .slice A2 m2 c2] := SeqT.any (T := fun w9 => Blk w9 g11 26 #[.int .u64 s, .slice A2 m2 c2]) (fun _ _ h => HM.out.ca h) (fun _ _ ⟨_, h1, _, h3⟩ => (HM.out.ca h1).apart h3 (by omega)) (fun _ _ ⟨_, _, h1, h2, _, h3, _⟩ => ((HM.out.ca h1).apart h2 (by omega)).apart h3 (by omega)) hS
    have x0 : w9.cell? ⟨g11, 0, none⟩ = some (.int .u64 s) := hT.cell 0
    have x1 : w9.cell? ⟨g11, 1, none⟩ = some (.slice A2 m2 c2) := hT.cell 1
    clear hT hS
    go_simp
    try rfl
  try simp only [Act.put, List.setIfInBounds_toArray, List.set_cons_zero, List.set_cons_succ]
  refine Ps.step (i := 1) (d := some 18) (u := ?uwq_2) rfl rfl (by kernel_rfl) (by kernel_rfl) (by kernel_rfl) (by kernel_rfl) ?ywq_2 ?rwq_2
  case ywq_2 =>
    refine StepS.read [] (by kernel_rfl) (SeqT.pass (by decide) (by decide)) (by rfl) (fun L9 m9 w9 hSh hAt hDn hS => ?_)
    have hT : Blk w9 (w.heap.size + 3) 29 #[.int .u64 P.num, .int .i64 P.frm, .int .i64 P.to, .slice pA pn pc, .bool P.sp] := SeqT.any (T := fun w9 => Blk w9 (w.heap.size + 3) 29 #[.int .u64 P.num, .int .i64 P.frm, .int .i64 P.to, .slice pA pn pc, .bool P.sp]) (fun _ _ h => HP.out.ca h) (fun _ _ ⟨_, h1, _, h3⟩ => (HP.out.ca h1).apart h3 (by omega)) (fun _ _ ⟨_, _, h1, h2, _, h3, _⟩ => ((HP.out.ca h1).apart h2 (by omega)).apart h3 (by omega)) hS
    have x0 : w9.cell? ⟨w.heap.size + 3, 0, none⟩ = some (.int .u64 P.num) := hT.cell 0
    have x1 : w9.cell? ⟨w.heap.size + 3, 1, none⟩ = some (.int .i64 P.frm) := hT.cell 1
    have x2 : w9.cell? ⟨w.heap.size + 3, 2, none⟩ = some (.int .i64 P.to) := hT.cell 2
    have x3 : w9.cell? ⟨w.heap.size + 3, 3, none⟩ = some (.slice pA pn pc) := hT.cell 3
    have x4 : w9.cell? ⟨w.heap.size + 3, 4, none⟩ = some (.bool P.sp) := hT.cell 4
    clear hT hS
    go_simp
    try rfl
  try simp only [Act.put, List.setIfInBounds_toArray, List.set_cons_zero, List.set_cons_succ]
  refine Ps.step (i := 2) (d := some 19) (u := ?uwq_3) rfl rfl (by kernel_rfl) (by kernel_rfl) (by kernel_rfl) (by kernel_rfl) ?ywq_3 ?rwq_3
  case ywq_3 =>
    refine StepS.pure (SeqT.pass (by decide) (by decide)) (by rfl) (fun w9 => ?_)
    go_simp
    try rfl
  try simp only [Act.put, List.setIfInBounds_toArray, List.set_cons_zero, List.set_cons_succ]
  refine Ps.step (i := 3) (d := none) (u := undef) rfl rfl (by kernel_rfl) (by kernel_rfl) (by kernel_rfl) (by kernel_rfl) ?ywq_4 ?rwq_4
  case ywq_4 =>
    refine StepS.store [] (by kernel_rfl) (by rfl) (fun L9 m9 w9 hSh hAt hDn hS => ?_)
    have hT := SeqT.at1 hDn (reach_no hSh (f := 6) (j := 4) (by kernel_rfl) hDn) hS
    refine (exec_store_blk (w := w9) 26 (.tmp 4) (.tmp 17) (by rfl) (w.heap.size + 1) 26 #[.int .u64 0, .slice none 0 0] #[.int .u64 s, .slice A2 m2 c2] (by rfl) (by rfl) (KR.out.ca hT) rfl netI (by simp [Value.oneCell'])).imp fun w7 hx => ⟨hx.1, SeqT.set1 (by decide) (reach_no hSh (f := 6) (j := 4) (by kernel_rfl) hDn) ⟨w9, hT, hx.2.1, hx.2.2⟩⟩
  try simp only [Act.put]
  refine Ps.step (i := 4) (d := none) (u := undef) rfl rfl (by kernel_rfl) (by kernel_rfl) (by kernel_rfl) (by kernel_rfl) ?ywq_5 ?rwq_5
  case ywq_5 =>
    refine StepS.store [3] (by kernel_rfl) (by rfl) (fun L9 m9 w9 hSh hAt hDn hS => ?_)
    obtain ⟨w6, hT, hB, hg⟩ := SeqT.at2 (hAt 3 (by simp)).1 hDn hS
    refine (exec_store_blk (w := w9) 29 (.tmp 5) (.tmp 18) (by rfl) (w.heap.size + 2) 29 #[.int .u64 0, .int .i64 0, .int .i64 0, .slice none 0 0, .bool false] #[.int .u64 P.num, .int .i64 P.frm, .int .i64 P.to, .slice pA pn pc, .bool P.sp] (by rfl) (by rfl) ((KQ.out.ca hT).apart hg (by omega)) rfl parcelI (by simp [Value.oneCell'])).imp fun w7 hx => ⟨hx.1, SeqT.set2 (by decide) ⟨w6, w9, hT, hg, hB, hx.2.2, hx.2.1⟩⟩
  try simp only [Act.put]
  refine Ps.step (i := 5) (d := some 6) (u := ?uwq_6) rfl rfl (by kernel_rfl) (by kernel_rfl) (by kernel_rfl) (by kernel_rfl) ?ywq_6 ?rwq_6
  case ywq_6 =>
    refine StepS.pure (SeqT.pass (by decide) (by decide)) (by rfl) (fun w9 => ?_)
    go_simp
    try rfl
  try simp only [Act.put, List.setIfInBounds_toArray, List.set_cons_zero, List.set_cons_succ]
  refine Ps.done (by kernel_rfl) (fun wq hS => ?_) _
  obtain ⟨w6, w7, hT, hg6, hB6, hg7, hB7⟩ := SeqT.fin (by rfl) hS
  clear hS
  have hBB := hB6.apart hg7 (by omega)
  go_wp2
  exact bodyPost_ret (resNP Try.results19 rfl rfl rfl hBB hB7 Try.underlying26 Try.underlying29 rfl rfl netI parcelI) rfl ⟨A2, m2, c2, pA, pn, pc, es, rfl, (((HD.out.below hT).kept hg6 (by omega)).kept hg7 (by omega)).less (by omega), HES.out, OwnB.less (((HO.out.below hT).kept hg6 (fun e => by have := (HO.out.base_ _ e).1; omega)).kept hg7 (fun e => by have := (HO.out.base_ _ e).1; omega)) (by omega), HZ.out, bl_gr (bl_gr (bl_ca HBB.out hT) hg6 (by omega)) hg7 (by omega)⟩
end Go.Proofs.Ytnbcffnhgijmcaa
/- net.Lose, net.Pick. Conditions: the slice reads as these parcels. -/
namespace Go.Proofs.Ytnbcffnhgijmcaa
open Go.RowKit
set_option maxRecDepth 100000 in
set_option maxHeartbeats 8000000 in
theorem lose_any (sent : Int) (A : Option Addr) (m c : Nat) (ps : List PC) (x : Int) (w : World) (h : LP.rd w AllB A m ps) (hm : m ≤ 9223372036854775807) :
    Calls Try.prog 21 #[.agg #[.int .u64 sent, .slice A m c], .int .u64 x] w fun e w' => ∃ A2 m2 c2, e = .returned (.tuple #[.agg #[.int .u64 (comeR sent ps x).1, .slice A2 m2 c2], .int .i64 (comeE sent ps x)]) ∧ OutN w' w.heap.size A2 m2 c2 (comeR sent ps x).2 ∧ Below w.heap.size w w' := by
  have HW := Lib.hid (fun W h => come_any sent A m c ps x W h hm)
  generalize comeR sent ps x = R at *
  generalize comeP sent ps x = P at *
  generalize comeE sent ps x = E at *
  obtain ⟨s, l⟩ := R
  have HH := Lib.hid h
  clear h
  have bb := Below.refl w.heap.size w
  have bN := Blk.new w 26 #[.int .u64 sent, .slice A m c]
  replace bb := bl_al bb (.cells #[.int .u64 sent, .slice A m c] 26)
  replace bN := bN.ca (bl_al (Below.refl _ _) (.cells #[.int .u64 0, .slice none 0 0] 26))
  have bR : Blk ((w.alloc (.cells #[.int .u64 sent, .slice A m c] 26)).alloc (.cells #[.int .u64 0, .slice none 0 0] 26)) (w.heap.size + 1) 26 #[.int .u64 0, .slice none 0 0] := Blk.mk' (by simp only [World.size_alloc])
  replace bb := bl_al bb (.cells #[.int .u64 0, .slice none 0 0] 26)
  have hsz : w.heap.size + 2 ≤ ((w.alloc (.cells #[.int .u64 sent, .slice A m c] 26)).alloc (.cells #[.int .u64 0, .slice none 0 0] 26)).heap.size := by simp only [World.size_alloc]; omega
  go_enter Try.func21, Try.ntmps21
  go_wp2_with fail
  generalize ((w.alloc (.cells #[.int .u64 sent, .slice A m c] 26)).alloc (.cells #[.int .u64 0, .slice none 0 0] 26)) = w1 at *
  refine (HW.out w1 (Lay.rd_below HH.out bb)).mono ?_
  rintro e w2 ⟨A2, m2, c2, pA, pn, pc, es, rfl, hd, hes, _, _, hb2⟩
  have q1 := bl_al (bl_al (Below.refl w2.heap.size w2) (.cells #[.int .u64 s, .slice A2 m2 c2] 26)) (.cells #[.int .u64 P.num, .int .i64 P.frm, .int .i64 P.to, .slice pA pn pc, .bool P.sp] 29)
  have KR := Lib.hid ((bR.ca hb2).ca q1)
  have HD := Lib.hid (hd.below q1)
  have HES := Lib.hid hes
  have HB := Lib.hid (bl_ca (bl_ca bb hb2) q1)
  have hz2 := hb2.size
  clear bR bN bb hb2 hd hes q1
  go_wp2_with (refine wpList_store_blk rfl 26 (.tmp 4) (.tmp 16) rfl (w.heap.size + 1) 26 _ _ rfl rfl KR.out rfl netI (by simp [Value.oneCell']) ?_; intro wz hZ gz)
  exact bodyPost_ret (res2 Try.results21 rfl rfl hZ Try.underlying26 rfl netI) rfl ⟨A2, m2, c2, rfl, ⟨es, (HD.out.kept gz (by omega)).less (by omega), HES.out⟩, bl_gr HB.out gz (by omega)⟩
end Go.Proofs.Ytnbcffnhgijmcaa
/- bowspritref24.Copy. Conditions: the slice reads as these parcels. -/
namespace Go.Proofs.Ytnbcffnhgijmcaa
open Go.RowKit
set_option maxRecDepth 100000 in
set_option maxHeartbeats 8000000 in
theorem rcopy_any (sent : Int) (A : Option Addr) (m c : Nat) (ps : List PC) (w : World) (h : LP.rd w AllB A m ps) (hm : m ≤ 50000) (hb : ∀ p ∈ ps, p.bs.length ≤ 100000) :
    Calls Try.prog 25 #[.agg #[.int .u64 sent, .slice A m c]] w fun e w' => ∃ A2 c2, e = .returned (.agg #[.int .u64 sent, .slice A2 m c2]) ∧ OutN w' w.heap.size A2 m c2 ps ∧ Below w.heap.size w w' := by
  have HL := Lib.hid h.1
  have HPB := Lib.hid hb
  clear hb
  have bb := Below.refl w.heap.size w
  have bN := Blk.new w 26 #[.int .u64 sent, .slice A m c]
  replace bb := bl_al bb (.cells #[.int .u64 sent, .slice A m c] 26)
  replace bN := bN.ca (bl_al (Below.refl _ _) (.cells #[.int .u64 0, .slice none 0 0] 26))
  have bR : Blk ((w.alloc (.cells #[.int .u64 sent, .slice A m c] 26)).alloc (.cells #[.int .u64 0, .slice none 0 0] 26)) (w.heap.size + 1) 26 #[.int .u64 0, .slice none 0 0] := Blk.mk' (by simp only [World.size_alloc])
  replace bb := bl_al bb (.cells #[.int .u64 0, .slice none 0 0] 26)
  have hsz : w.heap.size + 2 ≤ ((w.alloc (.cells #[.int .u64 sent, .slice A m c] 26)).alloc (.cells #[.int .u64 0, .slice none 0 0] 26)).heap.size := by simp only [World.size_alloc]; omega
  have n1 : ((w.alloc (.cells #[.int .u64 sent, .slice A m c] 26)).alloc (.cells #[.int .u64 0, .slice none 0 0] 26)).cell? ⟨w.heap.size, 1, none⟩ = some (.slice A m c) := bN.cell 1
  go_enter Try.func25, Try.ntmps25
  go_wp2_with fail
  clear n1
  generalize ((w.alloc (.cells #[.int .u64 sent, .slice A m c] 26)).alloc (.cells #[.int .u64 0, .slice none 0 0] 26)) = w1 at *
  go_loopg [3, 9] m (fun g a b wr => ∃ i A2 c2 es, i + g = m ∧ a = .slice A2 i c2 ∧ b = .int .i64 i ∧ DO wr (w.heap.size + 2) A2 i c2 es ∧ es.map El.p = ps.take i ∧ Blk wr w.heap.size 26 #[.int .u64 sent, .slice A m c] ∧ Blk wr (w.heap.size + 1) 26 #[.int .u64 0, .slice none 0 0] ∧ w.heap.size + 2 ≤ wr.heap.size ∧ Below w.heap.size w wr)
  case atStart => exact ⟨0, none, 0, [], by omega, rfl, rfl, DO.nil _ _, rfl, bN, bR, hsz, bb⟩
  case round =>
    clear bN bR bb hsz
    obtain ⟨i, A2, c2, es, hig, rfl, rfl, hD, hes, bN, bR, hsz, bb⟩ := hrel
    have HD := Lib.hid hD
    have HES := Lib.hid hes
    have HN := Lib.hid bN
    have HR := Lib.hid bR
    have HBB := Lib.hid bb
    clear hD hes bN bR
    by_cases hlt : i < m
    · have hi1 : (i : Int) < (m : Int) := by omega
      obtain ⟨p, q, B, n', c', rfl, hx, s1⟩ := LP_at (Lay.rd_below h bb) hlt
      have e0 := s1.c0
      have e1 := s1.c1
      have e2 := s1.c2
      have e3 := s1.c3
      have e4 := s1.c4
      have HX := Lib.hid hx
      have HRB := Lib.hid s1.rb
      have hn' : n' ≤ 100000 := by have := HPB.out q (List.mem_of_getElem? hx); have := s1.len; omega
      clear hx s1 bb
      go_wp2_with (first
        | (refine wpList_store_blk rfl 29 (.tmp 5) (.tmp 12) rfl wr.heap.size 29 _ _ rfl rfl (Blk.new _ _ _) rfl parcelI (by simp [Value.oneCell']) ?_; intro wz hZ gz; have hz1 : wr.heap.size + 1 ≤ wz.heap.size := by { have := gz.size; simp only [World.size_alloc] at this; omega }; have x3 : (wz.alloc (.cells #[] 5)).cell? ⟨wr.heap.size, 3, none⟩ = some (.slice B n' c') := (hZ.ca (bl_al (Below.refl _ _) _)).cell 3; have T1 := bl_al (bl_gr (bl_al (Below.refl wr.heap.size wr) _) gz (Nat.le_refl _)) (.cells #[] 5))
        | (at_builtin; refine wpList_appB rfl (.tmp 13) (.tmp 15) rfl wz.heap.size (some ⟨wz.heap.size, 0, none⟩) 0 0 [] B n' c' q.bs rfl rfl (OwnB.empty _) (HRB.out.below T1) (by omega) (by simp only [World.size_alloc]; omega) ?_; intro A4 c4 w4 o4 b4; rw [Nat.zero_add, List.nil_append] at o4; have hX4 := (hZ.ca (bl_al (Below.refl _ _) (.cells #[] 5))).below b4 hZ.lt; have f3 : w4.frozen? ⟨wr.heap.size, 3, none⟩ = false := hX4.frozen 3; have z3 : w4.cell? ⟨wr.heap.size, 3, none⟩ = some (.slice B n' c') := hX4.cell 3; have hX5 : Blk (w4.setCell ⟨wr.heap.size, 3, none⟩ (.slice A4 n' c4)) wr.heap.size 29 #[.int .u64 q.num, .int .i64 q.frm, .int .i64 q.to, .slice A4 n' c4, .bool q.sp] := (by simpa using hX4.set_ 3 (.slice A4 n' c4)); have y0 : (w4.setCell ⟨wr.heap.size, 3, none⟩ (.slice A4 n' c4)).cell? ⟨wr.heap.size, 0, none⟩ = some (.int .u64 q.num) := hX5.cell 0; have y1 : (w4.setCell ⟨wr.heap.size, 3, none⟩ (.slice A4 n' c4)).cell? ⟨wr.heap.size, 1, none⟩ = some (.int .i64 q.frm) := hX5.cell 1; have y2 : (w4.setCell ⟨wr.heap.size, 3, none⟩ (.slice A4 n' c4)).cell? ⟨wr.heap.size, 2, none⟩ = some (.int .i64 q.to) := hX5.cell 2; have y3 : (w4.setCell ⟨wr.heap.size, 3, none⟩ (.slice A4 n' c4)).cell? ⟨wr.heap.size, 3, none⟩ = some ((.slice A4 n' c4)) := hX5.cell 3; have y4 : (w4.setCell ⟨wr.heap.size, 3, none⟩ (.slice A4 n' c4)).cell? ⟨wr.heap.size, 4, none⟩ = some (.bool q.sp) := hX5.cell 4; have hb6 : Blk ((w4.setCell ⟨wr.heap.size, 3, none⟩ (.slice A4 n' c4)).alloc (.cells #[.int .u64 q.num, .int .i64 q.frm, .int .i64 q.to, .slice A4 n' c4, .bool q.sp] 29)) w4.heap.size 29 #[.int .u64 q.num, .int .i64 q.frm, .int .i64 q.to, .slice A4 n' c4, .bool q.sp] := Blk.mk' (by simp); have T5 := bl_al (bl_set (T1.trans (b4.mono (by omega))) (p := ⟨wr.heap.size, 3, none⟩) (Nat.le_refl _) (.slice A4 n' c4)) (.cells #[.int .u64 q.num, .int .i64 q.frm, .int .i64 q.to, .slice A4 n' c4, .bool q.sp] 29); have ho5 : OwnB ((w4.setCell ⟨wr.heap.size, 3, none⟩ (.slice A4 n' c4)).alloc (.cells #[.int .u64 q.num, .int .i64 q.frm, .int .i64 q.to, .slice A4 n' c4, .bool q.sp] 29)) wr.heap.size A4 n' c4 q.bs := ((o4.kept (only_setCell (p := ⟨wr.heap.size, 3, none⟩) (World.grownBy.refl _ _) (.inl rfl) _) (fun e => by have := (o4.base_ wr.heap.size e).1; omega)).below (bl_al (Below.refl _ _) (.cells #[.int .u64 q.num, .int .i64 q.frm, .int .i64 q.to, .slice A4 n' c4, .bool q.sp] 29))).less (by omega))
        | (at_builtin; go_loud (refine wpList_appE rfl (.tmp 18) (.tmp 20) rfl (w.heap.size + 2) A2 i c2 es _ 1 1 [⟨q, A4, n', c4⟩] rfl rfl (HD.out.below T5).row (reads_blk hb6 rfl rfl) (by omega) (Nat.le_trans hsz T5.size) ?_; intro A8 c8 w8 o8 b8 k8)))
      go_roundg (gk - 1)
      · exact ⟨i + 1, A8, c8, es ++ [⟨q, A4, n', c4⟩], by omega, rfl, by go_num, DO.push (e2 := ⟨q, A4, n', c4⟩) HD.out (HD.out.below T5) ho5 hsz o8 k8 (World.grownBy.refl _ (some w.heap.size)) (by omega), by rw [List.map_append, HES.out, List.take_add_one, HX.out]; rfl, (HN.out.ca T5).below b8 (by omega), (HR.out.ca T5).below b8 (by omega), Nat.le_trans (Nat.le_trans hsz T5.size) b8.size, (bl_ca HBB.out T5).trans (b8.mono (by omega))⟩
      · omega
    · obtain rfl : i = m := by omega
      have hi1 : (i : Int) ≤ (i : Int) := by omega
      have z1 : wr.cell? ⟨w.heap.size, 1, none⟩ = some (.slice A i c) := HN.out.cell 1
      have f1 : wr.frozen? ⟨w.heap.size, 1, none⟩ = false := HN.out.frozen 1
      have gn : wr.grownBy (wr.setCell ⟨w.heap.size, 1, none⟩ (.slice A2 i c2)) (some w.heap.size) := only_setCell (World.grownBy.refl _ _) (.inl rfl) _
      have hN2 : Blk (wr.setCell ⟨w.heap.size, 1, none⟩ (.slice A2 i c2)) w.heap.size 26 #[.int .u64 sent, .slice A2 i c2] := by simpa using HN.out.set_ 1 (.slice A2 i c2)
      have y0 : (wr.setCell ⟨w.heap.size, 1, none⟩ (.slice A2 i c2)).cell? ⟨w.heap.size, 0, none⟩ = some (.int .u64 sent) := hN2.cell 0
      have y1 : (wr.setCell ⟨w.heap.size, 1, none⟩ (.slice A2 i c2)).cell? ⟨w.heap.size, 1, none⟩ = some (.slice A2 i c2) := hN2.cell 1
      have hR2 := HR.out.apart gn (by omega)
      clear bb
      go_wp2_with (refine wpList_store_blk rfl 26 (.tmp 2) (.tmp 25) rfl (w.heap.size + 1) 26 _ _ rfl rfl hR2 rfl netI (by simp [Value.oneCell']) ?_; intro wz hZ gz)
      exact bodyPost_ret (res1 Try.results25 rfl hZ Try.underlying26 rfl netI) rfl ⟨A2, c2, rfl, ⟨es, DO.less ((HD.out.kept gn (by omega)).kept gz (by omega)) (by omega), by rw [HES.out, List.take_of_length_le (by rw [HL.out]; exact Nat.le_refl _)]⟩, bl_gr (bl_gr HBB.out gn (Nat.le_refl _)) gz (by omega)⟩
end Go.Proofs.Ytnbcffnhgijmcaa
/- bowspritref24.SameParcel, bowspritref24.find. Conditions: the bytes read as these. -/
namespace Go.Proofs.Ytnbcffnhgijmcaa
open Go.RowKit
def sameP (a b : PC) : Bool := a.num == b.num && (a.frm == b.frm && (a.to == b.to && (a.sp == b.sp && a.bs == b.bs)))
theorem sameP_iff {a b : PC} : sameP a b = true ↔ a = b := by
  obtain ⟨a1, a2, a3, a4, a5⟩ := a
  obtain ⟨b1, b2, b3, b4, b5⟩ := b
  simp only [sameP, Bool.and_eq_true, beq_iff_eq, PC.mk.injEq]
  constructor
  · rintro ⟨h1, h2, h3, h4, h5⟩; exact ⟨h1, h2, h3, h5, h4⟩
  · rintro ⟨h1, h2, h3, h5, h4⟩; exact ⟨h1, h2, h3, h4, h5⟩
instance : DecidableEq PC := fun _ _ => decidable_of_iff _ sameP_iff
set_option maxRecDepth 100000 in
set_option maxHeartbeats 4000000 in
theorem rsamep_any (a b : PC) (A : Option Addr) (n c : Nat) (B : Option Addr) (m d : Nat) (w : World) (ha : RdB w A n a.bs) (hb : RdB w B m b.bs) :
    Calls Try.prog 24 #[.agg #[.int .u64 a.num, .int .i64 a.frm, .int .i64 a.to, .slice A n c, .bool a.sp], .agg #[.int .u64 b.num, .int .i64 b.frm, .int .i64 b.to, .slice B m d, .bool b.sp]] w fun e w' => e = .returned (.bool (sameP a b)) ∧ Below w.heap.size w w' := by
  obtain ⟨r, hr⟩ : ∃ r, r = sameP a b := ⟨_, rfl⟩
  rw [← hr]
  have HR := Lib.hid hr
  clear hr
  have bb := Below.refl w.heap.size w
  have bA := Blk.new w 29 #[.int .u64 a.num, .int .i64 a.frm, .int .i64 a.to, .slice A n c, .bool a.sp]
  replace bb := bl_al bb (.cells #[.int .u64 a.num, .int .i64 a.frm, .int .i64 a.to, .slice A n c, .bool a.sp] 29)
  replace bA := bA.ca (bl_al (Below.refl _ _) (.cells #[.int .u64 b.num, .int .i64 b.frm, .int .i64 b.to, .slice B m d, .bool b.sp] 29))
  have bB : Blk ((w.alloc (.cells #[.int .u64 a.num, .int .i64 a.frm, .int .i64 a.to, .slice A n c, .bool a.sp] 29)).alloc (.cells #[.int .u64 b.num, .int .i64 b.frm, .int .i64 b.to, .slice B m d, .bool b.sp] 29)) (w.heap.size + 1) 29 #[.int .u64 b.num, .int .i64 b.frm, .int .i64 b.to, .slice B m d, .bool b.sp] := Blk.mk' (by simp only [World.size_alloc])
  replace bb := bl_al bb (.cells #[.int .u64 b.num, .int .i64 b.frm, .int .i64 b.to, .slice B m d, .bool b.sp] 29)
  have hsz : w.heap.size + 2 ≤ ((w.alloc (.cells #[.int .u64 a.num, .int .i64 a.frm, .int .i64 a.to, .slice A n c, .bool a.sp] 29)).alloc (.cells #[.int .u64 b.num, .int .i64 b.frm, .int .i64 b.to, .slice B m d, .bool b.sp] 29)).heap.size := by simp only [World.size_alloc]; omega
  have h1 := (ha.below bb).str c
  have h2 := (hb.below bb).str d
  clear ha hb
  have HBB := Lib.hid bb
  have x0 : ((w.alloc (.cells #[.int .u64 a.num, .int .i64 a.frm, .int .i64 a.to, .slice A n c, .bool a.sp] 29)).alloc (.cells #[.int .u64 b.num, .int .i64 b.frm, .int .i64 b.to, .slice B m d, .bool b.sp] 29)).cell? ⟨w.heap.size, 0, none⟩ = some (.int .u64 a.num) := bA.cell 0
  have x1 : ((w.alloc (.cells #[.int .u64 a.num, .int .i64 a.frm, .int .i64 a.to, .slice A n c, .bool a.sp] 29)).alloc (.cells #[.int .u64 b.num, .int .i64 b.frm, .int .i64 b.to, .slice B m d, .bool b.sp] 29)).cell? ⟨w.heap.size, 1, none⟩ = some (.int .i64 a.frm) := bA.cell 1
  have x2 : ((w.alloc (.cells #[.int .u64 a.num, .int .i64 a.frm, .int .i64 a.to, .slice A n c, .bool a.sp] 29)).alloc (.cells #[.int .u64 b.num, .int .i64 b.frm, .int .i64 b.to, .slice B m d, .bool b.sp] 29)).cell? ⟨w.heap.size, 2, none⟩ = some (.int .i64 a.to) := bA.cell 2
  have x3 : ((w.alloc (.cells #[.int .u64 a.num, .int .i64 a.frm, .int .i64 a.to, .slice A n c, .bool a.sp] 29)).alloc (.cells #[.int .u64 b.num, .int .i64 b.frm, .int .i64 b.to, .slice B m d, .bool b.sp] 29)).cell? ⟨w.heap.size, 3, none⟩ = some (.slice A n c) := bA.cell 3
  have x4 : ((w.alloc (.cells #[.int .u64 a.num, .int .i64 a.frm, .int .i64 a.to, .slice A n c, .bool a.sp] 29)).alloc (.cells #[.int .u64 b.num, .int .i64 b.frm, .int .i64 b.to, .slice B m d, .bool b.sp] 29)).cell? ⟨w.heap.size, 4, none⟩ = some (.bool a.sp) := bA.cell 4
  have y0 : ((w.alloc (.cells #[.int .u64 a.num, .int .i64 a.frm, .int .i64 a.to, .slice A n c, .bool a.sp] 29)).alloc (.cells #[.int .u64 b.num, .int .i64 b.frm, .int .i64 b.to, .slice B m d, .bool b.sp] 29)).cell? ⟨w.heap.size + 1, 0, none⟩ = some (.int .u64 b.num) := bB.cell 0
  have y1 : ((w.alloc (.cells #[.int .u64 a.num, .int .i64 a.frm, .int .i64 a.to, .slice A n c, .bool a.sp] 29)).alloc (.cells #[.int .u64 b.num, .int .i64 b.frm, .int .i64 b.to, .slice B m d, .bool b.sp] 29)).cell? ⟨w.heap.size + 1, 1, none⟩ = some (.int .i64 b.frm) := bB.cell 1
  have y2 : ((w.alloc (.cells #[.int .u64 a.num, .int .i64 a.frm, .int .i64 a.to, .slice A n c, .bool a.sp] 29)).alloc (.cells #[.int .u64 b.num, .int .i64 b.frm, .int .i64 b.to, .slice B m d, .bool b.sp] 29)).cell? ⟨w.heap.size + 1, 2, none⟩ = some (.int .i64 b.to) := bB.cell 2
  have y3 : ((w.alloc (.cells #[.int .u64 a.num, .int .i64 a.frm, .int .i64 a.to, .slice A n c, .bool a.sp] 29)).alloc (.cells #[.int .u64 b.num, .int .i64 b.frm, .int .i64 b.to, .slice B m d, .bool b.sp] 29)).cell? ⟨w.heap.size + 1, 3, none⟩ = some (.slice B m d) := bB.cell 3
  have y4 : ((w.alloc (.cells #[.int .u64 a.num, .int .i64 a.frm, .int .i64 a.to, .slice A n c, .bool a.sp] 29)).alloc (.cells #[.int .u64 b.num, .int .i64 b.frm, .int .i64 b.to, .slice B m d, .bool b.sp] 29)).cell? ⟨w.heap.size + 1, 4, none⟩ = some (.bool b.sp) := bB.cell 4
  clear bA bB bb hsz
  go_enter Try.func24, Try.ntmps24
  cases d0 : (a.num == b.num)
  · skip
    go_wp2
    go_ret
    exact ⟨ret_bool (by rw [HR.out]; unfold sameP; rw [d0]; simp), HBB.out⟩
  · skip
    cases d1 : (a.frm == b.frm)
    · skip
      go_wp2
      go_ret
      exact ⟨ret_bool (by rw [HR.out]; unfold sameP; rw [d0, d1]; simp), HBB.out⟩
    · skip
      cases d2 : (a.to == b.to)
      · skip
        go_wp2
        go_ret
        exact ⟨ret_bool (by rw [HR.out]; unfold sameP; rw [d0, d1, d2]; simp), HBB.out⟩
      · skip
        cases d3 : (a.sp == b.sp)
        · skip
          go_wp2
          go_ret
          exact ⟨ret_bool (by rw [HR.out]; unfold sameP; rw [d0, d1, d2, d3]; simp), HBB.out⟩
        · skip
          go_wp2
          go_ret
          exact ⟨ret_bool (by rw [HR.out]; unfold sameP; rw [d0, d1, d2, d3]; simp), HBB.out⟩
/-- where the parcel of a number is; -1: nowhere -/
def findI (ps : List PC) (x : Int) : Int := if hasB ps x then (ixP ps x : Int) else -1
theorem findI_at {ps : List PC} {x : Int} {i : Nat} {p : PC} (hp : ps[i]? = some p) (hx : p.num = x) (hlo : ∀ (k : Nat) (q : PC), k < i → ps[k]? = some q → q.num ≠ x) : findI ps x = i := by
  obtain ⟨hl, he⟩ := List.getElem?_eq_some_iff.1 hp
  have h1 : hasB ps x = true := List.any_eq_true.2 ⟨p, List.mem_of_getElem? hp, by simpa using hx⟩
  have h2 : ixP ps x = i := (List.findIdx_eq (p := fun p : PC => decide (p.num = x)) hl).2 ⟨by rw [he]; simpa using hx, fun j hj => by
    have := hlo j ps[j] hj (List.getElem?_eq_getElem (by omega))
    simpa using this⟩
  unfold findI
  rw [h1, h2]; rfl
theorem findI_no {ps : List PC} {x : Int} (hlo : ∀ (k : Nat) (q : PC), k < ps.length → ps[k]? = some q → q.num ≠ x) : findI ps x = -1 := by
  have h1 : hasB ps x = false := List.any_eq_false.2 fun p hp => by
    obtain ⟨k, hk⟩ := List.mem_iff_getElem?.1 hp
    have := hlo k p (List.getElem?_eq_some_iff.1 hk).1 hk
    simpa using this
  unfold findI
  rw [h1]; rfl
set_option maxRecDepth 100000 in
set_option maxHeartbeats 4000000 in
theorem rfind_any (sent : Int) (A : Option Addr) (m c : Nat) (ps : List PC) (x : Int) (w : World) (h : LP.rd w AllB A m ps) (hm : m ≤ 9223372036854775807) :
    Calls Try.prog 49 #[.agg #[.int .u64 sent, .slice A m c], .int .u64 x] w fun e w' => e = .returned (.int .i64 (findI ps x)) ∧ Below w.heap.size w w' := by
  have HL := Lib.hid h.1
  have bb := Below.refl w.heap.size w
  have bN := Blk.new w 26 #[.int .u64 sent, .slice A m c]
  replace bb := bl_al bb (.cells #[.int .u64 sent, .slice A m c] 26)
  have hsz : w.heap.size + 1 ≤ (w.alloc (.cells #[.int .u64 sent, .slice A m c] 26)).heap.size := by simp only [World.size_alloc]; omega
  have n1 : (w.alloc (.cells #[.int .u64 sent, .slice A m c] 26)).cell? ⟨w.heap.size, 1, none⟩ = some (.slice A m c) := bN.cell 1
  go_enter Try.func49, Try.ntmps49
  go_wp2_with fail
  clear n1 bN hsz
  generalize (w.alloc (.cells #[.int .u64 sent, .slice A m c] 26)) = w1 at *
  go_loopg [10] m (fun g a wr => ∃ i : Nat, i + g = m ∧ a = .int .i64 i ∧ (∀ (k : Nat) (q : PC), k < i → ps[k]? = some q → q.num ≠ x) ∧ Below w.heap.size w wr)
  case atStart => exact ⟨0, by omega, rfl, fun k q hk => by omega, bb⟩
  case round =>
    clear bb
    obtain ⟨i, hig, rfl, hlo, bb⟩ := hrel
    have HLO := Lib.hid hlo
    have HBB := Lib.hid bb
    clear hlo
    by_cases hlt : i < m
    · have hi1 : (i : Int) < (m : Int) := by omega
      obtain ⟨p, q, B, n', c', rfl, hx, s1⟩ := LP_at (Lay.rd_below h bb) hlt
      have e0 := s1.c0
      have e1 := s1.c1
      have e2 := s1.c2
      have e3 := s1.c3
      have e4 := s1.c4
      have HX := Lib.hid hx
      clear hx s1 bb
      by_cases hq : q.num = x
      · have d1 : (q.num == x) = true := by simpa using hq
        have HF := Lib.hid (findI_at HX.out hq HLO.out)
        clear hq
        go_wp2_with (refine wpList_store_blk rfl 29 (.tmp 6) (.tmp 14) rfl wr.heap.size 29 _ _ rfl rfl (Blk.new _ _ _) rfl parcelI (by simp [Value.oneCell']) ?_; intro wz hZ gz; have x0 : wz.cell? ⟨wr.heap.size, 0, none⟩ = some (.int .u64 q.num) := hZ.cell 0; have T1 := Lib.hid (bl_gr (bl_al HBB.out _) gz HBB.out.size))
        go_ret
        exact ⟨ret_int (by rw [HF.out]), T1.out⟩
      · have d1 : (q.num == x) = false := by simpa using hq
        have HF := Lib.hid (show ∀ (k : Nat) (r : PC), k < i + 1 → ps[k]? = some r → r.num ≠ x from fun k r hk hr => by
          rcases Nat.lt_or_ge k i with h1 | h1
          · exact HLO.out k r h1 hr
          · obtain rfl : k = i := by omega
            have h2 := HX.out
            rw [hr] at h2
            injection h2 with h2
            subst h2
            exact hq)
        clear hq
        go_wp2_with (refine wpList_store_blk rfl 29 (.tmp 6) (.tmp 14) rfl wr.heap.size 29 _ _ rfl rfl (Blk.new _ _ _) rfl parcelI (by simp [Value.oneCell']) ?_; intro wz hZ gz; have x0 : wz.cell? ⟨wr.heap.size, 0, none⟩ = some (.int .u64 q.num) := hZ.cell 0; have T1 := Lib.hid (bl_gr (bl_al HBB.out _) gz HBB.out.size))
        go_roundg (gk - 1)
        · exact ⟨i + 1, by omega, by go_num, HF.out, T1.out⟩
        · omega
    · obtain rfl : i = m := by omega
      have hi1 : (i : Int) ≤ (i : Int) := by omega
      have HF := Lib.hid (findI_no (fun k q hk => HLO.out k q (by rw [← HL.out]; exact hk)))
      clear bb
      go_wp2
      go_ret
      exact ⟨ret_int (by rw [HF.out]), HBB.out⟩
end Go.Proofs.Ytnbcffnhgijmcaa
/- bowspritref24.Same. Conditions: the slices read as these parcels. -/
namespace Go.Proofs.Ytnbcffnhgijmcaa
open Go.RowKit
theorem cell_ca {w w' : World} {p : Addr} {v : Value} (h : w.cell? p = some v) (hl : p.block < w.heap.size) (q : Below w.heap.size w w') : w'.cell? p = some v := (cell_of_heap (q.block p.block hl)).trans h
set_option maxRecDepth 100000 in
set_option maxHeartbeats 8000000 in
theorem rsame_any (s : Int) (A : Option Addr) (m c : Nat) (ps : List PC) (t : Int) (B : Option Addr) (l d : Nat) (qs : List PC) (w : World) (h : LP.rd w AllB A m ps) (k : LP.rd w AllB B l qs) (hm : m ≤ 9223372036854775807) :
    Calls Try.prog 15 #[.agg #[.int .u64 s, .slice A m c], .agg #[.int .u64 t, .slice B l d]] w fun e w' => e = .returned (.bool (decide (s = t ∧ ps = qs))) ∧ Below w.heap.size w w' := by
  have HL := Lib.hid h.1
  have HK := Lib.hid k.1
  obtain ⟨r, hr⟩ : ∃ r, r = decide (s = t ∧ ps = qs) := ⟨_, rfl⟩
  rw [← hr]
  have HR := Lib.hid hr
  clear hr
  have bb := Below.refl w.heap.size w
  have bN := Blk.new w 26 #[.int .u64 s, .slice A m c]
  replace bb := bl_al bb (.cells #[.int .u64 s, .slice A m c] 26)
  replace bN := bN.ca (bl_al (Below.refl _ _) (.cells #[.int .u64 t, .slice B l d] 26))
  have bM : Blk ((w.alloc (.cells #[.int .u64 s, .slice A m c] 26)).alloc (.cells #[.int .u64 t, .slice B l d] 26)) (w.heap.size + 1) 26 #[.int .u64 t, .slice B l d] := Blk.mk' (by simp only [World.size_alloc])
  replace bb := bl_al bb (.cells #[.int .u64 t, .slice B l d] 26)
  have hsz : w.heap.size + 2 ≤ ((w.alloc (.cells #[.int .u64 s, .slice A m c] 26)).alloc (.cells #[.int .u64 t, .slice B l d] 26)).heap.size := by simp only [World.size_alloc]; omega
  have n0 : ((w.alloc (.cells #[.int .u64 s, .slice A m c] 26)).alloc (.cells #[.int .u64 t, .slice B l d] 26)).cell? ⟨w.heap.size, 0, none⟩ = some (.int .u64 s) := bN.cell 0
  have n1 : ((w.alloc (.cells #[.int .u64 s, .slice A m c] 26)).alloc (.cells #[.int .u64 t, .slice B l d] 26)).cell? ⟨w.heap.size, 1, none⟩ = some (.slice A m c) := bN.cell 1
  have n2 : ((w.alloc (.cells #[.int .u64 s, .slice A m c] 26)).alloc (.cells #[.int .u64 t, .slice B l d] 26)).cell? ⟨w.heap.size + 1, 0, none⟩ = some (.int .u64 t) := bM.cell 0
  have n3 : ((w.alloc (.cells #[.int .u64 s, .slice A m c] 26)).alloc (.cells #[.int .u64 t, .slice B l d] 26)).cell? ⟨w.heap.size + 1, 1, none⟩ = some (.slice B l d) := bM.cell 1
  have HBB := Lib.hid bb
  by_cases hst : s = t
  case neg =>
    have d1 : (s != t) = true := by simpa using hst
    clear h k bN bM bb
    go_enter Try.func15, Try.ntmps15
    go_wp2
    go_ret
    exact ⟨ret_bool (by rw [HR.out, decide_eq_false (fun e => hst e.1)]), HBB.out⟩
  have d1 : (s != t) = false := by simpa using hst
  have HST := Lib.hid hst
  clear hst
  by_cases hml : m = l
  case neg =>
    have d2 : ((m : Int) != (l : Int)) = true := by simp; omega
    have HML := Lib.hid hml
    clear hml
    clear h k bN bM bb
    go_enter Try.func15, Try.ntmps15
    go_wp2
    go_ret
    exact ⟨ret_bool (by rw [HR.out, decide_eq_false (fun e => HML.out (by rw [← HL.out, ← HK.out, e.2]))]), HBB.out⟩
  subst hml
  have d2 : ((m : Int) != (m : Int)) = false := by simp
  go_enter Try.func15, Try.ntmps15
  go_wp2_with fail
  clear n0 n1 n2 n3 d1 d2 hsz HBB
  generalize ((w.alloc (.cells #[.int .u64 s, .slice A m c] 26)).alloc (.cells #[.int .u64 t, .slice B m d] 26)) = w1 at *
  go_loopg [23] m (fun g a wr => ∃ i : Nat, i + g = m ∧ a = .int .i64 i ∧ ps.take i = qs.take i ∧ Blk wr w.heap.size 26 #[.int .u64 s, .slice A m c] ∧ Blk wr (w.heap.size + 1) 26 #[.int .u64 t, .slice B m d] ∧ Below w.heap.size w wr)
  case atStart => exact ⟨0, by omega, rfl, rfl, bN, bM, bb⟩
  case round =>
    clear bb bN bM
    obtain ⟨i, hig, rfl, heq, bN, bM, bb⟩ := hrel
    have HE := Lib.hid heq
    have HBB := Lib.hid bb
    have HN := Lib.hid bN
    have HM := Lib.hid bM
    clear heq bN bM
    by_cases hlt : i < m
    · have hi1 : (i : Int) < (m : Int) := by omega
      obtain ⟨p, q, B', n', c', rfl, hx, s1⟩ := LP_at (Lay.rd_below h bb) hlt
      obtain ⟨p2, q2, B2, n2, c2, rfl, hx2, s2⟩ := LP_at (Lay.rd_below k bb) hlt
      have e0 := s1.c0
      have e1 := s1.c1
      have e2 := s1.c2
      have e3 := s1.c3
      have e4 := s1.c4
      have el := s1.lt
      have f0 := s2.c0
      have f1 := s2.c1
      have f2 := s2.c2
      have f3 := s2.c3
      have f4 := s2.c4
      have fl := s2.lt
      have HRB := Lib.hid s1.rb
      have HRB2 := Lib.hid s2.rb
      have HX := Lib.hid hx
      have HX2 := Lib.hid hx2
      clear hx hx2 s1 s2 bb
      go_wp2_with fail
      refine wp_region_ps (S := fun _ _ w' => Below wr.heap.size wr w') (by kernel_rfl) ?spswq ?ppswq
      case spswq =>
        exact (Below.refl _ _).drew
      refine Ps.step (i := 0) (d := some 26) (u := ?uwq_1) rfl rfl (by kernel_rfl) (by kernel_rfl) (by kernel_rfl) (by kernel_rfl) ?ywq_1 ?rwq_1
      case ywq_1 =>
        refine StepS.pure (fun _ _ _ h => h) (by rfl) (fun w9 => ?_)
        go_simp
        try rfl
      try simp only [Act.put, List.setIfInBounds_toArray, List.set_cons_zero, List.set_cons_succ]
      refine Ps.step (i := 1) (d := some 27) (u := ?uwq_2) rfl rfl (by kernel_rfl) (by kernel_rfl) (by kernel_rfl) (by kernel_rfl) ?ywq_2 ?rwq_2
      case ywq_2 =>
        refine StepS.read [] (by kernel_rfl) (fun _ _ _ h => h) (by rfl) (fun L9 m9 w9 hSh hAt hDn hS => ?_)
        have hT : Below wr.heap.size wr w9 := hS
        have n1 : w9.cell? ⟨w.heap.size, 1, none⟩ = some (.slice (some p) m c) := (HN.out.ca hT).cell 1
        go_simp
        try rfl
      try simp only [Act.put, List.setIfInBounds_toArray, List.set_cons_zero, List.set_cons_succ]
      refine Ps.step (i := 2) (d := some 28) (u := ?uwq_3) rfl rfl (by kernel_rfl) (by kernel_rfl) (by kernel_rfl) (by kernel_rfl) ?ywq_3 ?rwq_3
      case ywq_3 =>
        refine StepS.pure (fun _ _ _ h => h) (by rfl) (fun w9 => ?_)
        go_simp
        try rfl
      try simp only [Act.put, List.setIfInBounds_toArray, List.set_cons_zero, List.set_cons_succ]
      refine Ps.step (i := 3) (d := some 29) (u := ?uwq_4) rfl rfl (by kernel_rfl) (by kernel_rfl) (by kernel_rfl) (by kernel_rfl) ?ywq_4 ?rwq_4
      case ywq_4 =>
        refine StepS.pure (fun _ _ _ h => h) (by rfl) (fun w9 => ?_)
        go_simp
        try rfl
      try simp only [Act.put, List.setIfInBounds_toArray, List.set_cons_zero, List.set_cons_succ]
      refine Ps.step (i := 4) (d := some 30) (u := ?uwq_5) rfl rfl (by kernel_rfl) (by kernel_rfl) (by kernel_rfl) (by kernel_rfl) ?ywq_5 ?rwq_5
      case ywq_5 =>
        refine StepS.read [] (by kernel_rfl) (fun _ _ _ h => h) (by rfl) (fun L9 m9 w9 hSh hAt hDn hS => ?_)
        have hT : Below wr.heap.size wr w9 := hS
        have ke0 : w9.cell? (p.add (i * 5)) = some (.int .u64 q.num) := cell_ca e0 el hT
        have ke1 : w9.cell? ⟨(p.add (i * 5)).block, (p.add (i * 5)).off + 1, none⟩ = some (.int .i64 q.frm) := cell_ca e1 el hT
        have ke2 : w9.cell? ⟨(p.add (i * 5)).block, (p.add (i * 5)).off + 2, none⟩ = some (.int .i64 q.to) := cell_ca e2 el hT
        have ke3 : w9.cell? ⟨(p.add (i * 5)).block, (p.add (i * 5)).off + 3, none⟩ = some (.slice B' n' c') := cell_ca e3 el hT
        have ke4 : w9.cell? ⟨(p.add (i * 5)).block, (p.add (i * 5)).off + 4, none⟩ = some (.bool q.sp) := cell_ca e4 el hT
        go_simp
        try rfl
      try simp only [Act.put, List.setIfInBounds_toArray, List.set_cons_zero, List.set_cons_succ]
      refine Ps.step (i := 5) (d := some 31) (u := ?uwq_6) rfl rfl (by kernel_rfl) (by kernel_rfl) (by kernel_rfl) (by kernel_rfl) ?ywq_6 ?rwq_6
      case ywq_6 =>
        refine StepS.pure (fun _ _ _ h => h) (by rfl) (fun w9 => ?_)
        go_simp
        try rfl
      try simp only [Act.put, List.setIfInBounds_toArray, List.set_cons_zero, List.set_cons_succ]
      refine Ps.step (i := 6) (d := some 32) (u := ?uwq_7) rfl rfl (by kernel_rfl) (by kernel_rfl) (by kernel_rfl) (by kernel_rfl) ?ywq_7 ?rwq_7
      case ywq_7 =>
        refine StepS.read [] (by kernel_rfl) (fun _ _ _ h => h) (by rfl) (fun L9 m9 w9 hSh hAt hDn hS => ?_)
        have hT : Below wr.heap.size wr w9 := hS
        have n1 : w9.cell? ⟨w.heap.size + 1, 1, none⟩ = some (.slice (some p2) m d) := (HM.out.ca hT).cell 1
        go_simp
        try rfl
      try simp only [Act.put, List.setIfInBounds_toArray, List.set_cons_zero, List.set_cons_succ]
      refine Ps.step (i := 7) (d := some 33) (u := ?uwq_8) rfl rfl (by kernel_rfl) (by kernel_rfl) (by kernel_rfl) (by kernel_rfl) ?ywq_8 ?rwq_8
      case ywq_8 =>
        refine StepS.pure (fun _ _ _ h => h) (by rfl) (fun w9 => ?_)
        go_simp
        try rfl
      try simp only [Act.put, List.setIfInBounds_toArray, List.set_cons_zero, List.set_cons_succ]
      refine Ps.step (i := 8) (d := some 34) (u := ?uwq_9) rfl rfl (by kernel_rfl) (by kernel_rfl) (by kernel_rfl) (by kernel_rfl) ?ywq_9 ?rwq_9
      case ywq_9 =>
        refine StepS.pure (fun _ _ _ h => h) (by rfl) (fun w9 => ?_)
        go_simp
        try rfl
      try simp only [Act.put, List.setIfInBounds_toArray, List.set_cons_zero, List.set_cons_succ]
      refine Ps.step (i := 9) (d := some 35) (u := ?uwq_10) rfl rfl (by kernel_rfl) (by kernel_rfl) (by kernel_rfl) (by kernel_rfl) ?ywq_10 ?rwq_10
      case ywq_10 =>
        refine StepS.read [] (by kernel_rfl) (fun _ _ _ h => h) (by rfl) (fun L9 m9 w9 hSh hAt hDn hS => ?_)
        have hT : Below wr.heap.size wr w9 := hS
        have kf0 : w9.cell? (p2.add (i * 5)) = some (.int .u64 q2.num) := cell_ca f0 fl hT
        have kf1 : w9.cell? ⟨(p2.add (i * 5)).block, (p2.add (i * 5)).off + 1, none⟩ = some (.int .i64 q2.frm) := cell_ca f1 fl hT
        have kf2 : w9.cell? ⟨(p2.add (i * 5)).block, (p2.add (i * 5)).off + 2, none⟩ = some (.int .i64 q2.to) := cell_ca f2 fl hT
        have kf3 : w9.cell? ⟨(p2.add (i * 5)).block, (p2.add (i * 5)).off + 3, none⟩ = some (.slice B2 n2 c2) := cell_ca f3 fl hT
        have kf4 : w9.cell? ⟨(p2.add (i * 5)).block, (p2.add (i * 5)).off + 4, none⟩ = some (.bool q2.sp) := cell_ca f4 fl hT
        go_simp
        try rfl
      try simp only [Act.put, List.setIfInBounds_toArray, List.set_cons_zero, List.set_cons_succ]
      refine Ps.step (i := 10) (d := some 36) (u := (.bool (sameP q q2))) rfl rfl (by kernel_rfl) (by kernel_rfl) (by kernel_rfl) (by kernel_rfl) ?ywq_11 ?rwq_11
      case ywq_11 =>
        refine StepS.call ?fwq_11 ?awq_11 [] (by kernel_rfl) (by rfl) (fun w9 => ?hwq_11) (fun L9 m9 w9 hSh hAt hDn hS => ?cwq_11)
        case hwq_11 => go_simp; refine ⟨?_, ?_⟩ <;> rfl
        case cwq_11 =>
          have hT : Below wr.heap.size wr w9 := hS
          exact (rsamep_any q q2 B' n' c' B2 n2 c2 w9 (HRB.out.below hT) (HRB2.out.below hT)).mono fun _ _ ⟨h1, h2⟩ => ⟨h1, bl_ca hT h2⟩
      try simp only [Act.put, List.setIfInBounds_toArray, List.set_cons_zero, List.set_cons_succ]
      refine Ps.step (i := 11) (d := some 37) (u := ?uwq_12) rfl rfl (by kernel_rfl) (by kernel_rfl) (by kernel_rfl) (by kernel_rfl) ?ywq_12 ?rwq_12
      case ywq_12 =>
        refine StepS.pure (fun _ _ _ h => h) (by rfl) (fun w9 => ?_)
        go_simp
        try rfl
      try simp only [Act.put, List.setIfInBounds_toArray, List.set_cons_zero, List.set_cons_succ]
      refine Ps.done (by kernel_rfl) (fun wq hS => ?_) _
      have T1 := Lib.hid (show Below wr.heap.size wr wq from hS)
      clear hS
      cases hq : sameP q q2
      · have HF := Lib.hid (show decide (s = t ∧ ps = qs) = false from decide_eq_false (fun e => by
          have h1 := HX.out
          rw [e.2, HX2.out] at h1
          injection h1 with h1
          rw [sameP_iff.2 h1.symm] at hq
          cases hq))
        clear hq
        go_wp2
        go_ret
        exact ⟨ret_bool (by rw [HR.out, HF.out]), bl_ca HBB.out T1.out⟩
      · have HF := Lib.hid (show ps.take (i + 1) = qs.take (i + 1) from by
          rw [List.take_add_one, List.take_add_one, HE.out, HX.out, HX2.out, sameP_iff.1 hq])
        clear hq
        go_wp2
        go_roundg (gk - 1)
        · exact ⟨i + 1, by omega, by go_num, HF.out, HN.out.ca T1.out, HM.out.ca T1.out, bl_ca HBB.out T1.out⟩
        · omega
    · obtain rfl : i = m := by omega
      have hi1 : (i : Int) ≤ (i : Int) := by omega
      clear bb
      go_wp2
      go_ret
      exact ⟨ret_bool (by rw [HR.out, decide_eq_true ⟨HST.out, by have h1 := HE.out; rwa [List.take_of_length_le (by rw [HL.out]; exact Nat.le_refl _), List.take_of_length_le (by rw [HK.out]; exact Nat.le_refl _)] at h1⟩]), HBB.out⟩
end Go.Proofs.Ytnbcffnhgijmcaa
