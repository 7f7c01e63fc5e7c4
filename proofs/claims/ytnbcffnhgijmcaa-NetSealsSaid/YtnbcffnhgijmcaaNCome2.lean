/- net.Come, whole. Conditions: the slice reads as these parcels. -/
import Derived.Test.YtnbcffnhgijmcaaNCome
namespace Go.Proofs.Ytnbcffnhgijmcaa
open Go.RowKit
theorem resNP {P : Program} {fn : Func} {p q r : Tmp} {ty tz : TypeId} (h : fn.results = #[.cell p ty, .cell q tz, .tmp r]) {tmps : Array Value} {w : World} {g g' : Nat} {t t' : TypeId} {cs cs' : Array Value} {d d' : TypeDesc} {u : Value}
    (hp : tmps.getD p undef = .pointer (some ⟨g, 0, none⟩)) (hq : tmps.getD q undef = .pointer (some ⟨g', 0, none⟩)) (hr : tmps.getD r undef = u) (hg : Blk w g t cs) (hg' : Blk w g' t' cs') (hu : P.underlying ty = some d) (hu' : P.underlying tz = some d') (hd : (match d with | .struct _ | .array _ _ => true | _ => false) = true) (hd' : (match d' with | .struct _ | .array _ _ => true | _ => false) = true) (hi : (P.info? ty).map (·.size) = some cs.size) (hi' : (P.info? tz).map (·.size) = some cs'.size) :
    (results fn tmps).run P w = .ok (.tuple #[.agg cs, .agg cs', u]) w := by
  have hp' : tmps[p]?.getD undef = .pointer (some ⟨g, 0, none⟩) := by simpa using hp
  have hq' : tmps[q]?.getD undef = .pointer (some ⟨g', 0, none⟩) := by simpa using hq
  have hr' : tmps[r]?.getD undef = u := by simpa using hr
  simp [results, h, hp', hq', hr', asAddr, run_loadVar_row w g t ty cs (0, 0) d hg hu hd hi, run_loadVar_row w g' t' tz cs' (0, 0) d' hg' hu' hd' hi']
theorem comeR_z {sent : Int} {ps : List PC} {x : Int} (h : comeE sent ps x ≠ 0) : (comeR sent ps x).1 = 0 ∧ (comeR sent ps x).2 = [] := by unfold comeR; rw [if_neg h]; exact ⟨rfl, rfl⟩
theorem come_on (sent : Int) (A : Option Addr) (m c : Nat) (ps : List PC) (x : Int) (w : World) (g : Nat) (h : LP.rd w AllB A m ps) (hm : m ≤ 9223372036854775807) (hg : Blk w g 29 #[.int .u64 0, .int .i64 0, .int .i64 0, .slice none 0 0, .bool false]) :
    Calls Try.prog 47 #[.agg #[.int .u64 sent, .slice A m c], .int .u64 x, .func (.func 53) #[] #[.pointer (some ⟨g, 0, none⟩)]] w fun e w' => ∃ A2 m2 c2, e = .returned (.tuple #[.agg #[.int .u64 (comeR sent ps x).1, .slice A2 m2 c2], .int .i64 (comeE sent ps x)]) ∧ (∃ es, DO w' w.heap.size A2 m2 c2 es ∧ es.map El.p = (comeR sent ps x).2 ∧ (comeE sent ps x = 0 → ComeZ g w' es)) ∧ ComeK w g (w.heap.size + 6) (comeP sent ps x) w' := by
  have hgl := hg.lt
  cases hc : chkB sent ps
  · have e1 : comeE sent ps x = 340 := by unfold comeE; rw [hc]; rfl
    have e2 : comeR sent ps x = (0, []) := by unfold comeR; rw [e1]; rfl
    have e3 : comeP sent ps x = zeroPC := by unfold comeP; rw [e1]; rfl
    rw [e1, e2, e3]
    exact (on_no sent A m c ps x _ _ w h hm hc).mono fun _ _ ⟨a, b⟩ => ⟨none, 0, 0, a, ⟨[], DO.nil _ _, rfl, fun h => by cases h⟩, ComeK.no hg b⟩
  · cases hh : hasB ps x
    · have e1 : comeE sent ps x = 4 := by unfold comeE; rw [hc, if_pos rfl, hh]; rfl
      have e2 : comeR sent ps x = (0, []) := by unfold comeR; rw [e1]; rfl
      have e3 : comeP sent ps x = zeroPC := by unfold comeP; rw [e1]; rfl
      rw [e1, e2, e3]
      exact on_any sent A m c ps x _ _ 4 0 [] (ComeK w g (w.heap.size + 6) zeroPC) (ComeZ g) w h hc (Go.Proofs.enters_of Try.func53 (by kernel_rfl) rfl) (fun w1 w2 r hr hr2 hk hgr => hk.grown hgr hr hgl hr2) (fun w1 w2 r es hr _ hz hgr => hz.grown hgr (by omega)) (fun _ => ⟨rfl, rfl⟩) (fun _ => ⟨rfl, fun w' q => ComeK.no hg q⟩) (fun W i q hsz hb hlow hh2 => by rw [hh] at hh2; cases hh2)
    · have e1 : comeE sent ps x = 0 := by unfold comeE; rw [hc, if_pos rfl, hh]; rfl
      have e2 : comeR sent ps x = (sent, ps.take (ixP ps x) ++ ps.drop (ixP ps x + 1)) := by unfold comeR; rw [e1, if_pos rfl]
      have e3 : comeP sent ps x = getP ps x := by unfold comeP; rw [e1, if_pos rfl]
      rw [e1, e2, e3]
      exact on_any sent A m c ps x _ _ 0 sent _ (ComeK w g (w.heap.size + 6) (getP ps x)) (ComeZ g) w h hc (Go.Proofs.enters_of Try.func53 (by kernel_rfl) rfl) (fun w1 w2 r hr hr2 hk hgr => hk.grown hgr hr hgl hr2) (fun w1 w2 r es hr _ hz hgr => hz.grown hgr (by omega)) (fun h => absurd rfl h) (fun hh2 => by rw [hh] at hh2; cases hh2) (fun W i q hsz hb hlow hh2 => come1_doc sent m ps x W w g i hc h.1 hlow hh2 hgl q hsz.symm (hg.ca q) hb)
set_option maxRecDepth 100000 in
set_option maxHeartbeats 8000000 in
theorem come_any (sent : Int) (A : Option Addr) (m c : Nat) (ps : List PC) (x : Int) (w : World) (h : LP.rd w AllB A m ps) (hm : m ≤ 9223372036854775807) :
    Calls Try.prog 19 #[.agg #[.int .u64 sent, .slice A m c], .int .u64 x] w fun e w' => ∃ A2 m2 c2 pA pn pc es, e = .returned (.tuple #[.agg #[.int .u64 (comeR sent ps x).1, .slice A2 m2 c2], .agg #[.int .u64 (comeP sent ps x).num, .int .i64 (comeP sent ps x).frm, .int .i64 (comeP sent ps x).to, .slice pA pn pc, .bool (comeP sent ps x).sp], .int .i64 (comeE sent ps x)]) ∧
      DO w' w.heap.size A2 m2 c2 es ∧ es.map El.p = (comeR sent ps x).2 ∧ OwnB w' w.heap.size pA pn pc (comeP sent ps x).bs ∧ (∀ y ∈ es, ∀ k, (Value.slice pA pn pc).ownBlock = some k → y.bk ≠ some k) ∧ Below w.heap.size w w' := by
  have HW := Lib.hid (fun W g h hg => come_on sent A m c ps x W g h hm hg)
  have hne : comeE sent ps x ≠ 0 → (comeR sent ps x).2 = [] := fun h => (comeR_z h).2
  generalize comeR sent ps x = R at *
  generalize comeP sent ps x = P at *
  generalize comeE sent ps x = E at *
  obtain ⟨s, l⟩ := R
  have HH := Lib.hid h
  have HNE := Lib.hid hne
  clear h hne
  have bb := Below.refl w.heap.size w
  have bN := Blk.new w 26 #[.int .u64 sent, .slice A m c]
  replace bb := bl_al bb (.cells #[.int .u64 sent, .slice A m c] 26)
  replace bN := bN.ca (bl_al (Below.refl _ _) (.cells #[.int .u64 0, .slice none 0 0] 26))
  have bR : Blk ((w.alloc (.cells #[.int .u64 sent, .slice A m c] 26)).alloc (.cells #[.int .u64 0, .slice none 0 0] 26)) (w.heap.size + 1) 26 #[.int .u64 0, .slice none 0 0] := Blk.mk' (by simp only [World.size_alloc])
  replace bb := bl_al bb (.cells #[.int .u64 0, .slice none 0 0] 26)
  replace bN := bN.ca (bl_al (Below.refl _ _) (.cells #[.int .u64 0, .int .i64 0, .int .i64 0, .slice none 0 0, .bool false] 29))
  replace bR := bR.ca (bl_al (Below.refl _ _) (.cells #[.int .u64 0, .int .i64 0, .int .i64 0, .slice none 0 0, .bool false] 29))
  have bQ : Blk (((w.alloc (.cells #[.int .u64 sent, .slice A m c] 26)).alloc (.cells #[.int .u64 0, .slice none 0 0] 26)).alloc (.cells #[.int .u64 0, .int .i64 0, .int .i64 0, .slice none 0 0, .bool false] 29)) (w.heap.size + 2) 29 #[.int .u64 0, .int .i64 0, .int .i64 0, .slice none 0 0, .bool false] := Blk.mk' (by simp only [World.size_alloc])
  replace bb := bl_al bb (.cells #[.int .u64 0, .int .i64 0, .int .i64 0, .slice none 0 0, .bool false] 29)
  replace bN := bN.ca (bl_al (Below.refl _ _) (.cells #[.int .u64 0, .int .i64 0, .int .i64 0, .slice none 0 0, .bool false] 29))
  replace bR := bR.ca (bl_al (Below.refl _ _) (.cells #[.int .u64 0, .int .i64 0, .int .i64 0, .slice none 0 0, .bool false] 29))
  replace bQ := bQ.ca (bl_al (Below.refl _ _) (.cells #[.int .u64 0, .int .i64 0, .int .i64 0, .slice none 0 0, .bool false] 29))
  have bP : Blk ((((w.alloc (.cells #[.int .u64 sent, .slice A m c] 26)).alloc (.cells #[.int .u64 0, .slice none 0 0] 26)).alloc (.cells #[.int .u64 0, .int .i64 0, .int .i64 0, .slice none 0 0, .bool false] 29)).alloc (.cells #[.int .u64 0, .int .i64 0, .int .i64 0, .slice none 0 0, .bool false] 29)) (w.heap.size + 3) 29 #[.int .u64 0, .int .i64 0, .int .i64 0, .slice none 0 0, .bool false] := Blk.mk' (by simp only [World.size_alloc])
  replace bb := bl_al bb (.cells #[.int .u64 0, .int .i64 0, .int .i64 0, .slice none 0 0, .bool false] 29)
  have hsz : w.heap.size + 4 ≤ ((((w.alloc (.cells #[.int .u64 sent, .slice A m c] 26)).alloc (.cells #[.int .u64 0, .slice none 0 0] 26)).alloc (.cells #[.int .u64 0, .int .i64 0, .int .i64 0, .slice none 0 0, .bool false] 29)).alloc (.cells #[.int .u64 0, .int .i64 0, .int .i64 0, .slice none 0 0, .bool false] 29)).heap.size := by simp only [World.size_alloc]; omega
  go_enter Try.func19, Try.ntmps19
  go_wp2_with fail
  generalize ((((w.alloc (.cells #[.int .u64 sent, .slice A m c] 26)).alloc (.cells #[.int .u64 0, .slice none 0 0] 26)).alloc (.cells #[.int .u64 0, .int .i64 0, .int .i64 0, .slice none 0 0, .bool false] 29)).alloc (.cells #[.int .u64 0, .int .i64 0, .int .i64 0, .slice none 0 0, .bool false] 29)) = w1 at *
  refine (HW.out w1 _ (Lay.rd_below HH.out bb) bP).mono ?_
  rintro e w2 ⟨A2, m2, c2, rfl, ⟨es, hd, hes, hz⟩, ⟨⟨pA, pn, pc, hpb, hpo⟩, hk⟩⟩
  have hl := Lib.hid hk
  have hk1 := hk.block
  have hR2 : Blk w2 (w.heap.size + 1) 26 #[.int .u64 0, .slice none 0 0] := (hk1 _ (by omega) (by omega)).trans bR
  have hQ2 : Blk w2 (w.heap.size + 2) 29 #[.int .u64 0, .int .i64 0, .int .i64 0, .slice none 0 0, .bool false] := (hk1 _ (by omega) (by omega)).trans bQ
  have KR := Lib.hid (hR2.ca (bl_al (Below.refl _ _) (.cells #[.int .u64 s, .slice A2 m2 c2] 26)))
  have KQ := Lib.hid (hQ2.ca (bl_al (Below.refl _ _) (.cells #[.int .u64 s, .slice A2 m2 c2] 26)))
  have HP := Lib.hid (hpb.ca (bl_al (Below.refl _ _) (.cells #[.int .u64 s, .slice A2 m2 c2] 26)))
  have HM := Lib.hid (Blk.new w2 26 #[.int .u64 s, .slice A2 m2 c2])
  have HD := Lib.hid (hd.below (bl_al (Below.refl _ _) (.cells #[.int .u64 s, .slice A2 m2 c2] 26)))
  have HO := Lib.hid (hpo.below (bl_al (Below.refl _ _) (.cells #[.int .u64 s, .slice A2 m2 c2] 26)))
  have HES := Lib.hid hes
  have HZ := Lib.hid (show ∀ y ∈ es, ∀ k, (Value.slice pA pn pc).ownBlock = some k → y.bk ≠ some k from by
    by_cases h0 : E = 0
    · exact (hz h0).2 _ _ _ _ hpb rfl
    · have h1 := HNE.out h0
      rw [← hes] at h1
      have h2 : es = [] := List.map_eq_nil_iff.1 h1
      subst h2
      simp)
  have hz2 := hk.size
  have HBB := Lib.hid (bl_al (hk.below bb (by omega) (by omega)) (.cells #[.int .u64 s, .slice A2 m2 c2] 26))
  clear hk hk1 hR2 hQ2 hpb hd hpo hes hz bN bR bQ bP bb
  go_wp2_with fail
  obtain ⟨g11, hg11⟩ : ∃ g, g = w2.heap.size := ⟨_, rfl⟩
  have hg12 : w.heap.size + 4 ≤ g11 := by omega
  rw [← hg11] at HM
  generalize w2.heap.size = G2 at *
  subst hg11
  generalize w2.alloc (.cells #[.int .u64 s, .slice A2 m2 c2] 26) = w5 at *
  refine wp_region_ps (S := SeqT 3 4 (fun _ w' => Below w5.heap.size w5 w') (fun _ w' => ∃ w6, Below w5.heap.size w5 w6 ∧ Blk w' (w.heap.size + 1) 26 #[.int .u64 s, .slice A2 m2 c2] ∧ w6.grownBy w' (some (w.heap.size + 1))) (fun _ w' => ∃ w6 w7, Below w5.heap.size w5 w6 ∧ w6.grownBy w7 (some (w.heap.size + 1)) ∧ Blk w7 (w.heap.size + 1) 26 #[.int .u64 s, .slice A2 m2 c2] ∧ w7.grownBy w' (some (w.heap.size + 2)) ∧ Blk w' (w.heap.size + 2) 29 #[.int .u64 P.num, .int .i64 P.frm, .int .i64 P.to, .slice pA pn pc, .bool P.sp])) (by kernel_rfl) ?spswq ?ppswq
  case spswq =>
    exact SeqT.start (by decide) (by decide) (Below.refl _ _).drew
  refine Ps.step (i := 0) (d := some 17) (u := ?uwq_1) rfl rfl (by kernel_rfl) (by kernel_rfl) (by kernel_rfl) (by kernel_rfl) ?ywq_1 ?rwq_1
  case ywq_1 =>
    refine StepS.read [] (by kernel_rfl) (SeqT.pass (by decide) (by decide)) (by rfl) (fun L9 m9 w9 hSh hAt hDn hS => ?_)
    have hT : Blk w9 g11 26 #[.int .u64 s, .slice A2 m2 c2] := SeqT.any (T := fun w9 => Blk w9 g11 26 #[.int .u64 s, .slice A2 m2 c2]) (fun _ _ h => HM.out.ca h) (fun _ _ ⟨_, h1, _, h3⟩ => (HM.out.ca h1).apart h3 (by omega)) (fun _ _ ⟨_, _, h1, h2, _, h3, _⟩ => ((HM.out.ca h1).apart h2 (by omega)).apart h3 (by omega)) hS
    have x0 : w9.cell? ⟨g11, 0, none⟩ = some (.int .u64 s) := hT.cell 0
    have x1 : w9.cell? ⟨g11, 1, none⟩ = some (.slice A2 m2 c2) := hT.cell 1
    clear hT hS
    go_simp
    try rfl
  try simp only [Act.put, List.setIfInBounds_toArray, List.set_cons_zero, List.set_cons_succ]
  refine Ps.step (i := 1) (d := some 18) (u := ?uwq_2) rfl rfl (by kernel_rfl) (by kernel_rfl) (by kernel_rfl) (by kernel_rfl) ?ywq_2 ?rwq_2
  case ywq_2 =>
    refine StepS.read [] (by kernel_rfl) (SeqT.pass (by decide) (by decide)) (by rfl) (fun L9 m9 w9 hSh hAt hDn hS => ?_)
    have hT : Blk w9 (w.heap.size + 3) 29 #[.int .u64 P.num, .int .i64 P.frm, .int .i64 P.to, .slice pA pn pc, .bool P.sp] := SeqT.any (T := fun w9 => Blk w9 (w.heap.size + 3) 29 #[.int .u64 P.num, .int .i64 P.frm, .int .i64 P.to, .slice pA pn pc, .bool P.sp]) (fun _ _ h => HP.out.ca h) (fun _ _ ⟨_, h1, _, h3⟩ => (HP.out.ca h1).apart h3 (by omega)) (fun _ _ ⟨_, _, h1, h2, _, h3, _⟩ => ((HP.out.ca h1).apart h2 (by omega)).apart h3 (by omega)) hS
    have x0 : w9.cell? ⟨w.heap.size + 3, 0, none⟩ = some (.int .u64 P.num) := hT.cell 0
    have x1 : w9.cell? ⟨w.heap.size + 3, 1, none⟩ = some (.int .i64 P.frm) := hT.cell 1
    have x2 : w9.cell? ⟨w.heap.size + 3, 2, none⟩ = some (.int .i64 P.to) := hT.cell 2
    have x3 : w9.cell? ⟨w.heap.size + 3, 3, none⟩ = some (.slice pA pn pc) := hT.cell 3
    have x4 : w9.cell? ⟨w.heap.size + 3, 4, none⟩ = some (.bool P.sp) := hT.cell 4
    clear hT hS
    go_simp
    try rfl
  try simp only [Act.put, List.setIfInBounds_toArray, List.set_cons_zero, List.set_cons_succ]
  refine Ps.step (i := 2) (d := some 19) (u := ?uwq_3) rfl rfl (by kernel_rfl) (by kernel_rfl) (by kernel_rfl) (by kernel_rfl) ?ywq_3 ?rwq_3
  case ywq_3 =>
    refine StepS.pure (SeqT.pass (by decide) (by decide)) (by rfl) (fun w9 => ?_)
    go_simp
    try rfl
  try simp only [Act.put, List.setIfInBounds_toArray, List.set_cons_zero, List.set_cons_succ]
  refine Ps.step (i := 3) (d := none) (u := undef) rfl rfl (by kernel_rfl) (by kernel_rfl) (by kernel_rfl) (by kernel_rfl) ?ywq_4 ?rwq_4
  case ywq_4 =>
    refine StepS.store [] (by kernel_rfl) (by rfl) (fun L9 m9 w9 hSh hAt hDn hS => ?_)
    have hT := SeqT.at1 hDn (reach_no hSh (f := 6) (j := 4) (by kernel_rfl) hDn) hS
    refine (exec_store_blk (w := w9) 26 (.tmp 4) (.tmp 17) (by rfl) (w.heap.size + 1) 26 #[.int .u64 0, .slice none 0 0] #[.int .u64 s, .slice A2 m2 c2] (by rfl) (by rfl) (KR.out.ca hT) rfl netI (by simp [Value.oneCell'])).imp fun w7 hx => ⟨hx.1, SeqT.set1 (by decide) (reach_no hSh (f := 6) (j := 4) (by kernel_rfl) hDn) ⟨w9, hT, hx.2.1, hx.2.2⟩⟩
  try simp only [Act.put]
  refine Ps.step (i := 4) (d := none) (u := undef) rfl rfl (by kernel_rfl) (by kernel_rfl) (by kernel_rfl) (by kernel_rfl) ?ywq_5 ?rwq_5
  case ywq_5 =>
    refine StepS.store [3] (by kernel_rfl) (by rfl) (fun L9 m9 w9 hSh hAt hDn hS => ?_)
    obtain ⟨w6, hT, hB, hg⟩ := SeqT.at2 (hAt 3 (by simp)).1 hDn hS
    refine (exec_store_blk (w := w9) 29 (.tmp 5) (.tmp 18) (by rfl) (w.heap.size + 2) 29 #[.int .u64 0, .int .i64 0, .int .i64 0, .slice none 0 0, .bool false] #[.int .u64 P.num, .int .i64 P.frm, .int .i64 P.to, .slice pA pn pc, .bool P.sp] (by rfl) (by rfl) ((KQ.out.ca hT).apart hg (by omega)) rfl parcelI (by simp [Value.oneCell'])).imp fun w7 hx => ⟨hx.1, SeqT.set2 (by decide) ⟨w6, w9, hT, hg, hB, hx.2.2, hx.2.1⟩⟩
  try simp only [Act.put]
  refine Ps.step (i := 5) (d := some 6) (u := ?uwq_6) rfl rfl (by kernel_rfl) (by kernel_rfl) (by kernel_rfl) (by kernel_rfl) ?ywq_6 ?rwq_6
  case ywq_6 =>
    refine StepS.pure (SeqT.pass (by decide) (by decide)) (by rfl) (fun w9 => ?_)
    go_simp
    try rfl
  try simp only [Act.put, List.setIfInBounds_toArray, List.set_cons_zero, List.set_cons_succ]
  refine Ps.done (by kernel_rfl) (fun wq hS => ?_) _
  obtain ⟨w6, w7, hT, hg6, hB6, hg7, hB7⟩ := SeqT.fin (by rfl) hS
  clear hS
  have hBB := hB6.apart hg7 (by omega)
  go_wp2
  exact bodyPost_ret (resNP Try.results19 rfl rfl rfl hBB hB7 Try.underlying26 Try.underlying29 rfl rfl netI parcelI) rfl ⟨A2, m2, c2, pA, pn, pc, es, rfl, (((HD.out.below hT).kept hg6 (by omega)).kept hg7 (by omega)).less (by omega), HES.out, OwnB.less (((HO.out.below hT).kept hg6 (fun e => by have := (HO.out.base_ _ e).1; omega)).kept hg7 (fun e => by have := (HO.out.base_ _ e).1; omega)) (by omega), HZ.out, bl_gr (bl_gr (bl_ca HBB.out hT) hg6 (by omega)) hg7 (by omega)⟩
end Go.Proofs.Ytnbcffnhgijmcaa
