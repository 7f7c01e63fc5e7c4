/- net.Send, whole. Conditions: the slices read as these parcels and bytes. -/
import Derived.Test.YtnbcffnhgijmcaaNSend
import Derived.Shelf.Abstract
namespace Go.Proofs.Ytnbcffnhgijmcaa
open Go.RowKit
/-- a net that a call hands back: all of it in memory of its own, from B on -/
def OutN (w : World) (B : Nat) (A : Option Addr) (m c : Nat) (ps : List PC) : Prop := ∃ es, DO w B A m c es ∧ es.map El.p = ps
theorem OutN.nil (w : World) (B : Nat) : OutN w B none 0 0 [] := ⟨[], DO.nil w B, rfl⟩
theorem OutN.below {w w' : World} {B : Nat} {A : Option Addr} {m c : Nat} {ps : List PC} (h : OutN w B A m c ps) (q : Below w.heap.size w w') : OutN w' B A m c ps := by
  obtain ⟨es, h1, h2⟩ := h
  exact ⟨es, h1.below q, h2⟩
theorem OutN.kept {w w' : World} {B r : Nat} {A : Option Addr} {m c : Nat} {ps : List PC} (h : OutN w B A m c ps) (hg : w.grownBy w' (some r)) (hr : r < B) : OutN w' B A m c ps := by
  obtain ⟨es, h1, h2⟩ := h
  exact ⟨es, h1.kept hg hr, h2⟩
theorem DO.less {w : World} {B B' : Nat} {A : Option Addr} {n c : Nat} {es : List El} (h : DO w B A n c es) (hB : B' ≤ B) : DO w B' A n c es := ⟨ro_less h.row hB, fun e he => OwnB.less (h.own e he) hB, h.apart⟩
theorem OutN.less {w : World} {B B' : Nat} {A : Option Addr} {m c : Nat} {ps : List PC} (h : OutN w B A m c ps) (hB : B' ≤ B) : OutN w B' A m c ps := by
  obtain ⟨es, h1, h2⟩ := h
  exact ⟨es, h1.less hB, h2⟩
def sendR (sent : Int) (ps : List PC) (f t : Int) (bs : List UInt8) : Int × List PC := if sendE sent ps f t bs = 0 then (sent + 1, ps ++ [added sent (newP f t bs)]) else (0, [])
/-- what net.with answers: er, and a net -/
def WithR (w : World) (er s : Int) (ps : List PC) (e : Ending) (w' : World) : Prop := ∃ A m c, e = .returned (.tuple #[.agg #[.int .u64 s, .slice A m c], .int .i64 er]) ∧ OutN w' (w.heap.size + 2) A m c ps ∧ w.heap.size ≤ w'.heap.size
set_option maxRecDepth 100000 in
set_option maxHeartbeats 4000000 in
theorem send_with (sent : Int) (A : Option Addr) (m c : Nat) (ps : List PC) (f t : Int) (bA : Option Addr) (bn bc : Nat) (bs : List UInt8) (W0 W : World) (g1 g2 g3 : Nat) (hs0 : 0 ≤ sent) (h : LP.rd W AllB A m ps) (hm : m ≤ 9223372036854775807) (h0 : Below W0.heap.size W0 W)
    (h1 : Blk W g1 3 #[.int .i64 f]) (h2 : Blk W g2 3 #[.int .i64 t]) (h3 : Blk W g3 27 #[.slice bA bn bc]) (hb : RdB W bA bn bs) :
    Calls Try.prog 41 #[.agg #[.int .u64 sent, .slice A m c], .func (.func 42) #[] #[.pointer (some ⟨g1, 0, none⟩), .pointer (some ⟨g2, 0, none⟩), .pointer (some ⟨g3, 0, none⟩)]] W fun e w' =>
      WithR W (sendE sent ps f t bs) (sendR sent ps f t bs).1 (sendR sent ps f t bs).2 e w' ∧ Below W0.heap.size W0 w' := by
  cases hc : chkB sent ps
  · have e1 : sendE sent ps f t bs = 340 := by unfold sendE; rw [hc]; rfl
    have e2 : sendR sent ps f t bs = (0, []) := by unfold sendR; rw [e1]; rfl
    rw [e1, e2]
    exact (with_no AllB sent A m c ps _ W h hm hc).mono fun _ _ ⟨x, y⟩ => ⟨⟨none, 0, 0, x, OutN.nil _ _, y.size⟩, bl_ca h0 y⟩
  · obtain ⟨r1, r2⟩ := chk_rng hc
    have hlen := h.1
    have hE : sendE sent ps f t bs = (if pairB f t then (if 60000 < bs.length then 3 else addE sent ps) else 2) := by unfold sendE; rw [hc, if_pos rfl]
    refine (with_any sent A m c ps _ _ _ _ W h (by omega) hc (Go.Proofs.enters_of Try.func42 (by kernel_rfl) rfl) (send1_doc sent m ps f t bA bn bc bs W0 W g1 g2 g3 hs0 hc hlen h0 h0.size h1 h2 h3 hb) ?_ (fun _ _ _ _ h _ => h)).mono ?_
    · rintro er w1 w2 ⟨he, hbel⟩ hg
      exact ⟨he, bl_gr hbel hg (by have := h0.size; omega)⟩
    · rintro e w' ⟨er, ⟨her, hbel⟩, hsz, ⟨hne, rfl⟩ | ⟨rfl, s, A2, m2, c2, es2, rfl, hd, rfl, hes⟩⟩
      · rw [← hE] at her
        subst her
        have e2 : sendR sent ps f t bs = (0, []) := by unfold sendR; rw [if_neg hne]
        rw [e2]
        exact ⟨⟨none, 0, 0, rfl, OutN.nil _ _, hsz⟩, hbel⟩
      · rw [← hE] at her
        have e2 : sendR sent ps f t bs = (sent + 1, ps ++ [added sent (newP f t bs)]) := by unfold sendR; rw [if_pos her.symm]
        rw [e2, ← her]
        exact ⟨⟨A2, m2, c2, rfl, ⟨es2, hd, hes⟩, hsz⟩, hbel⟩
set_option maxRecDepth 100000 in
set_option maxHeartbeats 8000000 in
theorem send_any (sent : Int) (A : Option Addr) (m c : Nat) (ps : List PC) (f t : Int) (bA : Option Addr) (bn bc : Nat) (bs : List UInt8) (w : World) (h : LP.rd w AllB A m ps) (hm : m ≤ 9223372036854775807) (hs0 : 0 ≤ sent) (hb : RdB w bA bn bs) :
    Calls Try.prog 11 #[.agg #[.int .u64 sent, .slice A m c], .int .i64 f, .int .i64 t, .slice bA bn bc] w fun e w' => ∃ A2 m2 c2, e = .returned (.tuple #[.agg #[.int .u64 (sendR sent ps f t bs).1, .slice A2 m2 c2], .int .u64 (sendR sent ps f t bs).1, .int .i64 (sendE sent ps f t bs)]) ∧ OutN w' w.heap.size A2 m2 c2 (sendR sent ps f t bs).2 ∧ Below w.heap.size w w' := by
  have HW := Lib.hid (fun W g1 g2 g3 hrd h1 h2 h3 hrb => send_with sent A m c ps f t bA bn bc bs W W g1 g2 g3 hs0 hrd hm (Below.refl _ _) h1 h2 h3 hrb)
  generalize sendR sent ps f t bs = R at *
  generalize sendE sent ps f t bs = E at *
  obtain ⟨s, l⟩ := R
  have HH := Lib.hid h
  have HB := Lib.hid hb
  clear h hb
  have bb := Below.refl w.heap.size w
  have bN := Blk.new w 26 #[.int .u64 sent, .slice A m c]
  replace bb := bl_al bb (.cells #[.int .u64 sent, .slice A m c] 26)
  replace bN := bN.ca (bl_al (Below.refl _ _) (.cells #[.int .i64 f] 3))
  have bF : Blk ((w.alloc (.cells #[.int .u64 sent, .slice A m c] 26)).alloc (.cells #[.int .i64 f] 3)) (w.heap.size + 1) 3 #[.int .i64 f] := Blk.mk' (by simp only [World.size_alloc])
  replace bb := bl_al bb (.cells #[.int .i64 f] 3)
  replace bN := bN.ca (bl_al (Below.refl _ _) (.cells #[.int .i64 t] 3))
  replace bF := bF.ca (bl_al (Below.refl _ _) (.cells #[.int .i64 t] 3))
  have bT : Blk (((w.alloc (.cells #[.int .u64 sent, .slice A m c] 26)).alloc (.cells #[.int .i64 f] 3)).alloc (.cells #[.int .i64 t] 3)) (w.heap.size + 2) 3 #[.int .i64 t] := Blk.mk' (by simp only [World.size_alloc])
  replace bb := bl_al bb (.cells #[.int .i64 t] 3)
  replace bN := bN.ca (bl_al (Below.refl _ _) (.cells #[.slice bA bn bc] 27))
  replace bF := bF.ca (bl_al (Below.refl _ _) (.cells #[.slice bA bn bc] 27))
  replace bT := bT.ca (bl_al (Below.refl _ _) (.cells #[.slice bA bn bc] 27))
  have bB : Blk ((((w.alloc (.cells #[.int .u64 sent, .slice A m c] 26)).alloc (.cells #[.int .i64 f] 3)).alloc (.cells #[.int .i64 t] 3)).alloc (.cells #[.slice bA bn bc] 27)) (w.heap.size + 3) 27 #[.slice bA bn bc] := Blk.mk' (by simp only [World.size_alloc])
  replace bb := bl_al bb (.cells #[.slice bA bn bc] 27)
  replace bN := bN.ca (bl_al (Below.refl _ _) (.cells #[.int .u64 0, .slice none 0 0] 26))
  replace bF := bF.ca (bl_al (Below.refl _ _) (.cells #[.int .u64 0, .slice none 0 0] 26))
  replace bT := bT.ca (bl_al (Below.refl _ _) (.cells #[.int .u64 0, .slice none 0 0] 26))
  replace bB := bB.ca (bl_al (Below.refl _ _) (.cells #[.int .u64 0, .slice none 0 0] 26))
  have bR : Blk (((((w.alloc (.cells #[.int .u64 sent, .slice A m c] 26)).alloc (.cells #[.int .i64 f] 3)).alloc (.cells #[.int .i64 t] 3)).alloc (.cells #[.slice bA bn bc] 27)).alloc (.cells #[.int .u64 0, .slice none 0 0] 26)) (w.heap.size + 4) 26 #[.int .u64 0, .slice none 0 0] := Blk.mk' (by simp only [World.size_alloc])
  replace bb := bl_al bb (.cells #[.int .u64 0, .slice none 0 0] 26)
  have hsz : w.heap.size + 5 ≤ (((((w.alloc (.cells #[.int .u64 sent, .slice A m c] 26)).alloc (.cells #[.int .i64 f] 3)).alloc (.cells #[.int .i64 t] 3)).alloc (.cells #[.slice bA bn bc] 27)).alloc (.cells #[.int .u64 0, .slice none 0 0] 26)).heap.size := by simp only [World.size_alloc]; omega
  go_enter Try.func11, Try.ntmps11
  go_wp2_with fail
  generalize (((((w.alloc (.cells #[.int .u64 sent, .slice A m c] 26)).alloc (.cells #[.int .i64 f] 3)).alloc (.cells #[.int .i64 t] 3)).alloc (.cells #[.slice bA bn bc] 27)).alloc (.cells #[.int .u64 0, .slice none 0 0] 26)) = w1 at *
  refine (HW.out w1 (w.heap.size + 1) (w.heap.size + 2) (w.heap.size + 3) (Lay.rd_below HH.out bb) bF bT bB (HB.out.below bb)).mono ?_
  rintro e w2 ⟨⟨A2, m2, c2, rfl, ho, hs2⟩, hb2⟩
  have KR := Lib.hid ((bR.ca hb2).ca (bl_al (Below.refl _ _) (.cells #[.int .u64 s, .slice A2 m2 c2] 26)))
  have HM := Lib.hid (Blk.new w2 26 #[.int .u64 s, .slice A2 m2 c2])
  have HO := Lib.hid (ho.below (bl_al (Below.refl _ _) (.cells #[.int .u64 s, .slice A2 m2 c2] 26)))
  have hz2 := hb2.size
  have HBB := Lib.hid (bl_al (bl_ca bb hb2) (.cells #[.int .u64 s, .slice A2 m2 c2] 26))
  clear ho hb2
  go_wp2_with fail
  obtain ⟨g11, hg11⟩ : ∃ g, g = w2.heap.size := ⟨_, rfl⟩
  have hg12 : w.heap.size + 5 ≤ g11 := by omega
  rw [← hg11] at HM
  generalize w2.heap.size = G2 at *
  subst hg11
  generalize w2.alloc (.cells #[.int .u64 s, .slice A2 m2 c2] 26) = w5 at *

  refine wp_region_ps (S := Seq1 4 (fun _ w' => Below w5.heap.size w5 w') (fun _ w' => ∃ w6, Below w5.heap.size w5 w6 ∧ Blk w' (w.heap.size + 4) 26 #[.int .u64 s, .slice A2 m2 c2] ∧ w6.grownBy w' (some (w.heap.size + 4)))) (by kernel_rfl) ?spswq ?ppswq
  case spswq =>
    exact Seq1.start (by decide) (Below.refl _ _).drew
  refine Ps.step (i := 0) (d := some 19) (u := ?uwq_1) rfl rfl (by kernel_rfl) (by kernel_rfl) (by kernel_rfl) (by kernel_rfl) ?ywq_1 ?rwq_1
  case ywq_1 =>
    refine StepS.read [] (by kernel_rfl) (Seq1.pass (by decide)) (by rfl) (fun L9 m9 w9 hSh hAt hDn hS => ?_)
    have hT : Blk w9 g11 26 #[.int .u64 s, .slice A2 m2 c2] := Seq1.any (T := fun w9 => Blk w9 g11 26 #[.int .u64 s, .slice A2 m2 c2]) (fun _ _ h => HM.out.ca h) (fun _ _ ⟨_, h1, _, h3⟩ => (HM.out.ca h1).apart h3 (by omega)) hS
    have x0 : w9.cell? ⟨g11, 0, none⟩ = some (.int .u64 s) := hT.cell 0
    have x1 : w9.cell? ⟨g11, 1, none⟩ = some (.slice A2 m2 c2) := hT.cell 1
    clear hT hS
    go_simp
    try rfl
  try simp only [Act.put, List.setIfInBounds_toArray, List.set_cons_zero, List.set_cons_succ]
  refine Ps.step (i := 1) (d := some 20) (u := ?uwq_2) rfl rfl (by kernel_rfl) (by kernel_rfl) (by kernel_rfl) (by kernel_rfl) ?ywq_2 ?rwq_2
  case ywq_2 =>
    refine StepS.pure (Seq1.pass (by decide)) (by rfl) (fun w9 => ?_)
    go_simp
    try rfl
  try simp only [Act.put, List.setIfInBounds_toArray, List.set_cons_zero, List.set_cons_succ]
  refine Ps.step (i := 2) (d := some 21) (u := ?uwq_3) rfl rfl (by kernel_rfl) (by kernel_rfl) (by kernel_rfl) (by kernel_rfl) ?ywq_3 ?rwq_3
  case ywq_3 =>
    refine StepS.read [] (by kernel_rfl) (Seq1.pass (by decide)) (by rfl) (fun L9 m9 w9 hSh hAt hDn hS => ?_)
    have hT : Blk w9 g11 26 #[.int .u64 s, .slice A2 m2 c2] := Seq1.any (T := fun w9 => Blk w9 g11 26 #[.int .u64 s, .slice A2 m2 c2]) (fun _ _ h => HM.out.ca h) (fun _ _ ⟨_, h1, _, h3⟩ => (HM.out.ca h1).apart h3 (by omega)) hS
    have x0 : w9.cell? ⟨g11, 0, none⟩ = some (.int .u64 s) := hT.cell 0
    clear hT hS
    go_simp
    try rfl
  try simp only [Act.put, List.setIfInBounds_toArray, List.set_cons_zero, List.set_cons_succ]
  refine Ps.step (i := 3) (d := some 22) (u := ?uwq_4) rfl rfl (by kernel_rfl) (by kernel_rfl) (by kernel_rfl) (by kernel_rfl) ?ywq_4 ?rwq_4
  case ywq_4 =>
    refine StepS.pure (Seq1.pass (by decide)) (by rfl) (fun w9 => ?_)
    go_simp
    try rfl
  try simp only [Act.put, List.setIfInBounds_toArray, List.set_cons_zero, List.set_cons_succ]
  refine Ps.step (i := 4) (d := none) (u := undef) rfl rfl (by kernel_rfl) (by kernel_rfl) (by kernel_rfl) (by kernel_rfl) ?ywq_5 ?rwq_5
  case ywq_5 =>
    refine StepS.store [] (by kernel_rfl) (by rfl) (fun L9 m9 w9 hSh hAt hDn hS => ?_)
    have hT := Seq1.at1 hDn hS
    refine (exec_store_blk (w := w9) 26 (.tmp 8) (.tmp 19) (by rfl) (w.heap.size + 4) 26 #[.int .u64 0, .slice none 0 0] #[.int .u64 s, .slice A2 m2 c2] (by rfl) (by rfl) (KR.out.ca hT) rfl netI (by simp [Value.oneCell'])).imp fun w7 hx => ⟨hx.1, Seq1.set1 ⟨w9, hT, hx.2.1, hx.2.2⟩⟩
  try simp only [Act.put]
  refine Ps.step (i := 5) (d := some 9) (u := ?uwq_6) rfl rfl (by kernel_rfl) (by kernel_rfl) (by kernel_rfl) (by kernel_rfl) ?ywq_6 ?rwq_6
  case ywq_6 =>
    refine StepS.pure (Seq1.pass (by decide)) (by rfl) (fun w9 => ?_)
    go_simp
    try rfl
  try simp only [Act.put, List.setIfInBounds_toArray, List.set_cons_zero, List.set_cons_succ]
  refine Ps.step (i := 6) (d := some 10) (u := ?uwq_7) rfl rfl (by kernel_rfl) (by kernel_rfl) (by kernel_rfl) (by kernel_rfl) ?ywq_7 ?rwq_7
  case ywq_7 =>
    refine StepS.pure (Seq1.pass (by decide)) (by rfl) (fun w9 => ?_)
    go_simp
    try rfl
  try simp only [Act.put, List.setIfInBounds_toArray, List.set_cons_zero, List.set_cons_succ]
  refine Ps.done (by kernel_rfl) (fun wq hS => ?_) _
  obtain ⟨w6, hT, hZ, gz⟩ := Seq1.fin (by rfl) hS
  clear hS
  go_wp2
  exact bodyPost_ret (res3 Try.results11 rfl rfl rfl hZ Try.underlying26 rfl netI) rfl ⟨A2, m2, c2, rfl, ((HO.out.below hT).kept gz (by omega)).less (by omega), bl_gr (bl_ca HBB.out hT) gz (by omega)⟩
end Go.Proofs.Ytnbcffnhgijmcaa
