/- net.Drop's closure (a draft: its second way is not done). Conditions: the boxes hold the two nodes; the copy's parcels are its own. -/
import Derived.Test.YtnbcffnhgijmcaaPkS10
namespace Go.Proofs.Ytnbcffnhgijmcaa
open Go.RowKit
theorem tokB' (W : World) (gf gt : Nat) (f t : Int) (B : Nat) (hf : Blk W gf 3 #[.int .i64 f]) (ht : Blk W gt 3 #[.int .i64 t]) (h1 : gf < B) (h2 : gt < B) : TestC 72 #[.pointer (some ⟨gf, 0, none⟩), .pointer (some ⟨gt, 0, none⟩)] (dropB f t) (fun W' => ∀ k, k < B → W'.heap[k]? = W.heap[k]?) := by
  intro q b n c W' hk
  exact drop11_any q b n c f t gf gt W' ((hk gf h1).trans hf) ((hk gt h2).trans ht)
def goneI (f t : Int) (ps : List PC) : Int := if pairB f t then (ps.length : Int) - ((ps.filter fun p => !dropB f t p).length : Int) else 0
set_option maxRecDepth 100000 in
set_option maxHeartbeats 8000000 in
theorem drop1_doc (sent : Int) (m : Nat) (ps : List PC) (f t : Int) (W : World) (gf gt gG : Nat) (hm : m ≤ 20000) (hf : Blk W gf 3 #[.int .i64 f]) (ht : Blk W gt 3 #[.int .i64 t]) (hG : Blk W gG 3 #[.int .i64 0]) (hne1 : gf ≠ gG) (hne2 : gt ≠ gG) :
    DoC 70 #[.pointer (some ⟨gf, 0, none⟩), .pointer (some ⟨gt, 0, none⟩), .pointer (some ⟨gG, 0, none⟩)] W W.heap.size (W.heap.size + 2) sent m ps (fun er w' => er = (if pairB f t then 0 else 2) ∧ Blk w' gG 3 #[.int .i64 (goneI f t ps)] ∧ Kept W w' gG W.heap.size) (fun w' s l => s = sent ∧ l.map El.p = ps.filter fun p => !dropB f t p) := by
  intro w A c es hbel hbB hB hN hD hes
  have hfw := hf.below hbel hf.lt
  have htw := ht.below hbel ht.lt
  have hGw := hG.below hbel hG.lt
  have l1 := hf.lt
  have l2 := ht.lt
  have l3 := hG.lt
  have f0 : w.cell? ⟨gf, 0, none⟩ = some (.int .i64 f) := hfw.cell 0
  have t0 : w.cell? ⟨gt, 0, none⟩ = some (.int .i64 t) := htw.cell 0
  have HPA := Lib.hid (fun w => pair_any f t w)
  have HK := Lib.hid (Kept.of_below (b := gG) hbel (Nat.le_refl _))
  rw [show (#[Value.pointer (some ⟨W.heap.size, 0, none⟩)] ++ #[.pointer (some ⟨gf, 0, none⟩), .pointer (some ⟨gt, 0, none⟩), .pointer (some ⟨gG, 0, none⟩)] : Array Value) = #[.pointer (some ⟨W.heap.size, 0, none⟩), .pointer (some ⟨gf, 0, none⟩), .pointer (some ⟨gt, 0, none⟩), .pointer (some ⟨gG, 0, none⟩)] from rfl]
  cases hp : pairB f t
  · rw [hp] at HPA
    have HGW := Lib.hid (show Blk w gG 3 #[.int .i64 (goneI f t ps)] by unfold goneI; rw [hp]; exact hGw)
    clear hp hN hD hes hbel hf ht hG hfw htw hGw
    go_enter Try.func70, Try.ntmps70
    go_wp2_with fail
    refine (HPA.out _).mono ?_
    rintro e w1 ⟨rfl, rfl⟩
    go_wp2
    go_ret
    exact ⟨2, rfl, ⟨rfl, HGW.out, HK.out⟩, Nat.le_refl _, fun _ _ _ => rfl, fun h => absurd h (by decide)⟩
  · rw [hp] at HPA
    have n1 : w.cell? ⟨W.heap.size, 1, none⟩ = some (.slice A m c) := hN.cell 1
    have HEN : ∀ (args : Array Value) (w : World), (callFunc 72 args).run Try.prog w = .ok (.enter 72 args) w := Go.Proofs.enters_of Try.func72 (by kernel_rfl) rfl
    have HDEL := Lib.hid (delg_any A m c (W.heap.size + 2) es 72 #[.pointer (some ⟨gf, 0, none⟩), .pointer (some ⟨gt, 0, none⟩)] (dropB f t) w hD hm hB HEN (tokB' w gf gt f t _ hfw htw (by omega) (by omega)))
    have hlen := hD.len
    have HMAP := Lib.hid (show (es.filter (keepE (dropB f t))).map El.p = ps.filter (fun p => !dropB f t p) from by rw [← hes, List.filter_map]; rfl)
    have HGO := Lib.hid (show goneI f t ps = (m : Int) - ((es.filter (keepE (dropB f t))).length : Int) from by unfold goneI; rw [hp, if_pos rfl, ← hes, List.length_map, hlen, List.filter_map, List.length_map]; rfl)
    have hle : (es.filter (keepE (dropB f t))).length ≤ m := by rw [← hlen]; exact List.length_filter_le _ _
    have HNW := Lib.hid hN
    have HGW := Lib.hid hGw
    clear hp hN hD hes hbel hf ht hG hfw htw hGw hlen
    go_enter Try.func70, Try.ntmps70
    go_wp2_with fail
    refine (HPA.out _).mono ?_
    rintro e wq ⟨rfl, rfl⟩
    go_wp2_with fail
    refine HDEL.out.mono ?_
    clear HDEL n1 f0 t0
    rintro e w1 ⟨m2, rfl, hD1, hk1, hs1, ho1⟩
    have hl2 := hD1.len
    have hN1 : Blk w1 W.heap.size 26 #[.int .u64 sent, .slice A m c] := (hk1 _ (by omega)).trans HNW.out
    have hG1 : Blk w1 gG 3 #[.int .i64 0] := (hk1 _ (by omega)).trans HGW.out
    have x1 : w1.cell? ⟨W.heap.size, 1, none⟩ = some (.slice A m c) := hN1.cell 1
    have fx : w1.frozen? ⟨W.heap.size, 1, none⟩ = false := hN1.frozen 1
    have hN2 : Blk (w1.setCell ⟨W.heap.size, 1, none⟩ (.slice A m2 c)) W.heap.size 26 #[.int .u64 sent, .slice A m2 c] := by simpa using hN1.set_ 1 (.slice A m2 c)
    have gn2 : w1.grownBy (w1.setCell ⟨W.heap.size, 1, none⟩ (.slice A m2 c)) (some W.heap.size) := only_setCell (World.grownBy.refl _ _) (.inl rfl) _
    have hG2 := hG1.apart gn2 (by omega)
    have y1 : (w1.setCell ⟨W.heap.size, 1, none⟩ (.slice A m2 c)).cell? ⟨W.heap.size, 1, none⟩ = some (.slice A m2 c) := hN2.cell 1
    have g0 : (w1.setCell ⟨W.heap.size, 1, none⟩ (.slice A m2 c)).cell? ⟨gG, 0, none⟩ = some (.int .i64 0) := hG2.cell 0
    have fg : (w1.setCell ⟨W.heap.size, 1, none⟩ (.slice A m2 c)).frozen? ⟨gG, 0, none⟩ = false := hG2.frozen 0
    have gn3 : (w1.setCell ⟨W.heap.size, 1, none⟩ (.slice A m2 c)).grownBy ((w1.setCell ⟨W.heap.size, 1, none⟩ (.slice A m2 c)).setCell ⟨gG, 0, none⟩ (.int .i64 ((m : Int) - (m2 : Int)))) (some gG) := only_setCell (World.grownBy.refl _ _) (.inl rfl) _
    have hG3 : Blk ((w1.setCell ⟨W.heap.size, 1, none⟩ (.slice A m2 c)).setCell ⟨gG, 0, none⟩ (.int .i64 ((m : Int) - (m2 : Int)))) gG 3 #[.int .i64 ((m : Int) - (m2 : Int))] := by simpa using hG2.set_ 0 (.int .i64 ((m : Int) - (m2 : Int)))
    have hm2 : m2 ≤ 20000 := by omega
    have HL2 := Lib.hid hl2
    clear hl2
    go_wp2_with fail
    go_ret
    have hs3 : w1.heap.size ≤ ((w1.setCell ⟨W.heap.size, 1, none⟩ (.slice A m2 c)).setCell ⟨gG, 0, none⟩ (.int .i64 ((m : Int) - (m2 : Int)))).heap.size := Nat.le_trans gn2.size gn3.size
    refine ⟨0, rfl, ⟨rfl, by rw [HGO.out, HL2.out]; exact hG3, ?_⟩, Nat.le_trans hs1 hs3, fun k h1 h2 => ?_, fun _ => ⟨sent, A, m2, c, hN2.apart gn3 (by omega), es.filter (keepE (dropB f t)), (hD1.kept gn2 (by omega)).kept gn3 (by omega), rfl, HMAP.out⟩⟩
    · refine HK.out.trans ⟨ho1.1, ho1.2.1, ho1.2.2, Nat.le_trans hs1 hs3, fun k hk hne => ?_⟩
      exact (gn3.block k (by have := gn2.size; omega) (fun e => by injection e with e; omega)).trans ((gn2.block k (by omega) (fun e => by injection e with e; omega)).trans (hk1 k (by omega)))
    · exact (gn3.block k (by have := gn2.size; omega) (fun e => by injection e with e; omega)).trans ((gn2.block k (by omega) (fun e => by injection e with e; omega)).trans (hk1 k (by omega)))
end Go.Proofs.Ytnbcffnhgijmcaa
/- net.Drop, whole. Conditions: the slice reads as these parcels. -/
namespace Go.Proofs.Ytnbcffnhgijmcaa
open Go.RowKit
def dropE (sent : Int) (ps : List PC) (f t : Int) : Int := if chkB sent ps then (if pairB f t then 0 else 2) else 340
def dropR (sent : Int) (ps : List PC) (f t : Int) : Int × List PC := if dropE sent ps f t = 0 then (sent, ps.filter fun p => !dropB f t p) else (0, [])
def dropG (sent : Int) (ps : List PC) (f t : Int) : Int := if dropE sent ps f t = 0 then goneI f t ps else 0
theorem drop_with (sent : Int) (A : Option Addr) (m c : Nat) (ps : List PC) (f t : Int) (W : World) (gf gt gG : Nat) (h : LP.rd W AllB A m ps) (hm : m ≤ 9223372036854775807) (hf : Blk W gf 3 #[.int .i64 f]) (ht : Blk W gt 3 #[.int .i64 t]) (hG : Blk W gG 3 #[.int .i64 0]) (hne1 : gf ≠ gG) (hne2 : gt ≠ gG) :
    Calls Try.prog 41 #[.agg #[.int .u64 sent, .slice A m c], .func (.func 70) #[] #[.pointer (some ⟨gf, 0, none⟩), .pointer (some ⟨gt, 0, none⟩), .pointer (some ⟨gG, 0, none⟩)]] W fun e w' => ∃ A2 m2 c2, e = .returned (.tuple #[.agg #[.int .u64 (dropR sent ps f t).1, .slice A2 m2 c2], .int .i64 (dropE sent ps f t)]) ∧ OutN w' W.heap.size A2 m2 c2 (dropR sent ps f t).2 ∧ Blk w' gG 3 #[.int .i64 (dropG sent ps f t)] ∧ Kept W w' gG W.heap.size := by
  have hgl := hG.lt
  cases hc : chkB sent ps
  · have e1 : dropE sent ps f t = 340 := by unfold dropE; rw [hc]; rfl
    have e2 : dropR sent ps f t = (0, []) := by unfold dropR; rw [e1]; rfl
    have e3 : dropG sent ps f t = 0 := by unfold dropG; rw [e1]; rfl
    rw [e1, e2, e3]
    exact (with_no AllB sent A m c ps _ W h hm hc).mono fun _ _ ⟨x, y⟩ => ⟨none, 0, 0, x, OutN.nil _ _, hG.ca y, Kept.of_below y (Nat.le_refl _)⟩
  · obtain ⟨r1, r2⟩ := chk_rng hc
    have hlen := h.1
    have hE : dropE sent ps f t = (if pairB f t then 0 else 2) := by unfold dropE; rw [hc, if_pos rfl]
    refine (with_any sent A m c ps _ _ _ _ W h (by omega) hc (Go.Proofs.enters_of Try.func70 (by kernel_rfl) rfl) (drop1_doc sent m ps f t W gf gt gG (by omega) hf ht hG hne1 hne2) ?_ (fun _ _ _ _ h _ => h)).mono ?_
    · rintro er w1 w2 ⟨he, hb, hk⟩ hg
      exact ⟨he, hb.apart hg (by omega), hk.trans (Kept.of_grown hg hk.size (.inr (by omega)))⟩
    · rintro e w' ⟨er, ⟨her, hb, hk⟩, hsz, ⟨hne, rfl⟩ | ⟨rfl, s, A2, m2, c2, es2, rfl, hd, rfl, hes⟩⟩
      · rw [← hE] at her
        subst her
        have e2 : dropR sent ps f t = (0, []) := by unfold dropR; rw [if_neg hne]
        have e3 : dropG sent ps f t = goneI f t ps := by
          unfold dropG goneI
          rw [if_neg hne]
          cases hp : pairB f t
          · rfl
          · rw [hE, hp] at hne; exact absurd rfl hne
        rw [e2, e3]
        exact ⟨none, 0, 0, rfl, OutN.nil _ _, hb, hk⟩
      · rw [← hE] at her
        have e2 : dropR s ps f t = (s, ps.filter fun p => !dropB f t p) := by unfold dropR; rw [if_pos her.symm]
        have e3 : dropG s ps f t = goneI f t ps := by unfold dropG; rw [if_pos her.symm]
        rw [e2, e3, ← her]
        exact ⟨A2, m2, c2, rfl, OutN.less ⟨es2, hd, hes⟩ (by omega), hb, hk⟩
set_option maxRecDepth 100000 in
set_option maxHeartbeats 8000000 in
theorem drop_any (sent : Int) (A : Option Addr) (m c : Nat) (ps : List PC) (f t : Int) (w : World) (h : LP.rd w AllB A m ps) (hm : m ≤ 9223372036854775807) :
    Calls Try.prog 55 #[.agg #[.int .u64 sent, .slice A m c], .int .i64 f, .int .i64 t] w fun e w' => ∃ A2 m2 c2, e = .returned (.tuple #[.agg #[.int .u64 (dropR sent ps f t).1, .slice A2 m2 c2], .int .i64 (dropG sent ps f t), .int .i64 (dropE sent ps f t)]) ∧ OutN w' w.heap.size A2 m2 c2 (dropR sent ps f t).2 ∧ Below w.heap.size w w' := by
  have HW := Lib.hid (fun W g1 g2 g3 h h1 h2 h3 n1 n2 => drop_with sent A m c ps f t W g1 g2 g3 h hm h1 h2 h3 n1 n2)
  generalize dropR sent ps f t = R at *
  generalize dropG sent ps f t = G at *
  generalize dropE sent ps f t = E at *
  obtain ⟨s, l⟩ := R
  have HH := Lib.hid h
  clear h
  have bb := Below.refl w.heap.size w
  have bN := Blk.new w 26 #[.int .u64 sent, .slice A m c]
  replace bb := bl_al bb (.cells #[.int .u64 sent, .slice A m c] 26)
  replace bN := bN.ca (bl_al (Below.refl _ _) (.cells #[.int .i64 f] 3))
  have bF : Blk ((w.alloc (.cells #[.int .u64 sent, .slice A m c] 26)).alloc (.cells #[.int .i64 f] 3)) (w.heap.size + 1) 3 #[.int .i64 f] := Blk.mk' (by simp only [World.size_alloc])
  replace bb := bl_al bb (.cells #[.int .i64 f] 3)
  replace bN := bN.ca (bl_al (Below.refl _ _) (.cells #[.int .i64 t] 3))
  replace bF := bF.ca (bl_al (Below.refl _ _) (.cells #[.int .i64 t] 3))
  have bT : Blk (((w.alloc (.cells #[.int .u64 sent, .slice A m c] 26)).alloc (.cells #[.int .i64 f] 3)).alloc (.cells #[.int .i64 t] 3)) (w.heap.size + 2) 3 #[.int .i64 t] := Blk.mk' (by simp only [World.size_alloc])
  replace bb := bl_al bb (.cells #[.int .i64 t] 3)
  replace bN := bN.ca (bl_al (Below.refl _ _) (.cells #[.int .u64 0, .slice none 0 0] 26))
  replace bF := bF.ca (bl_al (Below.refl _ _) (.cells #[.int .u64 0, .slice none 0 0] 26))
  replace bT := bT.ca (bl_al (Below.refl _ _) (.cells #[.int .u64 0, .slice none 0 0] 26))
  have bR : Blk ((((w.alloc (.cells #[.int .u64 sent, .slice A m c] 26)).alloc (.cells #[.int .i64 f] 3)).alloc (.cells #[.int .i64 t] 3)).alloc (.cells #[.int .u64 0, .slice none 0 0] 26)) (w.heap.size + 3) 26 #[.int .u64 0, .slice none 0 0] := Blk.mk' (by simp only [World.size_alloc])
  replace bb := bl_al bb (.cells #[.int .u64 0, .slice none 0 0] 26)
  replace bN := bN.ca (bl_al (Below.refl _ _) (.cells #[.int .i64 0] 3))
  replace bF := bF.ca (bl_al (Below.refl _ _) (.cells #[.int .i64 0] 3))
  replace bT := bT.ca (bl_al (Below.refl _ _) (.cells #[.int .i64 0] 3))
  replace bR := bR.ca (bl_al (Below.refl _ _) (.cells #[.int .i64 0] 3))
  have bG : Blk (((((w.alloc (.cells #[.int .u64 sent, .slice A m c] 26)).alloc (.cells #[.int .i64 f] 3)).alloc (.cells #[.int .i64 t] 3)).alloc (.cells #[.int .u64 0, .slice none 0 0] 26)).alloc (.cells #[.int .i64 0] 3)) (w.heap.size + 4) 3 #[.int .i64 0] := Blk.mk' (by simp only [World.size_alloc])
  replace bb := bl_al bb (.cells #[.int .i64 0] 3)
  have hsz : w.heap.size + 5 ≤ (((((w.alloc (.cells #[.int .u64 sent, .slice A m c] 26)).alloc (.cells #[.int .i64 f] 3)).alloc (.cells #[.int .i64 t] 3)).alloc (.cells #[.int .u64 0, .slice none 0 0] 26)).alloc (.cells #[.int .i64 0] 3)).heap.size := by simp only [World.size_alloc]; omega
  go_enter Try.func55, Try.ntmps55
  go_wp2_with fail
  generalize (((((w.alloc (.cells #[.int .u64 sent, .slice A m c] 26)).alloc (.cells #[.int .i64 f] 3)).alloc (.cells #[.int .i64 t] 3)).alloc (.cells #[.int .u64 0, .slice none 0 0] 26)).alloc (.cells #[.int .i64 0] 3)) = w1 at *
  refine (HW.out w1 (w.heap.size + 1) (w.heap.size + 2) (w.heap.size + 4) (Lay.rd_below HH.out bb) bF bT bG (by omega) (by omega)).mono ?_
  rintro e w2 ⟨A2, m2, c2, rfl, ho, hG2, hk⟩
  have hk1 := hk.block
  have hR2 : Blk w2 (w.heap.size + 3) 26 #[.int .u64 0, .slice none 0 0] := (hk1 _ (by omega) (by omega)).trans bR
  have KR := Lib.hid (hR2.ca (bl_al (Below.refl _ _) (.cells #[.int .u64 s, .slice A2 m2 c2] 26)))
  have HM := Lib.hid (Blk.new w2 26 #[.int .u64 s, .slice A2 m2 c2])
  have HG := Lib.hid (hG2.ca (bl_al (Below.refl _ _) (.cells #[.int .u64 s, .slice A2 m2 c2] 26)))
  have HO := Lib.hid (ho.below (bl_al (Below.refl _ _) (.cells #[.int .u64 s, .slice A2 m2 c2] 26)))
  have hz2 := hk.size
  have HBB := Lib.hid (bl_al (hk.below bb (by omega) (by omega)) (.cells #[.int .u64 s, .slice A2 m2 c2] 26))
  clear hk hk1 hR2 hG2 ho bN bR bF bT bG bb
  go_wp2_with fail
  obtain ⟨g11, hg11⟩ : ∃ g, g = w2.heap.size := ⟨_, rfl⟩
  have hg12 : w.heap.size + 5 ≤ g11 := by omega
  rw [← hg11] at HM
  generalize w2.heap.size = G2 at *
  subst hg11
  generalize w2.alloc (.cells #[.int .u64 s, .slice A2 m2 c2] 26) = w5 at *
  refine wp_region_ps (S := Seq1 3 (fun _ w' => Below w5.heap.size w5 w') (fun _ w' => ∃ w6, Below w5.heap.size w5 w6 ∧ Blk w' (w.heap.size + 3) 26 #[.int .u64 s, .slice A2 m2 c2] ∧ w6.grownBy w' (some (w.heap.size + 3)))) (by kernel_rfl) ?spswq ?ppswq
  case spswq =>
    exact Seq1.start (by decide) (Below.refl _ _).drew
  refine Ps.step (i := 0) (d := some 18) (u := ?uwq_1) rfl rfl (by kernel_rfl) (by kernel_rfl) (by kernel_rfl) (by kernel_rfl) ?ywq_1 ?rwq_1
  case ywq_1 =>
    refine StepS.read [] (by kernel_rfl) (Seq1.pass (by decide)) (by rfl) (fun L9 m9 w9 hSh hAt hDn hS => ?_)
    have hT : Blk w9 g11 26 #[.int .u64 s, .slice A2 m2 c2] := Seq1.any (T := fun w9 => Blk w9 g11 26 #[.int .u64 s, .slice A2 m2 c2]) (fun _ _ h => HM.out.ca h) (fun _ _ ⟨_, h1, _, h3⟩ => (HM.out.ca h1).apart h3 (by omega)) hS
    have x0 : w9.cell? ⟨g11, 0, none⟩ = some (.int .u64 s) := hT.cell 0
    have x1 : w9.cell? ⟨g11, 1, none⟩ = some (.slice A2 m2 c2) := hT.cell 1
    clear hT hS
    go_simp
    try rfl
  try simp only [Act.put, List.setIfInBounds_toArray, List.set_cons_zero, List.set_cons_succ]
  refine Ps.step (i := 1) (d := some 19) (u := ?uwq_2) rfl rfl (by kernel_rfl) (by kernel_rfl) (by kernel_rfl) (by kernel_rfl) ?ywq_2 ?rwq_2
  case ywq_2 =>
    refine StepS.read [] (by kernel_rfl) (Seq1.pass (by decide)) (by rfl) (fun L9 m9 w9 hSh hAt hDn hS => ?_)
    have hT : Blk w9 (w.heap.size + 4) 3 #[.int .i64 G] := Seq1.any (T := fun w9 => Blk w9 (w.heap.size + 4) 3 #[.int .i64 G]) (fun _ _ h => HG.out.ca h) (fun _ _ ⟨_, h1, _, h3⟩ => (HG.out.ca h1).apart h3 (by omega)) hS
    have x0 : w9.cell? ⟨w.heap.size + 4, 0, none⟩ = some (.int .i64 G) := hT.cell 0
    clear hT hS
    go_simp
    try rfl
  try simp only [Act.put, List.setIfInBounds_toArray, List.set_cons_zero, List.set_cons_succ]
  refine Ps.step (i := 2) (d := some 20) (u := ?uwq_3) rfl rfl (by kernel_rfl) (by kernel_rfl) (by kernel_rfl) (by kernel_rfl) ?ywq_3 ?rwq_3
  case ywq_3 =>
    refine StepS.pure (Seq1.pass (by decide)) (by rfl) (fun w9 => ?_)
    go_simp
    try rfl
  try simp only [Act.put, List.setIfInBounds_toArray, List.set_cons_zero, List.set_cons_succ]
  refine Ps.step (i := 3) (d := none) (u := undef) rfl rfl (by kernel_rfl) (by kernel_rfl) (by kernel_rfl) (by kernel_rfl) ?ywq_4 ?rwq_4
  case ywq_4 =>
    refine StepS.store [] (by kernel_rfl) (by rfl) (fun L9 m9 w9 hSh hAt hDn hS => ?_)
    have hT := Seq1.at1 hDn hS
    refine (exec_store_blk (w := w9) 26 (.tmp 6) (.tmp 18) (by rfl) (w.heap.size + 3) 26 #[.int .u64 0, .slice none 0 0] #[.int .u64 s, .slice A2 m2 c2] (by rfl) (by rfl) (KR.out.ca hT) rfl netI (by simp [Value.oneCell'])).imp fun w7 hx => ⟨hx.1, Seq1.set1 ⟨w9, hT, hx.2.1, hx.2.2⟩⟩
  try simp only [Act.put]
  refine Ps.step (i := 4) (d := some 7) (u := ?uwq_5) rfl rfl (by kernel_rfl) (by kernel_rfl) (by kernel_rfl) (by kernel_rfl) ?ywq_5 ?rwq_5
  case ywq_5 =>
    refine StepS.pure (Seq1.pass (by decide)) (by rfl) (fun w9 => ?_)
    go_simp
    try rfl
  try simp only [Act.put, List.setIfInBounds_toArray, List.set_cons_zero, List.set_cons_succ]
  refine Ps.step (i := 5) (d := some 8) (u := ?uwq_6) rfl rfl (by kernel_rfl) (by kernel_rfl) (by kernel_rfl) (by kernel_rfl) ?ywq_6 ?rwq_6
  case ywq_6 =>
    refine StepS.pure (Seq1.pass (by decide)) (by rfl) (fun w9 => ?_)
    go_simp
    try rfl
  try simp only [Act.put, List.setIfInBounds_toArray, List.set_cons_zero, List.set_cons_succ]
  refine Ps.done (by kernel_rfl) (fun wq hS => ?_) _
  obtain ⟨w6, hT, hZ, gz⟩ := Seq1.fin (by rfl) hS
  clear hS
  go_wp2
  exact bodyPost_ret (res3 Try.results55 rfl rfl rfl hZ Try.underlying26 rfl netI) rfl ⟨A2, m2, c2, rfl, ((HO.out.below hT).kept gz (by omega)).less (by omega), bl_gr (bl_ca HBB.out hT) gz (by omega)⟩
end Go.Proofs.Ytnbcffnhgijmcaa
/- What an op answers. Conditions: none. -/
namespace Go.Proofs.Ytnbcffnhgijmcaa
open Go.RowKit
structure Told where
  s : Int
  ps : List PC
  num : Int
  p : PC
  gone : Int
  e : Int
abbrev tcells (s : Int) (A : Option Addr) (m c : Nat) (num : Int) (p : PC) (B : Option Addr) (n d : Nat) (gone e : Int) : Array Value :=
  #[.int .u64 s, .slice A m c, .int .u64 num, .int .u64 p.num, .int .i64 p.frm, .int .i64 p.to, .slice B n d, .bool p.sp, .int .i64 gone, .int .i64 e]
theorem toldI : (Try.prog.info? 51).map (·.size) = some 10 := by kernel_rfl
/-- the answer's data, each in memory of its own -/
def Sep (w : World) (B : Nat) (T : Told) (A : Option Addr) (m c : Nat) (D : Option Addr) (n d : Nat) : Prop :=
  ∃ es, DO w B A m c es ∧ es.map El.p = T.ps ∧ OwnB w B D n d T.p.bs ∧ ∀ y ∈ es, ∀ k, (Value.slice D n d).ownBlock = some k → y.bk ≠ some k
theorem Sep.below {w w' : World} {B : Nat} {T : Told} {A : Option Addr} {m c : Nat} {D : Option Addr} {n d : Nat} (h : Sep w B T A m c D n d) (q : Below w.heap.size w w') : Sep w' B T A m c D n d := by
  obtain ⟨es, h1, h2, h3, h4⟩ := h
  exact ⟨es, h1.below q, h2, h3.below q, h4⟩
theorem Sep.kept {w w' : World} {B r : Nat} {T : Told} {A : Option Addr} {m c : Nat} {D : Option Addr} {n d : Nat} (h : Sep w B T A m c D n d) (hg : w.grownBy w' (some r)) (hr : r < B) : Sep w' B T A m c D n d := by
  obtain ⟨es, h1, h2, h3, h4⟩ := h
  exact ⟨es, h1.kept hg hr, h2, h3.kept hg (fun e => by have := (h3.base_ r e).1; omega), h4⟩
theorem Sep.less {w : World} {B B' : Nat} {T : Told} {A : Option Addr} {m c : Nat} {D : Option Addr} {n d : Nat} (h : Sep w B T A m c D n d) (hB : B' ≤ B) : Sep w B' T A m c D n d := by
  obtain ⟨es, h1, h2, h3, h4⟩ := h
  exact ⟨es, h1.less hB, h2, OwnB.less h3 hB, h4⟩
theorem Sep.ofN {w : World} {B : Nat} {A : Option Addr} {m c : Nat} {ps : List PC} (h : OutN w B A m c ps) (s num gone e : Int) : Sep w B ⟨s, ps, num, zeroPC, gone, e⟩ A m c none 0 0 := by
  obtain ⟨es, h1, h2⟩ := h
  exact ⟨es, h1, h2, OwnB.none_ _ _, fun y _ k hk => by simp [Value.ownBlock] at hk⟩
def RunC (w : World) (T : Told) (e : Ending) (w' : World) : Prop :=
  ∃ A m c D n d, e = .returned (.agg (tcells T.s A m c T.num T.p D n d T.gone T.e)) ∧ Sep w' w.heap.size T A m c D n d ∧ Below w.heap.size w w'
theorem Blk.kp {w w' : World} {g b B : Nat} {t : TypeId} {cs : Array Value} (h : Blk w g t cs) (k : Kept w w' b B) (hB : g < B) (hne : g ≠ b) : Blk w' g t cs := (k.block g hB hne).trans h
theorem rd_kp {w0 w w' : World} {b B : Nat} {A : Option Addr} {m : Nat} {ps : List PC} (h : LP.rd w (Old w0) A m ps) (k : Kept w w' b B) (hB : w0.heap.size ≤ B) (hb : w0.heap.size ≤ b) : LP.rd w' AllB A m ps :=
  Lay.rd_weak (fun _ _ _ => trivial) (Lay.rd_keep (fun j hj _ => by have hj' : j < w0.heap.size := hj; exact k.block j (by omega) (by omega)) h)
theorem inj_np {s s' : Int} {A A' B B' : Option Addr} {m c m' c' k d k' d' : Nat} {P P' : PC} {e e' : Int} (h : Value.tuple #[.agg #[.int .u64 s, .slice A m c], .agg #[.int .u64 P.num, .int .i64 P.frm, .int .i64 P.to, .slice B k d, .bool P.sp], .int .i64 e] = .tuple #[.agg #[.int .u64 s', .slice A' m' c'], .agg #[.int .u64 P'.num, .int .i64 P'.frm, .int .i64 P'.to, .slice B' k' d', .bool P'.sp], .int .i64 e']) :
    A = A' ∧ m = m' ∧ c = c' ∧ B = B' ∧ k = k' ∧ d = d' := by
  simp at h
  obtain ⟨⟨_, rfl, rfl, rfl⟩, ⟨_, _, _, ⟨rfl, rfl, rfl⟩, _⟩, _⟩ := h
  exact ⟨rfl, rfl, rfl, rfl, rfl, rfl⟩
theorem inj_n2 {s s' : Int} {A A' : Option Addr} {m c m' c' : Nat} {e e' : Int} (h : Value.tuple #[.agg #[.int .u64 s, .slice A m c], .int .i64 e] = .tuple #[.agg #[.int .u64 s', .slice A' m' c'], .int .i64 e']) : A = A' ∧ m = m' ∧ c = c' := by
  simp at h
  exact h.1.2
theorem inj_n3 {s s' : Int} {A A' : Option Addr} {m c m' c' : Nat} {e e' u u' : Int} (h : Value.tuple #[.agg #[.int .u64 s, .slice A m c], .int .u64 u, .int .i64 e] = .tuple #[.agg #[.int .u64 s', .slice A' m' c'], .int .u64 u', .int .i64 e']) : A = A' ∧ m = m' ∧ c = c' := by
  simp at h
  exact h.1.2
end Go.Proofs.Ytnbcffnhgijmcaa
/- An op that sends is run. Conditions: the net's slice reads as these parcels. -/
namespace Go.Proofs.Ytnbcffnhgijmcaa
open Go.RowKit
set_option maxRecDepth 100000 in
set_option maxHeartbeats 16000000 in
theorem run_send0 (o : OpC) (oA : Option Addr) (on oc : Nat) (sent : Int) (A : Option Addr) (m c : Nat) (ps : List PC) (w : World) (hk : kindI o = 0) (h : LP.rd w AllB A m ps) (hm : m ≤ 9223372036854775807) (hs0 : 0 ≤ sent) (hb : RdB w oA on o.bs) (hc1 : on ≤ oc) (hc2 : oc ≤ 9223372036854775807) :
    Calls Try.prog 22 #[.agg (o.cells oA on oc), .agg #[.int .u64 sent, .slice A m c]] w (RunC w ⟨(sendR sent ps o.frm o.to (bytesO o)).1, (sendR sent ps o.frm o.to (bytesO o)).2, (sendR sent ps o.frm o.to (bytesO o)).1, zeroPC, 0, sendE sent ps o.frm o.to (bytesO o)⟩) := by
  have HK := Lib.hid (fun w => kind_any o oA on oc w)
  rw [hk] at HK
  clear hk
  have HBY := Lib.hid (fun W h => bytes_any o oA on oc W h hc1 hc2)
  obtain ⟨bb8, hbb8⟩ : ∃ bb8, bb8 = bytesO o := ⟨_, rfl⟩
  rw [← hbb8]
  rw [← hbb8] at HBY
  clear hbb8
  obtain ⟨k, f, t, a, p, ot, y, bs⟩ := o
  dsimp only at hb HBY ⊢
  obtain ⟨s, hs⟩ : ∃ s, s = (sendR sent ps f t bb8).1 := ⟨_, rfl⟩
  obtain ⟨l, hl⟩ : ∃ l, l = (sendR sent ps f t bb8).2 := ⟨_, rfl⟩
  obtain ⟨E, hE⟩ : ∃ E, E = sendE sent ps f t bb8 := ⟨_, rfl⟩
  have HCO := Lib.hid (fun bA bn bc W h hb => send_any sent A m c ps f t bA bn bc bb8 W h hm hs0 hb)
  rw [← hs, ← hl, ← hE] at HCO
  rw [← hs, ← hl, ← hE]
  clear hs hl hE
  replace h := Lay.rd_weak (G := Old w) (fun b _ hb => hb) h
  have bb := Below.refl w.heap.size w
  have bO := Blk.new w 49 #[.int .i64 k, .int .i64 f, .int .i64 t, .int .i64 a, .int .i64 p, .bool ot, vb y, .slice oA on oc]
  replace bb := bl_al bb (.cells #[.int .i64 k, .int .i64 f, .int .i64 t, .int .i64 a, .int .i64 p, .bool ot, vb y, .slice oA on oc] 49)
  replace bO := bO.ca (bl_al (Below.refl _ _) (.cells #[.int .u64 sent, .slice A m c] 26))
  have bN : Blk ((w.alloc (.cells #[.int .i64 k, .int .i64 f, .int .i64 t, .int .i64 a, .int .i64 p, .bool ot, vb y, .slice oA on oc] 49)).alloc (.cells #[.int .u64 sent, .slice A m c] 26)) (w.heap.size + 1) 26 #[.int .u64 sent, .slice A m c] := Blk.mk' (by simp only [World.size_alloc])
  replace bb := bl_al bb (.cells #[.int .u64 sent, .slice A m c] 26)
  replace bO := bO.ca (bl_al (Below.refl _ _) (.cells #[.int .u64 0, .slice none 0 0, .int .u64 0, .int .u64 0, .int .i64 0, .int .i64 0, .slice none 0 0, .bool false, .int .i64 0, .int .i64 0] 51))
  replace bN := bN.ca (bl_al (Below.refl _ _) (.cells #[.int .u64 0, .slice none 0 0, .int .u64 0, .int .u64 0, .int .i64 0, .int .i64 0, .slice none 0 0, .bool false, .int .i64 0, .int .i64 0] 51))
  have bT : Blk (((w.alloc (.cells #[.int .i64 k, .int .i64 f, .int .i64 t, .int .i64 a, .int .i64 p, .bool ot, vb y, .slice oA on oc] 49)).alloc (.cells #[.int .u64 sent, .slice A m c] 26)).alloc (.cells #[.int .u64 0, .slice none 0 0, .int .u64 0, .int .u64 0, .int .i64 0, .int .i64 0, .slice none 0 0, .bool false, .int .i64 0, .int .i64 0] 51)) (w.heap.size + 2) 51 #[.int .u64 0, .slice none 0 0, .int .u64 0, .int .u64 0, .int .i64 0, .int .i64 0, .slice none 0 0, .bool false, .int .i64 0, .int .i64 0] := Blk.mk' (by simp only [World.size_alloc])
  replace bb := bl_al bb (.cells #[.int .u64 0, .slice none 0 0, .int .u64 0, .int .u64 0, .int .i64 0, .int .i64 0, .slice none 0 0, .bool false, .int .i64 0, .int .i64 0] 51)
  have hsz : w.heap.size + 3 ≤ (((w.alloc (.cells #[.int .i64 k, .int .i64 f, .int .i64 t, .int .i64 a, .int .i64 p, .bool ot, vb y, .slice oA on oc] 49)).alloc (.cells #[.int .u64 sent, .slice A m c] 26)).alloc (.cells #[.int .u64 0, .slice none 0 0, .int .u64 0, .int .u64 0, .int .i64 0, .int .i64 0, .slice none 0 0, .bool false, .int .i64 0, .int .i64 0] 51)).heap.size := by simp only [World.size_alloc]; omega
  have HR1 := Lib.hid (Lay.rd_below h bb)
  have HB1 := Lib.hid (hb.below bb)
  clear h hb
  go_enter Try.func22, Try.ntmps22
  go_wp2_with fail
  generalize (((w.alloc (.cells #[.int .i64 k, .int .i64 f, .int .i64 t, .int .i64 a, .int .i64 p, .bool ot, vb y, .slice oA on oc] 49)).alloc (.cells #[.int .u64 sent, .slice A m c] 26)).alloc (.cells #[.int .u64 0, .slice none 0 0, .int .u64 0, .int .u64 0, .int .i64 0, .int .i64 0, .slice none 0 0, .bool false, .int .i64 0, .int .i64 0] 51)) = w1 at *
  refine (HK.out _).mono ?_
  rintro e w5 ⟨rfl, q5⟩
  have HO := Lib.hid (bO.ca q5)
  have HN := Lib.hid (bN.ca q5)
  have HT := Lib.hid (bT.ca q5)
  have HR := Lib.hid (Lay.rd_below HR1.out q5)
  have BB := Lib.hid (bl_ca bb q5)
  have hs5 := Nat.le_trans hsz q5.size
  clear bO bN bT bb HR1 HK
  have Q5 := q5
  clear q5
  have HB5 := Lib.hid (HB1.out.below Q5)
  clear HB1
  have z0 : w5.cell? ⟨w.heap.size, 0, none⟩ = some (.int .i64 k) := HO.out.cell 0
  have z1 : w5.cell? ⟨w.heap.size, 1, none⟩ = some (.int .i64 f) := HO.out.cell 1
  have z2 : w5.cell? ⟨w.heap.size, 2, none⟩ = some (.int .i64 t) := HO.out.cell 2
  have z3 : w5.cell? ⟨w.heap.size, 3, none⟩ = some (.int .i64 a) := HO.out.cell 3
  have z4 : w5.cell? ⟨w.heap.size, 4, none⟩ = some (.int .i64 p) := HO.out.cell 4
  have z5 : w5.cell? ⟨w.heap.size, 5, none⟩ = some (.bool ot) := HO.out.cell 5
  have z6 : w5.cell? ⟨w.heap.size, 6, none⟩ = some (vb y) := HO.out.cell 6
  have z7 : w5.cell? ⟨w.heap.size, 7, none⟩ = some (.slice oA on oc) := HO.out.cell 7
  go_wp2_with fail
  refine (HBY.out _ HB5.out).mono ?_
  rintro e w6 ⟨bA, bk, bc, rfl, hob, q6⟩
  have hbc := hob.cap
  have hbc2 : bk ≤ 9223372036854775807 := by have := hbc.2; unfold maxLen at this; omega
  have x0 : w6.cell? ⟨w.heap.size + 1, 0, none⟩ = some (.int .u64 sent) := (HN.out.ca q6).cell 0
  have x1 : w6.cell? ⟨w.heap.size + 1, 1, none⟩ = some (.slice A m c) := (HN.out.ca q6).cell 1
  have y1 : w6.cell? ⟨w.heap.size, 1, none⟩ = some (.int .i64 f) := (HO.out.ca q6).cell 1
  have y2 : w6.cell? ⟨w.heap.size, 2, none⟩ = some (.int .i64 t) := (HO.out.ca q6).cell 2
  have HR6 := Lib.hid (Lay.rd_below HR.out q6)
  have HT6 := Lib.hid (HT.out.ca q6)
  have HOB6 := Lib.hid hob
  have BB6 := Lib.hid (bl_ca BB.out q6)
  have hs6 := q6.size
  clear z0 z1 z2 z3 z4 z5 z6 z7 hob q6 HR HT BB HB5 HBY HO HN
  go_wp2_with fail
  refine (HCO.out bA bk bc _ (Lay.rd_weak (fun _ _ _ => trivial) HR6.out) HOB6.out.rd).mono ?_
  rintro e w8 ⟨A2, m2, c2, rfl, ho, q8⟩
  have KT := Lib.hid (HT6.out.ca q8)
  have HSEP := Lib.hid (Sep.ofN ho s s 0 E)
  have BB8 := Lib.hid (bl_ca BB6.out q8)
  have HOB := Lib.hid (HOB6.out.below q8)
  have HBASE := Lib.hid HOB6.out.base_
  clear x0 x1 y1 y2 ho q8 HCO HR6 HT6
  go_wp2_with (refine wpList_store_part rfl 26 (.tmp 40) (.tmp 37) rfl (w.heap.size + 2) 0 51 #[.int .u64 0, .slice none 0 0, .int .u64 0, .int .u64 0, .int .i64 0, .int .i64 0, .slice none 0 0, .bool false, .int .i64 0, .int .i64 0] #[.int .u64 s, .slice A2 m2 c2] #[.int .u64 s, .slice A2 m2 c2, .int .u64 0, .int .u64 0, .int .i64 0, .int .i64 0, .slice none 0 0, .bool false, .int .i64 0, .int .i64 0] rfl rfl KT.out (by simp) netI (by simp [Value.oneCell']) (by rfl) ?_; intro w9 hB gz; have x8 : w9.cell? ⟨w.heap.size + 2, 2, none⟩ = some (.int .u64 0) := hB.cell 2; have x9 : w9.cell? ⟨w.heap.size + 2, 9, none⟩ = some (.int .i64 0) := hB.cell 9; have f8 : w9.frozen? ⟨w.heap.size + 2, 2, none⟩ = false := hB.frozen 2; have f9 : w9.frozen? ⟨w.heap.size + 2, 9, none⟩ = false := hB.frozen 9; have HG9 := Lib.hid gz; have HB3 := Lib.hid (show Blk ((w9.setCell ⟨w.heap.size + 2, 2, none⟩ (.int .u64 s)).setCell ⟨w.heap.size + 2, 9, none⟩ (.int .i64 E)) (w.heap.size + 2) 51 #[.int .u64 s, .slice A2 m2 c2, .int .u64 s, .int .u64 0, .int .i64 0, .int .i64 0, .slice none 0 0, .bool false, .int .i64 0, .int .i64 E] from by simpa using (hB.set_ 2 (.int .u64 s)).set_ 9 (.int .i64 E)); clear hB gz)
  have g1 : w8.grownBy ((w9.setCell ⟨w.heap.size + 1 + 1, 2, none⟩ (.int .u64 s)).setCell ⟨w.heap.size + 1 + 1, 9, none⟩ (.int .i64 E)) (some (w.heap.size + 2)) := only_setCell (only_setCell HG9.out (.inl rfl) _) (.inl rfl) _
  have HF : Blk ((w9.setCell ⟨w.heap.size + 1 + 1, 2, none⟩ (.int .u64 s)).setCell ⟨w.heap.size + 1 + 1, 9, none⟩ (.int .i64 E)) (w.heap.size + 2) 51 #[.int .u64 s, .slice A2 m2 c2, .int .u64 s, .int .u64 0, .int .i64 0, .int .i64 0, .slice none 0 0, .bool false, .int .i64 0, .int .i64 E] := HB3.out
  have HO8 : OwnB ((w9.setCell ⟨w.heap.size + 1 + 1, 2, none⟩ (.int .u64 s)).setCell ⟨w.heap.size + 1 + 1, 9, none⟩ (.int .i64 E)) w5.heap.size bA bk bc bb8 := HOB.out.kept g1 (fun e => by have := (HBASE.out _ e).1; omega)
  have HS8 : Sep ((w9.setCell ⟨w.heap.size + 1 + 1, 2, none⟩ (.int .u64 s)).setCell ⟨w.heap.size + 1 + 1, 9, none⟩ (.int .i64 E)) w6.heap.size ⟨s, l, s, zeroPC, 0, E⟩ A2 m2 c2 none 0 0 := HSEP.out.kept g1 (by omega)
  have HBB : Below w.heap.size w ((w9.setCell ⟨w.heap.size + 1 + 1, 2, none⟩ (.int .u64 s)).setCell ⟨w.heap.size + 1 + 1, 9, none⟩ (.int .i64 E)) := bl_gr BB8.out g1 (by omega)
  clear x8 x9 f8 f9 HG9 HB3 g1 HOB HSEP BB8 KT BB6 HOB6
  generalize ((w9.setCell ⟨w.heap.size + 1 + 1, 2, none⟩ (.int .u64 s)).setCell ⟨w.heap.size + 1 + 1, 9, none⟩ (.int .i64 E)) = w10 at *
  go_loopg [45] bk (fun gz b wr => ∃ (i : Nat) (bs2 : List UInt8), i + gz = bk ∧ b = .int .i64 i ∧ OwnB wr w5.heap.size bA bk bc bs2 ∧ Blk wr (w.heap.size + 2) 51 #[.int .u64 s, .slice A2 m2 c2, .int .u64 s, .int .u64 0, .int .i64 0, .int .i64 0, .slice none 0 0, .bool false, .int .i64 0, .int .i64 E] ∧ Sep wr w6.heap.size ⟨s, l, s, zeroPC, 0, E⟩ A2 m2 c2 none 0 0 ∧ Below w.heap.size w wr)
  case atStart => exact ⟨0, bb8, by omega, rfl, HO8, HF, HS8, HBB⟩
  case round =>
    clear HO8 HF HS8 HBB
    obtain ⟨i, bs2, hig, rfl, hO, hF, hS, hB⟩ := hrel
    have HF := Lib.hid hF
    have HS := Lib.hid hS
    have HBB := Lib.hid hB
    have HO8 := Lib.hid hO
    clear hF hS hB
    by_cases hlt : i < bk
    · have hi1 : (i : Int) < (bk : Int) := by omega
      obtain ⟨g, rfl, hg1, hg2⟩ := hO.form (by omega)
      obtain ⟨x, hx⟩ : ∃ x, bs2[i]? = some x := ⟨_, List.getElem?_eq_getElem (by rw [hO.rd.len]; exact hlt)⟩
      have cx : wr.cell? ⟨g, i, none⟩ = some (.int .u8 (x.toNat : Int)) := by
        have := World.ownsRow.cellAt hO i (by omega)
        simpa [List.getElem?_map, hx, vb] using this
      have fx : wr.frozen? ⟨g, i, none⟩ = false := World.ownsRow.frozenAt hO i
      clear hO
      have hv : Value.int .u8 (bits BinOp.xor IntKind.u8 (x.toNat : Int) 238) = vb (x ^^^ 238) := by
        have h1 := u8_xor_nat x.toNat 238 x.toNat_lt (by decide)
        rw [show ((238 : Nat) : Int) = 238 from rfl] at h1
        rw [h1]
        show _ = Value.int .u8 ((x ^^^ 238).toNat : Int)
        rw [UInt8.toNat_xor]
        rfl
      have HV := Lib.hid hv
      obtain ⟨ho9, g9⟩ := OwnB.set_ HO8.out i (x ^^^ 238)
      rw [← hv] at ho9 g9
      have HO9 := Lib.hid ho9
      have HG9 := Lib.hid g9
      have hgs := (HBASE.out g rfl).2
      clear hv ho9 g9 hx
      go_wp2
      go_roundg (gk - 1)
      · exact ⟨i + 1, _, by omega, by go_num, HO9.out, HF.out.apart HG9.out (by omega), HS.out.kept HG9.out hgs, bl_gr HBB.out HG9.out (by omega)⟩
      · omega
    · obtain rfl : i = bk := by omega
      have hi1 : (i : Int) ≤ (i : Int) := by omega
      clear hO
      go_wp2_with (first | (refine wpList_load_blk rfl 51 (.tmp 4) rfl (w.heap.size + 2) rfl 51 #[.int .u64 s, .slice A2 m2 c2, .int .u64 s, .int .u64 0, .int .i64 0, .int .i64 0, .slice none 0 0, .bool false, .int .i64 0, .int .i64 E] _ HF.out Try.underlying51 rfl toldI ?_) | (refine wpList_store_blk rfl 51 (.tmp 4) (.tmp 110) rfl (w.heap.size + 2) 51 #[.int .u64 s, .slice A2 m2 c2, .int .u64 s, .int .u64 0, .int .i64 0, .int .i64 0, .slice none 0 0, .bool false, .int .i64 0, .int .i64 E] #[.int .u64 s, .slice A2 m2 c2, .int .u64 s, .int .u64 0, .int .i64 0, .int .i64 0, .slice none 0 0, .bool false, .int .i64 0, .int .i64 E] rfl rfl HF.out rfl toldI (by simp [Value.oneCell']) ?_; intro wz hZ gz))
      exact bodyPost_ret (res1 Try.results22 rfl hZ Try.underlying51 rfl toldI) rfl ⟨_, _, _, _, _, _, rfl, (HS.out.kept gz (by omega)).less (by omega), bl_gr HBB.out gz (by omega)⟩
set_option maxRecDepth 100000 in
set_option maxHeartbeats 16000000 in
theorem run_send1 (o : OpC) (oA : Option Addr) (on oc : Nat) (sent : Int) (A : Option Addr) (m c : Nat) (ps : List PC) (w : World) (hk : kindI o = 1) (h : LP.rd w AllB A m ps) (hm : m ≤ 9223372036854775807) (hs0 : 0 ≤ sent) (hb : RdB w oA on o.bs) (hc1 : on ≤ oc) (hc2 : oc ≤ 9223372036854775807) :
    Calls Try.prog 22 #[.agg (o.cells oA on oc), .agg #[.int .u64 sent, .slice A m c]] w (RunC w ⟨(sendR sent ps o.frm o.to (bytesO o)).1, (sendR sent ps o.frm o.to (bytesO o)).2, (sendR sent ps o.frm o.to (bytesO o)).1, zeroPC, 0, sendE sent ps o.frm o.to (bytesO o)⟩) := by
  have HK := Lib.hid (fun w => kind_any o oA on oc w)
  rw [hk] at HK
  clear hk
  have HBY := Lib.hid (fun W h => bytes_any o oA on oc W h hc1 hc2)
  obtain ⟨bb8, hbb8⟩ : ∃ bb8, bb8 = bytesO o := ⟨_, rfl⟩
  rw [← hbb8]
  rw [← hbb8] at HBY
  clear hbb8
  obtain ⟨k, f, t, a, p, ot, y, bs⟩ := o
  dsimp only at hb HBY ⊢
  obtain ⟨s, hs⟩ : ∃ s, s = (sendR sent ps f t bb8).1 := ⟨_, rfl⟩
  obtain ⟨l, hl⟩ : ∃ l, l = (sendR sent ps f t bb8).2 := ⟨_, rfl⟩
  obtain ⟨E, hE⟩ : ∃ E, E = sendE sent ps f t bb8 := ⟨_, rfl⟩
  have HCO := Lib.hid (fun bA bn bc W h hb => send_any sent A m c ps f t bA bn bc bb8 W h hm hs0 hb)
  rw [← hs, ← hl, ← hE] at HCO
  rw [← hs, ← hl, ← hE]
  clear hs hl hE
  replace h := Lay.rd_weak (G := Old w) (fun b _ hb => hb) h
  have bb := Below.refl w.heap.size w
  have bO := Blk.new w 49 #[.int .i64 k, .int .i64 f, .int .i64 t, .int .i64 a, .int .i64 p, .bool ot, vb y, .slice oA on oc]
  replace bb := bl_al bb (.cells #[.int .i64 k, .int .i64 f, .int .i64 t, .int .i64 a, .int .i64 p, .bool ot, vb y, .slice oA on oc] 49)
  replace bO := bO.ca (bl_al (Below.refl _ _) (.cells #[.int .u64 sent, .slice A m c] 26))
  have bN : Blk ((w.alloc (.cells #[.int .i64 k, .int .i64 f, .int .i64 t, .int .i64 a, .int .i64 p, .bool ot, vb y, .slice oA on oc] 49)).alloc (.cells #[.int .u64 sent, .slice A m c] 26)) (w.heap.size + 1) 26 #[.int .u64 sent, .slice A m c] := Blk.mk' (by simp only [World.size_alloc])
  replace bb := bl_al bb (.cells #[.int .u64 sent, .slice A m c] 26)
  replace bO := bO.ca (bl_al (Below.refl _ _) (.cells #[.int .u64 0, .slice none 0 0, .int .u64 0, .int .u64 0, .int .i64 0, .int .i64 0, .slice none 0 0, .bool false, .int .i64 0, .int .i64 0] 51))
  replace bN := bN.ca (bl_al (Below.refl _ _) (.cells #[.int .u64 0, .slice none 0 0, .int .u64 0, .int .u64 0, .int .i64 0, .int .i64 0, .slice none 0 0, .bool false, .int .i64 0, .int .i64 0] 51))
  have bT : Blk (((w.alloc (.cells #[.int .i64 k, .int .i64 f, .int .i64 t, .int .i64 a, .int .i64 p, .bool ot, vb y, .slice oA on oc] 49)).alloc (.cells #[.int .u64 sent, .slice A m c] 26)).alloc (.cells #[.int .u64 0, .slice none 0 0, .int .u64 0, .int .u64 0, .int .i64 0, .int .i64 0, .slice none 0 0, .bool false, .int .i64 0, .int .i64 0] 51)) (w.heap.size + 2) 51 #[.int .u64 0, .slice none 0 0, .int .u64 0, .int .u64 0, .int .i64 0, .int .i64 0, .slice none 0 0, .bool false, .int .i64 0, .int .i64 0] := Blk.mk' (by simp only [World.size_alloc])
  replace bb := bl_al bb (.cells #[.int .u64 0, .slice none 0 0, .int .u64 0, .int .u64 0, .int .i64 0, .int .i64 0, .slice none 0 0, .bool false, .int .i64 0, .int .i64 0] 51)
  have hsz : w.heap.size + 3 ≤ (((w.alloc (.cells #[.int .i64 k, .int .i64 f, .int .i64 t, .int .i64 a, .int .i64 p, .bool ot, vb y, .slice oA on oc] 49)).alloc (.cells #[.int .u64 sent, .slice A m c] 26)).alloc (.cells #[.int .u64 0, .slice none 0 0, .int .u64 0, .int .u64 0, .int .i64 0, .int .i64 0, .slice none 0 0, .bool false, .int .i64 0, .int .i64 0] 51)).heap.size := by simp only [World.size_alloc]; omega
  have HR1 := Lib.hid (Lay.rd_below h bb)
  have HB1 := Lib.hid (hb.below bb)
  clear h hb
  go_enter Try.func22, Try.ntmps22
  go_wp2_with fail
  generalize (((w.alloc (.cells #[.int .i64 k, .int .i64 f, .int .i64 t, .int .i64 a, .int .i64 p, .bool ot, vb y, .slice oA on oc] 49)).alloc (.cells #[.int .u64 sent, .slice A m c] 26)).alloc (.cells #[.int .u64 0, .slice none 0 0, .int .u64 0, .int .u64 0, .int .i64 0, .int .i64 0, .slice none 0 0, .bool false, .int .i64 0, .int .i64 0] 51)) = w1 at *
  refine (HK.out _).mono ?_
  rintro e w5 ⟨rfl, q5⟩
  have HO := Lib.hid (bO.ca q5)
  have HN := Lib.hid (bN.ca q5)
  have HT := Lib.hid (bT.ca q5)
  have HR := Lib.hid (Lay.rd_below HR1.out q5)
  have BB := Lib.hid (bl_ca bb q5)
  have hs5 := Nat.le_trans hsz q5.size
  clear bO bN bT bb HR1 HK
  have Q5 := q5
  clear q5
  have HB5 := Lib.hid (HB1.out.below Q5)
  clear HB1
  have z0 : w5.cell? ⟨w.heap.size, 0, none⟩ = some (.int .i64 k) := HO.out.cell 0
  have z1 : w5.cell? ⟨w.heap.size, 1, none⟩ = some (.int .i64 f) := HO.out.cell 1
  have z2 : w5.cell? ⟨w.heap.size, 2, none⟩ = some (.int .i64 t) := HO.out.cell 2
  have z3 : w5.cell? ⟨w.heap.size, 3, none⟩ = some (.int .i64 a) := HO.out.cell 3
  have z4 : w5.cell? ⟨w.heap.size, 4, none⟩ = some (.int .i64 p) := HO.out.cell 4
  have z5 : w5.cell? ⟨w.heap.size, 5, none⟩ = some (.bool ot) := HO.out.cell 5
  have z6 : w5.cell? ⟨w.heap.size, 6, none⟩ = some (vb y) := HO.out.cell 6
  have z7 : w5.cell? ⟨w.heap.size, 7, none⟩ = some (.slice oA on oc) := HO.out.cell 7
  go_wp2_with fail
  refine (HBY.out _ HB5.out).mono ?_
  rintro e w6 ⟨bA, bk, bc, rfl, hob, q6⟩
  have hbc := hob.cap
  have hbc2 : bk ≤ 9223372036854775807 := by have := hbc.2; unfold maxLen at this; omega
  have x0 : w6.cell? ⟨w.heap.size + 1, 0, none⟩ = some (.int .u64 sent) := (HN.out.ca q6).cell 0
  have x1 : w6.cell? ⟨w.heap.size + 1, 1, none⟩ = some (.slice A m c) := (HN.out.ca q6).cell 1
  have y1 : w6.cell? ⟨w.heap.size, 1, none⟩ = some (.int .i64 f) := (HO.out.ca q6).cell 1
  have y2 : w6.cell? ⟨w.heap.size, 2, none⟩ = some (.int .i64 t) := (HO.out.ca q6).cell 2
  have HR6 := Lib.hid (Lay.rd_below HR.out q6)
  have HT6 := Lib.hid (HT.out.ca q6)
  have HOB6 := Lib.hid hob
  have BB6 := Lib.hid (bl_ca BB.out q6)
  have hs6 := q6.size
  clear z0 z1 z2 z3 z4 z5 z6 z7 hob q6 HR HT BB HB5 HBY HO HN
  go_wp2_with fail
  refine (HCO.out bA bk bc _ (Lay.rd_weak (fun _ _ _ => trivial) HR6.out) HOB6.out.rd).mono ?_
  rintro e w8 ⟨A2, m2, c2, rfl, ho, q8⟩
  have KT := Lib.hid (HT6.out.ca q8)
  have HSEP := Lib.hid (Sep.ofN ho s s 0 E)
  have BB8 := Lib.hid (bl_ca BB6.out q8)
  have HOB := Lib.hid (HOB6.out.below q8)
  have HBASE := Lib.hid HOB6.out.base_
  clear x0 x1 y1 y2 ho q8 HCO HR6 HT6
  go_wp2_with (refine wpList_store_part rfl 26 (.tmp 40) (.tmp 37) rfl (w.heap.size + 2) 0 51 #[.int .u64 0, .slice none 0 0, .int .u64 0, .int .u64 0, .int .i64 0, .int .i64 0, .slice none 0 0, .bool false, .int .i64 0, .int .i64 0] #[.int .u64 s, .slice A2 m2 c2] #[.int .u64 s, .slice A2 m2 c2, .int .u64 0, .int .u64 0, .int .i64 0, .int .i64 0, .slice none 0 0, .bool false, .int .i64 0, .int .i64 0] rfl rfl KT.out (by simp) netI (by simp [Value.oneCell']) (by rfl) ?_; intro w9 hB gz; have x8 : w9.cell? ⟨w.heap.size + 2, 2, none⟩ = some (.int .u64 0) := hB.cell 2; have x9 : w9.cell? ⟨w.heap.size + 2, 9, none⟩ = some (.int .i64 0) := hB.cell 9; have f8 : w9.frozen? ⟨w.heap.size + 2, 2, none⟩ = false := hB.frozen 2; have f9 : w9.frozen? ⟨w.heap.size + 2, 9, none⟩ = false := hB.frozen 9; have HG9 := Lib.hid gz; have HB3 := Lib.hid (show Blk ((w9.setCell ⟨w.heap.size + 2, 2, none⟩ (.int .u64 s)).setCell ⟨w.heap.size + 2, 9, none⟩ (.int .i64 E)) (w.heap.size + 2) 51 #[.int .u64 s, .slice A2 m2 c2, .int .u64 s, .int .u64 0, .int .i64 0, .int .i64 0, .slice none 0 0, .bool false, .int .i64 0, .int .i64 E] from by simpa using (hB.set_ 2 (.int .u64 s)).set_ 9 (.int .i64 E)); clear hB gz)
  have g1 : w8.grownBy ((w9.setCell ⟨w.heap.size + 1 + 1, 2, none⟩ (.int .u64 s)).setCell ⟨w.heap.size + 1 + 1, 9, none⟩ (.int .i64 E)) (some (w.heap.size + 2)) := only_setCell (only_setCell HG9.out (.inl rfl) _) (.inl rfl) _
  have HF : Blk ((w9.setCell ⟨w.heap.size + 1 + 1, 2, none⟩ (.int .u64 s)).setCell ⟨w.heap.size + 1 + 1, 9, none⟩ (.int .i64 E)) (w.heap.size + 2) 51 #[.int .u64 s, .slice A2 m2 c2, .int .u64 s, .int .u64 0, .int .i64 0, .int .i64 0, .slice none 0 0, .bool false, .int .i64 0, .int .i64 E] := HB3.out
  have HO8 : OwnB ((w9.setCell ⟨w.heap.size + 1 + 1, 2, none⟩ (.int .u64 s)).setCell ⟨w.heap.size + 1 + 1, 9, none⟩ (.int .i64 E)) w5.heap.size bA bk bc bb8 := HOB.out.kept g1 (fun e => by have := (HBASE.out _ e).1; omega)
  have HS8 : Sep ((w9.setCell ⟨w.heap.size + 1 + 1, 2, none⟩ (.int .u64 s)).setCell ⟨w.heap.size + 1 + 1, 9, none⟩ (.int .i64 E)) w6.heap.size ⟨s, l, s, zeroPC, 0, E⟩ A2 m2 c2 none 0 0 := HSEP.out.kept g1 (by omega)
  have HBB : Below w.heap.size w ((w9.setCell ⟨w.heap.size + 1 + 1, 2, none⟩ (.int .u64 s)).setCell ⟨w.heap.size + 1 + 1, 9, none⟩ (.int .i64 E)) := bl_gr BB8.out g1 (by omega)
  clear x8 x9 f8 f9 HG9 HB3 g1 HOB HSEP BB8 KT BB6 HOB6
  generalize ((w9.setCell ⟨w.heap.size + 1 + 1, 2, none⟩ (.int .u64 s)).setCell ⟨w.heap.size + 1 + 1, 9, none⟩ (.int .i64 E)) = w10 at *
  go_loopg [45] bk (fun gz b wr => ∃ (i : Nat) (bs2 : List UInt8), i + gz = bk ∧ b = .int .i64 i ∧ OwnB wr w5.heap.size bA bk bc bs2 ∧ Blk wr (w.heap.size + 2) 51 #[.int .u64 s, .slice A2 m2 c2, .int .u64 s, .int .u64 0, .int .i64 0, .int .i64 0, .slice none 0 0, .bool false, .int .i64 0, .int .i64 E] ∧ Sep wr w6.heap.size ⟨s, l, s, zeroPC, 0, E⟩ A2 m2 c2 none 0 0 ∧ Below w.heap.size w wr)
  case atStart => exact ⟨0, bb8, by omega, rfl, HO8, HF, HS8, HBB⟩
  case round =>
    clear HO8 HF HS8 HBB
    obtain ⟨i, bs2, hig, rfl, hO, hF, hS, hB⟩ := hrel
    have HF := Lib.hid hF
    have HS := Lib.hid hS
    have HBB := Lib.hid hB
    have HO8 := Lib.hid hO
    clear hF hS hB
    by_cases hlt : i < bk
    · have hi1 : (i : Int) < (bk : Int) := by omega
      obtain ⟨g, rfl, hg1, hg2⟩ := hO.form (by omega)
      obtain ⟨x, hx⟩ : ∃ x, bs2[i]? = some x := ⟨_, List.getElem?_eq_getElem (by rw [hO.rd.len]; exact hlt)⟩
      have cx : wr.cell? ⟨g, i, none⟩ = some (.int .u8 (x.toNat : Int)) := by
        have := World.ownsRow.cellAt hO i (by omega)
        simpa [List.getElem?_map, hx, vb] using this
      have fx : wr.frozen? ⟨g, i, none⟩ = false := World.ownsRow.frozenAt hO i
      clear hO
      have hv : Value.int .u8 (bits BinOp.xor IntKind.u8 (x.toNat : Int) 238) = vb (x ^^^ 238) := by
        have h1 := u8_xor_nat x.toNat 238 x.toNat_lt (by decide)
        rw [show ((238 : Nat) : Int) = 238 from rfl] at h1
        rw [h1]
        show _ = Value.int .u8 ((x ^^^ 238).toNat : Int)
        rw [UInt8.toNat_xor]
        rfl
      have HV := Lib.hid hv
      obtain ⟨ho9, g9⟩ := OwnB.set_ HO8.out i (x ^^^ 238)
      rw [← hv] at ho9 g9
      have HO9 := Lib.hid ho9
      have HG9 := Lib.hid g9
      have hgs := (HBASE.out g rfl).2
      clear hv ho9 g9 hx
      go_wp2
      go_roundg (gk - 1)
      · exact ⟨i + 1, _, by omega, by go_num, HO9.out, HF.out.apart HG9.out (by omega), HS.out.kept HG9.out hgs, bl_gr HBB.out HG9.out (by omega)⟩
      · omega
    · obtain rfl : i = bk := by omega
      have hi1 : (i : Int) ≤ (i : Int) := by omega
      clear hO
      go_wp2_with (first | (refine wpList_load_blk rfl 51 (.tmp 4) rfl (w.heap.size + 2) rfl 51 #[.int .u64 s, .slice A2 m2 c2, .int .u64 s, .int .u64 0, .int .i64 0, .int .i64 0, .slice none 0 0, .bool false, .int .i64 0, .int .i64 E] _ HF.out Try.underlying51 rfl toldI ?_) | (refine wpList_store_blk rfl 51 (.tmp 4) (.tmp 110) rfl (w.heap.size + 2) 51 #[.int .u64 s, .slice A2 m2 c2, .int .u64 s, .int .u64 0, .int .i64 0, .int .i64 0, .slice none 0 0, .bool false, .int .i64 0, .int .i64 E] #[.int .u64 s, .slice A2 m2 c2, .int .u64 s, .int .u64 0, .int .i64 0, .int .i64 0, .slice none 0 0, .bool false, .int .i64 0, .int .i64 E] rfl rfl HF.out rfl toldI (by simp [Value.oneCell']) ?_; intro wz hZ gz))
      exact bodyPost_ret (res1 Try.results22 rfl hZ Try.underlying51 rfl toldI) rfl ⟨_, _, _, _, _, _, rfl, (HS.out.kept gz (by omega)).less (by omega), bl_gr HBB.out gz (by omega)⟩
set_option maxRecDepth 100000 in
set_option maxHeartbeats 16000000 in
theorem run_send2 (o : OpC) (oA : Option Addr) (on oc : Nat) (sent : Int) (A : Option Addr) (m c : Nat) (ps : List PC) (w : World) (hk : kindI o = 2) (h : LP.rd w AllB A m ps) (hm : m ≤ 9223372036854775807) (hs0 : 0 ≤ sent) (hb : RdB w oA on o.bs) (hc1 : on ≤ oc) (hc2 : oc ≤ 9223372036854775807) :
    Calls Try.prog 22 #[.agg (o.cells oA on oc), .agg #[.int .u64 sent, .slice A m c]] w (RunC w ⟨(sendR sent ps o.frm o.to (bytesO o)).1, (sendR sent ps o.frm o.to (bytesO o)).2, (sendR sent ps o.frm o.to (bytesO o)).1, zeroPC, 0, sendE sent ps o.frm o.to (bytesO o)⟩) := by
  have HK := Lib.hid (fun w => kind_any o oA on oc w)
  rw [hk] at HK
  clear hk
  have HBY := Lib.hid (fun W h => bytes_any o oA on oc W h hc1 hc2)
  obtain ⟨bb8, hbb8⟩ : ∃ bb8, bb8 = bytesO o := ⟨_, rfl⟩
  rw [← hbb8]
  rw [← hbb8] at HBY
  clear hbb8
  obtain ⟨k, f, t, a, p, ot, y, bs⟩ := o
  dsimp only at hb HBY ⊢
  obtain ⟨s, hs⟩ : ∃ s, s = (sendR sent ps f t bb8).1 := ⟨_, rfl⟩
  obtain ⟨l, hl⟩ : ∃ l, l = (sendR sent ps f t bb8).2 := ⟨_, rfl⟩
  obtain ⟨E, hE⟩ : ∃ E, E = sendE sent ps f t bb8 := ⟨_, rfl⟩
  have HCO := Lib.hid (fun bA bn bc W h hb => send_any sent A m c ps f t bA bn bc bb8 W h hm hs0 hb)
  rw [← hs, ← hl, ← hE] at HCO
  rw [← hs, ← hl, ← hE]
  clear hs hl hE
  replace h := Lay.rd_weak (G := Old w) (fun b _ hb => hb) h
  have bb := Below.refl w.heap.size w
  have bO := Blk.new w 49 #[.int .i64 k, .int .i64 f, .int .i64 t, .int .i64 a, .int .i64 p, .bool ot, vb y, .slice oA on oc]
  replace bb := bl_al bb (.cells #[.int .i64 k, .int .i64 f, .int .i64 t, .int .i64 a, .int .i64 p, .bool ot, vb y, .slice oA on oc] 49)
  replace bO := bO.ca (bl_al (Below.refl _ _) (.cells #[.int .u64 sent, .slice A m c] 26))
  have bN : Blk ((w.alloc (.cells #[.int .i64 k, .int .i64 f, .int .i64 t, .int .i64 a, .int .i64 p, .bool ot, vb y, .slice oA on oc] 49)).alloc (.cells #[.int .u64 sent, .slice A m c] 26)) (w.heap.size + 1) 26 #[.int .u64 sent, .slice A m c] := Blk.mk' (by simp only [World.size_alloc])
  replace bb := bl_al bb (.cells #[.int .u64 sent, .slice A m c] 26)
  replace bO := bO.ca (bl_al (Below.refl _ _) (.cells #[.int .u64 0, .slice none 0 0, .int .u64 0, .int .u64 0, .int .i64 0, .int .i64 0, .slice none 0 0, .bool false, .int .i64 0, .int .i64 0] 51))
  replace bN := bN.ca (bl_al (Below.refl _ _) (.cells #[.int .u64 0, .slice none 0 0, .int .u64 0, .int .u64 0, .int .i64 0, .int .i64 0, .slice none 0 0, .bool false, .int .i64 0, .int .i64 0] 51))
  have bT : Blk (((w.alloc (.cells #[.int .i64 k, .int .i64 f, .int .i64 t, .int .i64 a, .int .i64 p, .bool ot, vb y, .slice oA on oc] 49)).alloc (.cells #[.int .u64 sent, .slice A m c] 26)).alloc (.cells #[.int .u64 0, .slice none 0 0, .int .u64 0, .int .u64 0, .int .i64 0, .int .i64 0, .slice none 0 0, .bool false, .int .i64 0, .int .i64 0] 51)) (w.heap.size + 2) 51 #[.int .u64 0, .slice none 0 0, .int .u64 0, .int .u64 0, .int .i64 0, .int .i64 0, .slice none 0 0, .bool false, .int .i64 0, .int .i64 0] := Blk.mk' (by simp only [World.size_alloc])
  replace bb := bl_al bb (.cells #[.int .u64 0, .slice none 0 0, .int .u64 0, .int .u64 0, .int .i64 0, .int .i64 0, .slice none 0 0, .bool false, .int .i64 0, .int .i64 0] 51)
  have hsz : w.heap.size + 3 ≤ (((w.alloc (.cells #[.int .i64 k, .int .i64 f, .int .i64 t, .int .i64 a, .int .i64 p, .bool ot, vb y, .slice oA on oc] 49)).alloc (.cells #[.int .u64 sent, .slice A m c] 26)).alloc (.cells #[.int .u64 0, .slice none 0 0, .int .u64 0, .int .u64 0, .int .i64 0, .int .i64 0, .slice none 0 0, .bool false, .int .i64 0, .int .i64 0] 51)).heap.size := by simp only [World.size_alloc]; omega
  have HR1 := Lib.hid (Lay.rd_below h bb)
  have HB1 := Lib.hid (hb.below bb)
  clear h hb
  go_enter Try.func22, Try.ntmps22
  go_wp2_with fail
  generalize (((w.alloc (.cells #[.int .i64 k, .int .i64 f, .int .i64 t, .int .i64 a, .int .i64 p, .bool ot, vb y, .slice oA on oc] 49)).alloc (.cells #[.int .u64 sent, .slice A m c] 26)).alloc (.cells #[.int .u64 0, .slice none 0 0, .int .u64 0, .int .u64 0, .int .i64 0, .int .i64 0, .slice none 0 0, .bool false, .int .i64 0, .int .i64 0] 51)) = w1 at *
  refine (HK.out _).mono ?_
  rintro e w5 ⟨rfl, q5⟩
  have HO := Lib.hid (bO.ca q5)
  have HN := Lib.hid (bN.ca q5)
  have HT := Lib.hid (bT.ca q5)
  have HR := Lib.hid (Lay.rd_below HR1.out q5)
  have BB := Lib.hid (bl_ca bb q5)
  have hs5 := Nat.le_trans hsz q5.size
  clear bO bN bT bb HR1 HK
  have Q5 := q5
  clear q5
  have HB5 := Lib.hid (HB1.out.below Q5)
  clear HB1
  have z0 : w5.cell? ⟨w.heap.size, 0, none⟩ = some (.int .i64 k) := HO.out.cell 0
  have z1 : w5.cell? ⟨w.heap.size, 1, none⟩ = some (.int .i64 f) := HO.out.cell 1
  have z2 : w5.cell? ⟨w.heap.size, 2, none⟩ = some (.int .i64 t) := HO.out.cell 2
  have z3 : w5.cell? ⟨w.heap.size, 3, none⟩ = some (.int .i64 a) := HO.out.cell 3
  have z4 : w5.cell? ⟨w.heap.size, 4, none⟩ = some (.int .i64 p) := HO.out.cell 4
  have z5 : w5.cell? ⟨w.heap.size, 5, none⟩ = some (.bool ot) := HO.out.cell 5
  have z6 : w5.cell? ⟨w.heap.size, 6, none⟩ = some (vb y) := HO.out.cell 6
  have z7 : w5.cell? ⟨w.heap.size, 7, none⟩ = some (.slice oA on oc) := HO.out.cell 7
  go_wp2_with fail
  refine (HBY.out _ HB5.out).mono ?_
  rintro e w6 ⟨bA, bk, bc, rfl, hob, q6⟩
  have hbc := hob.cap
  have hbc2 : bk ≤ 9223372036854775807 := by have := hbc.2; unfold maxLen at this; omega
  have x0 : w6.cell? ⟨w.heap.size + 1, 0, none⟩ = some (.int .u64 sent) := (HN.out.ca q6).cell 0
  have x1 : w6.cell? ⟨w.heap.size + 1, 1, none⟩ = some (.slice A m c) := (HN.out.ca q6).cell 1
  have y1 : w6.cell? ⟨w.heap.size, 1, none⟩ = some (.int .i64 f) := (HO.out.ca q6).cell 1
  have y2 : w6.cell? ⟨w.heap.size, 2, none⟩ = some (.int .i64 t) := (HO.out.ca q6).cell 2
  have HR6 := Lib.hid (Lay.rd_below HR.out q6)
  have HT6 := Lib.hid (HT.out.ca q6)
  have HOB6 := Lib.hid hob
  have BB6 := Lib.hid (bl_ca BB.out q6)
  have hs6 := q6.size
  clear z0 z1 z2 z3 z4 z5 z6 z7 hob q6 HR HT BB HB5 HBY HO HN
  go_wp2_with fail
  refine (HCO.out bA bk bc _ (Lay.rd_weak (fun _ _ _ => trivial) HR6.out) HOB6.out.rd).mono ?_
  rintro e w8 ⟨A2, m2, c2, rfl, ho, q8⟩
  have KT := Lib.hid (HT6.out.ca q8)
  have HSEP := Lib.hid (Sep.ofN ho s s 0 E)
  have BB8 := Lib.hid (bl_ca BB6.out q8)
  have HOB := Lib.hid (HOB6.out.below q8)
  have HBASE := Lib.hid HOB6.out.base_
  clear x0 x1 y1 y2 ho q8 HCO HR6 HT6
  go_wp2_with (refine wpList_store_part rfl 26 (.tmp 40) (.tmp 37) rfl (w.heap.size + 2) 0 51 #[.int .u64 0, .slice none 0 0, .int .u64 0, .int .u64 0, .int .i64 0, .int .i64 0, .slice none 0 0, .bool false, .int .i64 0, .int .i64 0] #[.int .u64 s, .slice A2 m2 c2] #[.int .u64 s, .slice A2 m2 c2, .int .u64 0, .int .u64 0, .int .i64 0, .int .i64 0, .slice none 0 0, .bool false, .int .i64 0, .int .i64 0] rfl rfl KT.out (by simp) netI (by simp [Value.oneCell']) (by rfl) ?_; intro w9 hB gz; have x8 : w9.cell? ⟨w.heap.size + 2, 2, none⟩ = some (.int .u64 0) := hB.cell 2; have x9 : w9.cell? ⟨w.heap.size + 2, 9, none⟩ = some (.int .i64 0) := hB.cell 9; have f8 : w9.frozen? ⟨w.heap.size + 2, 2, none⟩ = false := hB.frozen 2; have f9 : w9.frozen? ⟨w.heap.size + 2, 9, none⟩ = false := hB.frozen 9; have HG9 := Lib.hid gz; have HB3 := Lib.hid (show Blk ((w9.setCell ⟨w.heap.size + 2, 2, none⟩ (.int .u64 s)).setCell ⟨w.heap.size + 2, 9, none⟩ (.int .i64 E)) (w.heap.size + 2) 51 #[.int .u64 s, .slice A2 m2 c2, .int .u64 s, .int .u64 0, .int .i64 0, .int .i64 0, .slice none 0 0, .bool false, .int .i64 0, .int .i64 E] from by simpa using (hB.set_ 2 (.int .u64 s)).set_ 9 (.int .i64 E)); clear hB gz)
  have g1 : w8.grownBy ((w9.setCell ⟨w.heap.size + 1 + 1, 2, none⟩ (.int .u64 s)).setCell ⟨w.heap.size + 1 + 1, 9, none⟩ (.int .i64 E)) (some (w.heap.size + 2)) := only_setCell (only_setCell HG9.out (.inl rfl) _) (.inl rfl) _
  have HF : Blk ((w9.setCell ⟨w.heap.size + 1 + 1, 2, none⟩ (.int .u64 s)).setCell ⟨w.heap.size + 1 + 1, 9, none⟩ (.int .i64 E)) (w.heap.size + 2) 51 #[.int .u64 s, .slice A2 m2 c2, .int .u64 s, .int .u64 0, .int .i64 0, .int .i64 0, .slice none 0 0, .bool false, .int .i64 0, .int .i64 E] := HB3.out
  have HO8 : OwnB ((w9.setCell ⟨w.heap.size + 1 + 1, 2, none⟩ (.int .u64 s)).setCell ⟨w.heap.size + 1 + 1, 9, none⟩ (.int .i64 E)) w5.heap.size bA bk bc bb8 := HOB.out.kept g1 (fun e => by have := (HBASE.out _ e).1; omega)
  have HS8 : Sep ((w9.setCell ⟨w.heap.size + 1 + 1, 2, none⟩ (.int .u64 s)).setCell ⟨w.heap.size + 1 + 1, 9, none⟩ (.int .i64 E)) w6.heap.size ⟨s, l, s, zeroPC, 0, E⟩ A2 m2 c2 none 0 0 := HSEP.out.kept g1 (by omega)
  have HBB : Below w.heap.size w ((w9.setCell ⟨w.heap.size + 1 + 1, 2, none⟩ (.int .u64 s)).setCell ⟨w.heap.size + 1 + 1, 9, none⟩ (.int .i64 E)) := bl_gr BB8.out g1 (by omega)
  clear x8 x9 f8 f9 HG9 HB3 g1 HOB HSEP BB8 KT BB6 HOB6
  generalize ((w9.setCell ⟨w.heap.size + 1 + 1, 2, none⟩ (.int .u64 s)).setCell ⟨w.heap.size + 1 + 1, 9, none⟩ (.int .i64 E)) = w10 at *
  go_loopg [45] bk (fun gz b wr => ∃ (i : Nat) (bs2 : List UInt8), i + gz = bk ∧ b = .int .i64 i ∧ OwnB wr w5.heap.size bA bk bc bs2 ∧ Blk wr (w.heap.size + 2) 51 #[.int .u64 s, .slice A2 m2 c2, .int .u64 s, .int .u64 0, .int .i64 0, .int .i64 0, .slice none 0 0, .bool false, .int .i64 0, .int .i64 E] ∧ Sep wr w6.heap.size ⟨s, l, s, zeroPC, 0, E⟩ A2 m2 c2 none 0 0 ∧ Below w.heap.size w wr)
  case atStart => exact ⟨0, bb8, by omega, rfl, HO8, HF, HS8, HBB⟩
  case round =>
    clear HO8 HF HS8 HBB
    obtain ⟨i, bs2, hig, rfl, hO, hF, hS, hB⟩ := hrel
    have HF := Lib.hid hF
    have HS := Lib.hid hS
    have HBB := Lib.hid hB
    have HO8 := Lib.hid hO
    clear hF hS hB
    by_cases hlt : i < bk
    · have hi1 : (i : Int) < (bk : Int) := by omega
      obtain ⟨g, rfl, hg1, hg2⟩ := hO.form (by omega)
      obtain ⟨x, hx⟩ : ∃ x, bs2[i]? = some x := ⟨_, List.getElem?_eq_getElem (by rw [hO.rd.len]; exact hlt)⟩
      have cx : wr.cell? ⟨g, i, none⟩ = some (.int .u8 (x.toNat : Int)) := by
        have := World.ownsRow.cellAt hO i (by omega)
        simpa [List.getElem?_map, hx, vb] using this
      have fx : wr.frozen? ⟨g, i, none⟩ = false := World.ownsRow.frozenAt hO i
      clear hO
      have hv : Value.int .u8 (bits BinOp.xor IntKind.u8 (x.toNat : Int) 238) = vb (x ^^^ 238) := by
        have h1 := u8_xor_nat x.toNat 238 x.toNat_lt (by decide)
        rw [show ((238 : Nat) : Int) = 238 from rfl] at h1
        rw [h1]
        show _ = Value.int .u8 ((x ^^^ 238).toNat : Int)
        rw [UInt8.toNat_xor]
        rfl
      have HV := Lib.hid hv
      obtain ⟨ho9, g9⟩ := OwnB.set_ HO8.out i (x ^^^ 238)
      rw [← hv] at ho9 g9
      have HO9 := Lib.hid ho9
      have HG9 := Lib.hid g9
      have hgs := (HBASE.out g rfl).2
      clear hv ho9 g9 hx
      go_wp2
      go_roundg (gk - 1)
      · exact ⟨i + 1, _, by omega, by go_num, HO9.out, HF.out.apart HG9.out (by omega), HS.out.kept HG9.out hgs, bl_gr HBB.out HG9.out (by omega)⟩
      · omega
    · obtain rfl : i = bk := by omega
      have hi1 : (i : Int) ≤ (i : Int) := by omega
      clear hO
      go_wp2_with (first | (refine wpList_load_blk rfl 51 (.tmp 4) rfl (w.heap.size + 2) rfl 51 #[.int .u64 s, .slice A2 m2 c2, .int .u64 s, .int .u64 0, .int .i64 0, .int .i64 0, .slice none 0 0, .bool false, .int .i64 0, .int .i64 E] _ HF.out Try.underlying51 rfl toldI ?_) | (refine wpList_store_blk rfl 51 (.tmp 4) (.tmp 110) rfl (w.heap.size + 2) 51 #[.int .u64 s, .slice A2 m2 c2, .int .u64 s, .int .u64 0, .int .i64 0, .int .i64 0, .slice none 0 0, .bool false, .int .i64 0, .int .i64 E] #[.int .u64 s, .slice A2 m2 c2, .int .u64 s, .int .u64 0, .int .i64 0, .int .i64 0, .slice none 0 0, .bool false, .int .i64 0, .int .i64 E] rfl rfl HF.out rfl toldI (by simp [Value.oneCell']) ?_; intro wz hZ gz))
      exact bodyPost_ret (res1 Try.results22 rfl hZ Try.underlying51 rfl toldI) rfl ⟨_, _, _, _, _, _, rfl, (HS.out.kept gz (by omega)).less (by omega), bl_gr HBB.out gz (by omega)⟩
end Go.Proofs.Ytnbcffnhgijmcaa
