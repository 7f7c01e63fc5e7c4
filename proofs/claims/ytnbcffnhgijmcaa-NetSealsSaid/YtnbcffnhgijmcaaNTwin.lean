/- net.Twin. Conditions: the slice reads as these parcels. -/
import Derived.Test.YtnbcffnhgijmcaaNOn2
namespace Go.Proofs.Ytnbcffnhgijmcaa
open Go.RowKit
set_option maxRecDepth 100000 in
set_option maxHeartbeats 4000000 in
theorem on_no (sent : Int) (A : Option Addr) (m c : Nat) (ps : List PC) (x : Int) (D : Fn) (cap : Array Value) (w : World) (h : LP.rd w AllB A m ps) (hm : m ≤ 9223372036854775807) (hok : chkB sent ps = false) :
    Calls Try.prog 47 #[.agg #[.int .u64 sent, .slice A m c], .int .u64 x, .func D #[] cap] w fun e w' => e = .returned (.tuple #[.agg #[.int .u64 0, .slice none 0 0], .int .i64 340]) ∧ Below w.heap.size w w' := by
  have bb := Below.refl w.heap.size w
  have bN := Blk.new w 26 #[.int .u64 sent, .slice A m c]
  replace bb := bl_al bb (.cells #[.int .u64 sent, .slice A m c] 26)
  replace bN := bN.ca (bl_al (Below.refl _ _) (.cells #[.int .u64 x] 23))
  have bX : Blk ((w.alloc (.cells #[.int .u64 sent, .slice A m c] 26)).alloc (.cells #[.int .u64 x] 23)) (w.heap.size + 1) 23 #[.int .u64 x] := Blk.mk' (by simp only [World.size_alloc])
  replace bb := bl_al bb (.cells #[.int .u64 x] 23)
  replace bN := bN.ca (bl_al (Below.refl _ _) (.cells #[.func D #[] cap] 83))
  replace bX := bX.ca (bl_al (Below.refl _ _) (.cells #[.func D #[] cap] 83))
  have bD : Blk (((w.alloc (.cells #[.int .u64 sent, .slice A m c] 26)).alloc (.cells #[.int .u64 x] 23)).alloc (.cells #[.func D #[] cap] 83)) (w.heap.size + 2) 83 #[.func D #[] cap] := Blk.mk' (by simp only [World.size_alloc])
  replace bb := bl_al bb (.cells #[.func D #[] cap] 83)
  replace bN := bN.ca (bl_al (Below.refl _ _) (.cells #[.int .u64 0, .slice none 0 0] 26))
  replace bX := bX.ca (bl_al (Below.refl _ _) (.cells #[.int .u64 0, .slice none 0 0] 26))
  replace bD := bD.ca (bl_al (Below.refl _ _) (.cells #[.int .u64 0, .slice none 0 0] 26))
  have bR : Blk ((((w.alloc (.cells #[.int .u64 sent, .slice A m c] 26)).alloc (.cells #[.int .u64 x] 23)).alloc (.cells #[.func D #[] cap] 83)).alloc (.cells #[.int .u64 0, .slice none 0 0] 26)) (w.heap.size + 3) 26 #[.int .u64 0, .slice none 0 0] := Blk.mk' (by simp only [World.size_alloc])
  replace bb := bl_al bb (.cells #[.int .u64 0, .slice none 0 0] 26)
  have hsz : w.heap.size + 4 ≤ ((((w.alloc (.cells #[.int .u64 sent, .slice A m c] 26)).alloc (.cells #[.int .u64 x] 23)).alloc (.cells #[.func D #[] cap] 83)).alloc (.cells #[.int .u64 0, .slice none 0 0] 26)).heap.size := by simp only [World.size_alloc]; omega
  have HC := Lib.hid (fun W f h => with_no AllB sent A m c ps f W h hm hok)
  have hrd := Lib.hid (Lay.rd_below h bb)
  clear hok h
  go_enter Try.func47, Try.ntmps47
  go_wp2_with fail
  generalize ((((w.alloc (.cells #[.int .u64 sent, .slice A m c] 26)).alloc (.cells #[.int .u64 x] 23)).alloc (.cells #[.func D #[] cap] 83)).alloc (.cells #[.int .u64 0, .slice none 0 0] 26)) = w1 at *
  refine (HC.out _ _ hrd.out).mono ?_
  rintro e w2 ⟨rfl, q2⟩
  have KR := Lib.hid (bR.ca q2)
  have HB := Lib.hid (bl_ca bb q2)
  clear q2 bR bb
  go_wp2_with (refine wpList_store_blk rfl 26 (.tmp 6) (.tmp 11) rfl (w.heap.size + 3) 26 _ _ rfl rfl KR.out rfl netI (by simp [Value.oneCell']) ?_; intro wz hZ gz)
  exact bodyPost_ret (res2 Try.results47 rfl rfl hZ Try.underlying26 rfl netI) rfl ⟨rfl, bl_gr HB.out gz (by omega)⟩
/-- where the parcel of a number is -/
def ixP (ps : List PC) (x : Int) : Nat := ps.findIdx fun p => decide (p.num = x)
theorem low_ix {ps : List PC} {x : Int} {i : Nat} (hr : Rise ps) (h : Low ps x i) (hh : hasB ps x = true) : i = ixP ps x ∧ ∃ p, ps[i]? = some p ∧ p.num = x := by
  have hf := found_has hr h
  rw [hh] at hf
  unfold foundB at hf
  cases hi : ps[i]? with
  | none => rw [hi] at hf; cases hf
  | some p =>
    rw [hi] at hf
    have hx : p.num = x := by simpa using hf
    refine ⟨?_, p, rfl, hx⟩
    obtain ⟨hl, he⟩ := List.getElem?_eq_some_iff.1 hi
    refine ((List.findIdx_eq (p := fun p : PC => decide (p.num = x)) hl).2 ⟨by rw [he]; simpa using hx, fun j hj => ?_⟩).symm
    have := h.lt j ps[j] (List.getElem?_eq_getElem (by omega)) hj
    simp
    omega
def getP (ps : List PC) (x : Int) : PC := (ps[ixP ps x]?).getD ⟨0, 0, 0, [], false⟩
theorem getP_at {ps : List PC} {x : Int} {i : Nat} (hr : Rise ps) (h : Low ps x i) (hh : hasB ps x = true) : ps[i]? = some (getP ps x) ∧ (getP ps x).num = x ∧ i = ixP ps x := by
  obtain ⟨h1, p, h2, h3⟩ := low_ix hr h hh
  have e : getP ps x = p := by unfold getP; rw [← h1, h2]; rfl
  rw [e]
  exact ⟨h2, h3, h1⟩
def twinE (sent : Int) (ps : List PC) (x : Int) : Int := if chkB sent ps then (if hasB ps x then addE sent ps else 4) else 340
def twinR (sent : Int) (ps : List PC) (x : Int) : Int × List PC := if twinE sent ps x = 0 then (sent + 1, ps ++ [added sent (getP ps x)]) else (0, [])
theorem el_at {es : List El} {i : Nat} {p : PC} (h : (es.map El.p)[i]? = some p) : ∃ e, es[i]? = some e ∧ e.p = p := by
  rw [List.getElem?_map] at h
  exact Option.map_eq_some_iff.1 h
set_option maxRecDepth 100000 in
set_option maxHeartbeats 4000000 in
theorem twin1_doc (sent : Int) (m : Nat) (ps : List PC) (x : Int) (W : World) (i : Nat) (K : World → Prop) (hs0 : 0 ≤ sent) (hchk : chkB sent ps = true) (hm : ps.length = m) (hlow : Low ps x i) (hh : hasB ps x = true) (hK : ∀ w', Below W.heap.size W w' → K w') :
    DoI 48 #[] W W.heap.size (W.heap.size + 2) sent m ps i (fun er w' => er = twinE sent ps x ∧ K w') (fun _ s l => s = (twinR sent ps x).1 ∧ l.map El.p = (twinR sent ps x).2 ∧ True) := by
  intro w A c es hbel hbB hB hN hD hes
  obtain ⟨hp, hpx, hix⟩ := getP_at (chk_rise hchk) hlow hh
  clear hix
  have hp' : (es.map El.p)[i]? = some (getP ps x) := by rw [hes]; exact hp
  obtain ⟨e, hei, hep⟩ := el_at hp'
  have him : i < m := by rw [← hm]; exact (List.getElem?_eq_some_iff.1 hp).1
  have him1 : (i : Int) < (m : Int) := by omega
  obtain ⟨gr, hA, hg1, hg2⟩ := hD.row.form (by omega)
  subst hA
  obtain ⟨c0, c1, c2, c3, c4⟩ := hD.row.cell hei
  have n1 : w.cell? ⟨W.heap.size, 1, none⟩ = some (.slice (some ⟨gr, 0, none⟩) m c) := hN.cell 1
  have hE : twinE sent ps x = addE sent ps := by unfold twinE; rw [hchk, if_pos rfl, hh, if_pos rfl]
  rw [hE]
  have hlen := chk_len hchk (getP ps x) (List.mem_of_getElem? hp)
  have heo := hD.own e (List.mem_of_getElem? hei)
  have hel := (OwnB.rd heo).len
  rw [hep] at c0 c1 c2 c4 heo hel
  obtain ⟨hr1, hr2⟩ := chk_rng hchk
  have HKK := Lib.hid hK
  rw [show (#[Value.pointer (some ⟨W.heap.size, 0, none⟩), .int .i64 i] ++ #[] : Array Value) = #[.pointer (some ⟨W.heap.size, 0, none⟩), .int .i64 i] from rfl]
  cases hf : fullB sent ps
  · have hfull : m < 20000 ∧ sent < 1099511627776 := by
      unfold fullB at hf
      simp only [Bool.or_eq_false_iff, decide_eq_false_iff_not] at hf
      omega
    have hrb : ∀ w', Kept w w' W.heap.size w.heap.size → RdB w' e.A e.n (getP ps x).bs := fun w' hk => (heo.at_ (fun k hk' => hk.block k (heo.base_ k hk').2 (by have := (heo.base_ k hk').1; omega))).rd
    have HA := Lib.hid (adds_any sent (some ⟨gr, 0, none⟩) m c W.heap.size (W.heap.size + 2) es (getP ps x) e.A e.n e.c w hN hD (by omega) hB hrb (by omega) hfull.1 hs0 hfull.2)
    have ha : addE sent ps = 0 := by unfold addE; rw [hf]; rfl
    have HR := Lib.hid (show twinR sent ps x = (sent + 1, ps ++ [added sent (getP ps x)]) from by unfold twinR; rw [hE, ha, if_pos rfl])
    rw [ha]
    have HES := Lib.hid hes
    clear hfull hf hrb hN hD hes hp hp' hei hep heo hel hK hE ha hchk hlow hh hpx hlen
    generalize getP ps x = gp at *
    go_enter Try.func48, Try.ntmps48
    go_wp2_with fail
    refine HA.out.mono ?_
    rintro e w2 ⟨rfl, hk, A2, c2', e2, hN2, hD2, he2⟩
    have hw2 : Below W.heap.size W w2 := hk.below hbel (Nat.le_refl _) (by omega)
    have hs2 := hk.size
    have hbl2 : ∀ k, W.heap.size < k → k < W.heap.size + 2 → w2.heap[k]? = w.heap[k]? := fun k h1 h2 => hk.block k (by omega) (by omega)
    have HEND := Lib.hid (show ∃ s A2 m2 c2 es2, Blk w2 W.heap.size 26 #[.int .u64 s, .slice A2 m2 c2] ∧ DO w2 (W.heap.size + 2) A2 m2 c2 es2 ∧ s = (twinR sent ps x).1 ∧ es2.map El.p = (twinR sent ps x).2 ∧ True from ⟨_, A2, _, c2', _, hN2, hD2, by rw [HR.out], by rw [HR.out, List.map_append, HES.out, List.map_cons, List.map_nil, he2], trivial⟩)
    clear c0 c1 c2 c3 c4 n1 hN2 hD2 he2
    go_wp2
    go_ret
    exact ⟨0, rfl, ⟨rfl, HKK.out _ hw2⟩, hs2, hbl2, fun _ => HEND.out⟩
  · have hfull : 20000 ≤ m ∨ sent = 1099511627776 := by
      unfold fullB at hf
      simp only [Bool.or_eq_true, decide_eq_true_eq] at hf
      omega
    have HA := Lib.hid (adds_full sent (some ⟨gr, 0, none⟩) m c W.heap.size (getP ps x) e.A e.n e.c w hN hfull)
    have ha : addE sent ps = 6 := by unfold addE; rw [hf]; rfl
    rw [ha]
    clear hfull hf hN hD hes hp hp' hei hep heo hel hK hE ha hchk hlow hh hpx hlen
    generalize getP ps x = gp at *
    go_enter Try.func48, Try.ntmps48
    go_wp2_with fail
    refine HA.out.mono ?_
    rintro e w2 ⟨rfl, hk⟩
    have hw2 : Below W.heap.size W w2 := hbel.trans (hk.mono hbel.size)
    have hs2 := hk.size
    have hbl2 : ∀ k, W.heap.size < k → k < W.heap.size + 2 → w2.heap[k]? = w.heap[k]? := fun k h1 h2 => hk.block k (by omega)
    clear c0 c1 c2 c3 c4 n1
    go_wp2
    go_ret
    exact ⟨6, rfl, ⟨rfl, HKK.out _ hw2⟩, hs2, hbl2, fun h => by cases h⟩
theorem twinR_z {sent : Int} {ps : List PC} {x : Int} (h : twinE sent ps x ≠ 0) : (twinR sent ps x).1 = 0 ∧ (twinR sent ps x).2 = [] := by unfold twinR; rw [if_neg h]; exact ⟨rfl, rfl⟩
theorem twin_on (sent : Int) (A : Option Addr) (m c : Nat) (ps : List PC) (x : Int) (w : World) (h : LP.rd w AllB A m ps) (hm : m ≤ 9223372036854775807) (hs0 : 0 ≤ sent) :
    Calls Try.prog 47 #[.agg #[.int .u64 sent, .slice A m c], .int .u64 x, .func (.func 48) #[] #[]] w fun e w' => ∃ A2 m2 c2, e = .returned (.tuple #[.agg #[.int .u64 (twinR sent ps x).1, .slice A2 m2 c2], .int .i64 (twinE sent ps x)]) ∧ OutN w' w.heap.size A2 m2 c2 (twinR sent ps x).2 ∧ Below w.heap.size w w' := by
  cases hc : chkB sent ps
  · have e1 : twinE sent ps x = 340 := by unfold twinE; rw [hc]; rfl
    have e2 : twinR sent ps x = (0, []) := by unfold twinR; rw [e1]; rfl
    rw [e1, e2]
    exact (on_no sent A m c ps x _ _ w h hm hc).mono fun _ _ ⟨a, b⟩ => ⟨none, 0, 0, a, OutN.nil _ _, b⟩
  · refine (on_any sent A m c ps x _ _ _ _ _ (fun w' => Below w.heap.size w w') (fun _ _ => True) w h hc (Go.Proofs.enters_of Try.func48 (by kernel_rfl) rfl) (fun w1 w2 r hr _ hk hg => bl_gr hk hg hr) (fun _ _ _ _ _ _ h _ => h) (fun hne => twinR_z hne) (fun hh => ⟨by unfold twinE; rw [hc, if_pos rfl, hh]; rfl, fun _ q => q⟩) ?_).mono fun _ _ ⟨A2, m2, c2, h1, ⟨es, h2, h3, _⟩, h4⟩ => ⟨A2, m2, c2, h1, ⟨es, h2, h3⟩, h4⟩
    intro W i q hsz hb hlow hh
    exact twin1_doc sent m ps x W i (fun w' => Below w.heap.size w w' ∧ Blk w' (w.heap.size + 3) 26 #[.int .u64 0, .slice none 0 0]) hs0 hc h.1 hlow hh (fun w' q' => ⟨q.trans (q'.mono (by omega)), hb.ca q'⟩)
set_option maxRecDepth 100000 in
set_option maxHeartbeats 8000000 in
theorem twin_any (sent : Int) (A : Option Addr) (m c : Nat) (ps : List PC) (x : Int) (w : World) (h : LP.rd w AllB A m ps) (hm : m ≤ 9223372036854775807) (hs0 : 0 ≤ sent) :
    Calls Try.prog 13 #[.agg #[.int .u64 sent, .slice A m c], .int .u64 x] w fun e w' => ∃ A2 m2 c2, e = .returned (.tuple #[.agg #[.int .u64 (twinR sent ps x).1, .slice A2 m2 c2], .int .u64 (twinR sent ps x).1, .int .i64 (twinE sent ps x)]) ∧ OutN w' w.heap.size A2 m2 c2 (twinR sent ps x).2 ∧ Below w.heap.size w w' := by
  have HW := Lib.hid (fun W h => twin_on sent A m c ps x W h hm hs0)
  generalize twinR sent ps x = R at *
  generalize twinE sent ps x = E at *
  obtain ⟨s, l⟩ := R
  have HH := Lib.hid h
  clear h
  have bb := Below.refl w.heap.size w
  have bN := Blk.new w 26 #[.int .u64 sent, .slice A m c]
  replace bb := bl_al bb (.cells #[.int .u64 sent, .slice A m c] 26)
  replace bN := bN.ca (bl_al (Below.refl _ _) (.cells #[.int .u64 0, .slice none 0 0] 26))
  have bR : Blk ((w.alloc (.cells #[.int .u64 sent, .slice A m c] 26)).alloc (.cells #[.int .u64 0, .slice none 0 0] 26)) (w.heap.size + 1) 26 #[.int .u64 0, .slice none 0 0] := Blk.mk' (by simp only [World.size_alloc])
  replace bb := bl_al bb (.cells #[.int .u64 0, .slice none 0 0] 26)
  have hsz : w.heap.size + 2 ≤ ((w.alloc (.cells #[.int .u64 sent, .slice A m c] 26)).alloc (.cells #[.int .u64 0, .slice none 0 0] 26)).heap.size := by simp only [World.size_alloc]; omega
  go_enter Try.func13, Try.ntmps13
  go_wp2_with fail
  generalize ((w.alloc (.cells #[.int .u64 sent, .slice A m c] 26)).alloc (.cells #[.int .u64 0, .slice none 0 0] 26)) = w1 at *
  refine (HW.out w1 (Lay.rd_below HH.out bb)).mono ?_
  rintro e w2 ⟨A2, m2, c2, rfl, ho, hb2⟩
  have KR := Lib.hid ((bR.ca hb2).ca (bl_al (Below.refl _ _) (.cells #[.int .u64 s, .slice A2 m2 c2] 26)))
  have HM := Lib.hid (Blk.new w2 26 #[.int .u64 s, .slice A2 m2 c2])
  have HO := Lib.hid (ho.below (bl_al (Below.refl _ _) (.cells #[.int .u64 s, .slice A2 m2 c2] 26)))
  have hz2 := hb2.size
  have HBB := Lib.hid (bl_al (bl_ca bb hb2) (.cells #[.int .u64 s, .slice A2 m2 c2] 26))
  clear ho hb2
  go_wp2_with fail
  obtain ⟨g11, hg11⟩ : ∃ g, g = w2.heap.size := ⟨_, rfl⟩
  have hg12 : w.heap.size + 2 ≤ g11 := by omega
  rw [← hg11] at HM
  generalize w2.heap.size = G2 at *
  subst hg11
  generalize w2.alloc (.cells #[.int .u64 s, .slice A2 m2 c2] 26) = w5 at *
  refine wp_region_ps (S := Seq1 4 (fun _ w' => Below w5.heap.size w5 w') (fun _ w' => ∃ w6, Below w5.heap.size w5 w6 ∧ Blk w' (w.heap.size + 1) 26 #[.int .u64 s, .slice A2 m2 c2] ∧ w6.grownBy w' (some (w.heap.size + 1)))) (by kernel_rfl) ?spswq ?ppswq
  case spswq =>
    exact Seq1.start (by decide) (Below.refl _ _).drew
  refine Ps.step (i := 0) (d := some 15) (u := ?uwq_1) rfl rfl (by kernel_rfl) (by kernel_rfl) (by kernel_rfl) (by kernel_rfl) ?ywq_1 ?rwq_1
  case ywq_1 =>
    refine StepS.read [] (by kernel_rfl) (Seq1.pass (by decide)) (by rfl) (fun L9 m9 w9 hSh hAt hDn hS => ?_)
    have hT : Blk w9 g11 26 #[.int .u64 s, .slice A2 m2 c2] := Seq1.any (T := fun w9 => Blk w9 g11 26 #[.int .u64 s, .slice A2 m2 c2]) (fun _ _ h => HM.out.ca h) (fun _ _ ⟨_, h1, _, h3⟩ => (HM.out.ca h1).apart h3 (by omega)) hS
    have x0 : w9.cell? ⟨g11, 0, none⟩ = some (.int .u64 s) := hT.cell 0
    have x1 : w9.cell? ⟨g11, 1, none⟩ = some (.slice A2 m2 c2) := hT.cell 1
    clear hT hS
    go_simp
    try rfl
  try simp only [Act.put, List.setIfInBounds_toArray, List.set_cons_zero, List.set_cons_succ]
  refine Ps.step (i := 1) (d := some 16) (u := ?uwq_2) rfl rfl (by kernel_rfl) (by kernel_rfl) (by kernel_rfl) (by kernel_rfl) ?ywq_2 ?rwq_2
  case ywq_2 =>
    refine StepS.pure (Seq1.pass (by decide)) (by rfl) (fun w9 => ?_)
    go_simp
    try rfl
  try simp only [Act.put, List.setIfInBounds_toArray, List.set_cons_zero, List.set_cons_succ]
  refine Ps.step (i := 2) (d := some 17) (u := ?uwq_3) rfl rfl (by kernel_rfl) (by kernel_rfl) (by kernel_rfl) (by kernel_rfl) ?ywq_3 ?rwq_3
  case ywq_3 =>
    refine StepS.read [] (by kernel_rfl) (Seq1.pass (by decide)) (by rfl) (fun L9 m9 w9 hSh hAt hDn hS => ?_)
    have hT : Blk w9 g11 26 #[.int .u64 s, .slice A2 m2 c2] := Seq1.any (T := fun w9 => Blk w9 g11 26 #[.int .u64 s, .slice A2 m2 c2]) (fun _ _ h => HM.out.ca h) (fun _ _ ⟨_, h1, _, h3⟩ => (HM.out.ca h1).apart h3 (by omega)) hS
    have x0 : w9.cell? ⟨g11, 0, none⟩ = some (.int .u64 s) := hT.cell 0
    clear hT hS
    go_simp
    try rfl
  try simp only [Act.put, List.setIfInBounds_toArray, List.set_cons_zero, List.set_cons_succ]
  refine Ps.step (i := 3) (d := some 18) (u := ?uwq_4) rfl rfl (by kernel_rfl) (by kernel_rfl) (by kernel_rfl) (by kernel_rfl) ?ywq_4 ?rwq_4
  case ywq_4 =>
    refine StepS.pure (Seq1.pass (by decide)) (by rfl) (fun w9 => ?_)
    go_simp
    try rfl
  try simp only [Act.put, List.setIfInBounds_toArray, List.set_cons_zero, List.set_cons_succ]
  refine Ps.step (i := 4) (d := none) (u := undef) rfl rfl (by kernel_rfl) (by kernel_rfl) (by kernel_rfl) (by kernel_rfl) ?ywq_5 ?rwq_5
  case ywq_5 =>
    refine StepS.store [] (by kernel_rfl) (by rfl) (fun L9 m9 w9 hSh hAt hDn hS => ?_)
    have hT := Seq1.at1 hDn hS
    refine (exec_store_blk (w := w9) 26 (.tmp 4) (.tmp 15) (by rfl) (w.heap.size + 1) 26 #[.int .u64 0, .slice none 0 0] #[.int .u64 s, .slice A2 m2 c2] (by rfl) (by rfl) (KR.out.ca hT) rfl netI (by simp [Value.oneCell'])).imp fun w7 hx => ⟨hx.1, Seq1.set1 ⟨w9, hT, hx.2.1, hx.2.2⟩⟩
  try simp only [Act.put]
  refine Ps.step (i := 5) (d := some 5) (u := ?uwq_6) rfl rfl (by kernel_rfl) (by kernel_rfl) (by kernel_rfl) (by kernel_rfl) ?ywq_6 ?rwq_6
  case ywq_6 =>
    refine StepS.pure (Seq1.pass (by decide)) (by rfl) (fun w9 => ?_)
    go_simp
    try rfl
  try simp only [Act.put, List.setIfInBounds_toArray, List.set_cons_zero, List.set_cons_succ]
  refine Ps.step (i := 6) (d := some 6) (u := ?uwq_7) rfl rfl (by kernel_rfl) (by kernel_rfl) (by kernel_rfl) (by kernel_rfl) ?ywq_7 ?rwq_7
  case ywq_7 =>
    refine StepS.pure (Seq1.pass (by decide)) (by rfl) (fun w9 => ?_)
    go_simp
    try rfl
  try simp only [Act.put, List.setIfInBounds_toArray, List.set_cons_zero, List.set_cons_succ]
  refine Ps.done (by kernel_rfl) (fun wq hS => ?_) _
  obtain ⟨w6, hT, hZ, gz⟩ := Seq1.fin (by rfl) hS
  clear hS
  go_wp2
  exact bodyPost_ret (res3 Try.results13 rfl rfl rfl hZ Try.underlying26 rfl netI) rfl ⟨A2, m2, c2, rfl, ((HO.out.below hT).kept gz (by omega)).less (by omega), bl_gr (bl_ca HBB.out hT) gz (by omega)⟩
end Go.Proofs.Ytnbcffnhgijmcaa
