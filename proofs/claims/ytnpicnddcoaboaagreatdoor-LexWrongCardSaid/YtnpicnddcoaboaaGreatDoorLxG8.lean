/- The layer's Tokens. Conditions: what the tables hold. -/
import Derived.Test.YtnpicnddcoaboaaGreatDoorLxG7
import Derived.Test.YtnpicnddcoaboaaGreatDoorLxR5
namespace Go.Proofs.YtnpicnddcoaboaaGreatDoor
open Go.RowKit Go.Shelf
attribute [local go_sem] Oper.semAt_some
def rowK (ts : List Tk) : List Value := ts.flatMap fun t => t.cells.toList
theorem rowK_one (pre : List Tk) (t : Tk) : rowK (pre ++ [t]) = rowK pre ++ t.cells.toList := by unfold rowK; simp
theorem rowK_reps {w : World} {F : Nat → Prop} : ∀ ts : List Tk, LT.reps w F ts (rowK ts)
  | [] => rfl
  | t :: ts => ⟨t.cells.toList, rowK ts, by unfold rowK; rw [List.flatMap_cons], rfl, rowK_reps ts⟩
theorem ownT_of {W : World} {B : Nat} {v : Value} {n : Nat} {ts : List Tk} (h : W.ownsRow B 29 4 v n (rowK ts)) (hn : ts.length = n) : ∃ A c, v = .slice A n c ∧ OwnT W B A n c ts := by
  rcases h.2 with ⟨h1, h2⟩ | ⟨g, cap, cur, h1, _⟩
  · subst h2; exact ⟨_, _, h1, hn, rowK ts, rowK_reps ts, by rw [← h1]; exact h⟩
  · exact ⟨_, _, h1, hn, rowK ts, rowK_reps ts, by rw [← h1]; exact h⟩
theorem boxed_own {β : Type} (B g : Nat) (t : TypeId) (v : Value) : OwnFrom B (fun (_ : β) W => Boxed W g t v) := fun _ X Y row hs hg hr => hs.kept hg (fun e => by
  obtain ⟨o, ho, hc⟩ := (hr g e.symm).2
  rw [show X.heap[g]? = _ from hs] at ho; cases ho; cases hc)
theorem pure_own {β : Type} (B : Nat) (p : β → Prop) : OwnFrom B (fun (s : β) _ => p s) := fun _ _ _ _ hs _ _ => hs
set_option maxRecDepth 100000 in
theorem all_any (s : ByteArray) (w : World) : Calls Tryz.prog 15 #[.string s] w fun e w' => e = .returned (.func (.func 34) #[] #[.pointer (some ⟨w.heap.size, 0, none⟩)]) ∧ w.alloc (.cells #[.string s] 9) = w' := by
  go_enter Tryz.func15, Tryz.ntmps15
  go_wp2
  go_ret
  exact ⟨rfl, rfl⟩
theorem all_stops (n : Nat) (hn : 1 ≤ n) (tb : Nat) (s : ByteArray) (hs : s.size ≤ 600) (w0 w : World) (hT : Tab w0) (hb0 : Below w0.heap.size w0 w) (htb : w.cell? ⟨tb, 0, none⟩ = some (.string s)) :
    SeqStopsK Fence.wide n Tryz.prog 34 #[.pointer (some ⟨tb, 0, none⟩)] (fun x : Tk × Bool => #[Value.agg x.1.cells, .bool x.2]) (KpA w0.heap.size tb) (DoneP s.data.toList) (StopP s.data.toList) 601 w :=
  fun l J Jx W hW hJ _ hY h0 => all1_in n hn l tb s J Jx w0 W hT (hb0.trans (hW.mono hb0.size)) hJ hs hY ((hW.cell (World.block_lt_of_cell? w _ htb)).trans htb) h0
set_option maxRecDepth 100000 in
set_option maxHeartbeats 8000000 in
theorem ltokens_long (s : ByteArray) (w : World) (hs : 600 < s.size) (hm : s.size ≤ 9223372036854775807) : Calls Tryz.prog 7 #[.string s] w fun e w' => TkE w.heap.size (tokM s.data.toList) e w' ∧ Below w.heap.size w w' := by
  have HF := Lib.hid (tokM_long (l := s.data.toList) (by rw [len_data]; exact hs))
  have h1 : 600 < (s.size : Int) := by omega
  clear hs
  go_enter Tryz.func7, Tryz.ntmps7
  go_wp2
  have hQ := Lib.hid (bl_al (bl_al (bl_al (Below.refl w.heap.size w) (.cells #[.slice none 0 0] 23)) (.cells #[.int .i64 0] 3)) (.cells #[.int .i64 3] 24))
  refine bodyPost_ret (v := .tuple #[.slice none 0 0, .int .i64 0, .int .i64 3]) (by simp [results, Tryz.results7, go_sem]) rfl ⟨TkE.none HF.out, hQ.out⟩
theorem boxed_new' {w : World} {g : Nat} {t : TypeId} {v : Value} (h : g = w.heap.size) : Boxed (w.alloc (.cells #[v] t)) g t v := h ▸ Boxed.new w t v
theorem Boxed.far' {W : World} {g b : Nat} {t : TypeId} {v u : Value} (h : Boxed W g t v) (hne : g ≠ b) : Boxed (W.setCell ⟨b, 0, none⟩ u) g t v := h.kept (grownBy_setCell' W b u) (fun e => hne (by injection e))
theorem box3 {W : World} {a b c : Nat} {ta tb tc : TypeId} {u v x u' v' x' : Value} (i0 : Boxed W a ta u) (i1 : Boxed W b tb v) (i2 : Boxed W c tc x) (hab : a ≠ b) (hac : a ≠ c) (hbc : b ≠ c) :
    Boxed (((W.setCell ⟨a, 0, none⟩ u').setCell ⟨b, 0, none⟩ v').setCell ⟨c, 0, none⟩ x').drew a ta u' ∧ Boxed (((W.setCell ⟨a, 0, none⟩ u').setCell ⟨b, 0, none⟩ v').setCell ⟨c, 0, none⟩ x').drew b tb v' ∧ Boxed (((W.setCell ⟨a, 0, none⟩ u').setCell ⟨b, 0, none⟩ v').setCell ⟨c, 0, none⟩ x').drew c tc x' :=
  ⟨show Boxed (((W.setCell ⟨a, 0, none⟩ u').setCell ⟨b, 0, none⟩ v').setCell ⟨c, 0, none⟩ x') a ta u' from Boxed.far' (Boxed.far' (i0.set u') hab) hac, show Boxed (((W.setCell ⟨a, 0, none⟩ u').setCell ⟨b, 0, none⟩ v').setCell ⟨c, 0, none⟩ x') b tb v' from Boxed.far' ((Boxed.far' i1 (Ne.symm hab)).set v') hbc, show Boxed (((W.setCell ⟨a, 0, none⟩ u').setCell ⟨b, 0, none⟩ v').setCell ⟨c, 0, none⟩ x') c tc x' from (Boxed.far' (Boxed.far' i2 (Ne.symm hac)) (Ne.symm hbc)).set x'⟩
theorem keeps_drew {A B : World} (h : KeepsOthers A B) : KeepsOthers A B.drew := ⟨h.size, h.same⟩
/-- what stands in the variables while the tokens come -/
def InT (w : World) (s : ByteArray) (pre : List (Tk × Bool)) (W : World) : Prop :=
  (∀ x ∈ pre, x.2 = true) ∧ (Boxed W w.heap.size 23 (.slice none 0 0) ∧ (Boxed W (w.heap.size + 1) 3 (.int .i64 0) ∧ (Boxed W (w.heap.size + 1 + 1) 24 (.int .i64 0) ∧ (Boxed W (w.heap.size + 1 + 1 + 1 + 1) 9 (.string s) ∧ ((∃ v, Boxed W (w.heap.size + 1 + 1 + 1) 23 v ∧ W.ownsRow w.heap.size 29 4 v pre.length (rowK (pre.map Prod.fst)) ∧ True) ∧ Below w.heap.size w W)))))
def OutT (w : World) (pre : List (Tk × Bool)) (W : World) : Prop :=
  ∃ (p' : List (Tk × Bool)) (t : Tk), pre = p' ++ [(t, false)] ∧ Boxed W w.heap.size 23 (.slice none 0 0) ∧ Boxed W (w.heap.size + 1) 3 (.int .i64 t.at_) ∧ Boxed W (w.heap.size + 1 + 1) 24 (.int .i64 170) ∧ Below w.heap.size w W
theorem InT.own (w : World) (s : ByteArray) (B : Nat) (hB : w.heap.size ≤ B) : OwnFrom B (InT w s) :=
  (pure_own B _).and ((boxed_own B _ _ _).and ((boxed_own B _ _ _).and ((boxed_own B _ _ _).and ((boxed_own B _ _ _).and ((Own.from (holdsRow_own w.heap.size (w.heap.size + 1 + 1 + 1) 23 29 4 (fun pre : List (Tk × Bool) => pre.length) (fun pre => rowK (pre.map Prod.fst)) (fun _ _ => True)) B).and (ownFrom_below (Nat.le_refl _) hB))))))
theorem OutT.own (w : World) (B : Nat) (hB : w.heap.size ≤ B) : OwnFrom B (OutT w) := fun pre X Y row hs hg hr => by
  obtain ⟨p', t, e, h1, h2, h3, h4⟩ := hs
  have k : ∀ {g t v}, Boxed X g t v → Boxed Y g t v := fun {g t v} h => boxed_own (β := Unit) B g t v () X Y row h hg hr
  exact ⟨p', t, e, k h1, k h2, k h3, ownFrom_below (β := Unit) (Nat.le_refl _) hB () X Y row h4 hg hr⟩
set_option maxRecDepth 100000 in
set_option maxHeartbeats 16000000 in
theorem ltokens_in (s : ByteArray) (w : World) (hs : s.size ≤ 600) (hT : Tab w) : CallsIn Fence.wide 3 Tryz.prog 7 #[.string s] w fun e w' => TkE w.heap.size (tokM s.data.toList) e w' ∧ Below w.heap.size w w' := by
  have h1 : (s.size : Int) ≤ 600 := by omega
  obtain ⟨i0', hi, hz0, hz1, hz2⟩ := info_parts tokInfo
  refine callsIn_of_wp_marks Tryz.func7 rfl trivial ?_ rfl
  simp only [Tryz.ntmps7, List.size_toArray, List.length_cons, List.length_nil, Nat.reduceAdd, Nat.reduceSub, Array.replicate_succ, Array.replicate_zero, List.push_toArray, List.append_toArray, List.nil_append, List.cons_append]
  gi_wp2
  refine ⟨trivial, (callsIn_wide.2 (all_any s _)).mono ?_⟩
  rintro e w5 ⟨rfl, hw5⟩
  simp only [World.size_alloc] at hw5 ⊢
  have B0 : Boxed w5 w.heap.size 23 (.slice none 0 0) := by rw [← hw5]; exact ((((Boxed.new w _ _).alloc _).alloc _).alloc _).alloc _
  have B1 : Boxed w5 (w.heap.size + 1) 3 (.int .i64 0) := by rw [← hw5]; exact (((boxed_new' (by simp)).alloc _).alloc _).alloc _
  have B2 : Boxed w5 (w.heap.size + 1 + 1) 24 (.int .i64 0) := by rw [← hw5]; exact ((boxed_new' (by simp)).alloc _).alloc _
  have B3 : Boxed w5 (w.heap.size + 1 + 1 + 1) 23 (.slice none 0 0) := by rw [← hw5]; exact (boxed_new' (by simp)).alloc _
  have B4 : Boxed w5 (w.heap.size + 1 + 1 + 1 + 1) 9 (.string s) := by rw [← hw5]; exact boxed_new' (by simp)
  have HB5 : Below w.heap.size w w5 := by rw [← hw5]; exact bl_al (bl_al (bl_al (bl_al (bl_al (Below.refl w.heap.size w) _) _) _) _) _
  have hsz : w.heap.size + 1 + 1 + 1 + 1 < w5.heap.size := B4.lt
  clear hw5
  gi_wp2
  refine wpIn_rangeFunc_ownH rfl (by omega) (gf := 34) (lb := #[.pointer (some ⟨w.heap.size + 1 + 1 + 1 + 1, 0, none⟩)]) rfl trivial (Go.Proofs.enters_of Tryz.func34 (by kernel_rfl) rfl) (all_stops 2 (by omega) (w.heap.size + 1 + 1 + 1 + 1) s hs w w5 hT HB5 B4.cell)
    (fun h k => ⟨h.1.trans k.1, k.2.trans h.2⟩) (fun W l o o' hl ho hc hw => ⟨belowK_b HB5.size W l o o' hl ho hc hw, (grownBy_putObj' W l o').block _ (by have := (Array.getElem?_eq_some_iff.1 ho).1; omega) (fun e => by injection e with e; omega)⟩) (Below.refl _ _) (fun _ => rfl)
    (InT w s) (fun c pre W => c = .ret ∧ OutT w pre W) (InT.own w s _ HB5.size) (fun c => (pure_own _ _).and (OutT.own w _ HB5.size)) ⟨by simp, B0, B1, B2, B4, ⟨_, B3, World.ownsRow_nil _ _ _ _, trivial⟩, HB5⟩
    (fun x a' W => ∃ g, a' = { tmps := #[.string s, undef, .pointer (some ⟨w.heap.size, 0, none⟩), .pointer (some ⟨w.heap.size + 1, 0, none⟩), .pointer (some ⟨w.heap.size + 1 + 1, 0, none⟩), .pointer (some ⟨w.heap.size + 1 + 1 + 1, 0, none⟩), .pointer (some ⟨g, 0, none⟩), .bool x.2, .string s, .int .i64 s.size, .bool (decide (600 < (s.size : Int))), .string s, .func (.func 34) #[] #[.pointer (some ⟨w.heap.size + 1 + 1 + 1 + 1, 0, none⟩)], .agg x.1.cells, .bool x.2, undef, undef, undef, undef, undef, undef, undef, undef, undef], defers := [] } ∧ Blk W g 29 x.1.cells)
    (fun x a' _ X Y row hs hg hr => by
      obtain ⟨g, e, hb⟩ := hs
      exact ⟨g, e, hb.grown hg (fun e' => by obtain ⟨o, ho, hc⟩ := (hr g e'.symm).2; rw [show X.heap[g]? = _ from hb] at ho; cases ho; cases hc)⟩) ?assign ?body ?done ?stop
  case assign =>
    intro l pre x W K hI hK
    obtain ⟨⟨tk, ta, tx, tn⟩, o⟩ := x
    have b1 := bl_al (Below.refl W.heap.size W) (.cells #[.int .i64 tk, .int .i64 ta, .string (bS tx), .int .u64 (tn : Int)] 29)
    obtain ⟨ha, i0, i1, i2, i4, ⟨v, iv, hrow, _⟩, hB⟩ := hI
    have hbs := hB.size
    have htb := i4.lt
    gi_wp2
    exact hK _ _ ((KeepsOthers.alloc W _).from _) ⟨b1.mono hbs, b1.block _ htb⟩ ⟨ha, i0.alloc _, i1.alloc _, i2.alloc _, i4.alloc _, ⟨v, iv.alloc _, hrow.alloc _, trivial⟩, hB.trans (b1.mono hbs)⟩ ⟨W.heap.size, rfl, Blk.new _ _ _⟩
  case body =>
    rintro l pre ⟨⟨tk, ta, tx, tn⟩, o⟩ a' W _ _ ⟨ha, i0, i1, i2, i4, ⟨v, iv, hrow, _⟩, hB⟩ ⟨g, rfl, hbx⟩ hlt
    have hc := iv.cell
    have x0 := hbx.cell 0
    have x1 := hbx.cell 1
    have x2 := hbx.cell 2
    have x3 := hbx.cell 3
    simp at x0 x1 x2 x3
    cases o
    · have c0 := i0.cell
      have c1 := i1.cell
      have c2 := i2.cell
      have f0 := i0.frozen
      have f1 := i1.frozen
      have f2 := i2.frozen
      gi_wp2
      gi_region
      all_goals
        gi_wp2
        refine ⟨KeepsOthers.from (keeps_drew (((KeepsOthers.setCell W _ _).trans (KeepsOthers.setCell _ _ _)).trans (KeepsOthers.setCell _ _ _))) _, rfl, pre, ⟨tk, ta, tx, tn⟩, rfl, ?_, ?_, ?_, ?_⟩
        · exact (box3 i0 i1 i2 (by omega) (by omega) (by omega)).1
        · exact (box3 i0 i1 i2 (by omega) (by omega) (by omega)).2.1
        · exact (box3 i0 i1 i2 (by omega) (by omega) (by omega)).2.2
        · exact bl_d1 (bl_set (bl_set (bl_set hB (p := ⟨w.heap.size, 0, none⟩) (Nat.le_refl _) _) (p := ⟨w.heap.size + 1, 0, none⟩) (by show _ ≤ w.heap.size + 1; omega) _) (p := ⟨w.heap.size + 1 + 1, 0, none⟩) (by show _ ≤ w.heap.size + 1 + 1; omega) _)
    · have hnew : ∀ (j : Nat) (u : Value), (Tk.cells ⟨tk, ta, tx, tn⟩).toList[j]? = some u → (W.alloc (.cells #[.int .i64 tk, .int .i64 ta, .string (bS tx), .int .u64 (tn : Int)] 29)).cell? ((⟨W.heap.size, 0, none⟩ : Addr).add j) = some u := fun j u hu => (by
        have h1 := (Blk.new W 29 #[.int .i64 tk, .int .i64 ta, .string (bS tx), .int .u64 (tn : Int)]).cell j
        rw [show (⟨W.heap.size, 0, none⟩ : Addr).add j = ⟨W.heap.size, j, none⟩ from by unfold Addr.add; split <;> simp_all]
        rw [h1]; simpa using hu)
      have h1c : ∀ u ∈ (Tk.cells ⟨tk, ta, tx, tn⟩).toList, u.oneCell' = true := fun u hu => by simp at hu; rcases hu with rfl | rfl | rfl | rfl <;> rfl
      have n0 := i0.not_row (e := 29) (by decide) hrow
      have n1 := i1.not_row (e := 29) (by decide) hrow
      have n2 := i2.not_row (e := 29) (by decide) hrow
      have n4 := i4.not_row (e := 29) (by decide) hrow
      gi_wp2_with (gi_at_builtin; refine wpListIn_append_own _ rfl _ _ 23 rfl w.heap.size 29 i0' _ 4 40 Tryz.underlying23 hi hz0 hz1 hz2 rfl (by decide) _ _ _ rfl (hrow.alloc _) ⟨W.heap.size, 0, none⟩ 1 1 (Tk.cells ⟨tk, ta, tx, tn⟩).toList rfl rfl hnew h1c (by unfold maxLen; omega) (by omega) (by have := hB.size; simp; omega) ?_; intro v' w1 hown' hgrow _; obtain ⟨g', cap', rfl⟩ := ownsRow_succ hown'; obtain ⟨hv1, hv2, hr2, hk2, hb2⟩ := iv.appended (by decide) hrow hB.size (by omega) hown' hgrow; have hc1 := hv1.cell; have hf1 := hv1.frozen)
      have j0 := ((i0.alloc _).kept hgrow n0).kept (grownBy_setCell' _ (w.heap.size + 1 + 1 + 1) (.slice (some ⟨g', 0, none⟩) (pre.length + 1) cap')) (fun e => by injection e with e; omega)
      have j1 := ((i1.alloc _).kept hgrow n1).kept (grownBy_setCell' _ (w.heap.size + 1 + 1 + 1) (.slice (some ⟨g', 0, none⟩) (pre.length + 1) cap')) (fun e => by injection e with e; omega)
      have j2 := ((i2.alloc _).kept hgrow n2).kept (grownBy_setCell' _ (w.heap.size + 1 + 1 + 1) (.slice (some ⟨g', 0, none⟩) (pre.length + 1) cap')) (fun e => by injection e with e; omega)
      have j4 := ((i4.alloc _).kept hgrow n4).kept (grownBy_setCell' _ (w.heap.size + 1 + 1 + 1) (.slice (some ⟨g', 0, none⟩) (pre.length + 1) cap')) (fun e => by injection e with e; omega)
      exact ⟨hk2.from _, ⟨hb2, j4.trans i4.symm⟩, fun x hx => (List.mem_append.1 hx).elim (ha x) (fun h => by rw [List.mem_singleton.1 h]), j0, j1, j2, j4, ⟨_, hv2, by rw [List.map_append, List.map_cons, List.map_nil, rowK_one, show (pre ++ [((⟨tk, ta, tx, tn⟩ : Tk), true)]).length = pre.length + 1 from by simp]; exact hr2, trivial⟩, hB.trans hb2⟩
  case done =>
    rintro D ys W hD hdone ⟨ha, i0, i1, i2, i4, ⟨v, iv, hrow, _⟩, hB⟩ hK
    have hrun : RunP s.data.toList ys s.data.toList.length := by
      rcases hdone with h | ⟨p', t, p, e, _⟩
      · exact h
      · have := ha (t, false) (by rw [e]; simp)
        cases this
    have HF := Lib.hid (show tokM s.data.toList = (ys.map Prod.fst, 0, 0) from by
      have e : lexF s.data.toList 0 = (ys.map Prod.fst, none) := by rw [hrun.2.2, drop_end (Nat.le_refl _), lexF_nil]; show (ys.map Prod.fst ++ [], none) = _; rw [List.append_nil]
      rw [tokM_ok (by rw [len_data]; exact hs) (by rw [e]), e])
    obtain ⟨A, c, rfl, hown⟩ := ownT_of hrow (by rw [List.length_map])
    have hc := iv.cell
    have c0 := i0.cell
    have c1 := i1.cell
    have c2 := i2.cell
    have f0 := i0.frozen
    have f1 := i1.frozen
    have f2 := i2.frozen
    have k0 := (i0.set (.slice A ys.length c))
    have k1 := Boxed.far' (b := w.heap.size) (u := .slice A ys.length c) i1 (by omega)
    have k2 := Boxed.far' (b := w.heap.size) (u := .slice A ys.length c) i2 (by omega)
    have r1 := hrow.kept (grownBy_setCell' W w.heap.size (.slice A ys.length c)) (.inr (i0.not_row (by decide) hrow).symm)
    have K0 := Boxed.far' (b := w.heap.size + 1 + 1) (u := .int .i64 0) (Boxed.far' (b := w.heap.size + 1) (u := .int .i64 0) k0 (by omega)) (by omega)
    have K1 := Boxed.far' (b := w.heap.size + 1 + 1) (u := .int .i64 0) (k1.set (.int .i64 0)) (by omega)
    have K2 := (Boxed.far' (b := w.heap.size + 1) (u := .int .i64 0) k2 (by omega)).set (.int .i64 0)
    have r2 := r1.kept (grownBy_setCell' _ (w.heap.size + 1) (.int .i64 0)) (.inr (k1.not_row (by decide) r1).symm)
    have r3 := r2.kept (grownBy_setCell' _ (w.heap.size + 1 + 1) (.int .i64 0)) (.inr ((Boxed.far' (b := w.heap.size + 1) (u := .int .i64 0) k2 (by omega)).not_row (by decide) r2).symm)
    have HB3 := bl_set (bl_set (bl_set hB (p := ⟨w.heap.size, 0, none⟩) (Nat.le_refl _) (.slice A ys.length c)) (p := ⟨w.heap.size + 1, 0, none⟩) (by show _ ≤ w.heap.size + 1; omega) (.int .i64 0)) (p := ⟨w.heap.size + 1 + 1, 0, none⟩) (by show _ ≤ w.heap.size + 1 + 1; omega) (.int .i64 0)
    have hK3 := ((((KeepsOthers.setCell W ⟨w.heap.size, 0, none⟩ (.slice A ys.length c)).trans (KeepsOthers.setCell _ ⟨w.heap.size + 1, 0, none⟩ (.int .i64 0))).trans (KeepsOthers.setCell _ ⟨w.heap.size + 1 + 1, 0, none⟩ (.int .i64 0)))).same D _ hK rfl
    clear k0 k1 k2 r1 r2 hown
    gi_wp2
    refine ⟨by simp, .inl ⟨_, _, rfl, run_takeDeferred hK3, ?_⟩⟩
    generalize ((W.setCell ⟨w.heap.size, 0, none⟩ (.slice A ys.length c)).setCell ⟨w.heap.size + 1, 0, none⟩ (.int .i64 0)).setCell ⟨w.heap.size + 1 + 1, 0, none⟩ (.int .i64 0) = X at *
    have z0 := (K0.kept (grownBy_putObj' X D (.deferred none)) (fun e => by injection e with e; omega)).cell
    have z1 := (K1.kept (grownBy_putObj' X D (.deferred none)) (fun e => by injection e with e; omega)).cell
    have z2 := (K2.kept (grownBy_putObj' X D (.deferred none)) (fun e => by injection e with e; omega)).cell
    obtain ⟨A', c', e9, hown⟩ := ownT_of (ownsRow_putObj r3 (.deferred none) hK3 rfl) (by rw [List.length_map])
    injection e9 with e9 _ e8
    subst e9 e8
    refine ⟨.tuple #[.slice A ys.length c, .int .i64 0, .int .i64 0], ?_, TkE.mk HF.out hown, HB3.trans (belowK_b (w := w5) HB5.size X D _ _ hD hK3 rfl rfl)⟩
    simp [results, Tryz.f7, go_sem, z0, z1, z2]
  case stop =>
    rintro D c pre W hD hstop ⟨rfl, p', t, rfl, i0, i1, i2, hB⟩ hK
    have HF := Lib.hid (show tokM s.data.toList = ([], t.at_, 170) from by
      rcases hstop with ⟨p, h⟩ | ⟨q', t', p, e, h1, h2, h3⟩
      · have := h.1 (t, false) (by simp)
        cases this
      · have e2 := List.append_inj_right' e rfl
        injection e2 with e2
        injection e2 with e2
        subst e2
        rw [h3]
        exact tokM_bad (by rw [len_data]; exact hs) (by rw [h1.2.2, h2]))
    have c0 := i0.cell
    have c1 := i1.cell
    have c2 := i2.cell
    gi_wp2
    refine ⟨by simp, .inl ⟨_, _, rfl, run_takeDeferred hK, ?_⟩⟩
    have z0 := (i0.kept (grownBy_putObj' W D (.deferred none)) (fun e => by injection e with e; omega)).cell
    have z1 := (i1.kept (grownBy_putObj' W D (.deferred none)) (fun e => by injection e with e; omega)).cell
    have z2 := (i2.kept (grownBy_putObj' W D (.deferred none)) (fun e => by injection e with e; omega)).cell
    refine ⟨.tuple #[.slice none 0 0, .int .i64 t.at_, .int .i64 170], ?_, TkE.none HF.out, hB.trans (belowK_b (w := w5) HB5.size W D _ _ hD hK rfl rfl)⟩
    simp [results, Tryz.f7, go_sem, z0, z1, z2]
theorem ltokens_any (s : ByteArray) (w : World) (hm : s.size ≤ 9223372036854775807) (hT : Tab w) : Calls Tryz.prog 7 #[.string s] w fun e w' => TkE w.heap.size (tokM s.data.toList) e w' ∧ Below w.heap.size w w' := by
  by_cases h : 600 < s.size
  · exact ltokens_long s w h hm
  · exact callsIn_wide.1 (ltokens_in s w (by omega) hT)
end Go.Proofs.YtnpicnddcoaboaaGreatDoor
