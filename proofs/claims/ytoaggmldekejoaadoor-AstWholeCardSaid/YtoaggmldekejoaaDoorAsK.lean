/- CheckTree, Depth; nodes moved. Conditions: the nodes read so; what the tables hold. -/
import Derived.Test.YtoaggmldekejoaaDoorAsH
namespace Go.Proofs.YtoaggmldekejoaaDoor
open Go.RowKit
def chkE (xs : List Nd) : Int := if okF xs then 0 else 180
theorem ret_i' {a b : Int} (h : a = b) : Ending.returned (.int .i64 a) = Ending.returned (.int .i64 b) := by rw [h]
set_option maxRecDepth 100000 in
theorem checktree_any (F : Nat → Prop) (xs : List Nd) (A : Option Addr) (n c : Nat) (w : World) (h : LN.rd w F A n xs) (hn : n ≤ 100000) (hT : Tab w) (hS : ∀ x ∈ xs, SmP x.p) :
    Calls Tryd.prog 20 #[.agg #[.slice A n c]] w fun e w' => e = .returned (.int .i64 (chkE xs)) ∧ Below w.heap.size w w' := by
  have HQ := Lib.hid (bl_al (Below.refl w.heap.size w) (.cells #[.slice A n c] 30))
  have HC := Lib.hid (grown_any F xs A n c _ (Lay.rd_below h HQ.out) hn (hT.below HQ.out) hS)
  have HE := Lib.hid (show chkE xs = if okF xs then 0 else 180 from rfl)
  generalize chkE xs = r at *
  clear h hT hS
  go_enter Tryd.func20, Tryd.ntmps20
  go_wp2_with fail
  refine HC.out.mono ?_
  rintro e w2 ⟨A2, c2, n2, ok, bs, rfl, hok, _, _, q2⟩
  have HQ2 := Lib.hid (bl_ca HQ.out q2)
  rw [← hok] at HE
  clear hok q2
  cases ok
  · go_wp2
    go_ret
    exact ⟨ret_i' (by rw [HE.out]; rfl), HQ2.out⟩
  · go_wp2
    go_ret
    exact ⟨ret_i' (by rw [HE.out]; rfl), HQ2.out⟩
set_option maxRecDepth 100000 in
theorem depth_any (F : Nat → Prop) (xs : List Nd) (A : Option Addr) (n c : Nat) (w : World) (h : LN.rd w F A n xs) (hn : n ≤ 100000) (hT : Tab w) (hS : ∀ x ∈ xs, SmP x.p) :
    Calls Tryd.prog 21 #[.agg #[.slice A n c]] w fun e w' => e = .returned (.int .i64 (depF xs : Int)) ∧ Below w.heap.size w w' := by
  have HQ := Lib.hid (bl_al (Below.refl w.heap.size w) (.cells #[.slice A n c] 30))
  have HC := Lib.hid (grown_any F xs A n c _ (Lay.rd_below h HQ.out) hn (hT.below HQ.out) hS)
  clear h hT hS
  go_enter Tryd.func21, Tryd.ntmps21
  go_wp2_with fail
  refine HC.out.mono ?_
  rintro e w2 ⟨A2, c2, n2, ok, bs, rfl, hok, hrd, hbs, q2⟩
  have HQ2 := Lib.hid (bl_ca HQ.out q2)
  have HRD := Lib.hid hrd
  have HBS := Lib.hid hbs
  clear q2 hrd hbs
  cases ok
  · have HD := Lib.hid (show depF xs = 0 from by
      cases ht : treeF cntB xs with
      | none => unfold depF; rw [ht]
      | some t => rw [okF_of ht] at hok; cases hok)
    clear hok
    go_wp2
    go_ret
    exact ⟨ret_i' (by rw [HD.out]; rfl), HQ2.out⟩
  · obtain ⟨t, ht⟩ := okF_ex hok.symm
    obtain ⟨hb, hn2⟩ := HBS.out t ht
    have hp := t.size_pos
    obtain ⟨p, x, hAe, hx, _, _, s1⟩ := LB2_at HRD.out (show n2 - 1 < n2 by omega)
    obtain rfl : A2 = some p := hAe
    have HD := Lib.hid (show depF xs = x.2 from by
      rw [depF_of ht]
      have := bel_last t 0
      rw [hb, hn2] at hx
      rw [this] at hx
      injection hx with hx
      rw [← hx])
    obtain ⟨m, hm⟩ : ∃ m, m = n2 - 1 := ⟨_, rfl⟩
    rw [← hm] at s1
    have i1 : (n2 : Int) - 1 = (m : Int) := by omega
    have i2 : 0 ≤ (m : Int) := by omega
    have i3 : (m : Int) < (n2 : Int) := by omega
    have i4 : (m : Int) ≤ 300 := by have := (treeF_some.1 ht).2.2.1; omega
    clear hok hb hn2 hp hx hm
    go_wp2
    go_ret
    exact ⟨ret_i' (by rw [HD.out]), HQ2.out⟩
/-! ### nodes of one's own -/
theorem own_swap {α : Type} {L : Lay α} {e : TypeId} {w : World} {B n c : Nat} {G G' : Nat → Prop} {A : Option Addr} {xs : List α} (hfree : ∀ (w w' : World) (F G : Nat → Prop) (ys : List α) (cs : List Value), L.reps w F ys cs → L.reps w' G ys cs) (h : L.own e w B G A n c xs) : L.own e w B G' A n c xs := by
  obtain ⟨hl, cs, hr, ho⟩ := h
  exact ⟨hl, cs, hfree _ _ _ _ _ _ hr, ho⟩
abbrev nd9 (x : Nd) : List Value := [.int .i64 x.p.tag, .int .i64 x.l, .int .i64 x.r, .int .i64 x.p.k, .int .i64 x.p.n, .int .u64 x.p.u, .string x.p.s, .string x.p.tb, .string x.p.nm]
theorem LN_reps {w : World} {F : Nat → Prop} : ∀ {xs : List Nd} {cs : List Value}, LN.reps w F xs cs ↔ cs = xs.flatMap nd9
  | [], _ => Iff.rfl
  | x :: l, cs => by
    constructor
    · rintro ⟨a, b, rfl, ha, hb⟩
      obtain rfl : a = nd9 x := ha
      rw [LN_reps.1 hb]
      rfl
    · rintro rfl
      exact ⟨nd9 x, l.flatMap nd9, rfl, rfl, LN_reps.2 rfl⟩
theorem LN_free : ∀ (w w' : World) (F G : Nat → Prop) (ys : List Nd) (cs : List Value), LN.reps w F ys cs → LN.reps w' G ys cs := fun _ _ _ _ _ _ h => LN_reps.2 (LN_reps.1 h)
theorem flat9_len : ∀ xs : List Nd, (xs.flatMap nd9).length = xs.length * 9
  | [] => rfl
  | x :: l => by rw [List.flatMap_cons, List.length_append, flat9_len l]; show 9 + l.length * 9 = (l.length + 1) * 9; omega
theorem flat9_set : ∀ {xs : List Nd} {i j : Nat} {x x' : Nd} {v : Value}, xs[i]? = some x → nd9 x' = (nd9 x).set j v → j < 9 → (xs.set i x').flatMap nd9 = (xs.flatMap nd9).set (i * 9 + j) v
  | [], i, j, x, x', v, h, _, _ => by simp at h
  | y :: l, 0, j, x, x', v, h, e, hj => by
    rw [List.getElem?_cons_zero] at h
    injection h with h
    subst h
    rw [List.set_cons_zero, List.flatMap_cons, List.flatMap_cons, e, List.set_append_left _ _ (by show _ < 9; omega), Nat.zero_mul, Nat.zero_add]
  | y :: l, i + 1, j, x, x', v, h, e, hj => by
    rw [List.getElem?_cons_succ] at h
    rw [List.set_cons_succ, List.flatMap_cons, List.flatMap_cons, flat9_set h e hj, List.set_append_right _ _ (by show 9 ≤ _; omega)]
    congr 2
    show _ = (i + 1) * 9 + j - 9
    omega
theorem own_setN {w : World} {B n c g i j : Nat} {G : Nat → Prop} {xs : List Nd} {x x' : Nd} {v : Value} (h : LN.own 27 w B G (some ⟨g, 0, none⟩) n c xs) (hx : xs[i]? = some x) (e : nd9 x' = (nd9 x).set j v) (hj : j < 9) : LN.own 27 (w.setCell ⟨g, i * 9 + j, none⟩ v) B G (some ⟨g, 0, none⟩) n c (xs.set i x') := by
  obtain ⟨hl, cs, hr, ho⟩ := h
  obtain rfl := LN_reps.1 hr
  refine ⟨by rw [List.length_set]; exact hl, (xs.set i x').flatMap nd9, LN_reps.2 rfl, by rw [flat9_len, List.length_set, hl]; rfl, ?_⟩
  rcases ho.2 with ⟨e1, _⟩ | ⟨g', cap, cur, e1, hg, hh, h1, h2, h3, h4⟩
  · cases e1
  · injection e1 with e2 _ e4
    injection e2 with e2
    injection e2 with e2 _ _
    subst e2 e4
    have hi : i < xs.length := (List.getElem?_eq_some_iff.1 hx).1
    have hsz : i * 9 + j < cur.size := by
      have h3' : cur.size = c * 9 := h3
      have : i * 9 + 9 ≤ n * 9 := by omega
      have : n * 9 ≤ c * 9 := Nat.mul_le_mul_right _ h1
      omega
    refine .inr ⟨g, c, cur.setIfInBounds (i * 9 + j) v, rfl, hg, ?_, h1, h2, by rw [Array.size_setIfInBounds]; exact h3, ?_⟩
    · have hb : Blk w g 27 cur := hh
      exact hb.set_ (i * 9 + j) v
    · rw [flat9_set hx e hj, ← h4, Array.toList_setIfInBounds]
      rw [List.take_set]
theorem infoN : (Tryd.prog.info? 27).map (fun i => (i.zero, i.size, i.bytes)) = some (some (.agg #[.int .i64 0, .int .i64 0, .int .i64 0, .int .i64 0, .int .i64 0, .int .u64 0, .string ⟨#[]⟩, .string ⟨#[]⟩, .string ⟨#[]⟩]), 9, 96) := by kernel_rfl
set_option maxRecDepth 100000 in
set_option maxHeartbeats 4000000 in
theorem cloneN (F : Nat → Prop) (A : Option Addr) (m c : Nat) (xs : List Nd) (w : World) (h : LN.rd w F A m xs) (hm : m ≤ 100000) :
    Calls Tryd.prog 33 #[.slice A m c] w fun e w' => ∃ A' c', e = .returned (.slice A' m c') ∧ LN.own 27 w' w.heap.size (fun _ => False) A' m c' xs ∧ Below w.heap.size w w' := by
  cases A with
  | none =>
    have hm0 : m = 0 := by
      rcases Nat.eq_zero_or_pos m with h0 | h0
      · exact h0
      · obtain ⟨ad, x, cs, e, _⟩ := Lay.rd_at h h0; cases e
    subst hm0
    obtain rfl : xs = [] := List.eq_nil_of_length_eq_zero (Lay.rd_len h)
    clear h
    have HQ : ∀ W, (binOp .eql 28 (.slice none 0 c) (.slice none 0 0)).run Tryd.prog W = .ok (.bool true) W := fun W => Lib.run_eql_slice_nil W _ _ _ _ _ _ _ Tryd.underlying28
    go_enter Tryd.func33, Tryd.ntmps33
    go_wp2
    go_ret
    exact ⟨none, 0, rfl, Lay.own_nil _ _, Below.refl _ _⟩
  | some a =>
    have oe := Lay.own_empty LN w 27 (fun b => F b ∧ b < w.heap.size) (by decide)
    have b1 := bl_al (Below.refl w.heap.size w) (.cells #[] 27)
    have h2 : LN.rd (w.alloc (.cells #[] 27)) (fun b => F b ∧ b < w.heap.size) (some a) m xs := Lay.rd_below (Lay.rd_weak (fun b hb hl => ⟨hb, hl⟩) h) b1
    have hz := b1.size
    have HOE := Lib.hid oe
    have HH2 := Lib.hid h2
    have HB := Lib.hid b1
    have HQ : ∀ W, (binOp .eql 28 (.slice (some a) m c) (.slice none 0 0)).run Tryd.prog W = .ok (.bool false) W := fun W => Lib.run_eql_slice_nil W _ _ _ _ _ _ _ Tryd.underlying28
    clear h h2 oe b1
    go_enter Tryd.func33, Tryd.ntmps33
    go_wp2_with (at_builtin; refine wpList_appLs (L := LN) (e := 27) rfl (.tmp 5) (.tmp 6) 28 rfl (.agg #[.int .i64 0, .int .i64 0, .int .i64 0, .int .i64 0, .int .i64 0, .int .u64 0, .string ⟨#[]⟩, .string ⟨#[]⟩, .string ⟨#[]⟩]) 9 96 Tryd.underlying28 infoN rfl rfl (by decide) w.heap.size (fun b => F b ∧ b < w.heap.size) (fun b => F b ∧ b < w.heap.size) (some ⟨w.heap.size, 0, none⟩) 0 0 [] (some a) m c xs m (by omega) rfl rfl HOE.out HH2.out (fun b hb _ => ⟨hb, fun e => by simp [Value.ownBlock] at e; have := hb.2; omega⟩) (fun b hb => Nat.lt_of_lt_of_le hb.2 hz) (by omega) (by unfold maxLen; omega) hz ?_; intro A4 c4 w4 o4 g4 _; rw [List.nil_append] at o4; have HO4 := Lib.hid o4; have HG4 := Lib.hid g4; clear o4 g4)
    go_ret
    exact ⟨A4, c4, rfl, own_swap LN_free HO4.out, HB.out.grown HG4.out hz (fun k e => by simp [Value.ownBlock] at e; omega)⟩
end Go.Proofs.YtoaggmldekejoaaDoor
