/- Nodes moved. Conditions: the nodes read so; their places are no great numbers. -/
import Derived.Test.YtoaggmldekejoaaDoorAsK
namespace Go.Proofs.YtoaggmldekejoaaDoor
open Go.RowKit
theorem own_some {w : World} {B n c : Nat} {G : Nat → Prop} {A : Option Addr} {xs : List Nd} (h : LN.own 27 w B G A n c xs) (hn : 0 < n) : ∃ g, A = some ⟨g, 0, none⟩ ∧ B ≤ g ∧ g < w.heap.size := by
  obtain ⟨hl, cs, hr, ho⟩ := h
  obtain ⟨g, cap, hv, hB, hlt⟩ := World.ownsRow.form ho hn
  injection hv with h1 _ _
  exact ⟨g, h1, hB, hlt⟩
theorem flat9_at : ∀ {xs : List Nd} {i j : Nat} {x : Nd} {v : Value}, xs[i]? = some x → (nd9 x)[j]? = some v → (xs.flatMap nd9)[i * 9 + j]? = some v
  | [], i, j, x, v, h, _ => by simp at h
  | y :: l, 0, j, x, v, h, e => by
    rw [List.getElem?_cons_zero] at h
    injection h with h
    subst h
    rw [List.flatMap_cons, Nat.zero_mul, Nat.zero_add, List.getElem?_append_left (List.getElem?_eq_some_iff.1 e).1]
    exact e
  | y :: l, i + 1, j, x, v, h, e => by
    rw [List.getElem?_cons_succ] at h
    rw [List.flatMap_cons, List.getElem?_append_right (by show 9 ≤ _; omega), show (i + 1) * 9 + j - (nd9 y).length = i * 9 + j from by show (i + 1) * 9 + j - 9 = _; omega]
    exact flat9_at h e
theorem own_cellN {w : World} {B n c g i j : Nat} {G : Nat → Prop} {xs : List Nd} {x : Nd} {v : Value} (h : LN.own 27 w B G (some ⟨g, 0, none⟩) n c xs) (hx : xs[i]? = some x) (e : (nd9 x)[j]? = some v) : w.cell? ⟨g, i * 9 + j, none⟩ = some v ∧ w.frozen? ⟨g, i * 9 + j, none⟩ = false := by
  obtain ⟨hl, cs, hr, ho⟩ := h
  obtain rfl := LN_reps.1 hr
  rcases ho.2 with ⟨e1, _⟩ | ⟨g', cap, cur, e1, hg, hh, h1, h2, h3, h4⟩
  · cases e1
  · injection e1 with e2 _ e4
    injection e2 with e2
    injection e2 with e2 _ _
    subst e2 e4
    have hb : Blk w g 27 cur := hh
    refine ⟨?_, hb.frozen _⟩
    rw [hb.cell]
    have := flat9_at hx e
    rw [← h4, List.getElem?_take] at this
    split at this
    · rw [← Array.getElem?_toList]; exact this
    · cases this
theorem mv_step {xs : List Nd} {i : Nat} {x : Nd} (k : Int) (h : xs[i]? = some x) : ((xs.take i).map (mv k) ++ xs.drop i).set i (mv k x) = (xs.take (i + 1)).map (mv k) ++ xs.drop (i + 1) := by
  have hi : i < xs.length := (List.getElem?_eq_some_iff.1 h).1
  have hl : ((xs.take i).map (mv k)).length = i := by rw [List.length_map, List.length_take]; omega
  rw [List.set_append_right _ _ (by omega), hl, Nat.sub_self, List.drop_eq_getElem_cons hi, List.set_cons_zero, List.take_add_one, h, List.map_append, List.append_assoc]
  rfl
theorem mv_here {xs : List Nd} {i : Nat} {x : Nd} (k : Int) (h : xs[i]? = some x) : ((xs.take i).map (mv k) ++ xs.drop i)[i]? = some x := by
  have hi : i < xs.length := (List.getElem?_eq_some_iff.1 h).1
  have hl : ((xs.take i).map (mv k)).length = i := by rw [List.length_map, List.length_take]; omega
  rw [List.getElem?_append_right (by omega), hl, Nat.sub_self, List.getElem?_drop, Nat.add_zero]
  exact h
theorem set_here {α : Type} : ∀ {l : List α} {i : Nat} {x : α}, l[i]? = some x → l.set i x = l
  | [], _, _, h => by simp at h
  | y :: l, 0, x, h => by rw [List.getElem?_cons_zero] at h; injection h with h; subst h; rfl
  | y :: l, i + 1, x, h => by rw [List.getElem?_cons_succ] at h; rw [List.set_cons_succ, set_here h]
def mvl (k : Int) (x : Nd) : Nd := { x with l := if 0 ≤ x.l then x.l + k else x.l }
set_option maxRecDepth 100000 in
set_option maxHeartbeats 8000000 in
theorem moved_any (F : Nat → Prop) (xs : List Nd) (A : Option Addr) (n c : Nat) (k : Int) (w : World) (h : LN.rd w F A n xs) (hn : n ≤ 100000) (hk : -100000 ≤ k) (hk2 : k ≤ 100000) (hx : ∀ x ∈ xs, x.l ≤ 100000 ∧ x.r ≤ 100000) :
    Calls Tryd.prog 26 #[.slice A n c, .int .i64 k] w fun e w' => ∃ A' c', e = .returned (.slice A' n c') ∧ LN.own 27 w' w.heap.size (fun _ => False) A' n c' (xs.map (mv k)) ∧ Below w.heap.size w w' := by
  have HC := Lib.hid (cloneN F A n c xs w h hn)
  have HLEN := Lib.hid (Lay.rd_len h)
  have HX := Lib.hid hx
  clear h hx
  go_enter Tryd.func26, Tryd.ntmps26
  go_wp2_with fail
  refine HC.out.mono ?_
  rintro e w2 ⟨A2, c2, rfl, ho, q2⟩
  have HO := Lib.hid ho
  have HQ2 := Lib.hid q2
  clear ho q2 HC
  go_wp2_with fail
  go_loopg [13] n (fun g a wr => ∃ i : Nat, i + g = n ∧ a = .int .i64 (i : Int) ∧ Hid (LN.own 27 wr w.heap.size (fun _ => False) A2 n c2 ((xs.take i).map (mv k) ++ xs.drop i)) ∧ Hid (Below w.heap.size w wr))
  case atStart => exact ⟨0, by omega, rfl, HO, HQ2⟩
  case round =>
    obtain ⟨i, hig, rfl, HOI, HB⟩ := hrel
    by_cases hlt : i < n
    · have hi1 : (i : Int) < (n : Int) := by omega
      have hi0 : 0 ≤ (i : Int) := by omega
      obtain ⟨g, hA, hg, hgl⟩ := own_some HOI.out (by omega)
      subst hA
      obtain ⟨x, hx⟩ : ∃ x, xs[i]? = some x := ⟨_, List.getElem?_eq_getElem (by rw [HLEN.out]; exact hlt)⟩
      have HXI := Lib.hid hx
      have HXS := Lib.hid (HX.out x (List.mem_of_getElem? hx))
      have hix0 : ∀ W, (Instr.index 66 (.agg #[.pointer (some ⟨g, i * 9 + 1, none⟩), .pointer (some ⟨g, i * 9 + 2, none⟩)]) (.int .i64 0)).run Tryd.prog W = .ok (.pointer (some ⟨g, i * 9 + 1, none⟩)) W := fun W => by kernel_rfl
      have hix1 : ∀ W, (Instr.index 66 (.agg #[.pointer (some ⟨g, i * 9 + 1, none⟩), .pointer (some ⟨g, i * 9 + 2, none⟩)]) (.int .i64 1)).run Tryd.prog W = .ok (.pointer (some ⟨g, i * 9 + 2, none⟩)) W := fun W => by kernel_rfl
      clear hx
      go_wp2_with fail
      go_quiet (fail)
      obtain ⟨gk0, rfl⟩ : ∃ g1, g1 = gk := ⟨_, rfl⟩
      obtain ⟨wo, rfl⟩ : ∃ x, x = wr := ⟨_, rfl⟩
      have HO5 := Lib.hid (Lay.own_below HOI.out (bl_dr (Below.refl wo.heap.size wo) nq))
      have HB5 := Lib.hid (bl_ca HB.out (bl_dr (Below.refl wo.heap.size wo) nq))
      generalize wo.drewN nq = w5 at *
      have HYH := Lib.hid (mv_here k HXI.out)
      have HYS := Lib.hid (mv_step k HXI.out)
      generalize (xs.take i).map (mv k) ++ xs.drop i = ys at *
      go_wp2_with fail
      go_loopg [25] 2 (fun g' a wx => ∃ (j : Nat) (x' : Nd), j + g' = 2 ∧ a = .int .i64 (j : Int) ∧ Hid ((j = 0 ∧ x' = x) ∨ (j = 1 ∧ x' = mvl k x) ∨ (j = 2 ∧ x' = mv k x)) ∧ Hid (LN.own 27 wx w.heap.size (fun _ => False) (some ⟨g, 0, none⟩) n c2 (ys.set i x')) ∧ Hid (Below w.heap.size w wx))
      case atStart => exact ⟨0, x, by omega, rfl, Lib.hid (.inl ⟨rfl, rfl⟩), Lib.hid (by rw [set_here HYH.out]; exact HO5.out), HB5⟩
      case round =>
        obtain ⟨j, x', hjg, rfl, HJ, HOX, HBX⟩ := hrel
        have hil : i < ys.length := (List.getElem?_eq_some_iff.1 HYH.out).1
        have HXX := Lib.hid (show (ys.set i x')[i]? = some x' from by rw [List.getElem?_set_self hil])
        have HSET := Lib.hid (fun (z : Nd) => show (ys.set i x').set i z = ys.set i z from List.set_set ..)
        have hxs := HXS.out
        clear hil
        rcases HJ.out with ⟨rfl, rfl⟩ | ⟨rfl, rfl⟩ | ⟨rfl, rfl⟩
        · obtain ⟨r0, r1⟩ := own_cellN (j := 1) HOX.out HXX.out rfl
          by_cases h0 : 0 ≤ x'.l
          · have HV := Lib.hid (own_setN (j := 1) (x' := mvl k x') (v := .int .i64 (x'.l + k)) HOX.out HXX.out (by unfold mvl nd9; rw [if_pos h0]; rfl) (by omega))
            have HBV := Lib.hid (bl_set HBX.out (p := ⟨g, i * 9 + 1, none⟩) hg (.int .i64 (x'.l + k)))
            rw [HSET.out] at HV
            have hxl : x'.l ≤ 100000 := hxs.1
            clear hxs
            go_wp2
            go_roundg (gk - 1)
            · exact ⟨1, mvl k x', by omega, rfl, Lib.hid (.inr (.inl ⟨rfl, rfl⟩)), HV, HBV⟩
            · omega
          · have HV := Lib.hid (show mvl k x' = x' from by unfold mvl; rw [if_neg h0])
            have h1 : x'.l < 0 := by omega
            clear h0 hxs
            go_wp2
            go_roundg (gk - 1)
            · exact ⟨1, x', by omega, rfl, Lib.hid (.inr (.inl ⟨rfl, HV.out.symm⟩)), HOX, HBX⟩
            · omega
        · obtain ⟨r0, r1⟩ := own_cellN (j := 2) (v := .int .i64 x.r) HOX.out HXX.out rfl
          by_cases h0 : 0 ≤ x.r
          · have HV := Lib.hid (own_setN (j := 2) (x' := mv k x) (v := .int .i64 (x.r + k)) HOX.out HXX.out (by unfold mv mvl nd9; rw [if_pos h0]; rfl) (by omega))
            have HBV := Lib.hid (bl_set HBX.out (p := ⟨g, i * 9 + 2, none⟩) hg (.int .i64 (x.r + k)))
            rw [HSET.out] at HV
            have hxl : x.r ≤ 100000 := hxs.2
            clear hxs
            go_wp2
            go_roundg (gk - 1)
            · exact ⟨2, mv k x, by omega, rfl, Lib.hid (.inr (.inr ⟨rfl, rfl⟩)), HV, HBV⟩
            · omega
          · have HV := Lib.hid (show mvl k x = mv k x from by unfold mvl mv; rw [if_neg h0])
            have h1 : x.r < 0 := by omega
            rw [HV.out] at HOX
            clear h0 hxs
            go_wp2
            go_roundg (gk - 1)
            · exact ⟨2, mv k x, by omega, rfl, Lib.hid (.inr (.inr ⟨rfl, rfl⟩)), HOX, HBX⟩
            · omega
        · rw [HYS.out] at HOX
          clear hxs
          go_wp2
          go_roundg (gk0 - 1)
          · exact ⟨i + 1, by omega, by go_num, HOX, HBX⟩
          · omega
    · obtain rfl : i = n := by omega
      have hi1 : (i : Int) ≤ (i : Int) := by omega
      have HF := Lib.hid (show (xs.take i).map (mv k) ++ xs.drop i = xs.map (mv k) from by rw [List.take_of_length_le (by rw [HLEN.out]; exact Nat.le_refl _), List.drop_of_length_le (by rw [HLEN.out]; exact Nat.le_refl _), List.append_nil])
      rw [HF.out] at HOI
      go_wp2
      go_ret
      exact ⟨A2, c2, rfl, HOI.out, HB.out⟩
end Go.Proofs.YtoaggmldekejoaaDoor
