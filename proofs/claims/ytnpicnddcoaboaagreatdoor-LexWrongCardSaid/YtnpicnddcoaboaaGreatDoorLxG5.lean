/- slices.IndexFunc over texts; the layer's first. Conditions: a text of one byte or more, at most 100000; what the tables hold. -/
import Derived.Test.YtnpicnddcoaboaaGreatDoorLxG4
namespace Go.Proofs.YtnpicnddcoaboaaGreatDoor
open Go.RowKit
/-- where the first lies for which it holds; -1: none -/
def idxL {α : Type} (f : α → Bool) (l : List α) : Int := if l.findIdx f < l.length then (l.findIdx f : Int) else -1
theorem idxL_hit {α : Type} {f : α → Bool} {l : List α} {i : Nat} {x : α} (h : l[i]? = some x) (hf : f x = true) (hlo : ∀ (k : Nat) (q : α), k < i → l[k]? = some q → f q = false) : idxL f l = (i : Int) := by
  have hi : i < l.length := by
    rcases Nat.lt_or_ge i l.length with h1 | h1
    · exact h1
    · rw [List.getElem?_eq_none h1] at h; cases h
  rw [List.getElem?_eq_getElem hi] at h
  injection h with h
  have e : l.findIdx f = i := by
    rw [List.findIdx_eq hi]
    exact ⟨by rw [h]; exact hf, fun j hj => hlo j _ hj (List.getElem?_eq_getElem (by omega))⟩
  unfold idxL
  rw [e, if_pos hi]
theorem idxL_miss {α : Type} {f : α → Bool} {l : List α} (hlo : ∀ (k : Nat) (q : α), k < l.length → l[k]? = some q → f q = false) : idxL f l = -1 := by
  have e : ¬ l.findIdx f < l.length := by
    rw [List.findIdx_lt_length]
    rintro ⟨x, hx, hf⟩
    obtain ⟨k, hk, rfl⟩ := List.getElem_of_mem hx
    rw [hlo k _ hk (List.getElem?_eq_getElem hk)] at hf
    cases hf
  unfold idxL
  rw [if_neg e]
theorem lo_next {α : Type} {f : α → Bool} {l : List α} {i : Nat} {x : α} (hx : l[i]? = some x) (hf : f x = false) (hlo : ∀ (k : Nat) (q : α), k < i → l[k]? = some q → f q = false) : ∀ (k : Nat) (q : α), k < i + 1 → l[k]? = some q → f q = false := fun k r hk hr => by
  rcases Nat.lt_or_ge k i with h1 | h1
  · exact hlo k r h1 hr
  · obtain rfl : k = i := by omega
    rw [hr] at hx
    injection hx with hx
    subst hx
    exact hf
theorem find_idx {α : Type} (f : α → Bool) : ∀ l : List α, (l.find? f = none → l.findIdx f = l.length) ∧ (∀ x, l.find? f = some x → l.findIdx f < l.length ∧ l[l.findIdx f]? = some x)
  | [] => ⟨fun _ => rfl, fun x h => by simp at h⟩
  | a :: l => by
    have ih := find_idx f l
    rw [List.find?_cons, List.findIdx_cons]
    cases h : f a
    · refine ⟨fun h1 => ?_, fun x h1 => ?_⟩
      · simp only [cond_false, List.length_cons]; rw [ih.1 h1]
      · obtain ⟨h2, h3⟩ := ih.2 x h1
        simp only [cond_false, List.length_cons]
        exact ⟨by omega, by rw [List.getElem?_cons_succ]; exact h3⟩
    · refine ⟨fun h1 => by simp at h1, fun x h1 => ?_⟩
      simp only [cond_true, List.length_cons]
      simp only [Option.some.injEq] at h1
      exact ⟨by omega, by rw [List.getElem?_cons_zero, h1]⟩
def sgnP (S : ByteArray) (x : ByteArray) : Bool := Lib.hasPrefix S.data.toList x.data.toList
theorem sgn_idx (S : ByteArray) : (sgU S.data.toList = none → idxL (sgnP S) (signsU.map bS) = -1) ∧ (∀ s, sgU S.data.toList = some s → ∃ i : Nat, i < 14 ∧ idxL (sgnP S) (signsU.map bS) = (i : Int) ∧ signsU[i]? = some s) := by
  have e : (signsU.map bS).findIdx (sgnP S) = signsU.findIdx (fun x => x.isPrefixOf S.data.toList) := by rw [List.findIdx_map]; rfl
  have h := find_idx (fun x : List UInt8 => x.isPrefixOf S.data.toList) signsU
  have hl : (signsU.map bS).length = signsU.length := List.length_map ..
  unfold idxL
  rw [e, hl]
  refine ⟨fun h1 => ?_, fun s h1 => ?_⟩
  · rw [h.1 h1, if_neg (by omega)]
  · obtain ⟨h2, h3⟩ := h.2 s h1
    exact ⟨_, h2, if_pos h2, h3⟩
theorem Tab.sgR {w : World} (h : Tab w) : LS.rd w AllB (some ⟨0, 0, none⟩) 14 (signsU.map bS) := by
  refine ⟨rfl, _, LS_reps _, fun _ => ⟨_, rfl, World.block_lt_of_cell? w _ (h.sg 0 _ rfl), trivial, fun j u hu => ?_⟩⟩
  rw [List.map_map, List.getElem?_map] at hu
  obtain ⟨s, hs, rfl⟩ := Option.map_eq_some_iff.1 hu
  rw [show (⟨0, 0, none⟩ : Addr).add j = ⟨0, j, none⟩ from by unfold Addr.add; split <;> simp_all]
  exact h.sg j s hs
set_option maxRecDepth 100000 in
theorem first1_any (x : ByteArray) (g : Nat) (S : ByteArray) (w : World) (h : w.cell? ⟨g, 0, none⟩ = some (.string S)) : Calls Tryz.prog 64 #[.string x, .pointer (some ⟨g, 0, none⟩)] w fun e w' => e = .returned (.bool (sgnP S x)) ∧ Below w.heap.size w w' := by
  go_enter Tryz.func64, Tryz.ntmps64
  go_wp2_with fail
  refine (Tryz.strings_HasPrefix S x _).mono ?_
  rintro e w2 ⟨rfl, rfl⟩
  obtain ⟨r, hr⟩ : ∃ r, r = sgnP S x := ⟨_, rfl⟩
  rw [show Lib.hasPrefix S.data.toList x.data.toList = r from hr.symm]
  have HR := Lib.hid hr
  clear hr
  go_wp2
  go_ret
  exact ⟨ret_bool HR.out, Below.refl _ _⟩
def TestS (l : List ByteArray) (D : FuncId) (cap : Array Value) (f : ByteArray → Bool) (G : World → Prop) : Prop :=
  ∀ (i : Nat) (t : ByteArray) (W : World), G W → l[i]? = some t → Calls Tryz.prog D (#[.string t] ++ cap) W fun e w' => e = .returned (.bool (f t)) ∧ Below W.heap.size W w'
set_option maxRecDepth 100000 in
set_option maxHeartbeats 4000000 in
theorem indexS (F : Nat → Prop) (A : Option Addr) (m c : Nat) (xs : List ByteArray) (D : FuncId) (cap : Array Value) (f : ByteArray → Bool) (w : World) (h : LS.rd w F A m xs) (hm : m ≤ 9223372036854775807)
    (hent : ∀ (args : Array Value) (w : World), (callFunc D args).run Tryz.prog w = .ok (.enter D args) w) (hD : TestS xs D cap f (fun W => Below w.heap.size w W)) :
    Calls Tryz.prog 63 #[.slice A m c, .func (.func D) #[] cap] w fun e w' => e = .returned (.int .i64 (idxL f xs)) ∧ Below w.heap.size w w' := by
  have HL := Lib.hid h.1
  have HEN := hent
  have HD := Lib.hid hD
  clear hent hD
  go_enter Tryz.func63, Tryz.ntmps63
  go_wp2_with fail
  go_loopg [8] m (fun g a wr => ∃ i : Nat, i + g = m ∧ a = .int .i64 i ∧ (∀ (k : Nat) (q : ByteArray), k < i → xs[k]? = some q → f q = false) ∧ Below w.heap.size w wr)
  case atStart => exact ⟨0, by omega, rfl, fun k q hk => by omega, Below.refl _ _⟩
  case round =>
    obtain ⟨i, hig, rfl, hlo, bb⟩ := hrel
    have HLO := Lib.hid hlo
    have HBB := Lib.hid bb
    clear hlo
    by_cases hlt : i < m
    · have hi1 : (i : Int) < (m : Int) := by omega
      obtain ⟨p, q, rfl, hx, e0⟩ := LS_at (Lay.rd_below h bb) hlt
      have HX := Lib.hid hx
      have HC := Lib.hid (HD.out i q wr bb hx)
      clear hx bb
      cases hq : f q
      · rw [hq] at HC
        have HF := Lib.hid (lo_next HX.out hq HLO.out)
        clear hq
        go_wp2_with fail
        refine HC.out.mono ?_
        rintro e w2 ⟨rfl, q2⟩
        have b2 := bl_ca HBB.out q2
        clear q2
        go_wp2
        go_roundg (gk - 1)
        · exact ⟨i + 1, by omega, by go_num, HF.out, b2⟩
        · omega
      · rw [hq] at HC
        have HF := Lib.hid (idxL_hit HX.out hq HLO.out)
        clear hq
        go_wp2_with fail
        refine HC.out.mono ?_
        rintro e w2 ⟨rfl, q2⟩
        have b2 := bl_ca HBB.out q2
        clear q2
        go_wp2
        go_ret
        exact ⟨ret_int (by rw [HF.out]), b2⟩
    · obtain rfl : i = m := by omega
      have hi1 : (i : Int) ≤ (i : Int) := by omega
      have HF := Lib.hid (idxL_miss (fun k q hk => HLO.out k q (by rw [← HL.out]; exact hk)))
      clear bb
      go_wp2
      go_ret
      exact ⟨ret_int (by rw [HF.out]), HBB.out⟩
theorem par_ascii {row : List UInt8} (h : row.all paU = true) : ∀ b ∈ row, b.toNat < 128 := fun b hb => by
  have h9 := List.all_eq_true.1 h b hb
  rcases Nat.lt_or_ge b.toNat 128 with h1 | h1
  · exact h1
  · unfold paU paI dgI smI cpI at h9
    rw [decide_eq_false (show ¬ (b.toNat : Int) ≤ 57 by omega), decide_eq_false (show ¬ (b.toNat : Int) ≤ 122 by omega), decide_eq_false (show ¬ (b.toNat : Int) ≤ 90 by omega), decide_eq_false (show ¬ (b.toNat : Int) = 95 by omega)] at h9
    simp at h9
theorem takeWhile_all' {p : UInt8 → Bool} : ∀ l : List UInt8, (l.takeWhile p).all p = true
  | [] => rfl
  | a :: l => by
    rw [List.takeWhile_cons]
    split
    · rename_i h; rw [List.all_cons, h, takeWhile_all' l]; rfl
    · rfl
set_option maxRecDepth 100000 in
set_option maxHeartbeats 8000000 in
/-- a text between quotes -/
theorem lfirst_quo (s : ByteArray) (r : List UInt8) (w : World) (hs : s.size ≤ 100000) (hd : s.data.toList = 39 :: r) : Calls Tryz.prog 36 #[.string s] w fun e w' => OneE s.data.toList 0 e ∧ Below w.heap.size w w' := by
  have hL := len_data s
  have h1 : 1 ≤ s.size := by rw [← hL, hd]; simp
  have hb : s.data.toList[0]? = some 39 := by rw [hd]; rfl
  have hix : ∀ W, (Instr.index 9 (.string s) (.int .i64 0)).run Tryz.prog W = .ok (.int .u8 39) W := run_bt hb
  have HQ := Lib.hid (bl_al (bl_al (Below.refl w.heap.size w) (.cells #[.string s] 9)) (.cells #[.int .i64 0, .int .i64 0, .string ⟨#[]⟩, .int .u64 0] 29))
  have HBS := Lib.hid ((Blk.new w 9 #[.string s]).alloc (.cells #[.int .i64 0, .int .i64 0, .string ⟨#[]⟩, .int .u64 0] 29))
  have HB := Lib.hid (Blk.new (w.alloc (.cells #[.string s] 9)) 29 #[.int .i64 0, .int .i64 0, .string ⟨#[]⟩, .int .u64 0])
  rw [World.size_alloc] at HB
  have HD := Lib.hid hd
  have HH1 := Lib.hid h1
  clear hb hd hL h1
  go_enter Tryz.func36, Tryz.ntmps36
  go_wp2_with fail
  refine (lquoted_any s _ HH1.out hs).mono ?_
  rintro e w2 ⟨hq, q2⟩
  have HQE := Lib.hid hq
  have HQ2 := Lib.hid (bl_ca HQ.out q2)
  have HB2 := Lib.hid (HB.out.ca q2)
  clear hix hq q2
  obtain ⟨T, n, o, he, hT⟩ : ∃ (T : ByteArray) (n : Int) (o : Bool), e = .returned (.tuple #[.string T, .int .i64 n, .bool o]) ∧ o = (quoT r).2.2 ∧ ((quoT r).2.2 = true → (⟨4, 0, T.data.toList, 0⟩ : Tk) = (quoT r).1 ∧ n = ((0 + (quoT r).2.1 : Nat) : Int)) := by
    have h := HQE.out
    rw [HD.out] at h
    unfold QuoE at h
    unfold quoT
    rw [show (39 :: r).drop 1 = r from rfl] at h
    cases hq : qGo r with
    | none =>
      rw [hq] at h
      exact ⟨_, _, _, h, rfl, fun h => by simp at h⟩
    | some tk =>
      obtain ⟨t, k⟩ := tk
      rw [hq] at h
      refine ⟨_, _, _, h, rfl, fun _ => ⟨rfl, ?_⟩⟩
      simp only
      omega
  subst he
  have HT := Lib.hid hT
  clear hT
  go_wp2_with (first | (refine wpList_store_blk rfl 29 (.tmp 2) (.tmp 24) rfl (w.heap.size + 1) 29 #[.int .i64 0, .int .i64 0, .string ⟨#[]⟩, .int .u64 0] #[.int .i64 4, .int .i64 0, .string T, .int .u64 0] rfl rfl HB2.out rfl tokI (by simp [Value.oneCell']) ?_; intro w8 h8 g8))
  refine bodyPost_ret (res3 Tryz.results36 rfl rfl rfl h8 Tryz.underlying29 rfl tokI) rfl ⟨OneE.mk (t := ⟨4, 0, T.data.toList, 0⟩) rfl ?_ ?_, bl_gr HQ2.out g8 (by omega)⟩
  · rw [HD.out, first_quo rfl]; exact HT.out.1
  · rw [HD.out, first_quo rfl]
    intro h
    obtain ⟨h1, h2⟩ := HT.out.2 h
    exact ⟨by rw [← h1]; rfl, h2⟩
end Go.Proofs.YtnpicnddcoaboaaGreatDoor
