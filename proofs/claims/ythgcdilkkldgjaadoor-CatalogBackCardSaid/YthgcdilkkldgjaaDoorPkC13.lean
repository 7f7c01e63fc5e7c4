/- A line's words, its table, and Parse over lines, in plain Lean: the laws CatalogWrong and CatalogBack. Conditions: none. -/
import Derived.Test.YthgcdilkkldgjaaDoorPkC12
import Derived.RangeFuncNested
import Derived.RangeFuncBound
import Derived.RangeFuncCalls
import Derived.RangeFuncLeaves
import Derived.RangeFuncBox
import Derived.Shelf.Abstract
import Derived.Shelf.RegionOpen
import Derived.WalkKit
import Derived.WalkMore
import Derived.OwnWalkIn
import Derived.TacticsInMore
import Derived.LoopNIn
import Derived.LoopIn
import Derived.Maps.AppendAt
namespace Go.Proofs.YthgcdilkkldgjaaDoor
open Go.RowKit
/-! ### words -/
def wsp : List UInt8 → List (List UInt8)
  | [] => [[]]
  | b :: r => if b = 32 then [] :: wsp r else (b :: (wsp r).headD []) :: (wsp r).tail
theorem wsp_ne : ∀ (l : List UInt8), wsp l ≠ []
  | [] => by simp [wsp]
  | b :: r => by
    unfold wsp
    split <;> simp
theorem wsp_cons (l : List UInt8) : ∃ p ps, wsp l = p :: ps := by
  cases h : wsp l with
  | nil => exact absurd h (wsp_ne l)
  | cons p ps => exact ⟨p, ps, rfl⟩
theorem wsp_one : ∀ (x : List UInt8), (∀ b ∈ x, b ≠ 32) → wsp x = [x]
  | [], _ => rfl
  | b :: x, h => by
    unfold wsp
    rw [if_neg (h b (by simp)), wsp_one x (fun c hc => h c (by simp [hc]))]
    rfl
theorem wsp_app : ∀ (x y : List UInt8), (∀ b ∈ x, b ≠ 32) → wsp (x ++ 32 :: y) = x :: wsp y
  | [], y, _ => by
    show wsp (32 :: y) = _
    conv => lhs; unfold wsp
    rw [if_pos rfl]
  | b :: x, y, h => by
    show wsp (b :: (x ++ 32 :: y)) = _
    conv => lhs; unfold wsp
    rw [if_neg (h b (by simp)), wsp_app x y (fun c hc => h c (by simp [hc]))]
    rfl
theorem join_two (x y : List UInt8) (r : List (List UInt8)) : Lib.join (x :: y :: r) [32] = x ++ 32 :: Lib.join (y :: r) [32] := by
  rw [Lib.join_cons, Lib.join_cons]
  unfold Lib.joinTail
  simp
theorem wsp_join : ∀ (ws : List (List UInt8)), ws ≠ [] → (∀ w ∈ ws, ∀ b ∈ w, b ≠ 32) → wsp (Lib.join ws [32]) = ws
  | [], h, _ => absurd rfl h
  | [x], _, h => by rw [Lib.join_one, wsp_one x (h x (by simp))]
  | x :: y :: r, _, h => by
    rw [join_two, wsp_app x _ (h x (by simp)), wsp_join (y :: r) (by simp) (fun w hw => h w (by simp only [List.mem_cons] at hw ⊢; exact .inr hw))]
theorem idx_none_mem {s : List UInt8} {c : UInt8} (h : Lib.indexByte s c = -1) : ∀ b ∈ s, b ≠ c := fun b hb e => by
  obtain ⟨k, hk⟩ := List.getElem?_of_mem hb
  exact Lib.indexByte_none h k (by rw [hk, e])
theorem idx_take {s : List UInt8} {c : UInt8} {i : Nat} (h : Lib.indexByte s c = i) : (∀ b ∈ s.take i, b ≠ c) ∧ s = s.take i ++ c :: s.drop (i + 1) := by
  obtain ⟨h1, h2⟩ := Lib.indexByte_some h
  refine ⟨fun b hb e => ?_, ?_⟩
  · obtain ⟨k, hk⟩ := List.getElem?_of_mem hb
    rw [List.getElem?_take] at hk
    split at hk
    · rename_i h9; exact h2 k h9 (by rw [hk, e])
    · cases hk
  · have hi : i < s.length := by
      rcases Nat.lt_or_ge i s.length with h9 | h9
      · exact h9
      · rw [List.getElem?_eq_none h9] at h1; cases h1
    rw [List.getElem?_eq_getElem hi] at h1
    injection h1 with h1
    have : s.drop i = c :: s.drop (i + 1) := by rw [List.drop_eq_getElem_cons hi, h1]
    rw [← this, List.take_append_drop]
theorem splitK_wsp : ∀ (n : Nat) (s : List UInt8), s.length ≤ n → Lib.splitK [32] 0 (Lib.count s [32]) s = wsp s := by
  intro n
  induction n with
  | zero =>
    intro s h
    obtain rfl : s = [] := List.eq_nil_of_length_eq_zero (by omega)
    rfl
  | succ n ih =>
    intro s h
    rcases idxB_range s 32 with hm | ⟨i, hi, hlt⟩
    · rw [Lib.count_miss (by rw [Lib.index_one]; exact hm), wsp_one s (idx_none_mem hm)]
      rfl
    · have hidx : Lib.index s [32] = i := by rw [Lib.index_one]; exact hi
      rw [Lib.count_hit (by simp) hidx, Nat.add_comm]
      unfold Lib.splitK
      rw [hidx, if_neg (by simp)]
      rw [show ((i : Int)).toNat = i from rfl, show i + ([32] : List UInt8).length = i + 1 from rfl, ih (s.drop (i + 1)) (by rw [List.length_drop]; omega)]
      obtain ⟨h1, h2⟩ := idx_take hi
      conv => rhs; rw [h2]
      rw [wsp_app _ _ h1, Nat.add_zero]
def bW (l : List (List UInt8)) : List ByteArray := l.map fun w => ⟨w.toArray⟩
theorem bW_data (l : List ByteArray) : bW (l.map (·.data.toList)) = l := by
  unfold bW
  rw [List.map_map]
  conv => rhs; rw [← List.map_id l]
  apply List.map_congr_left
  intro x _
  simp
theorem wordsOf_wsp (l : List UInt8) : wordsOf l = bW (wsp (Lib.trimSuffix l [10])) := by
  unfold wordsOf
  rw [← bW_data (Lib.splitB _ _ _ _), Lib.splitB_data]
  congr 1
  exact splitK_wsp _ _ (Nat.le_refl _)
theorem trim_line (x : List UInt8) : Lib.trimSuffix (x ++ [10]) [10] = x := by
  unfold Lib.trimSuffix Lib.hasSuffix
  simp
theorem wordsOf_line {ws : List ByteArray} (h0 : ws ≠ []) (h : ∀ w ∈ ws, ∀ b ∈ w.data.toList, b ≠ 32) : wordsOf (Lib.join (ws.map (·.data.toList)) [32] ++ [10]) = ws := by
  rw [wordsOf_wsp, trim_line, wsp_join _ (by simpa using h0) (by
    intro w hw
    obtain ⟨v, hv, rfl⟩ := List.mem_map.1 hw
    exact h v hv), bW_data]
/-! ### names -/
theorem ok_byte {b : UInt8} (h : okI (b.toNat : Int) = true) : b ≠ 32 ∧ b ≠ 10 := by
  constructor
  · rintro rfl; revert h; decide
  · rintro rfl; revert h; decide
theorem name_bytes {s : ByteArray} (h : nameB s = true) : ∀ b ∈ s.data.toList, b ≠ 32 ∧ b ≠ 10 := by
  intro b hb
  unfold nameB at h
  simp only [Bool.and_eq_true] at h
  have := List.all_eq_true.1 h.2.2.2.1 (b.toNat : Int) (List.mem_map.2 ⟨b, hb, rfl⟩)
  exact ok_byte this
theorem name_by {s : ByteArray} (h : nameB s = true) : s ≠ sBy := by
  rintro rfl
  revert h
  decide +kernel
theorem kind_word {k : Int} (h : kindB k = true) : kindOf (wordS k) = k ∧ (∀ b ∈ (wordS k).data.toList, b ≠ 32 ∧ b ≠ 10) := by
  unfold kindB at h
  simp only [Bool.or_eq_true, decide_eq_true_eq] at h
  rcases h with rfl | rfl | rfl
  · exact ⟨by decide +kernel, by decide +kernel⟩
  · exact ⟨by decide +kernel, by decide +kernel⟩
  · exact ⟨by decide +kernel, by decide +kernel⟩
theorem strictB_mem : ∀ (l : List Int) (n p : Int), strictB n p l = true → ∀ k ∈ l, p < k ∧ k < n
  | [], _, _, _, k, hk => by cases hk
  | x :: l, n, p, h, k, hk => by
    unfold strictB at h
    simp only [Bool.and_eq_true, decide_eq_true_eq] at h
    rcases List.mem_cons.1 hk with rfl | hk
    · exact ⟨h.1, h.2.1⟩
    · have := strictB_mem l n x h.2.2 k hk
      omega
/-! ### a table's line is read as the table -/
theorem key_at {t : TC} (h : TabP t) {k : Int} (hk : k ∈ t.keys) : ∃ (i : Nat) (c : CO), k = (i : Int) ∧ t.cols[i]? = some c ∧ nameAt t k = c.name := by
  have h1 := strictB_mem _ _ _ h.ks k hk
  obtain ⟨i, rfl⟩ : ∃ i : Nat, k = (i : Int) := ⟨k.toNat, by omega⟩
  have hi : i < t.cols.length := by omega
  refine ⟨i, t.cols[i], rfl, List.getElem?_eq_getElem hi, ?_⟩
  unfold nameAt
  rw [Int.toNat_natCast, List.getElem?_eq_getElem hi]; rfl
theorem fnd_col {t : TC} (h : TabP t) {i : Nat} {c : CO} (hc : t.cols[i]? = some c) : fnd (idxL (fun x : CO => decide (x.name = c.name)) t.cols) = (i : Int) := by
  have hi : i < t.cols.length := by
    rcases Nat.lt_or_ge i t.cols.length with h9 | h9
    · exact h9
    · rw [List.getElem?_eq_none h9] at hc; cases hc
  have hf : t.cols.findIdx (fun x : CO => decide (x.name = c.name)) = i := by
    rw [List.findIdx_eq hi]
    rw [List.getElem?_eq_getElem hi] at hc
    injection hc with hc
    refine ⟨by rw [hc]; simp, fun j hj => ?_⟩
    have hjl : j < t.cols.length := by omega
    simp only [decide_eq_false_iff_not]
    exact h.nd j i t.cols[j] c hj (List.getElem?_eq_getElem hjl) (by rw [List.getElem?_eq_getElem hi, hc])
  unfold fnd idxL
  rw [hf, if_pos hi]
  omega
theorem readGo_cols : ∀ (cs cs0 : List CO) (rest : List ByteArray), (∀ c ∈ cs, colB c = true) → readGo (colsW cs ++ rest) false cs0 [] = readGo rest false (cs0 ++ cs) []
  | [], cs0, rest, _ => by rw [List.append_nil]; rfl
  | c :: cs, cs0, rest, h => by
    have hc := h c (by simp)
    unfold colB at hc
    simp only [Bool.and_eq_true] at hc
    show readGo (c.name :: wordS c.kind :: (colsW cs ++ rest)) false cs0 [] = _
    rw [readGo, if_neg (fun e => name_by hc.1 e.1), if_neg (by decide)]
    show readGo (colsW cs ++ rest) false (cs0 ++ [⟨c.name, kindOf (wordS c.kind)⟩]) [] = _
    rw [(kind_word hc.2).1, readGo_cols cs _ rest (fun x hx => h x (by simp [hx])), List.append_assoc]
    rfl
theorem readGo_keys {t : TC} (h : TabP t) : ∀ (ks ks0 : List Int), (∀ k ∈ ks, k ∈ t.keys) → readGo (keysW t ks) true t.cols ks0 = (t.cols, ks0 ++ ks)
  | [], ks0, _ => by rw [List.append_nil]; show readGo [] true t.cols ks0 = _; rw [readGo]
  | k :: ks, ks0, hk => by
    obtain ⟨i, c, hki, hc, hn⟩ := key_at h (hk k (by simp))
    show readGo (nameAt t k :: keysW t ks) true t.cols ks0 = _
    rw [readGo, if_neg (by simp), if_pos rfl, hn, fnd_col h hc, ← hki, readGo_keys h ks _ (fun x hx => hk x (by simp [hx])), List.append_assoc]
    rfl
theorem readW_line {t : TC} (h : TabP t) : readW (lineW t) = t := by
  have hcols : ∀ c ∈ t.cols, colB c = true := fun c hc => by
    obtain ⟨k, hk⟩ := List.getElem?_of_mem hc
    exact h.ok k c hk
  have hd : (lineW t).drop 2 = colsW t.cols ++ (if t.keys.length = 0 then [] else sBy :: keysW t t.keys) := rfl
  have hg : readGo ((lineW t).drop 2) false [] [] = (t.cols, t.keys) := by
    rw [hd, readGo_cols t.cols [] _ hcols, List.nil_append]
    by_cases hk : t.keys.length = 0
    · rw [if_pos hk, readGo, List.eq_nil_of_length_eq_zero hk]
    · rw [if_neg hk, readGo, if_pos ⟨rfl, rfl⟩, readGo_keys h t.keys [] (fun _ h => h), List.nil_append]
  unfold readW
  rw [hg]
  rfl
theorem line_bytes {t : TC} (h : TabP t) : ∀ w ∈ lineW t, ∀ b ∈ w.data.toList, b ≠ 32 ∧ b ≠ 10 := by
  intro w hw
  have hcols : ∀ c ∈ t.cols, colB c = true := fun c hc => by
    obtain ⟨k, hk⟩ := List.getElem?_of_mem hc
    exact h.ok k c hk
  unfold lineW at hw
  rcases List.mem_append.1 hw with hw | hw
  · rcases List.mem_cons.1 hw with rfl | hw
    · decide +kernel
    rcases List.mem_cons.1 hw with rfl | hw
    · exact name_bytes h.nm
    · unfold colsW at hw
      obtain ⟨c, hc, hw⟩ := List.mem_flatMap.1 hw
      have hb := hcols c hc
      unfold colB at hb
      simp only [Bool.and_eq_true] at hb
      unfold colW at hw
      rcases List.mem_cons.1 hw with rfl | hw
      · exact name_bytes hb.1
      · rw [List.mem_singleton] at hw
        subst hw
        exact (kind_word hb.2).2
  · split at hw
    · cases hw
    · rcases List.mem_cons.1 hw with rfl | hw
      · decide +kernel
      · unfold keysW at hw
        obtain ⟨k, hk, rfl⟩ := List.mem_map.1 hw
        obtain ⟨i, c, _, hc, hn⟩ := key_at h hk
        rw [hn]
        have hb := hcols c (List.mem_of_getElem? hc)
        unfold colB at hb
        simp only [Bool.and_eq_true] at hb
        exact name_bytes hb.1
theorem lineW_ne (t : TC) : lineW t ≠ [] := by unfold lineW; simp
theorem readT_line {t : TC} (h : TabP t) : readT (lineL t) = t := by
  unfold readT lineL
  rw [wordsOf_line (lineW_ne t) (fun w hw b hb => (line_bytes h w hw b hb).1), readW_line h]
theorem join_mem : ∀ (ws : List (List UInt8)) (b : UInt8), b ∈ Lib.join ws [32] → b = 32 ∨ ∃ w ∈ ws, b ∈ w
  | [], b, h => by simp [Lib.join_nil] at h
  | [x], b, h => by rw [Lib.join_one] at h; exact .inr ⟨x, by simp, h⟩
  | x :: y :: r, b, h => by
    rw [join_two] at h
    rcases List.mem_append.1 h with h | h
    · exact .inr ⟨x, by simp, h⟩
    rcases List.mem_cons.1 h with h | h
    · exact .inl h
    · rcases join_mem (y :: r) b h with h | ⟨w, hw, hb⟩
      · exact .inl h
      · exact .inr ⟨w, by simp only [List.mem_cons] at hw ⊢; exact .inr hw, hb⟩
theorem line_no10 {t : TC} (h : TabP t) : ∀ b ∈ Lib.join ((lineW t).map (·.data.toList)) [32], b ≠ 10 := by
  intro b hb
  rcases join_mem _ _ hb with rfl | ⟨w, hw, hb⟩
  · decide
  · obtain ⟨v, hv, rfl⟩ := List.mem_map.1 hw
    exact (line_bytes h v hv b hb).2
theorem idx_pre : ∀ (y z : List UInt8), (∀ b ∈ y, b ≠ 10) → Lib.indexByte (y ++ 10 :: z) 10 = (y.length : Int)
  | [], z, _ => by
    show Lib.indexByte (10 :: z) 10 = _
    unfold Lib.indexByte
    rw [if_pos (by simp)]; rfl
  | b :: y, z, h => by
    show Lib.indexByte (b :: (y ++ 10 :: z)) 10 = _
    unfold Lib.indexByte
    have hb := h b (by simp)
    rw [if_neg (by simpa using hb), idx_pre y z (fun c hc => h c (by simp [hc])), if_neg (by simp)]
    simp
/-! ### Parse, by a text -/
noncomputable def fT (a : Nat) (c : List TC) (t : List UInt8) : List TC × Int × Int := parseF (linesAt a (pcs t)) c
def goodL (c : List TC) (l : List UInt8) : Prop := addE c (readT l) = 0 ∧ lineL (readT l) = l
theorem fT_nil (a : Nat) (c : List TC) : fT a c [] = (c, 0, 0) := by
  unfold fT pcs linesAt
  rw [if_pos rfl, parseF]
theorem good_end {c : List TC} {l : List UInt8} (h : goodL c l) : ∃ y, l = y ++ [10] := ⟨_, h.2.symm⟩
theorem fT_last (a : Nat) (c : List TC) {t : List UInt8} (h0 : t ≠ []) (h : Lib.indexByte t 10 = -1) : fT a c t = ([], (a : Int), 212) := by
  unfold fT
  rw [pcs_none t h]
  unfold linesAt
  rw [if_neg h0]
  unfold parseF
  rw [if_neg]
  intro hg
  obtain ⟨y, hy⟩ := good_end (c := c) hg
  exact idx_none_mem h 10 (by rw [hy]; simp) rfl
theorem take_ne {t : List UInt8} {i : Nat} (h : Lib.indexByte t 10 = i) : t.take (i + 1) ≠ [] ∧ (t.take (i + 1)).length = i + 1 := by
  obtain ⟨_, h2⟩ := idx_take h
  have hl : i < t.length := by
    obtain ⟨h1, _⟩ := Lib.indexByte_some h
    rcases Nat.lt_or_ge i t.length with h9 | h9
    · exact h9
    · rw [List.getElem?_eq_none h9] at h1; cases h1
  have : (t.take (i + 1)).length = i + 1 := by rw [List.length_take]; omega
  exact ⟨fun e => by rw [e] at this; simp at this, this⟩
theorem fT_good (a : Nat) {c : List TC} {t : List UInt8} {i : Nat} (h : Lib.indexByte t 10 = i) (hg : goodL c (t.take (i + 1))) : fT a c t = fT (a + (i + 1)) (c ++ [readT (t.take (i + 1))]) (t.drop (i + 1)) := by
  obtain ⟨h1, h2⟩ := take_ne h
  unfold fT
  rw [pcs_some t i h]
  conv => lhs; unfold linesAt
  rw [if_neg h1]
  conv => lhs; unfold parseF
  rw [if_pos (show addE c (readT (t.take (i + 1))) = 0 ∧ lineL (readT (t.take (i + 1))) = t.take (i + 1) from hg), h2]
theorem fT_bad (a : Nat) {c : List TC} {t : List UInt8} {i : Nat} (h : Lib.indexByte t 10 = i) (hg : ¬ goodL c (t.take (i + 1))) : fT a c t = ([], (a : Int), 212) := by
  obtain ⟨h1, h2⟩ := take_ne h
  unfold fT
  rw [pcs_some t i h]
  conv => lhs; unfold linesAt
  rw [if_neg h1]
  conv => lhs; unfold parseF
  rw [if_neg (show ¬ (addE c (readT (t.take (i + 1))) = 0 ∧ lineL (readT (t.take (i + 1))) = t.take (i + 1)) from hg)]
/-- wrong from a line on -/
theorem wrong_fT : ∀ (n : Nat) (t : List UInt8) (a : Nat) (c : List TC), t.length ≤ n → (fT a c t).2.2 = 0 ∨ ∃ k : Nat, fT a c t = ([], ((a + k : Nat) : Int), 212) ∧ k < t.length ∧ (0 < k → t[k - 1]? = some 10) ∧
    ∀ e : Nat, Lib.indexByte (t.drop k) 10 = (e : Int) → ∀ more, fT a c (t.take (k + e + 1) ++ more) = ([], ((a + k : Nat) : Int), 212) := by
  intro n
  induction n with
  | zero =>
    intro t a c h
    obtain rfl : t = [] := List.eq_nil_of_length_eq_zero (by omega)
    rw [fT_nil]; exact .inl rfl
  | succ n ih =>
    intro t a c h
    by_cases h0 : t = []
    · subst h0; rw [fT_nil]; exact .inl rfl
    rcases idxB_range t 10 with hm | ⟨i, hi, hlt⟩
    · refine .inr ⟨0, fT_last a c h0 hm, List.length_pos_iff.2 h0, fun h => absurd h (by omega), fun e he => ?_⟩
      rw [List.drop_zero, hm] at he
      omega
    · obtain ⟨h1, h2⟩ := take_ne hi
      obtain ⟨h3, h4⟩ := idx_take hi
      have hcut : ∀ z, Lib.indexByte (t.take (i + 1) ++ z) 10 = (i : Int) ∧ (t.take (i + 1) ++ z).take (i + 1) = t.take (i + 1) ∧ (t.take (i + 1) ++ z).drop (i + 1) = z := fun z => by
        have e1 : t.take (i + 1) = t.take i ++ [10] := by
          rw [List.take_add_one, (Lib.indexByte_some hi).1]; rfl
        refine ⟨?_, ?_, ?_⟩
        · rw [e1, List.append_assoc]
          have := idx_pre (t.take i) z h3
          rw [show (t.take i).length = i from by rw [List.length_take]; omega] at this
          exact this
        · have := List.take_left (l₁ := t.take (i + 1)) (l₂ := z)
          rwa [h2] at this
        · have := List.drop_left (l₁ := t.take (i + 1)) (l₂ := z)
          rwa [h2] at this
      by_cases hg : goodL c (t.take (i + 1))
      · rw [fT_good a hi hg]
        rcases ih (t.drop (i + 1)) (a + (i + 1)) (c ++ [readT (t.take (i + 1))]) (by rw [List.length_drop]; omega) with h9 | ⟨k, hk1, hk2, hk3, hk4⟩
        · exact .inl h9
        · refine .inr ⟨i + 1 + k, by rw [hk1, Nat.add_assoc], by rw [List.length_drop] at hk2; omega, fun _ => ?_, fun e he more => ?_⟩
          · rcases Nat.eq_zero_or_pos k with rfl | hk
            · exact (Lib.indexByte_some hi).1
            · have := hk3 hk
              rw [List.getElem?_drop] at this
              rw [← this]
              congr 1; omega
          · rw [← List.drop_drop] at he
            have h5 := hk4 e he more
            have e2 : t.take (i + 1 + k + e + 1) = t.take (i + 1) ++ (t.drop (i + 1)).take (k + e + 1) := by
              rw [show i + 1 + k + e + 1 = (i + 1) + (k + e + 1) from by omega, List.take_add]
            rw [e2, List.append_assoc]
            obtain ⟨c1, c2, c3⟩ := hcut ((t.drop (i + 1)).take (k + e + 1) ++ more)
            rw [fT_good a c1 (by rw [c2]; exact hg), c2, c3, h5, Nat.add_assoc]
      · refine .inr ⟨0, fT_bad a hi hg, List.length_pos_iff.2 h0, fun h => absurd h (by omega), fun e he more => ?_⟩
        rw [List.drop_zero, hi] at he
        obtain rfl : i = e := by omega
        rw [Nat.zero_add]
        obtain ⟨c1, c2, _⟩ := hcut more
        exact fT_bad a c1 (by rw [c2]; exact hg)
/-- what was read is written as it was -/
theorem back_fT : ∀ (n : Nat) (t : List UInt8) (a : Nat) (c : List TC), t.length ≤ n → catB c = true → (fT a c t).2.2 = 0 → ∃ ts, fT a c t = (c ++ ts, 0, 0) ∧ catB (c ++ ts) = true ∧ linesL ts = t := by
  intro n
  induction n with
  | zero =>
    intro t a c h hc _
    obtain rfl : t = [] := List.eq_nil_of_length_eq_zero (by omega)
    exact ⟨[], by rw [fT_nil, List.append_nil], by rw [List.append_nil]; exact hc, rfl⟩
  | succ n ih =>
    intro t a c h hc h9
    by_cases h0 : t = []
    · subst h0; exact ⟨[], by rw [fT_nil, List.append_nil], by rw [List.append_nil]; exact hc, rfl⟩
    rcases idxB_range t 10 with hm | ⟨i, hi, hlt⟩
    · rw [fT_last a c h0 hm] at h9; cases h9
    · by_cases hg : goodL c (t.take (i + 1))
      · rw [fT_good a hi hg] at h9 ⊢
        obtain ⟨ts, h1, h2, h3⟩ := ih (t.drop (i + 1)) _ _ (by rw [List.length_drop]; omega) (add_ok hg.1).cat h9
        refine ⟨readT (t.take (i + 1)) :: ts, by rw [h1, List.append_assoc]; rfl, by rw [List.append_assoc] at h2; exact h2, ?_⟩
        show lineL (readT (t.take (i + 1))) ++ linesL ts = t
        rw [hg.2, h3, List.take_append_drop]
      · rw [fT_bad a hi hg] at h9; cases h9
theorem catB_pre {a b : List TC} (h : catB (a ++ b) = true) : catB a = true := by
  have hc := (catB_iff _).1 h
  refine (catB_iff _).2 ⟨by have := hc.hi; rw [List.length_append] at this; omega, fun k t hk => hc.ok k t ?_, fun i k x y hik hx hy => hc.nd i k x y hik ?_ ?_⟩
  · rw [List.getElem?_append_left (List.getElem?_eq_some_iff.1 hk).1]; exact hk
  · rw [List.getElem?_append_left (List.getElem?_eq_some_iff.1 hx).1]; exact hx
  · rw [List.getElem?_append_left (List.getElem?_eq_some_iff.1 hy).1]; exact hy
theorem add_mid {c : List TC} {t : TC} {ts : List TC} (h : catB (c ++ t :: ts) = true) : addE c t = 0 ∧ TabP t := by
  have hc := (catB_iff _).1 h
  have ht : (c ++ t :: ts)[c.length]? = some t := by rw [List.getElem?_append_right (Nat.le_refl _), Nat.sub_self]; rfl
  have htb := hc.ok _ _ ht
  have hno : ¬ 0 ≤ idxL (fun x : TC => decide (x.name = t.name)) c := fun h9 => by
    obtain ⟨k, _, hk, x, hx, he⟩ := idxL_pos h9
    exact hc.nd k c.length x t hk (by rw [List.getElem?_append_left hk]; exact hx) ht (of_decide_eq_true he)
  have hlen : c.length ≠ 4 := by have := hc.hi; rw [List.length_append, List.length_cons] at this; omega
  refine ⟨?_, (tabB_iff t).1 htb⟩
  unfold addE
  rw [if_neg (by rw [catB_pre h]; decide), if_neg (by rw [htb]; decide), if_neg hno, if_neg hlen]
/-- what was written is read as it was -/
theorem lines_fT : ∀ (ts : List TC) (a : Nat) (c : List TC), catB (c ++ ts) = true → fT a c (linesL ts) = (c ++ ts, 0, 0)
  | [], a, c, _ => by show fT a c [] = _; rw [fT_nil, List.append_nil]
  | t :: ts, a, c, h => by
    obtain ⟨h1, h2⟩ := add_mid h
    have e : linesL (t :: ts) = Lib.join ((lineW t).map (·.data.toList)) [32] ++ 10 :: linesL ts := by
      show lineL t ++ linesL ts = _
      unfold lineL
      rw [List.append_assoc]; rfl
    have hi := idx_pre (Lib.join ((lineW t).map (·.data.toList)) [32]) (linesL ts) (line_no10 h2)
    rw [← e] at hi
    have hl : (lineL t).length = (Lib.join ((lineW t).map (·.data.toList)) [32]).length + 1 := by unfold lineL; simp
    have h3 : (linesL (t :: ts)).take ((Lib.join ((lineW t).map (·.data.toList)) [32]).length + 1) = lineL t := by
      rw [← hl]
      exact List.take_left
    have h4 : (linesL (t :: ts)).drop ((Lib.join ((lineW t).map (·.data.toList)) [32]).length + 1) = linesL ts := by
      rw [← hl]
      exact List.drop_left
    rw [fT_good a hi (by rw [h3]; exact ⟨by rw [readT_line h2]; exact h1, by rw [readT_line h2]⟩), h3, h4, readT_line h2, lines_fT ts _ _ (by rw [List.append_assoc]; exact h), List.append_assoc]
    rfl
end Go.Proofs.YthgcdilkkldgjaaDoor
/- A range over a function that writes variables of its own between the rounds. Conditions: named in the law. -/
namespace Go.Proofs.YthgcdilkkldgjaaDoor
open Go.RowKit
variable {F : Fence} {n : Nat} {P : Program}
/-- J stands whatever becomes of the blocks in M, and whatever is laid -/
def AbM {α : Type} (M : Nat → Prop) (J : List α → World → Prop) : Prop := ∀ s W W' row, J s W → W.grownBy W' row → (∀ r, row = some r → M r) → J s W'
/-- the blocks in Kq lie as they lay -/
def KpM (Kq : Nat → Prop) (W W' : World) : Prop := W.heap.size ≤ W'.heap.size ∧ ∀ r, Kq r → r < W.heap.size → W'.heap[r]? = W.heap[r]?
theorem KpM.trans {Kq : Nat → Prop} {A B C : World} (h : KpM Kq A B) (k : KpM Kq B C) : KpM Kq A C :=
  ⟨Nat.le_trans h.1 k.1, fun r hr hl => (k.2 r hr (Nat.lt_of_lt_of_le hl h.1)).trans (h.2 r hr hl)⟩
theorem KpM.refl (Kq : Nat → Prop) (A : World) : KpM Kq A A := ⟨Nat.le_refl _, fun _ _ _ => rfl⟩
theorem KpM.mono {Kq Kr : Nat → Prop} {A B : World} (h : KpM Kq A B) (hk : ∀ r, Kr r → Kq r) : KpM Kr A B := ⟨h.1, fun r hr => h.2 r (hk r hr)⟩
theorem KpM.of_grown {Kq : Nat → Prop} {A B : World} {row : Option Nat} (h : A.grownBy B row) (hk : ∀ r, row = some r → ¬ Kq r) : KpM Kq A B :=
  ⟨h.size, fun r hr hl => h.block r hl (fun e => hk r e.symm hr)⟩
theorem KpM.of_below {Kq : Nat → Prop} {A B : World} (h : Below A.heap.size A B) : KpM Kq A B := ⟨h.size, fun r _ hl => h.block r hl⟩
/-- the contract of an iterator that writes the blocks in M alone, wants the blocks in Kq kept, and lays none of its own beyond Bf ahead of its first round -/
def SeqM {α : Type} (F : Fence) (n : Nat) (P : Program) (g : Nat) (lb : Array Value) (encs : α → Array Value) (S Sp : List α → Prop) (N : Nat) (M Kq : Nat → Prop) (Bf : Nat) (w : World) : Prop :=
  ∀ (l : Nat) (J Jx : List α → World → Prop), AbM M J → AbM M Jx →
    (∀ pre x W1, J pre W1 → Bf ≤ W1.heap.size → Sp (pre ++ [x]) → pre.length < N → YieldAt F (n - 1) P l (encs x) W1 fun e W' =>
      (e = .returned (.bool true) ∧ J (pre ++ [x]) W' ∧ KpM Kq W1 W') ∨ (e = .returned (.bool false) ∧ Jx (pre ++ [x]) W' ∧ KpM Kq W1 W')) →
    J [] w →
    CallsIn F n P g (#[.func (.yield l) #[] #[]] ++ lb) w fun e W' => (∃ v, e = .returned v) ∧ ((∃ xs, S xs ∧ J xs W') ∨ (∃ pre, Sp pre ∧ Jx pre W'))
/-- how the body of a round may be left -/
def postM {α : Type} (Kq : Nat → Prop) (I : List α → World → Prop) (Ix : Code → List α → World → Prop) (xs : List α) (W : World) : Exit → Act → World → Prop
  | .normal, _, W' => KpM Kq W W' ∧ I xs W'
  | .ret, _, W' => KpM Kq W W' ∧ Ix .ret xs W'
  | .exit id, _, W' => KpM Kq W W' ∧ Ix (.exit id) xs W'
  | .goto t, _, W' => KpM Kq W W' ∧ Ix (.goto t) xs W'
  | .panic _, _, _ => False
  | .outgrown, _, _ => False
theorem wpIn_rangeFunc_M {α : Type} {g : Operand} {ps : Array Tmp} {assign body : Code} {Q : Exit → Act → World → Prop} {a : Act} {w : World}
    (hro : F.round = none) (h1 : 1 ≤ n) {gf : Nat} {lb : Array Value} (hg : a.eval g = .func (.func gf) #[] lb) (hFg : F.fn gf) (eg : ∀ args w, (callFunc gf args).run P w = .ok (.enter gf args) w)
    {encs : α → Array Value} {S Sp : List α → Prop} {N Bf : Nat} (M Kq : Nat → Prop)
    (hseq : ∀ W1, Below w.heap.size w W1 → W1.heap.size = w.heap.size + 2 → SeqM F (n - 1) P gf lb encs S Sp N M Kq Bf W1)
    (hM : ∀ r, M r → r ≠ w.heap.size ∧ r ≠ w.heap.size + 1) (hKq : ∀ r, Kq r → r ≠ w.heap.size ∧ r ≠ w.heap.size + 1) (hps : ∀ x, (encs x).size = ps.size)
    (I : List α → World → Prop) (Ix : Code → List α → World → Prop) (hI : AbM (fun r => M r ∨ r = w.heap.size ∨ r = w.heap.size + 1) I) (hIx : ∀ c, AbM (fun r => M r ∨ r = w.heap.size ∨ r = w.heap.size + 1) (Ix c)) (h0 : I [] w) (a₁ : α → Act)
    (hassign : ∀ (l : Nat) (x : α) (W : World) (K : Act → World → Prop), K (a₁ x) W →
      assign.wpIn (F.inRound l) (n - 1 - 1) P (Exit.then K (fun _ _ _ => False)) { tmps := (ps.zip (encs x)).foldl (fun t (p, v) => t.setIfInBounds p v) a.tmps, defers := [] } W)
    (hbody : ∀ (l : Nat) (pre : List α) (x : α) (W : World), I pre W → Bf ≤ W.heap.size → Sp (pre ++ [x]) → pre.length < N →
      body.wpIn (F.inRound l) (n - 1 - 1) P (postM (fun r => Kq r ∨ r = w.heap.size ∨ r = w.heap.size + 1) I Ix (pre ++ [x]) W) (a₁ x) W)
    (hdone : ∀ (D : Nat) (xs : List α) (W : World), D = w.heap.size → S xs → I xs W → W.heap[D]? = some (.deferred (some [])) → Q .normal { a with defers := { target := .collected D, args := #[] } :: a.defers } W)
    (hstop : ∀ (D : Nat) (c : Code) (pre : List α) (W : World), D = w.heap.size → Sp pre → Ix c pre W → W.heap[D]? = some (.deferred (some [])) → c.wpIn F n P Q { a with defers := { target := .collected D, args := #[] } :: a.defers } W) :
    (Code.rangeFunc g ps assign body).wpIn F n P Q a w := by
  refine wpIn_rangeFunc ?_
  intro fn hfn
  rw [hro]
  obtain ⟨rec, hrec⟩ : ∃ rec : LoopState → Option Code → Loop, rec = fun st pe => { state := st, pending := pe, fn, tmps := a.tmps, params := ps, assign, body, defers := w.heap.size } := ⟨_, rfl⟩
  obtain ⟨W1, hW1⟩ : ∃ W1, (w.alloc (.deferred (some []))).alloc (.loop (rec .ready none)) = W1 := ⟨_, rfl⟩
  have hL1 : W1.heap[w.heap.size + 1]? = some (.loop (rec .ready none)) := by
    rw [← hW1]; have := World.alloc_heap_new (w.alloc (.deferred (some []))) (.loop (rec .ready none)); rwa [World.size_alloc] at this
  have hK1 : W1.heap[w.heap.size]? = some (.deferred (some [])) := by
    rw [← hW1]; exact (Below.heap_alloc _ _ _ (by simp)).trans (World.alloc_heap_new w _)
  have hI1 : I [] W1 := by
    rw [← hW1]
    exact hI _ _ _ none (hI _ _ _ none h0 (World.grownBy_alloc w _ none) (fun r e => by cases e)) (World.grownBy_alloc _ _ none) (fun r e => by cases e)
  have hb1 : Below w.heap.size w W1 := by
    rw [← hW1]; exact ((Below.refl _ w).alloc (Nat.le_refl _) _).alloc (by simp) _
  have hz1 : W1.heap.size = w.heap.size + 2 := by rw [← hW1, World.size_alloc, World.size_alloc]
  have hput : ∀ (J : List α → World → Prop), AbM (fun r => M r ∨ r = w.heap.size ∨ r = w.heap.size + 1) J → ∀ pre W o, J pre W → J pre (W.putObj (w.heap.size + 1) o) := fun J hJ pre W o h =>
    hJ _ _ _ (some (w.heap.size + 1)) h (grownBy_putObj' W _ o) (fun r e => .inr (.inr (by injection e with e; exact e.symm)))
  refine ⟨w.heap.size + 1, [{ target := .collected w.heap.size, args := #[] }], W1, { target := .fn (.func gf) lb, args := #[.func (.yield (w.heap.size + 1)) #[] #[]] }, W1, gf,
    #[.func (.yield (w.heap.size + 1)) #[] #[]] ++ lb, W1, ?_, ?_, ?_, ?_, fun _ => h1, ?_⟩
  · rw [← hW1, hrec]; exact run_enterLoop_outer _ _ _ _ _
  · simp only [resolve, hg]
    simp [go_sem]
  · intro f' hf'; simp [Target.leads] at hf'; subst hf'; exact hFg
  · simp [invoke, go_sem, eg]
  · have hab : ∀ {A B : World} {row : Option Nat} {k : Nat} {o : Obj}, A.grownBy B row → (∀ r, row = some r → M r) → (k = w.heap.size ∨ k = w.heap.size + 1) → A.heap[k]? = some o → B.heap[k]? = some o := fun {A B row k o} hg hr hk ho => by
      refine (hg.block k (Array.getElem?_eq_some_iff.1 ho).1 (fun e => ?_)).trans ho
      have := hM k (hr k e.symm)
      omega
    refine (hseq W1 hb1 hz1 (w.heap.size + 1)
      (fun pre W => I pre W ∧ W.heap[w.heap.size + 1]? = some (.loop (rec .ready none)) ∧ W.heap[w.heap.size]? = some (.deferred (some [])))
      (fun pre W => ∃ c, Ix c pre W ∧ W.heap[w.heap.size + 1]? = some (.loop (rec .done (some c))) ∧ W.heap[w.heap.size]? = some (.deferred (some [])))
      (fun s A B row hs hg' hr => ⟨hI s A B row hs.1 hg' (fun r e => .inl (hr r e)), hab hg' hr (.inr rfl) hs.2.1, hab hg' hr (.inl rfl) hs.2.2⟩)
      (fun s A B row hs hg' hr => by
        obtain ⟨c, hc, hl, hk⟩ := hs
        exact ⟨c, hIx c s A B row hc hg' (fun r e => .inl (hr r e)), hab hg' hr (.inr rfl) hl, hab hg' hr (.inl rfl) hk⟩)
      ?_ ⟨hI1, hL1, hK1⟩).mono ?_
    · rintro pre x W ⟨hi, hl, hk⟩ hbf hsp hlen
      have hlt : w.heap.size + 1 < W.heap.size := (Array.getElem?_eq_some_iff.1 hl).1
      have hy := run_yield (P := P) (args := encs x) hl (by rw [hrec]; exact hps x)
      rw [hrec] at hy
      refine ⟨fn, _, assign, body, hy, roundIn_of_wpIn hfn (hassign _ x W _ ⟨_, run_beginRound hl (by rw [hrec]), ?_⟩)⟩
      have hl2 : (W.putObj (w.heap.size + 1) (.loop { rec .ready none with state := .busy })).heap[w.heap.size + 1]? = some (.loop { rec .ready none with state := .busy }) := World.putObj_heap_same hlt
      have hk2 : (W.putObj (w.heap.size + 1) (.loop { rec .ready none with state := .busy })).heap[w.heap.size]? = some (.deferred (some [])) := (World.putObj_heap_other (by omega)).trans hk
      have hw2 : ∀ (W : World) o, KpM Kq W (W.putObj (w.heap.size + 1) o) := fun W o => KpM.of_grown (grownBy_putObj' W _ o) (fun r e hr => by injection e with e; have := (hKq r hr).2; omega)
      have hsz2 : (W.putObj (w.heap.size + 1) (.loop { rec .ready none with state := .busy })).heap.size = W.heap.size := Nat.le_antisymm (by simp [World.putObj]) (grownBy_putObj' W _ _).size
      refine wpIn_mono (hbody _ pre x _ (hput I hI _ _ _ hi) (by rw [hsz2]; exact hbf) hsp hlen) ?_
      have fin : ∀ (jump : Option Code) (W3 : World), KpM (fun r => Kq r ∨ r = w.heap.size ∨ r = w.heap.size + 1) (W.putObj (w.heap.size + 1) (.loop { rec .ready none with state := .busy })) W3 →
          (Instr.endRound (w.heap.size + 1) jump).run P W3 = .ok (.bool jump.isNone) (W3.putObj (w.heap.size + 1) (.loop (rec (if jump.isNone then .ready else .done) jump))) ∧
          W3.heap[w.heap.size + 1]? = some (.loop { rec .ready none with state := .busy }) ∧
          (W3.putObj (w.heap.size + 1) (.loop (rec (if jump.isNone then .ready else .done) jump))).heap[w.heap.size + 1]? = some (.loop (rec (if jump.isNone then .ready else .done) jump)) ∧
          (W3.putObj (w.heap.size + 1) (.loop (rec (if jump.isNone then .ready else .done) jump))).heap[w.heap.size]? = some (.deferred (some [])) := fun jump W3 hk3 => by
        have hl3 := (hk3.2 _ (.inr (.inr rfl)) (by rw [hsz2]; exact hlt)).trans hl2
        have hk4 := (hk3.2 _ (.inr (.inl rfl)) (by rw [hsz2]; omega)).trans hk2
        have := run_endRound (P := P) jump hl3
        rw [hrec] at this ⊢
        exact ⟨this, by rw [hrec] at hl3; exact hl3, World.putObj_heap_same (Array.getElem?_eq_some_iff.1 hl3).1, (World.putObj_heap_other (by omega)).trans hk4⟩
      rintro e a3 W3 hp
      cases e with
      | normal =>
        obtain ⟨hk3, hi3⟩ := hp
        obtain ⟨hr, hl3, hl4, hk4⟩ := fin none W3 hk3
        exact ⟨_, _, hr, .inl ⟨rfl, ⟨hput I hI _ _ _ hi3, hl4, hk4⟩, ((hw2 _ _).trans (hk3.mono (fun r h => .inl h))).trans (hw2 _ _)⟩⟩
      | ret =>
        obtain ⟨hk3, hi3⟩ := hp
        obtain ⟨hr, hl3, hl4, hk4⟩ := fin (some .ret) W3 hk3
        exact ⟨_, _, hr, .inr ⟨rfl, ⟨.ret, hput _ (hIx _) _ _ _ hi3, hl4, hk4⟩, ((hw2 _ _).trans (hk3.mono (fun r h => .inl h))).trans (hw2 _ _)⟩⟩
      | exit id =>
        obtain ⟨hk3, hi3⟩ := hp
        obtain ⟨hr, hl3, hl4, hk4⟩ := fin (some (.exit id)) W3 hk3
        exact ⟨_, _, hr, .inr ⟨rfl, ⟨.exit id, hput _ (hIx _) _ _ _ hi3, hl4, hk4⟩, ((hw2 _ _).trans (hk3.mono (fun r h => .inl h))).trans (hw2 _ _)⟩⟩
      | goto t =>
        obtain ⟨hk3, hi3⟩ := hp
        obtain ⟨hr, hl3, hl4, hk4⟩ := fin (some (.goto t)) W3 hk3
        exact ⟨_, _, hr, .inr ⟨rfl, ⟨.goto t, hput _ (hIx _) _ _ _ hi3, hl4, hk4⟩, ((hw2 _ _).trans (hk3.mono (fun r h => .inl h))).trans (hw2 _ _)⟩⟩
      | panic ch => exact hp.elim
      | outgrown => exact hp.elim
    · rintro e W2 ⟨⟨v, rfl⟩, (⟨xs, hS, hi, hl, hk⟩ | ⟨pre, hSp, c, hi, hl, hk⟩)⟩
      · exact ⟨none, _, by have := run_endLoop (P := P) hl (by rw [hrec]; simp); rw [hrec] at this; exact this, hdone _ xs _ rfl hS (hput I hI _ _ _ hi) ((World.putObj_heap_other (by omega)).trans hk)⟩
      · exact ⟨some c, _, by have := run_endLoop (P := P) hl (by rw [hrec]; simp); rw [hrec] at this; exact this, hstop _ c pre _ rfl hSp (hput _ (hIx c) _ _ _ hi) ((World.putObj_heap_other (by omega)).trans hk)⟩
end Go.Proofs.YthgcdilkkldgjaaDoor
/- strings.splitSeq$1: the pieces of a text, one by one; it writes its captured text. Conditions: a text of at most 1000 bytes, cut at line feeds. -/
namespace Go.Proofs.YthgcdilkkldgjaaDoor
open Go.RowKit Go.Shelf
attribute [local go_sem] Oper.semAt_some
theorem grown_of_below {w w' : World} (h : Below w.heap.size w w') : w.grownBy w' none := ⟨h.os, h.tape, h.output, h.size, fun k hk _ => h.block k hk⟩
def encP (x : List UInt8) : Array Value := #[.string ⟨x.toArray⟩]
theorem encP_ba (D : ByteArray) : encP D.data.toList = #[.string D] := by unfold encP; simp
/-- what the iterator knows of its own variables -/
def SpB (W : World) (gs gp gk : Nat) (r : ByteArray) : Prop := Blk W gs 9 #[.string r] ∧ Blk W gp 9 #[.string ⟨#[10]⟩] ∧ Blk W gk 3 #[.int .i64 1]
theorem blk_same {w w' : World} {g : Nat} {t : TypeId} {cs : Array Value} (h : Blk w g t cs) (hk : w'.heap[g]? = w.heap[g]?) : Blk w' g t cs := hk.trans h
theorem SpB.keep {W W' : World} {gs gp gk : Nat} {r : ByteArray} (h : SpB W gs gp gk r) (hk : KpM (fun x => x = gs ∨ x = gp ∨ x = gk) W W') : SpB W' gs gp gk r :=
  ⟨blk_same h.1 (hk.2 _ (.inl rfl) h.1.lt), blk_same h.2.1 (hk.2 _ (.inr (.inl rfl)) h.2.1.lt), blk_same h.2.2 (hk.2 _ (.inr (.inr rfl)) h.2.2.lt)⟩
def szB (v : Option Value) : Nat := match v with | some (.string s) => s.size | _ => 0
set_option maxRecDepth 100000 in
set_option maxHeartbeats 8000000 in
theorem split1_in (n : Nat) (hn : 1 ≤ n) (gs gp gk : Nat) (s : ByteArray) (W : World) (hs : s.size ≤ 1000) (h1 : gs ≠ gp) (h2 : gs ≠ gk) (hb : SpB W gs gp gk s) :
    SeqM Fence.wide n Tryd.prog 95 #[.pointer (some ⟨gp, 0, none⟩), .pointer (some ⟨gs, 0, none⟩), .pointer (some ⟨gk, 0, none⟩)] encP (fun xs => xs = pcs s.data.toList) (fun pre => pre <+: pcs s.data.toList) (pcs s.data.toList).length (fun r => r = gs) (fun r => r = gs ∨ r = gp ∨ r = gk) W.heap.size W := by
  intro l J Jx hJ hJx hY h0
  have HJ := Lib.hid hJ
  have HJX := Lib.hid hJx
  have HY := Lib.hid hY
  have HNE := Lib.hid (And.intro h1 h2)
  clear hJ hJx hY h1 h2
  refine callsIn_of_wp Tryd.func95 rfl trivial ?_ rfl
  simp only [Tryd.ntmps95, List.size_toArray, List.length_cons, List.length_nil, Nat.reduceAdd, Nat.reduceSub, Array.replicate_succ, Array.replicate_zero, List.push_toArray, List.append_toArray, List.nil_append, List.cons_append]
  have x1 : W.cell? ⟨gp, 0, none⟩ = some (.string ⟨#[10]⟩) := hb.2.1.cell 0
  gi_wp2
  gi_loopw [7] (fun i wr => ∃ (pre : List (List UInt8)) (r : ByteArray), J pre wr ∧ Hid (SpB wr gs gp gk r) ∧ Hid (pcs s.data.toList = pre ++ pcs r.data.toList) ∧ W.heap.size ≤ wr.heap.size ∧ r.size ≤ 1000) (fun _ wr => szB (wr.cell? ⟨gs, 0, none⟩))
  case atStart => exact ⟨[], s, h0, Lib.hid hb, Lib.hid rfl, Nat.le_refl _, hs⟩
  case round =>
    clear x1
    obtain ⟨pre, r, hJs, HS, HP, hsz, hr⟩ := hrel
    have HJS := Lib.hid hJs
    clear hJs
    have x1 : wr.cell? ⟨gp, 0, none⟩ = some (.string ⟨#[10]⟩) := HS.out.2.1.cell 0
    have x2 : wr.cell? ⟨gs, 0, none⟩ = some (.string r) := HS.out.1.cell 0
    have x3 : wr.cell? ⟨gk, 0, none⟩ = some (.int .i64 1) := HS.out.2.2.cell 0
    have HLR := Lib.hid (show r.data.toList.length = r.size from by simp)
    rcases idxB_range r.data.toList 10 with hm | ⟨i, hi, hlt⟩
    · -- the last piece
      have HPC := Lib.hid (show pcs s.data.toList = pre ++ [r.data.toList] from by rw [HP.out, pcs_none _ hm])
      have HIX := Lib.hid (Tryd.strings_Index_one r 10 wr)
      rw [hm] at HIX
      obtain ⟨fn, tmps, assign, body, hy, hR⟩ := HY.out pre r.data.toList wr HJS.out hsz (by rw [HPC.out]; exact List.prefix_refl _) (by rw [HPC.out]; simp)
      rw [encP_ba] at hy
      have HRR := Lib.hid hR
      clear hm hR
      gi_wp2
      refine ⟨trivial, (callsIn_wide.2 HIX.out).mono ?_⟩
      rintro e w2 ⟨rfl, rfl⟩
      gi_wp2
      refine HRR.out.mono ?_
      rintro e W3 (⟨rfl, hJ3, hk3⟩ | ⟨rfl, hJx3, _⟩)
      · have HJ3 := Lib.hid hJ3
        clear hJ3 hk3 hy
        gi_wp2
        go_end0
        exact ⟨⟨_, rfl⟩, .inl ⟨_, HPC.out.symm, HJ3.out⟩⟩
      · have HJ3 := Lib.hid hJx3
        clear hJx3 hy
        gi_wp2
        go_end0
        exact ⟨⟨_, rfl⟩, .inr ⟨_, by rw [HPC.out]; exact List.prefix_refl _, HJ3.out⟩⟩
    · have HPC := Lib.hid (show pcs s.data.toList = (pre ++ [r.data.toList.take (i + 1)]) ++ pcs (r.data.toList.drop (i + 1)) from by rw [HP.out, pcs_some _ i hi, List.append_assoc]; rfl)
      have HIX := Lib.hid (Tryd.strings_Index_one r 10 wr)
      rw [hi] at HIX
      have hlt2 : i < r.size := by rw [← HLR.out]; exact hlt
      have HX := Lib.hid (show (r.extract 0 (i + 1)).data.toList = r.data.toList.take (i + 1) from Lib.extract_from_zero r (i + 1))
      have HX2 := Lib.hid (show (r.extract (i + 1) r.size).data.toList = r.data.toList.drop (i + 1) from by rw [Lib.extract_data, List.take_of_length_le (by rw [List.length_drop, HLR.out]; exact Nat.le_refl _)])
      have hpl : pre.length < (pcs s.data.toList).length := by rw [HPC.out]; simp
      obtain ⟨fn, tmps, assign, body, hy, hR⟩ := HY.out pre (r.extract 0 (i + 1)).data.toList wr HJS.out hsz (by rw [HX.out, HPC.out]; exact List.prefix_append _ _) hpl
      rw [encP_ba] at hy
      have HRR := Lib.hid hR
      have HSZ := Lib.hid (show szB (wr.cell? ⟨gs, 0, none⟩) = r.size from by rw [x2]; rfl)
      clear hi hlt hR hpl
      gi_wp2
      refine ⟨trivial, (callsIn_wide.2 HIX.out).mono ?_⟩
      rintro e w2 ⟨rfl, rfl⟩
      have hi0 : 0 ≤ (i : Int) := by omega
      have hi1 : (i : Int) + 1 ≤ (r.size : Int) := by omega
      gi_wp2
      refine HRR.out.mono ?_
      rintro e W3 (⟨rfl, hJ3, hk3⟩ | ⟨rfl, hJx3, _⟩)
      · have HJ3 := Lib.hid hJ3
        have HS3 := Lib.hid (HS.out.keep hk3)
        have hsz3 := hk3.1
        clear hJ3 hk3 hy x1 x2 x3
        have x1 : W3.cell? ⟨gp, 0, none⟩ = some (.string ⟨#[10]⟩) := HS3.out.2.1.cell 0
        have x2 : W3.cell? ⟨gs, 0, none⟩ = some (.string r) := HS3.out.1.cell 0
        have f2 : W3.frozen? ⟨gs, 0, none⟩ = false := HS3.out.1.frozen 0
        have hi2 : 0 ≤ (i : Int) + 1 := by omega
        gi_wp2
        have hb1 : Blk (W3.setCell ⟨gs, 0, none⟩ (.string (r.extract (i + 1) r.size))) gs 9 #[.string (r.extract (i + 1) r.size)] := by simpa using HS3.out.1.set_ 0 (.string (r.extract (i + 1) r.size))
        have hxs : (r.extract (i + 1) r.size).size = r.size - (i + 1) := by rw [ByteArray.size_extract]; omega
        have hsz4 : (W3.setCell ⟨gs, 0, none⟩ (.string (r.extract (i + 1) r.size))).heap.size = W3.heap.size := World.size_setCell _ _ _
        go_roundw
        case rel => exact ⟨pre ++ [(r.extract 0 (i + 1)).data.toList], r.extract (i + 1) r.size, HJ.out _ _ _ (some gs) HJ3.out (grownBy_setCell' W3 gs _) (fun r e => by injection e with e; exact e.symm), Lib.hid ⟨hb1, HS3.out.2.1.far (p := ⟨gs, 0, none⟩) (Ne.symm HNE.out.1) _, HS3.out.2.2.far (p := ⟨gs, 0, none⟩) (Ne.symm HNE.out.2) _⟩, Lib.hid (by rw [HPC.out, HX.out, HX2.out]), by rw [hsz4]; omega, by omega⟩
        case measure =>
          have hc : (W3.setCell ⟨gs, 0, none⟩ (.string (r.extract (i + 1) r.size))).cell? ⟨gs, 0, none⟩ = some (.string (r.extract (i + 1) r.size)) := hb1.cell 0
          rw [HSZ.out, hc]
          show (r.extract (i + 1) r.size).size < r.size
          omega
      · have HJ3 := Lib.hid hJx3
        clear hJx3 hy
        gi_wp2
        refine bodyPost_ret (results_none rfl _ _ _) rfl ?_
        exact ⟨⟨_, rfl⟩, .inr ⟨_, by rw [HX.out, HPC.out]; exact List.prefix_append _ _, HJ3.out⟩⟩
end Go.Proofs.YthgcdilkkldgjaaDoor
/- catalog.lines$1: the lines of a text with their places, one by one. Conditions: a text of at most 1000 bytes. -/
namespace Go.Proofs.YthgcdilkkldgjaaDoor
open Go.RowKit Go.Shelf
attribute [local go_sem] Oper.semAt_some
/-! ### lines, by pieces -/
def sumL (l : List (List UInt8)) : Nat := (l.map List.length).sum
theorem sumL_snoc (l : List (List UInt8)) (x : List UInt8) : sumL (l ++ [x]) = sumL l + x.length := by unfold sumL; simp
theorem linesAt_app : ∀ (pre rest : List (List UInt8)) (a : Nat), (∀ p ∈ pre, p ≠ []) → linesAt a (pre ++ rest) = linesAt a pre ++ linesAt (a + sumL pre) rest
  | [], rest, a, _ => by simp [linesAt, sumL]
  | x :: pre, rest, a, h => by
    have hx := h x (by simp)
    rw [List.cons_append]
    have : sumL (x :: pre) = x.length + sumL pre := by unfold sumL; simp
    rw [this, linesAt, if_neg hx, linesAt_app pre rest _ (fun p hp => h p (by simp [hp])), Nat.add_assoc]
    conv => rhs; rw [linesAt, if_neg hx]
    rfl
theorem linesAt_snoc {pre : List (List UInt8)} {x : List UInt8} (h : ∀ p ∈ pre, p ≠ []) (hx : x ≠ []) : linesAt 0 (pre ++ [x]) = linesAt 0 pre ++ [(sumL pre, x)] := by
  rw [linesAt_app _ _ _ h, Nat.zero_add]
  congr 1
  unfold linesAt
  rw [if_neg hx]
  unfold linesAt
  rfl
theorem linesAt_pre {pre P : List (List UInt8)} (h : ∀ p ∈ pre, p ≠ []) (hp : pre <+: P) : linesAt 0 pre <+: linesAt 0 P := by
  obtain ⟨r, rfl⟩ := hp
  rw [linesAt_app _ _ _ h]
  exact List.prefix_append _ _
theorem linesAt_end {q P : List (List UInt8)} (h : ∀ p ∈ q, p ≠ []) (hp : q ++ [[]] <+: P) : linesAt 0 P = linesAt 0 q := by
  obtain ⟨r, rfl⟩ := hp
  rw [List.append_assoc, linesAt_app _ _ _ h]
  show _ ++ linesAt _ ([] :: r) = _
  unfold linesAt
  rw [if_pos rfl, List.append_nil]
theorem sumL_pre {pre P : List (List UInt8)} (h : pre <+: P) : sumL pre ≤ P.flatten.length := by
  obtain ⟨r, rfl⟩ := h
  unfold sumL
  rw [List.length_flatten, List.map_append, List.sum_append]
  omega
def encL (x : Nat × List UInt8) : Array Value := #[.int .i64 (x.1 : Int), .string ⟨x.2.toArray⟩]
theorem roundIn_round {P : Program} {l l' m m' : Nat} {f : FuncId} {tmps : Array Value} {assign body : Code} {w : World} {R : Ending → World → Prop} (h : RoundIn Fence.wide m P l f tmps assign body w R) : RoundIn (Fence.wide.inRound l') m' P l f tmps assign body w R :=
  ⟨trivial, fun c cs _ => h.2 c cs (room_wide _)⟩
/-- what the loop over the pieces knows -/
structure LnI (J : List (Nat × List UInt8) → World → Prop) (b l : Nat) (pre : List (List UInt8)) (W : World) : Prop where
  ne : ∀ p ∈ pre, p ≠ []
  j : J (linesAt 0 pre) W
  y : Blk W b 99 #[.func (.yield l) #[] #[]]
  a : Blk W (b + 1) 3 #[.int .i64 (sumL pre : Int)]
def LnX (J Jx : List (Nat × List UInt8) → World → Prop) (P : List (List UInt8)) (c : Code) (pre : List (List UInt8)) (W : World) : Prop := c = .ret ∧ ((∃ q, pre = q ++ [[]] ∧ (∀ p ∈ q, p ≠ []) ∧ J (linesAt 0 q) W) ∨ (∃ xs, xs <+: linesAt 0 P ∧ Jx xs W))
set_option maxRecDepth 100000 in
set_option maxHeartbeats 8000000 in
theorem lines1_in (n : Nat) (hn : 3 ≤ n) (gt : Nat) (s : ByteArray) (W : World) (hs : s.size ≤ 1000) (hb : Blk W gt 9 #[.string s]) :
    SeqM Fence.wide n Tryd.prog 70 #[.pointer (some ⟨gt, 0, none⟩)] encL (fun xs => xs = linesAt 0 (pcs s.data.toList)) (fun pre => pre <+: linesAt 0 (pcs s.data.toList)) (linesAt 0 (pcs s.data.toList)).length
      (fun r => W.heap.size ≤ r ∧ r < W.heap.size + 7) (fun r => W.heap.size ≤ r ∧ r < W.heap.size + 7) (W.heap.size + 7) W := by
  intro l J Jx hJ hJx hY h0
  have HJ := Lib.hid hJ
  have HJX := Lib.hid hJx
  have HY := Lib.hid hY
  clear hJ hJx hY
  refine callsIn_of_wp_marks Tryd.func70 rfl trivial ?_ rfl
  simp only [Tryd.ntmps70, List.size_toArray, List.length_cons, List.length_nil, Nat.reduceAdd, Nat.reduceSub, Array.replicate_succ, Array.replicate_zero, List.push_toArray, List.append_toArray, List.nil_append, List.cons_append]
  have q0 := bl_al (bl_al (Below.refl W.heap.size W) (.cells #[.func (.yield l) #[] #[]] 99)) (.cells #[.int .i64 0] 3)
  have HB0 := Lib.hid ((Blk.new W 99 #[.func (.yield l) #[] #[]]).alloc (.cells #[.int .i64 0] 3))
  have HB1 := Lib.hid (Blk.new (W.alloc (.cells #[.func (.yield l) #[] #[]] 99)) 3 #[.int .i64 0])
  rw [World.size_alloc] at HB1
  have x1 : ((W.alloc (.cells #[.func (.yield l) #[] #[]] 99)).alloc (.cells #[.int .i64 0] 3)).cell? ⟨gt, 0, none⟩ = some (.string s) := (hb.ca q0).cell 0
  gi_wp2
  refine ⟨trivial, fun _ => by omega, (callsIn_wide.2 (splitAfterSeq_any s ⟨#[10]⟩ _)).mono ?_⟩
  rintro e w4 ⟨g, rfl, hg, b0, b1, b2, q4, hz4⟩
  simp only [World.size_alloc] at hg hz4
  have HY0 := Lib.hid (HB0.out.ca q4)
  have HA0 := Lib.hid (HB1.out.ca q4)
  have HQ4 := Lib.hid (bl_ca q0 q4)
  have HSP := Lib.hid (show SpB w4 (W.heap.size + 2) (W.heap.size + 3) (W.heap.size + 4) s from by
    subst hg
    exact ⟨b0, b1, b2⟩)
  obtain rfl : g = W.heap.size + 2 := hg
  clear b0 b1 b2 q0 q4 x1 HB0 HB1
  gi_wp2
  have hz5 : w4.heap.size = W.heap.size + 5 := hz4
  refine wpIn_rangeFunc_M rfl (by omega) (gf := 95) (lb := #[.pointer (some ⟨W.heap.size + 3, 0, none⟩), .pointer (some ⟨W.heap.size + 2, 0, none⟩), .pointer (some ⟨W.heap.size + 4, 0, none⟩)]) rfl trivial (Go.Proofs.enters_of Tryd.func95 (by kernel_rfl) rfl)
    (encs := encP) (S := fun xs => xs = pcs s.data.toList) (Sp := fun pre => pre <+: pcs s.data.toList) (N := (pcs s.data.toList).length) (Bf := W.heap.size + 7) (fun r => r = W.heap.size + 2) (fun r => r = W.heap.size + 2 ∨ r = W.heap.size + 3 ∨ r = W.heap.size + 4)
    (fun W1 hb1 hs1 => by
      have hbf : W1.heap.size = W.heap.size + 7 := by omega
      have := split1_in (n - 1) (by omega) (W.heap.size + 2) (W.heap.size + 3) (W.heap.size + 4) s W1 hs (by omega) (by omega) ⟨HSP.out.1.ca hb1, HSP.out.2.1.ca hb1, HSP.out.2.2.ca hb1⟩
      rw [hbf] at this
      exact this)
    (fun r hr => by omega) (fun r hr => by omega) (fun _ => rfl)
    (LnI J W.heap.size l) (LnX J Jx (pcs s.data.toList))
    (fun pre A B row hi hg hr => ⟨hi.ne, HJ.out _ _ _ row hi.j hg (fun r e => by have := hr r e; omega), blk_same hi.y (hg.block _ hi.y.lt (fun e => by have := hr _ e.symm; omega)), blk_same hi.a (hg.block _ hi.a.lt (fun e => by have := hr _ e.symm; omega))⟩)
    (fun c pre A B row hi hg hr => by
      obtain ⟨hc, hi⟩ := hi
      rcases hi with ⟨q, e, hq, hj⟩ | ⟨xs, hx, hj⟩
      · exact ⟨hc, .inl ⟨q, e, hq, HJ.out _ _ _ row hj hg (fun r e => by have := hr r e; omega)⟩⟩
      · exact ⟨hc, .inr ⟨xs, hx, HJX.out _ _ _ row hj hg (fun r e => by have := hr r e; omega)⟩⟩)
    ⟨by simp, HJ.out _ _ _ none h0 (grown_of_below HQ4.out) (fun r e => by cases e), HY0.out, HA0.out⟩
    (fun x => { tmps := #[.func (.yield l) #[] #[], .pointer (some ⟨gt, 0, none⟩), .pointer (some ⟨W.heap.size, 0, none⟩), .pointer (some ⟨W.heap.size + 1, 0, none⟩), .string ⟨x.toArray⟩, .string s, .func (.func 95) #[] #[.pointer (some ⟨W.heap.size + 2 + 1, 0, none⟩), .pointer (some ⟨W.heap.size + 2, 0, none⟩), .pointer (some ⟨W.heap.size + 2 + 2, 0, none⟩)], .string ⟨x.toArray⟩, undef, undef, undef, undef, undef, undef, undef, undef, undef, undef, undef, undef, undef], defers := [] }) ?assign ?body ?done ?stop
  case assign =>
    intro l5 x W5 K hK
    unfold encP
    gi_wp2
    exact hK
  case body =>
    intro l5 pre x W5 hi hbf hsp hlen
    have HI := Lib.hid hi
    have y0 : W5.cell? ⟨W.heap.size, 0, none⟩ = some (.func (.yield l) #[] #[]) := hi.y.cell 0
    have a0 : W5.cell? ⟨W.heap.size + 1, 0, none⟩ = some (.int .i64 (sumL pre : Int)) := hi.a.cell 0
    have HD8 := Lib.hid (show x.length = (⟨x.toArray⟩ : ByteArray).size from by simp [ByteArray.size])
    generalize hD : (⟨x.toArray⟩ : ByteArray) = D at *
    have HD := Lib.hid hD
    by_cases hx : x = []
    · have hxe : D.toList.isEmpty = true := by rw [← hD, hx, ByteArray.toList_eq]; rfl
      have HX := Lib.hid hx
      clear hD hx
      gi_wp2
      refine ⟨fun _ h => (by cases h), ?_⟩
      gi_wp2
      exact ⟨KpM.refl _ _, rfl, .inl ⟨pre, by rw [HX.out], HI.out.ne, HI.out.j⟩⟩
    · have hxe : D.toList.isEmpty = false := by
        rw [← hD, ByteArray.toList_eq]
        cases x with
        | nil => exact absurd rfl hx
        | cons c r => rfl
      have HLN := Lib.hid (linesAt_snoc HI.out.ne hx)
      have HNE := Lib.hid (show ∀ p ∈ pre ++ [x], p ≠ [] from fun p hp => by
        rcases List.mem_append.1 hp with hp | hp
        · exact HI.out.ne p hp
        · rw [List.mem_singleton.1 hp]; exact hx)
      have HPR := Lib.hid (linesAt_pre HNE.out hsp)
      rw [HLN.out] at HPR
      have hpl := HPR.out.length_le
      rw [List.length_append] at hpl
      obtain ⟨fn, tmps, assign, body, hy, hR⟩ := HY.out (linesAt 0 pre) (sumL pre, x) W5 HI.out.j hbf HPR.out (by simp at hpl; omega)
      unfold encL at hy
      simp only [hD] at hy
      have HRR := Lib.hid (roundIn_round (l' := l5) (m' := n - 1 - 1 - 1) hR)
      have HSM := Lib.hid (show sumL pre + x.length ≤ 1000 from by
        have := sumL_pre hsp
        rw [sumL_snoc, pcs_flat] at this
        have h9 : s.data.toList.length = s.size := by simp
        omega)
      have HXE := Lib.hid hx
      clear hR hpl hx hD
      gi_wp2
      refine ⟨fun h => (by cases h), HRR.out.mono ?_⟩
      rintro e W6 (⟨rfl, hJ6, hk6⟩ | ⟨rfl, hJx6, hk6⟩)
      · have HJ6 := Lib.hid hJ6
        have HK6 := Lib.hid hk6
        have HY6 := Lib.hid (blk_same HI.out.y (hk6.2 _ ⟨Nat.le_refl _, by omega⟩ HI.out.y.lt))
        have HA6 := Lib.hid (blk_same HI.out.a (hk6.2 _ ⟨by omega, by omega⟩ HI.out.a.lt))
        have hk61 := hk6.1
        clear hJ6 hk6 hy y0 a0
        have a0 : W6.cell? ⟨W.heap.size + 1, 0, none⟩ = some (.int .i64 (sumL pre : Int)) := HA6.out.cell 0
        have f0 : W6.frozen? ⟨W.heap.size + 1, 0, none⟩ = false := HA6.out.frozen 0
        have hD1 : (D.size : Int) ≤ 1000 := by have := HSM.out; have := HD8.out; omega
        have hS1 : (sumL pre : Int) ≤ 1000 := by have := HSM.out; omega
        gi_wp2
        refine ⟨(HK6.out.mono (fun r hr => by omega)).trans (KpM.of_grown (grownBy_setCell' W6 (W.heap.size + 1) _) (fun r e hr => by injection e with e; omega)), HNE.out, ?_, HY6.out.far (p := ⟨W.heap.size + 1, 0, none⟩) (by show W.heap.size ≠ W.heap.size + 1; omega) _, ?_⟩
        · rw [HLN.out]
          exact HJ.out _ _ _ (some (W.heap.size + 1)) HJ6.out (grownBy_setCell' W6 (W.heap.size + 1) _) (fun r e => by injection e with e; omega)
        · have := HA6.out.set_ 0 (.int .i64 ((sumL pre : Int) + (D.size : Int)))
          rw [sumL_snoc, HD8.out, Int.natCast_add]
          simpa using this
      · have HJ6 := Lib.hid hJx6
        have HK6 := Lib.hid hk6
        clear hJx6 hk6 hy y0 a0
        gi_wp2
        exact ⟨HK6.out.mono (fun r hr => by omega), rfl, .inr ⟨_, HPR.out, HJ6.out⟩⟩
  case done =>
    rintro D5 xs W5 hD rfl hi hK
    gi_wp2
    refine ⟨by simp, .inl ⟨_, _, rfl, run_takeDeferred hK, ?_⟩⟩
    exact ⟨_, results_none rfl _ _ _, ⟨_, rfl⟩, .inl ⟨_, rfl, HJ.out _ _ _ (some D5) hi.j (grownBy_putObj' W5 D5 _) (fun r e => by injection e with e; omega)⟩⟩
  case stop =>
    rintro D5 c pre W5 hD hsp ⟨rfl, hi⟩ hK
    gi_wp2
    refine ⟨by simp, .inl ⟨_, _, rfl, run_takeDeferred hK, ?_⟩⟩
    refine ⟨_, results_none rfl _ _ _, ⟨_, rfl⟩, ?_⟩
    rcases hi with ⟨q, e, hq, hj⟩ | ⟨xs, hx, hj⟩
    · exact .inl ⟨_, linesAt_end hq (by rw [← e]; exact hsp) ▸ rfl, HJ.out _ _ _ (some D5) hj (grownBy_putObj' W5 D5 _) (fun r e => by injection e with e; omega)⟩
    · exact .inr ⟨xs, hx, HJX.out _ _ _ (some D5) hj (grownBy_putObj' W5 D5 _) (fun r e => by injection e with e; omega)⟩
end Go.Proofs.YthgcdilkkldgjaaDoor
