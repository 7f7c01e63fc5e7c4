/- A line's words, its table, and Parse over lines, in plain Lean: the laws CatalogWrong and CatalogBack. Conditions: none. -/
import Derived.Test.YthgcdilkkldgjaaGreatDoorPkC11
namespace Go.Proofs.YthgcdilkkldgjaaGreatDoor
open Go.RowKit
/-! ### words -/
def wsp : List UInt8 → List (List UInt8)
  | [] => [[]]
  | b :: r => if b = 32 then [] :: wsp r else (b :: (wsp r).headD []) :: (wsp r).tail
theorem wsp_ne : ∀ (l : List UInt8), wsp l ≠ []
  | [] => by simp [wsp]
  | b :: r => by
    unfold wsp
    split <;> simp
theorem wsp_cons (l : List UInt8) : ∃ p ps, wsp l = p :: ps := by
  cases h : wsp l with
  | nil => exact absurd h (wsp_ne l)
  | cons p ps => exact ⟨p, ps, rfl⟩
theorem wsp_one : ∀ (x : List UInt8), (∀ b ∈ x, b ≠ 32) → wsp x = [x]
  | [], _ => rfl
  | b :: x, h => by
    unfold wsp
    rw [if_neg (h b (by simp)), wsp_one x (fun c hc => h c (by simp [hc]))]
    rfl
theorem wsp_app : ∀ (x y : List UInt8), (∀ b ∈ x, b ≠ 32) → wsp (x ++ 32 :: y) = x :: wsp y
  | [], y, _ => by
    show wsp (32 :: y) = _
    conv => lhs; unfold wsp
    rw [if_pos rfl]
  | b :: x, y, h => by
    show wsp (b :: (x ++ 32 :: y)) = _
    conv => lhs; unfold wsp
    rw [if_neg (h b (by simp)), wsp_app x y (fun c hc => h c (by simp [hc]))]
    rfl
theorem join_two (x y : List UInt8) (r : List (List UInt8)) : Lib.join (x :: y :: r) [32] = x ++ 32 :: Lib.join (y :: r) [32] := by
  rw [Lib.join_cons, Lib.join_cons]
  unfold Lib.joinTail
  simp
theorem wsp_join : ∀ (ws : List (List UInt8)), ws ≠ [] → (∀ w ∈ ws, ∀ b ∈ w, b ≠ 32) → wsp (Lib.join ws [32]) = ws
  | [], h, _ => absurd rfl h
  | [x], _, h => by rw [Lib.join_one, wsp_one x (h x (by simp))]
  | x :: y :: r, _, h => by
    rw [join_two, wsp_app x _ (h x (by simp)), wsp_join (y :: r) (by simp) (fun w hw => h w (by simp only [List.mem_cons] at hw ⊢; exact .inr hw))]
theorem idx_none_mem {s : List UInt8} {c : UInt8} (h : Lib.indexByte s c = -1) : ∀ b ∈ s, b ≠ c := fun b hb e => by
  obtain ⟨k, hk⟩ := List.getElem?_of_mem hb
  exact Lib.indexByte_none h k (by rw [hk, e])
theorem idx_take {s : List UInt8} {c : UInt8} {i : Nat} (h : Lib.indexByte s c = i) : (∀ b ∈ s.take i, b ≠ c) ∧ s = s.take i ++ c :: s.drop (i + 1) := by
  obtain ⟨h1, h2⟩ := Lib.indexByte_some h
  refine ⟨fun b hb e => ?_, ?_⟩
  · obtain ⟨k, hk⟩ := List.getElem?_of_mem hb
    rw [List.getElem?_take] at hk
    split at hk
    · rename_i h9; exact h2 k h9 (by rw [hk, e])
    · cases hk
  · have hi : i < s.length := by
      rcases Nat.lt_or_ge i s.length with h9 | h9
      · exact h9
      · rw [List.getElem?_eq_none h9] at h1; cases h1
    rw [List.getElem?_eq_getElem hi] at h1
    injection h1 with h1
    have : s.drop i = c :: s.drop (i + 1) := by rw [List.drop_eq_getElem_cons hi, h1]
    rw [← this, List.take_append_drop]
theorem splitK_wsp : ∀ (n : Nat) (s : List UInt8), s.length ≤ n → Lib.splitK [32] 0 (Lib.count s [32]) s = wsp s := by
  intro n
  induction n with
  | zero =>
    intro s h
    obtain rfl : s = [] := List.eq_nil_of_length_eq_zero (by omega)
    rfl
  | succ n ih =>
    intro s h
    rcases idxB_range s 32 with hm | ⟨i, hi, hlt⟩
    · rw [Lib.count_miss (by rw [Lib.index_one]; exact hm), wsp_one s (idx_none_mem hm)]
      rfl
    · have hidx : Lib.index s [32] = i := by rw [Lib.index_one]; exact hi
      rw [Lib.count_hit (by simp) hidx, Nat.add_comm]
      unfold Lib.splitK
      rw [hidx, if_neg (by simp)]
      rw [show ((i : Int)).toNat = i from rfl, show i + ([32] : List UInt8).length = i + 1 from rfl, ih (s.drop (i + 1)) (by rw [List.length_drop]; omega)]
      obtain ⟨h1, h2⟩ := idx_take hi
      conv => rhs; rw [h2]
      rw [wsp_app _ _ h1, Nat.add_zero]
def bW (l : List (List UInt8)) : List ByteArray := l.map fun w => ⟨w.toArray⟩
theorem bW_data (l : List ByteArray) : bW (l.map (·.data.toList)) = l := by
  unfold bW
  rw [List.map_map]
  conv => rhs; rw [← List.map_id l]
  apply List.map_congr_left
  intro x _
  simp
theorem wordsOf_wsp (l : List UInt8) : wordsOf l = bW (wsp (Lib.trimSuffix l [10])) := by
  unfold wordsOf
  rw [← bW_data (Lib.splitB _ _ _ _), Lib.splitB_data]
  congr 1
  exact splitK_wsp _ _ (Nat.le_refl _)
theorem trim_line (x : List UInt8) : Lib.trimSuffix (x ++ [10]) [10] = x := by
  unfold Lib.trimSuffix Lib.hasSuffix
  simp
theorem wordsOf_line {ws : List ByteArray} (h0 : ws ≠ []) (h : ∀ w ∈ ws, ∀ b ∈ w.data.toList, b ≠ 32) : wordsOf (Lib.join (ws.map (·.data.toList)) [32] ++ [10]) = ws := by
  rw [wordsOf_wsp, trim_line, wsp_join _ (by simpa using h0) (by
    intro w hw
    obtain ⟨v, hv, rfl⟩ := List.mem_map.1 hw
    exact h v hv), bW_data]
/-! ### names -/
theorem ok_byte {b : UInt8} (h : okI (b.toNat : Int) = true) : b ≠ 32 ∧ b ≠ 10 := by
  constructor
  · rintro rfl; revert h; decide
  · rintro rfl; revert h; decide
theorem name_bytes {s : ByteArray} (h : nameB s = true) : ∀ b ∈ s.data.toList, b ≠ 32 ∧ b ≠ 10 := by
  intro b hb
  unfold nameB at h
  simp only [Bool.and_eq_true] at h
  have := List.all_eq_true.1 h.2.2.2.1 (b.toNat : Int) (List.mem_map.2 ⟨b, hb, rfl⟩)
  exact ok_byte this
theorem name_by {s : ByteArray} (h : nameB s = true) : s ≠ sBy := by
  rintro rfl
  revert h
  decide +kernel
theorem kind_word {k : Int} (h : kindB k = true) : kindOf (wordS k) = k ∧ (∀ b ∈ (wordS k).data.toList, b ≠ 32 ∧ b ≠ 10) := by
  unfold kindB at h
  simp only [Bool.or_eq_true, decide_eq_true_eq] at h
  rcases h with rfl | rfl | rfl
  · exact ⟨by decide +kernel, by decide +kernel⟩
  · exact ⟨by decide +kernel, by decide +kernel⟩
  · exact ⟨by decide +kernel, by decide +kernel⟩
theorem strictB_mem : ∀ (l : List Int) (n p : Int), strictB n p l = true → ∀ k ∈ l, p < k ∧ k < n
  | [], _, _, _, k, hk => by cases hk
  | x :: l, n, p, h, k, hk => by
    unfold strictB at h
    simp only [Bool.and_eq_true, decide_eq_true_eq] at h
    rcases List.mem_cons.1 hk with rfl | hk
    · exact ⟨h.1, h.2.1⟩
    · have := strictB_mem l n x h.2.2 k hk
      omega
/-! ### a table's line is read as the table -/
theorem key_at {t : TC} (h : TabP t) {k : Int} (hk : k ∈ t.keys) : ∃ (i : Nat) (c : CO), k = (i : Int) ∧ t.cols[i]? = some c ∧ nameAt t k = c.name := by
  have h1 := strictB_mem _ _ _ h.ks k hk
  obtain ⟨i, rfl⟩ : ∃ i : Nat, k = (i : Int) := ⟨k.toNat, by omega⟩
  have hi : i < t.cols.length := by omega
  refine ⟨i, t.cols[i], rfl, List.getElem?_eq_getElem hi, ?_⟩
  unfold nameAt
  rw [Int.toNat_natCast, List.getElem?_eq_getElem hi]; rfl
theorem fnd_col {t : TC} (h : TabP t) {i : Nat} {c : CO} (hc : t.cols[i]? = some c) : fnd (idxL (fun x : CO => decide (x.name = c.name)) t.cols) = (i : Int) := by
  have hi : i < t.cols.length := by
    rcases Nat.lt_or_ge i t.cols.length with h9 | h9
    · exact h9
    · rw [List.getElem?_eq_none h9] at hc; cases hc
  have hf : t.cols.findIdx (fun x : CO => decide (x.name = c.name)) = i := by
    rw [List.findIdx_eq hi]
    rw [List.getElem?_eq_getElem hi] at hc
    injection hc with hc
    refine ⟨by rw [hc]; simp, fun j hj => ?_⟩
    have hjl : j < t.cols.length := by omega
    simp only [decide_eq_false_iff_not]
    exact h.nd j i t.cols[j] c hj (List.getElem?_eq_getElem hjl) (by rw [List.getElem?_eq_getElem hi, hc])
  unfold fnd idxL
  rw [hf, if_pos hi]
  omega
theorem readGo_cols : ∀ (cs cs0 : List CO) (rest : List ByteArray), (∀ c ∈ cs, colB c = true) → readGo (colsW cs ++ rest) false cs0 [] = readGo rest false (cs0 ++ cs) []
  | [], cs0, rest, _ => by rw [List.append_nil]; rfl
  | c :: cs, cs0, rest, h => by
    have hc := h c (by simp)
    unfold colB at hc
    simp only [Bool.and_eq_true] at hc
    show readGo (c.name :: wordS c.kind :: (colsW cs ++ rest)) false cs0 [] = _
    rw [readGo, if_neg (fun e => name_by hc.1 e.1), if_neg (by decide)]
    show readGo (colsW cs ++ rest) false (cs0 ++ [⟨c.name, kindOf (wordS c.kind)⟩]) [] = _
    rw [(kind_word hc.2).1, readGo_cols cs _ rest (fun x hx => h x (by simp [hx])), List.append_assoc]
    rfl
theorem readGo_keys {t : TC} (h : TabP t) : ∀ (ks ks0 : List Int), (∀ k ∈ ks, k ∈ t.keys) → readGo (keysW t ks) true t.cols ks0 = (t.cols, ks0 ++ ks)
  | [], ks0, _ => by rw [List.append_nil]; show readGo [] true t.cols ks0 = _; rw [readGo]
  | k :: ks, ks0, hk => by
    obtain ⟨i, c, hki, hc, hn⟩ := key_at h (hk k (by simp))
    show readGo (nameAt t k :: keysW t ks) true t.cols ks0 = _
    rw [readGo, if_neg (by simp), if_pos rfl, hn, fnd_col h hc, ← hki, readGo_keys h ks _ (fun x hx => hk x (by simp [hx])), List.append_assoc]
    rfl
theorem readW_line {t : TC} (h : TabP t) : readW (lineW t) = t := by
  have hcols : ∀ c ∈ t.cols, colB c = true := fun c hc => by
    obtain ⟨k, hk⟩ := List.getElem?_of_mem hc
    exact h.ok k c hk
  have hd : (lineW t).drop 2 = colsW t.cols ++ (if t.keys.length = 0 then [] else sBy :: keysW t t.keys) := rfl
  have hg : readGo ((lineW t).drop 2) false [] [] = (t.cols, t.keys) := by
    rw [hd, readGo_cols t.cols [] _ hcols, List.nil_append]
    by_cases hk : t.keys.length = 0
    · rw [if_pos hk, readGo, List.eq_nil_of_length_eq_zero hk]
    · rw [if_neg hk, readGo, if_pos ⟨rfl, rfl⟩, readGo_keys h t.keys [] (fun _ h => h), List.nil_append]
  unfold readW
  rw [hg]
  rfl
theorem line_bytes {t : TC} (h : TabP t) : ∀ w ∈ lineW t, ∀ b ∈ w.data.toList, b ≠ 32 ∧ b ≠ 10 := by
  intro w hw
  have hcols : ∀ c ∈ t.cols, colB c = true := fun c hc => by
    obtain ⟨k, hk⟩ := List.getElem?_of_mem hc
    exact h.ok k c hk
  unfold lineW at hw
  rcases List.mem_append.1 hw with hw | hw
  · rcases List.mem_cons.1 hw with rfl | hw
    · decide +kernel
    rcases List.mem_cons.1 hw with rfl | hw
    · exact name_bytes h.nm
    · unfold colsW at hw
      obtain ⟨c, hc, hw⟩ := List.mem_flatMap.1 hw
      have hb := hcols c hc
      unfold colB at hb
      simp only [Bool.and_eq_true] at hb
      unfold colW at hw
      rcases List.mem_cons.1 hw with rfl | hw
      · exact name_bytes hb.1
      · rw [List.mem_singleton] at hw
        subst hw
        exact (kind_word hb.2).2
  · split at hw
    · cases hw
    · rcases List.mem_cons.1 hw with rfl | hw
      · decide +kernel
      · unfold keysW at hw
        obtain ⟨k, hk, rfl⟩ := List.mem_map.1 hw
        obtain ⟨i, c, _, hc, hn⟩ := key_at h hk
        rw [hn]
        have hb := hcols c (List.mem_of_getElem? hc)
        unfold colB at hb
        simp only [Bool.and_eq_true] at hb
        exact name_bytes hb.1
theorem lineW_ne (t : TC) : lineW t ≠ [] := by unfold lineW; simp
theorem readT_line {t : TC} (h : TabP t) : readT (lineL t) = t := by
  unfold readT lineL
  rw [wordsOf_line (lineW_ne t) (fun w hw b hb => (line_bytes h w hw b hb).1), readW_line h]
theorem join_mem : ∀ (ws : List (List UInt8)) (b : UInt8), b ∈ Lib.join ws [32] → b = 32 ∨ ∃ w ∈ ws, b ∈ w
  | [], b, h => by simp [Lib.join_nil] at h
  | [x], b, h => by rw [Lib.join_one] at h; exact .inr ⟨x, by simp, h⟩
  | x :: y :: r, b, h => by
    rw [join_two] at h
    rcases List.mem_append.1 h with h | h
    · exact .inr ⟨x, by simp, h⟩
    rcases List.mem_cons.1 h with h | h
    · exact .inl h
    · rcases join_mem (y :: r) b h with h | ⟨w, hw, hb⟩
      · exact .inl h
      · exact .inr ⟨w, by simp only [List.mem_cons] at hw ⊢; exact .inr hw, hb⟩
theorem line_no10 {t : TC} (h : TabP t) : ∀ b ∈ Lib.join ((lineW t).map (·.data.toList)) [32], b ≠ 10 := by
  intro b hb
  rcases join_mem _ _ hb with rfl | ⟨w, hw, hb⟩
  · decide
  · obtain ⟨v, hv, rfl⟩ := List.mem_map.1 hw
    exact (line_bytes h v hv b hb).2
theorem idx_pre : ∀ (y z : List UInt8), (∀ b ∈ y, b ≠ 10) → Lib.indexByte (y ++ 10 :: z) 10 = (y.length : Int)
  | [], z, _ => by
    show Lib.indexByte (10 :: z) 10 = _
    unfold Lib.indexByte
    rw [if_pos (by simp)]; rfl
  | b :: y, z, h => by
    show Lib.indexByte (b :: (y ++ 10 :: z)) 10 = _
    unfold Lib.indexByte
    have hb := h b (by simp)
    rw [if_neg (by simpa using hb), idx_pre y z (fun c hc => h c (by simp [hc])), if_neg (by simp)]
    simp
/-! ### Parse, by a text -/
noncomputable def fT (a : Nat) (c : List TC) (t : List UInt8) : List TC × Int × Int := parseF (linesAt a (pcs t)) c
def goodL (c : List TC) (l : List UInt8) : Prop := addE c (readT l) = 0 ∧ lineL (readT l) = l
theorem fT_nil (a : Nat) (c : List TC) : fT a c [] = (c, 0, 0) := by
  unfold fT pcs linesAt
  rw [if_pos rfl, parseF]
theorem good_end {c : List TC} {l : List UInt8} (h : goodL c l) : ∃ y, l = y ++ [10] := ⟨_, h.2.symm⟩
theorem fT_last (a : Nat) (c : List TC) {t : List UInt8} (h0 : t ≠ []) (h : Lib.indexByte t 10 = -1) : fT a c t = ([], (a : Int), 212) := by
  unfold fT
  rw [pcs_none t h]
  unfold linesAt
  rw [if_neg h0]
  unfold parseF
  rw [if_neg]
  intro hg
  obtain ⟨y, hy⟩ := good_end (c := c) hg
  exact idx_none_mem h 10 (by rw [hy]; simp) rfl
theorem take_ne {t : List UInt8} {i : Nat} (h : Lib.indexByte t 10 = i) : t.take (i + 1) ≠ [] ∧ (t.take (i + 1)).length = i + 1 := by
  obtain ⟨_, h2⟩ := idx_take h
  have hl : i < t.length := by
    obtain ⟨h1, _⟩ := Lib.indexByte_some h
    rcases Nat.lt_or_ge i t.length with h9 | h9
    · exact h9
    · rw [List.getElem?_eq_none h9] at h1; cases h1
  have : (t.take (i + 1)).length = i + 1 := by rw [List.length_take]; omega
  exact ⟨fun e => by rw [e] at this; simp at this, this⟩
theorem fT_good (a : Nat) {c : List TC} {t : List UInt8} {i : Nat} (h : Lib.indexByte t 10 = i) (hg : goodL c (t.take (i + 1))) : fT a c t = fT (a + (i + 1)) (c ++ [readT (t.take (i + 1))]) (t.drop (i + 1)) := by
  obtain ⟨h1, h2⟩ := take_ne h
  unfold fT
  rw [pcs_some t i h]
  conv => lhs; unfold linesAt
  rw [if_neg h1]
  conv => lhs; unfold parseF
  rw [if_pos (show addE c (readT (t.take (i + 1))) = 0 ∧ lineL (readT (t.take (i + 1))) = t.take (i + 1) from hg), h2]
theorem fT_bad (a : Nat) {c : List TC} {t : List UInt8} {i : Nat} (h : Lib.indexByte t 10 = i) (hg : ¬ goodL c (t.take (i + 1))) : fT a c t = ([], (a : Int), 212) := by
  obtain ⟨h1, h2⟩ := take_ne h
  unfold fT
  rw [pcs_some t i h]
  conv => lhs; unfold linesAt
  rw [if_neg h1]
  conv => lhs; unfold parseF
  rw [if_neg (show ¬ (addE c (readT (t.take (i + 1))) = 0 ∧ lineL (readT (t.take (i + 1))) = t.take (i + 1)) from hg)]
/-- wrong from a line on -/
theorem wrong_fT : ∀ (n : Nat) (t : List UInt8) (a : Nat) (c : List TC), t.length ≤ n → (fT a c t).2.2 = 0 ∨ ∃ k : Nat, fT a c t = ([], ((a + k : Nat) : Int), 212) ∧ k < t.length ∧ (0 < k → t[k - 1]? = some 10) ∧
    ∀ e : Nat, Lib.indexByte (t.drop k) 10 = (e : Int) → ∀ more, fT a c (t.take (k + e + 1) ++ more) = ([], ((a + k : Nat) : Int), 212) := by
  intro n
  induction n with
  | zero =>
    intro t a c h
    obtain rfl : t = [] := List.eq_nil_of_length_eq_zero (by omega)
    rw [fT_nil]; exact .inl rfl
  | succ n ih =>
    intro t a c h
    by_cases h0 : t = []
    · subst h0; rw [fT_nil]; exact .inl rfl
    rcases idxB_range t 10 with hm | ⟨i, hi, hlt⟩
    · refine .inr ⟨0, fT_last a c h0 hm, List.length_pos_iff.2 h0, fun h => absurd h (by omega), fun e he => ?_⟩
      rw [List.drop_zero, hm] at he
      omega
    · obtain ⟨h1, h2⟩ := take_ne hi
      obtain ⟨h3, h4⟩ := idx_take hi
      have hcut : ∀ z, Lib.indexByte (t.take (i + 1) ++ z) 10 = (i : Int) ∧ (t.take (i + 1) ++ z).take (i + 1) = t.take (i + 1) ∧ (t.take (i + 1) ++ z).drop (i + 1) = z := fun z => by
        have e1 : t.take (i + 1) = t.take i ++ [10] := by
          rw [List.take_add_one, (Lib.indexByte_some hi).1]; rfl
        refine ⟨?_, ?_, ?_⟩
        · rw [e1, List.append_assoc]
          have := idx_pre (t.take i) z h3
          rw [show (t.take i).length = i from by rw [List.length_take]; omega] at this
          exact this
        · have := List.take_left (l₁ := t.take (i + 1)) (l₂ := z)
          rwa [h2] at this
        · have := List.drop_left (l₁ := t.take (i + 1)) (l₂ := z)
          rwa [h2] at this
      by_cases hg : goodL c (t.take (i + 1))
      · rw [fT_good a hi hg]
        rcases ih (t.drop (i + 1)) (a + (i + 1)) (c ++ [readT (t.take (i + 1))]) (by rw [List.length_drop]; omega) with h9 | ⟨k, hk1, hk2, hk3, hk4⟩
        · exact .inl h9
        · refine .inr ⟨i + 1 + k, by rw [hk1, Nat.add_assoc], by rw [List.length_drop] at hk2; omega, fun _ => ?_, fun e he more => ?_⟩
          · rcases Nat.eq_zero_or_pos k with rfl | hk
            · exact (Lib.indexByte_some hi).1
            · have := hk3 hk
              rw [List.getElem?_drop] at this
              rw [← this]
              congr 1; omega
          · rw [← List.drop_drop] at he
            have h5 := hk4 e he more
            have e2 : t.take (i + 1 + k + e + 1) = t.take (i + 1) ++ (t.drop (i + 1)).take (k + e + 1) := by
              rw [show i + 1 + k + e + 1 = (i + 1) + (k + e + 1) from by omega, List.take_add]
            rw [e2, List.append_assoc]
            obtain ⟨c1, c2, c3⟩ := hcut ((t.drop (i + 1)).take (k + e + 1) ++ more)
            rw [fT_good a c1 (by rw [c2]; exact hg), c2, c3, h5, Nat.add_assoc]
      · refine .inr ⟨0, fT_bad a hi hg, List.length_pos_iff.2 h0, fun h => absurd h (by omega), fun e he more => ?_⟩
        rw [List.drop_zero, hi] at he
        obtain rfl : i = e := by omega
        rw [Nat.zero_add]
        obtain ⟨c1, c2, _⟩ := hcut more
        exact fT_bad a c1 (by rw [c2]; exact hg)
/-- what was read is written as it was -/
theorem back_fT : ∀ (n : Nat) (t : List UInt8) (a : Nat) (c : List TC), t.length ≤ n → catB c = true → (fT a c t).2.2 = 0 → ∃ ts, fT a c t = (c ++ ts, 0, 0) ∧ catB (c ++ ts) = true ∧ linesL ts = t := by
  intro n
  induction n with
  | zero =>
    intro t a c h hc _
    obtain rfl : t = [] := List.eq_nil_of_length_eq_zero (by omega)
    exact ⟨[], by rw [fT_nil, List.append_nil], by rw [List.append_nil]; exact hc, rfl⟩
  | succ n ih =>
    intro t a c h hc h9
    by_cases h0 : t = []
    · subst h0; exact ⟨[], by rw [fT_nil, List.append_nil], by rw [List.append_nil]; exact hc, rfl⟩
    rcases idxB_range t 10 with hm | ⟨i, hi, hlt⟩
    · rw [fT_last a c h0 hm] at h9; cases h9
    · by_cases hg : goodL c (t.take (i + 1))
      · rw [fT_good a hi hg] at h9 ⊢
        obtain ⟨ts, h1, h2, h3⟩ := ih (t.drop (i + 1)) _ _ (by rw [List.length_drop]; omega) (add_ok hg.1).cat h9
        refine ⟨readT (t.take (i + 1)) :: ts, by rw [h1, List.append_assoc]; rfl, by rw [List.append_assoc] at h2; exact h2, ?_⟩
        show lineL (readT (t.take (i + 1))) ++ linesL ts = t
        rw [hg.2, h3, List.take_append_drop]
      · rw [fT_bad a hi hg] at h9; cases h9
theorem catB_pre {a b : List TC} (h : catB (a ++ b) = true) : catB a = true := by
  have hc := (catB_iff _).1 h
  refine (catB_iff _).2 ⟨by have := hc.hi; rw [List.length_append] at this; omega, fun k t hk => hc.ok k t ?_, fun i k x y hik hx hy => hc.nd i k x y hik ?_ ?_⟩
  · rw [List.getElem?_append_left (List.getElem?_eq_some_iff.1 hk).1]; exact hk
  · rw [List.getElem?_append_left (List.getElem?_eq_some_iff.1 hx).1]; exact hx
  · rw [List.getElem?_append_left (List.getElem?_eq_some_iff.1 hy).1]; exact hy
theorem add_mid {c : List TC} {t : TC} {ts : List TC} (h : catB (c ++ t :: ts) = true) : addE c t = 0 ∧ TabP t := by
  have hc := (catB_iff _).1 h
  have ht : (c ++ t :: ts)[c.length]? = some t := by rw [List.getElem?_append_right (Nat.le_refl _), Nat.sub_self]; rfl
  have htb := hc.ok _ _ ht
  have hno : ¬ 0 ≤ idxL (fun x : TC => decide (x.name = t.name)) c := fun h9 => by
    obtain ⟨k, _, hk, x, hx, he⟩ := idxL_pos h9
    exact hc.nd k c.length x t hk (by rw [List.getElem?_append_left hk]; exact hx) ht (of_decide_eq_true he)
  have hlen : c.length ≠ 4 := by have := hc.hi; rw [List.length_append, List.length_cons] at this; omega
  refine ⟨?_, (tabB_iff t).1 htb⟩
  unfold addE
  rw [if_neg (by rw [catB_pre h]; decide), if_neg (by rw [htb]; decide), if_neg hno, if_neg hlen]
/-- what was written is read as it was -/
theorem lines_fT : ∀ (ts : List TC) (a : Nat) (c : List TC), catB (c ++ ts) = true → fT a c (linesL ts) = (c ++ ts, 0, 0)
  | [], a, c, _ => by show fT a c [] = _; rw [fT_nil, List.append_nil]
  | t :: ts, a, c, h => by
    obtain ⟨h1, h2⟩ := add_mid h
    have e : linesL (t :: ts) = Lib.join ((lineW t).map (·.data.toList)) [32] ++ 10 :: linesL ts := by
      show lineL t ++ linesL ts = _
      unfold lineL
      rw [List.append_assoc]; rfl
    have hi := idx_pre (Lib.join ((lineW t).map (·.data.toList)) [32]) (linesL ts) (line_no10 h2)
    rw [← e] at hi
    have hl : (lineL t).length = (Lib.join ((lineW t).map (·.data.toList)) [32]).length + 1 := by unfold lineL; simp
    have h3 : (linesL (t :: ts)).take ((Lib.join ((lineW t).map (·.data.toList)) [32]).length + 1) = lineL t := by
      rw [← hl]
      exact List.take_left
    have h4 : (linesL (t :: ts)).drop ((Lib.join ((lineW t).map (·.data.toList)) [32]).length + 1) = linesL ts := by
      rw [← hl]
      exact List.drop_left
    rw [fT_good a hi (by rw [h3]; exact ⟨by rw [readT_line h2]; exact h1, by rw [readT_line h2]⟩), h3, h4, readT_line h2, lines_fT ts _ _ (by rw [List.append_assoc]; exact h), List.append_assoc]
    rfl
end Go.Proofs.YthgcdilkkldgjaaGreatDoor
/- The reference's read of a line, in plain Lean: it reads a table when, and only when, the line is the table's own. Conditions: none. -/
namespace Go.Proofs.YthgcdilkkldgjaaGreatDoor
open Go.RowKit
def rC (l : List ByteArray) (i : Nat) : CO := ⟨(l[2 + 2 * i]?).getD ⟨#[]⟩, kindOf ((l[3 + 2 * i]?).getD ⟨#[]⟩)⟩
def rCols (l : List ByteArray) (n : Nat) : List CO := (List.range n).map (rC l)
def rKey (cs : List CO) (x : ByteArray) : Int := idxL (fun c : CO => decide (c.name = x)) cs
def rKeys (l : List ByteArray) (n : Nat) : List Int := (l.drop (3 + 2 * n)).map (rKey (rCols l n))
def rT (l : List ByteArray) (n : Nat) : TC := ⟨(l[1]?).getD ⟨#[]⟩, rCols l n, rKeys l n⟩
structure RdP (l : List ByteArray) (n : Nat) : Prop where
  len : 2 + 2 * n ≤ l.length
  hd : l[0]? = some sTable
  by_ : l.length = 2 + 2 * n ∨ (2 + 2 * n + 2 ≤ l.length ∧ l[2 + 2 * n]? = some sBy)
  tab : TabP (rT l n)
theorem rCols_len (l : List ByteArray) (n : Nat) : (rCols l n).length = n := by unfold rCols; simp
theorem rCols_at {l : List ByteArray} {n i : Nat} (h : i < n) : (rCols l n)[i]? = some (rC l i) := by
  unfold rCols
  rw [List.getElem?_map, List.getElem?_range h]; rfl
theorem rCols_snoc (l : List ByteArray) (n : Nat) : rCols l (n + 1) = rCols l n ++ [rC l n] := by
  unfold rCols
  rw [List.range_succ, List.map_append]; rfl
theorem kindOf_word {x : ByteArray} (h : kindB (kindOf x) = true) : wordS (kindOf x) = x := by
  unfold kindOf at h ⊢
  by_cases h1 : x = sBool
  · rw [if_pos h1, h1]; rfl
  rw [if_neg h1] at h ⊢
  by_cases h2 : x = sInt
  · rw [if_pos h2, h2]; rfl
  rw [if_neg h2] at h ⊢
  by_cases h3 : x = sText
  · rw [if_pos h3, h3]; rfl
  rw [if_neg h3] at h
  cases h
theorem take_two {l : List ByteArray} {k : Nat} (h : k + 2 ≤ l.length) : l.take (k + 2) = l.take k ++ [(l[k]?).getD ⟨#[]⟩, (l[k + 1]?).getD ⟨#[]⟩] := by
  rw [show k + 2 = k + 1 + 1 from rfl, List.take_add_one, List.take_add_one, List.getElem?_eq_getElem (show k < l.length by omega), List.getElem?_eq_getElem (show k + 1 < l.length by omega), List.append_assoc]
  rfl
theorem rCols_words {l : List ByteArray} : ∀ (n : Nat), 2 + 2 * n ≤ l.length → (∀ c ∈ rCols l n, colB c = true) → l.take (2 + 2 * n) = l.take 2 ++ colsW (rCols l n)
  | 0, _, _ => by unfold rCols colsW; simp
  | n + 1, h, hc => by
    have ih := rCols_words (l := l) n (by omega) (fun c hm => hc c (by rw [rCols_snoc]; exact List.mem_append_left _ hm))
    rw [show 2 + 2 * (n + 1) = (2 + 2 * n) + 2 by omega, take_two (by omega), ih, rCols_snoc, colsW_snoc, List.append_assoc]
    have hb := hc (rC l n) (by rw [rCols_snoc]; simp)
    unfold colB at hb
    simp only [Bool.and_eq_true] at hb
    have h2 : wordS (rC l n).kind = (l[3 + 2 * n]?).getD ⟨#[]⟩ := kindOf_word hb.2
    rw [h2, show 2 + 2 * n + 1 = 3 + 2 * n by omega]
    rfl
/-- what was read is the line's own table -/
theorem RdP.line {l : List ByteArray} {n : Nat} (h : RdP l n) : lineW (rT l n) = l := by
  have hcl : (rT l n).cols.length = n := rCols_len l n
  have hok : ∀ c ∈ rCols l n, colB c = true := fun c hc => by
    obtain ⟨k, hk⟩ := List.getElem?_of_mem hc
    exact h.tab.ok k c hk
  have h1 := rCols_words n h.len hok
  have h0 : l.take 2 = [sTable, (l[1]?).getD ⟨#[]⟩] := by
    have := take_two (l := l) (k := 0) (by have := h.len; omega)
    rw [List.take_zero, List.nil_append, h.hd] at this
    exact this
  have hk : keysW (rT l n) (rKeys l n) = l.drop (3 + 2 * n) := by
    unfold keysW rKeys
    rw [List.map_map]
    conv => rhs; rw [← List.map_id (l.drop (3 + 2 * n))]
    apply List.map_congr_left
    intro x hx
    have hm : rKey (rCols l n) x ∈ (rT l n).keys := List.mem_map.2 ⟨x, hx, rfl⟩
    have h9 := strictB_mem _ _ _ h.tab.ks _ hm
    obtain ⟨k, e, hkl, c, hc, hf⟩ := idxL_pos (show 0 ≤ idxL (fun c : CO => decide (c.name = x)) (rCols l n) from by have := h9.1; unfold rKey at this; omega)
    show nameAt (rT l n) (rKey (rCols l n) x) = x
    unfold nameAt
    rw [show rKey (rCols l n) x = (k : Int) from e, Int.toNat_natCast, show (rT l n).cols[k]? = some c from hc]
    exact of_decide_eq_true hf
  have hsplit : l = [sTable, (l[1]?).getD ⟨#[]⟩] ++ colsW (rCols l n) ++ l.drop (2 + 2 * n) := by
    conv => lhs; rw [← List.take_append_drop (2 + 2 * n) l, h1, h0]
  have e1 : lineW (rT l n) = [sTable, (l[1]?).getD ⟨#[]⟩] ++ colsW (rCols l n) ++ (if (rKeys l n).length = 0 then [] else sBy :: keysW (rT l n) (rKeys l n)) := rfl
  rw [e1]
  conv => rhs; rw [hsplit]
  congr 1
  have hkl : (rKeys l n).length = l.length - (3 + 2 * n) := by unfold rKeys; simp
  rcases h.by_ with h2 | ⟨h2, h3⟩
  · rw [if_pos (by rw [hkl]; omega), List.drop_of_length_le (by omega)]
  · rw [if_neg (by rw [hkl]; omega), hk]
    have hlt : 2 + 2 * n < l.length := by omega
    rw [List.drop_eq_getElem_cons hlt, show 2 + 2 * n + 1 = 3 + 2 * n by omega]
    rw [List.getElem?_eq_getElem hlt] at h3
    injection h3 with h3
    rw [h3]
theorem colsW_at : ∀ (cs : List CO) (r : List ByteArray) (i : Nat) (c : CO), cs[i]? = some c → (colsW cs ++ r)[2 * i]? = some c.name ∧ (colsW cs ++ r)[2 * i + 1]? = some (wordS c.kind)
  | [], _, _, _, h => by simp at h
  | x :: cs, r, 0, c, h => by
    simp only [List.getElem?_cons_zero, Option.some.injEq] at h
    subst h
    exact ⟨rfl, rfl⟩
  | x :: cs, r, i + 1, c, h => by
    obtain ⟨h1, h2⟩ := colsW_at cs r i c (by simpa using h)
    have e : colsW (x :: cs) ++ r = x.name :: wordS x.kind :: (colsW cs ++ r) := rfl
    rw [e, show 2 * (i + 1) = 2 * i + 1 + 1 by omega, show 2 * i + 1 + 1 + 1 = (2 * i + 1) + 1 + 1 by omega]
    simp only [List.getElem?_cons_succ]
    exact ⟨h1, h2⟩
/-- a table's own line is read as the table -/
theorem RdP.of_line {l : List ByteArray} {t : TC} (h : TabP t) (hl : lineW t = l) : RdP l t.cols.length ∧ rT l t.cols.length = t := by
  subst hl
  have e1 : lineW t = sTable :: t.name :: (colsW t.cols ++ (if t.keys.length = 0 then [] else sBy :: keysW t t.keys)) := rfl
  have hle : (colsW t.cols).length = 2 * t.cols.length := colsW_len _
  have hcols : rCols (lineW t) t.cols.length = t.cols := by
    apply List.ext_getElem?
    intro i
    rcases Nat.lt_or_ge i t.cols.length with hi | hi
    · rw [rCols_at hi]
      obtain ⟨c, hc⟩ : ∃ c, t.cols[i]? = some c := ⟨_, List.getElem?_eq_getElem hi⟩
      obtain ⟨h1, h2⟩ := colsW_at t.cols (if t.keys.length = 0 then [] else sBy :: keysW t t.keys) i c hc
      rw [hc]
      unfold rC
      rw [e1, show 2 + 2 * i = 2 * i + 1 + 1 by omega, show 3 + 2 * i = 2 * i + 1 + 1 + 1 by omega]
      simp only [List.getElem?_cons_succ]
      rw [h1, h2]
      have hb := h.ok i c hc
      unfold colB at hb
      simp only [Bool.and_eq_true] at hb
      show some (⟨c.name, kindOf (wordS c.kind)⟩ : CO) = some c
      rw [(kind_word hb.2).1]
    · rw [List.getElem?_eq_none (by rw [rCols_len]; exact hi), List.getElem?_eq_none hi]
  have hdrop : ∀ k, (lineW t).drop (2 + 2 * t.cols.length + k) = (if t.keys.length = 0 then [] else sBy :: keysW t t.keys).drop k := fun k => by
    rw [e1, show 2 + 2 * t.cols.length + k = (2 * t.cols.length + k) + 1 + 1 by omega, List.drop_succ_cons, List.drop_succ_cons, ← hle, List.drop_append]
    rw [List.drop_of_length_le (by omega), List.nil_append]
    congr 1; omega
  have hkeys : rKeys (lineW t) t.cols.length = t.keys := by
    unfold rKeys
    rw [hcols, show 3 + 2 * t.cols.length = 2 + 2 * t.cols.length + 1 by omega, hdrop 1]
    by_cases hk : t.keys.length = 0
    · rw [if_pos hk, List.eq_nil_of_length_eq_zero hk]; rfl
    · rw [if_neg hk, List.drop_succ_cons, List.drop_zero]
      unfold keysW
      rw [List.map_map]
      conv => rhs; rw [← List.map_id t.keys]
      apply List.map_congr_left
      intro k hkm
      obtain ⟨i, c, hki, hc, hn⟩ := key_at h hkm
      show rKey t.cols (nameAt t k) = k
      rw [hn, hki]
      exact idxL_hit hc (decide_eq_true rfl) (fun j q hj hq => decide_eq_false (h.nd j i q c hj hq hc))
  have hT : rT (lineW t) t.cols.length = t := by
    unfold rT
    rw [hcols, hkeys, e1]; rfl
  have hlen : (lineW t).length = 2 + 2 * t.cols.length + (if t.keys.length = 0 then [] else sBy :: keysW t t.keys).length := by
    rw [e1]; simp only [List.length_cons, List.length_append]; omega
  refine ⟨⟨by omega, by rw [e1]; rfl, ?_, by rw [hT]; exact h⟩, hT⟩
  by_cases hk : t.keys.length = 0
  · left; rw [hlen, if_pos hk]; rfl
  · right
    refine ⟨by rw [hlen, if_neg hk, List.length_cons]; unfold keysW; rw [List.length_map]; omega, ?_⟩
    have := hdrop 0
    rw [if_neg hk, List.drop_zero] at this
    rw [← List.head?_drop, show 2 + 2 * t.cols.length = 2 + 2 * t.cols.length + 0 by omega, this]; rfl
theorem join_wsp : ∀ (l : List UInt8), Lib.join (wsp l) [32] = l
  | [] => rfl
  | b :: r => by
    have ih := join_wsp r
    unfold wsp
    obtain ⟨p, ps, e⟩ := wsp_cons r
    rw [e] at ih ⊢
    split
    · next h => rw [join_two, ih, h]; rfl
    · show Lib.join ((b :: p) :: ps) [32] = b :: r
      cases ps with
      | nil => rw [Lib.join_one] at ih ⊢; rw [ih]
      | cons q qs => rw [join_two] at ih ⊢; rw [← ih]; rfl
theorem bW_back (l : List (List UInt8)) : (bW l).map (·.data.toList) = l := by
  unfold bW
  rw [List.map_map]
  conv => rhs; rw [← List.map_id l]
  apply List.map_congr_left
  intro x _
  rfl
/-- the table of a line (without its line feed), read by the reference -/
theorem good_read {y : List UInt8} {t : TC} (h : TabP t) (hl : lineW t = bW (wsp y)) : readT (y ++ [10]) = t ∧ lineL t = y ++ [10] := by
  have e : lineL t = y ++ [10] := by
    unfold lineL
    rw [hl, bW_back, join_wsp]
  exact ⟨by rw [← e]; exact readT_line h, e⟩
theorem goodL_of {c : List TC} {y : List UInt8} {t : TC} (h : TabP t) (hl : lineW t = bW (wsp y)) (hc : catB c = true) : goodL c (y ++ [10]) ↔ (idxL (fun x : TC => decide (x.name = t.name)) c < 0 ∧ c.length ≠ 4) := by
  obtain ⟨h1, h2⟩ := good_read h hl
  unfold goodL
  rw [h1]
  have ht : tabB t = true := (tabB_iff t).2 h
  unfold addE
  rw [if_neg (by rw [hc]; decide), if_neg (by rw [ht]; decide)]
  constructor
  · rintro ⟨h3, _⟩
    by_cases h4 : 0 ≤ idxL (fun x : TC => decide (x.name = t.name)) c
    · rw [if_pos h4] at h3; cases h3
    · rw [if_neg h4] at h3
      refine ⟨by omega, fun h5 => ?_⟩
      rw [if_pos h5] at h3; cases h3
  · rintro ⟨h3, h4⟩
    exact ⟨by rw [if_neg (by omega), if_neg h4], h2⟩
theorem goodL_no {c : List TC} {y : List UInt8} (h : ∀ t, TabP t → lineW t ≠ bW (wsp y)) : ¬ goodL c (y ++ [10]) := by
  rintro ⟨h1, h2⟩
  have ht : TabP (readT (y ++ [10])) := by
    refine (tabB_iff _).1 ?_
    cases e : tabB (readT (y ++ [10])) with
    | true => rfl
    | false =>
      unfold addE at h1
      rw [if_pos e] at h1
      split at h1
      · cases h1
      · cases h1
  refine h _ ht ?_
  have e2 : Lib.join ((lineW (readT (y ++ [10]))).map (·.data.toList)) [32] = y := by
    unfold lineL at h2
    exact List.append_cancel_right h2
  have e3 := wsp_join ((lineW (readT (y ++ [10]))).map (·.data.toList)) (by simpa using lineW_ne _) (by
    intro w hw
    obtain ⟨v, hv, rfl⟩ := List.mem_map.1 hw
    exact fun b hb => (line_bytes ht v hv b hb).1)
  rw [e2] at e3
  rw [e3, bW_data]
end Go.Proofs.YthgcdilkkldgjaaGreatDoor
/- The reference's Kind and Words. Conditions: the text is short. -/
namespace Go.Proofs.YthgcdilkkldgjaaGreatDoor
open Go.RowKit
set_option maxRecDepth 100000 in
set_option maxHeartbeats 1000000 in
theorem rkind_any (s : ByteArray) (w : World) : Calls Tryz.prog 68 #[.string s] w fun e w' => e = .returned (.int .i64 (kindOf s)) ∧ w = w' := by
  have HR := Lib.hid (show kindOf s = if s = sBool then 1 else if s = sInt then 2 else if s = sText then 3 else 0 from rfl)
  generalize kindOf s = r at *
  go_enter Tryz.func68, Tryz.ntmps68
  go_wp2_with fail
  go_loopg [3] 3 (fun g a wr => ∃ (i : Nat), i + g = 3 ∧ a = .int .i64 ((i : Int) + 1) ∧ (∀ j : Nat, j < i → s ≠ wordS ((j + 1 : Nat) : Int)) ∧ w = wr)
  case atStart => exact ⟨0, by omega, rfl, fun j hj => by omega, rfl⟩
  case round =>
    obtain ⟨i, hi1, rfl, hne, rfl⟩ := hrel
    have HNE := Lib.hid hne
    clear hne
    by_cases hlt : i < 3
    · have hi3 : (i : Int) + 1 ≤ 3 := by omega
      obtain ⟨z, hz⟩ : ∃ z : Int, z = (i : Int) + 1 := ⟨_, rfl⟩
      have HA := Lib.hid hz
      have hz1 : 1 ≤ z := by omega
      have hz3 : z ≤ 3 := by omega
      rw [← hz] at hi3 ⊢
      clear hz
      go_wp2_with fail
      refine (rword_any z w).mono ?_
      rintro e w9 ⟨rfl, rfl⟩
      by_cases h : wordS z = s
      · have e1 := eqt h
        have HQ := Lib.hid (show r = z from by
          rw [HR.out, ← h, HA.out]
          rcases (show i = 0 ∨ i = 1 ∨ i = 2 from by omega) with rfl | rfl | rfl
          · decide +kernel
          · decide +kernel
          · decide +kernel)
        clear h
        go_wp2
        go_ret
        exact ⟨by rw [HQ.out]; rfl, rfl⟩
      · have e1 := eqf h
        have HN := Lib.hid (show ∀ j : Nat, j < i + 1 → s ≠ wordS ((j + 1 : Nat) : Int) from fun j hj => by
          rcases Nat.lt_or_ge j i with h9 | h9
          · exact HNE.out j h9
          · obtain rfl : j = i := by omega
            rw [show ((j + 1 : Nat) : Int) = z from by have := HA.out; omega]
            exact fun e => h e.symm)
        clear h
        go_wp2
        go_roundg (gk - 1)
        · exact ⟨i + 1, by omega, by rw [HA.out]; rfl, HN.out, rfl⟩
        · omega
    · obtain rfl : i = 3 := by omega
      have HQ := Lib.hid (show r = 0 from by
        have h1 := HNE.out 0 (by omega)
        have h2 := HNE.out 1 (by omega)
        have h3 := HNE.out 2 (by omega)
        rw [HR.out, if_neg (fun e => h1 (by rw [e]; decide +kernel)), if_neg (fun e => h2 (by rw [e]; decide +kernel)), if_neg (fun e => h3 (by rw [e]; decide +kernel))])
      go_wp2
      go_ret
      exact ⟨by rw [HQ.out]; rfl, rfl⟩
def wspC (cur : List UInt8) (r : List UInt8) : List (List UInt8) := (cur ++ (wsp r).headD []) :: (wsp r).tail
theorem wspC_nil (r : List UInt8) : wspC [] r = wsp r := by
  unfold wspC
  obtain ⟨p, ps, e⟩ := wsp_cons r
  rw [e]; rfl
theorem wspC_sp (cur r : List UInt8) : wspC cur (32 :: r) = cur :: wspC [] r := by
  rw [wspC_nil]
  conv => lhs; unfold wspC wsp
  rw [if_pos rfl]
  simp
theorem wspC_by {b : UInt8} (cur r : List UInt8) (h : b ≠ 32) : wspC cur (b :: r) = wspC (cur ++ [b]) r := by
  conv => lhs; unfold wspC wsp
  rw [if_neg h]
  unfold wspC
  simp
theorem wspC_end (cur : List UInt8) : wspC cur [] = [cur] := by
  unfold wspC wsp
  simp
theorem bW_cons (p : List UInt8) (l : List (List UInt8)) : bW (p :: l) = ⟨p.toArray⟩ :: bW l := rfl
set_option maxRecDepth 100000 in
set_option maxHeartbeats 4000000 in
theorem rwords_any (s : ByteArray) (w : World) (hs : s.size ≤ 1000) : Calls Tryz.prog 49 #[.string s] w fun e w' => ∃ A n c, e = .returned (.slice A n c) ∧ LS.rd w' (fun b => w.heap.size ≤ b) A n (bW (wsp s.data.toList)) ∧ n ≤ c ∧ c ≤ 9223372036854775807 ∧ Below w.heap.size w w' := by
  obtain ⟨R, hR⟩ : ∃ R, R = bW (wsp s.data.toList) := ⟨_, rfl⟩
  rw [← hR]
  have HR := Lib.hid hR
  clear hR
  have HSL := Lib.hid (show s.data.toList.length = s.size from Array.length_toList)
  go_enter Tryz.func49, Tryz.ntmps49
  go_wp2_with fail
  go_loopg [3, 4, 5] s.size (fun g a b d wr => ∃ (i n : Nat) (A : Option Addr) (c : Nat) (cur : List UInt8) (D : List ByteArray), i + g = s.size ∧ n ≤ i ∧ a = .slice A n c ∧ b = .string ⟨cur.toArray⟩ ∧ d = .int .i64 i ∧ cur.length ≤ i ∧ Hid (R = D ++ bW (wspC cur (s.data.toList.drop i))) ∧ Hid (LS.own 9 wr w.heap.size (fun _ => True) A n c D) ∧ Hid (Below w.heap.size w wr))
  case atStart => exact ⟨0, 0, none, 0, [], [], by omega, Nat.le_refl _, rfl, rfl, rfl, Nat.le_refl _, Lib.hid (by rw [HR.out, List.drop_zero, wspC_nil]; rfl), Lib.hid (Lay.own_nil _ _), Lib.hid (Below.refl _ _)⟩
  case round =>
    obtain ⟨i, n, A, c, cur, D, hig, hni, rfl, rfl, rfl, hcl, HP, HOW, HBL⟩ := hrel
    obtain ⟨CW, hCW⟩ : ∃ CW : ByteArray, CW = ⟨cur.toArray⟩ := ⟨_, rfl⟩
    rw [← hCW]
    have HCW := Lib.hid hCW
    clear hCW
    by_cases hlt : i < s.size
    · have hi1 : (i : Int) < (s.size : Int) := by omega
      have HD := Lib.hid (show s.data.toList.drop i = s[i] :: s.data.toList.drop (i + 1) from by rw [List.drop_eq_getElem_cons (by rw [HSL.out]; exact hlt)]; rfl)
      by_cases hb : s[i].toNat = 32
      · have HN := Lib.hid (show R = (D ++ [CW]) ++ bW (wspC [] (s.data.toList.drop (i + 1))) from by
          rw [HP.out, HD.out, show s[i] = (32 : UInt8) from UInt8.toNat_inj.1 hb, wspC_sp, bW_cons, HCW.out, List.append_assoc]; rfl)
        clear HD HP
        have qy := bl_al (Below.refl wr.heap.size wr) (.cells #[.string CW] 9)
        have HOY := Lib.hid (LS_own_any (G' := fun b => b < wr.heap.size + 1) (Lay.own_below HOW.out qy))
        have HRY := Lib.hid (LS_blk (F := fun b => b = wr.heap.size) (n := 1) (l := [CW]) (Blk.new wr 9 #[.string CW]) rfl rfl)
        have HBY := Lib.hid (bl_ca HBL.out qy)
        have HOB := Lib.hid (fun k e => Lay.own_base HOW.out k e)
        have hszr := HBL.out.size
        clear qy HOW HBL
        go_wp2_with (at_builtin; refine wpList_appLs (L := LS) rfl (.tmp 16) (.tmp 18) 76 rfl _ 1 16 Tryz.underlying76 Tryz.strInfo rfl rfl (by omega) w.heap.size (fun b => b < wr.heap.size + 1) (fun b => b = wr.heap.size) A n c D (some ⟨wr.heap.size, 0, none⟩) 1 1 [CW] (n + 1) rfl rfl rfl HOY.out HRY.out (fun b hb _ => ⟨by omega, fun e => by have h9 := HOB.out b e; omega⟩) (fun b hb => by simp only [World.size_alloc]; omega) (by omega) (by unfold maxLen; omega) (by simp only [World.size_alloc]; omega) ?_; intro A9 c9 w9 ho9 hg9 hat9; have HBL9 := Lib.hid (HBY.out.grown hg9 HBY.out.size (fun k e => by have h9 := HOB.out k e; omega)); have HOW9 := Lib.hid (LS_own_any (G' := fun _ => True) ho9); clear ho9 hg9 hat9)
        go_roundg (gk - 1)
        · exact ⟨i + 1, n + 1, A9, c9, [], D ++ [CW], by omega, by omega, rfl, rfl, by go_num, Nat.zero_le _, HN, HOW9, HBL9⟩
        · omega
      · have HN := Lib.hid (show R = D ++ bW (wspC (cur ++ [s[i]]) (s.data.toList.drop (i + 1))) from by
          rw [HP.out, HD.out, wspC_by _ _ (fun e => hb (by rw [e]; rfl))])
        have HX := Lib.hid (show CW ++ s.extract i (i + 1) = ⟨(cur ++ [s[i]]).toArray⟩ from by
          rw [HCW.out]
          apply ByteArray.ext
          apply Array.toList_inj.1
          rw [ByteArray.data_append, Array.toList_append, Lib.extract_data, HD.out, show i + 1 - i = 1 from by omega]
          simp)
        have hcs : ¬ (9223372036854775807 < CW.size + (min (i + 1) s.size - i)) := by
          rw [HCW.out]
          show ¬ (9223372036854775807 < cur.toArray.size + (min (i + 1) s.size - i))
          rw [List.size_toArray]; omega
        clear HD HP
        go_wp2
        go_roundg (gk - 1)
        · exact ⟨i + 1, n, A, c, cur ++ [s[i]], D, by omega, by omega, rfl, by rw [HX.out], by go_num, by rw [List.length_append, List.length_singleton]; omega, HN, HOW, HBL⟩
        · omega
    · obtain rfl : i = s.size := by omega
      have hi1 : (s.size : Int) ≤ (s.size : Int) := by omega
      have HN := Lib.hid (show R = D ++ [CW] from by
        rw [HP.out, List.drop_of_length_le (by rw [HSL.out]; exact Nat.le_refl _), wspC_end, HCW.out]; rfl)
      clear HP
      have qy := bl_al (Below.refl wr.heap.size wr) (.cells #[.string CW] 9)
      have HOY := Lib.hid (LS_own_any (G' := fun b => b < wr.heap.size + 1) (Lay.own_below HOW.out qy))
      have HRY := Lib.hid (LS_blk (F := fun b => b = wr.heap.size) (n := 1) (l := [CW]) (Blk.new wr 9 #[.string CW]) rfl rfl)
      have HBY := Lib.hid (bl_ca HBL.out qy)
      have HOB := Lib.hid (fun k e => Lay.own_base HOW.out k e)
      have hszr := HBL.out.size
      clear qy HOW HBL
      go_wp2_with (at_builtin; refine wpList_appLs (L := LS) rfl (.tmp 27) (.tmp 29) 76 rfl _ 1 16 Tryz.underlying76 Tryz.strInfo rfl rfl (by omega) w.heap.size (fun b => b < wr.heap.size + 1) (fun b => b = wr.heap.size) A n c D (some ⟨wr.heap.size, 0, none⟩) 1 1 [CW] (n + 1) rfl rfl rfl HOY.out HRY.out (fun b hb _ => ⟨by omega, fun e => by have h9 := HOB.out b e; omega⟩) (fun b hb => by simp only [World.size_alloc]; omega) (by omega) (by unfold maxLen; omega) (by simp only [World.size_alloc]; omega) ?_; intro A9 c9 w9 ho9 hg9 hat9; have HBL9 := Lib.hid (HBY.out.grown hg9 HBY.out.size (fun k e => by have h9 := HOB.out k e; omega)); have HOW9 := Lib.hid (LS_own_any (G' := fun _ => True) ho9); clear ho9 hg9 hat9)
      have hcc := Lay.own_caps HOW9.out
      have HRD := Lib.hid (Lay.own_rd2 (F := fun b => w.heap.size ≤ b) (LS_own_any (G' := fun _ => False) HOW9.out) (fun b hb => (Lay.own_base HOW9.out b hb).1) (fun b h9 _ => h9.elim))
      go_ret
      exact ⟨A9, n + 1, c9, rfl, by rw [HN.out]; exact HRD.out, hcc.1, hcc.2, HBL9.out⟩
end Go.Proofs.YthgcdilkkldgjaaGreatDoor
