/- What is laid of tokens has these tokens; what is wrong stays wrong. Plain Lean. Conditions: none. -/
import Derived.Test.YtoaggmldekejoaaDoorLxM
namespace Go.Proofs.YtoaggmldekejoaaDoor
def noAt (t : Tk) : Tk := { t with at_ := 0 }
/-- may it be a token? -/
def rightU (t : Tk) : Bool :=
  decide (0 ≤ t.at_) && (if t.kind = 3 then decide (t.text = []) && decide (t.n < 9223372036854775808) else decide (t.n = 0) && (if t.kind = 1 then isWordB (bS t.text) else if t.kind = 2 then nameB (bS t.text) else if t.kind = 4 then plainU t.text else if t.kind = 5 then decide (t.text ∈ signsU) else false))
def quoU (l : List UInt8) : List UInt8 := l.flatMap fun b => if b = 39 then [39, 39] else [b]
/-- how it is written -/
def wrU (t : Tk) : List UInt8 := if t.kind = 3 then Lib.decDigits t.n else if t.kind = 4 then 39 :: (quoU t.text ++ [39]) else t.text
def sepU (x : List UInt8) : Prop := x = [] ∨ ∃ b r, x = b :: r ∧ blU b = true
/-- a text says a token, whatever blank stands behind -/
def Says (g : List UInt8) (t : Tk) : Prop := (∃ b r, g = b :: r ∧ blU b = false) ∧ ∀ x, sepU x → firstU (g ++ x) = (noAt t, g.length, true)
theorem bl_cases {b : UInt8} (h : blU b = true) : b = 32 ∨ b = 9 ∨ b = 10 ∨ b = 13 := by
  unfold blU blI at h
  simp only [Bool.or_eq_true, decide_eq_true_eq] at h
  have e : ∀ k : UInt8, (b.toNat : Int) = (k.toNat : Int) → b = k := fun k hk => UInt8.toNat_inj.1 (by omega)
  rcases h with h | h | h | h
  · exact Or.inl (e 32 h)
  · exact Or.inr (Or.inl (e 9 h))
  · exact Or.inr (Or.inr (Or.inl (e 10 h)))
  · exact Or.inr (Or.inr (Or.inr (e 13 h)))
theorem bl_not_pa {b : UInt8} (h : blU b = true) : paU b = false := by
  rcases bl_cases h with rfl | rfl | rfl | rfl <;> decide
theorem pa_not_bl {b : UInt8} (h : paU b = true) : blU b = false := by
  cases hb : blU b
  · rfl
  · rw [bl_not_pa hb] at h; cases h
theorem takeWhile_all {p : UInt8 → Bool} : ∀ {w x : List UInt8}, w.all p = true → (∀ b r, x = b :: r → p b = false) → (w ++ x).takeWhile p = w
  | [], x, _, hx => by
    cases x with
    | nil => rfl
    | cons b r => rw [List.nil_append, List.takeWhile_cons, if_neg (by simp [hx b r rfl])]
  | a :: w, x, h, hx => by
    rw [List.all_cons, Bool.and_eq_true] at h
    rw [List.cons_append, List.takeWhile_cons, if_pos h.1, takeWhile_all h.2 hx]
theorem sep_pa {x : List UInt8} (h : sepU x) : ∀ b r, x = b :: r → paU b = false := by
  intro b r e
  rcases h with h | ⟨b1, r1, h, hb⟩
  · rw [h] at e; cases e
  · rw [h] at e; cases e; exact bl_not_pa hb
/-- a row of parts with a blank behind -/
theorem first_row {w x : List UInt8} (hw : w.all paU = true) (h0 : w ≠ []) (hx : ∀ b r, x = b :: r → paU b = false) : firstU (w ++ x) = rowT w := by
  cases w with
  | nil => exact absurd rfl h0
  | cons b r =>
    have h2 := hw
    rw [List.all_cons, Bool.and_eq_true] at h2
    have e : ((b :: r) ++ x).takeWhile paU = b :: r := takeWhile_all hw hx
    rw [List.cons_append] at e ⊢
    rw [firstU, if_neg (by intro h; rw [h] at h2; exact absurd h2.1 (by decide)), if_pos h2.1, e]
theorem says_row {w : List UInt8} {t : Tk} (hw : w.all paU = true) (h0 : w ≠ []) (ht : rowT w = (noAt t, w.length, true)) : Says w t := by
  refine ⟨?_, fun x hx => (first_row hw h0 (sep_pa hx)).trans ht⟩
  cases w with
  | nil => exact absurd rfl h0
  | cons b r =>
    rw [List.all_cons, Bool.and_eq_true] at hw
    exact ⟨b, r, rfl, pa_not_bl hw.1⟩
/-! ### words -/
theorem words_pa : ∀ s ∈ wordsL, s.data.toList.all paU = true ∧ s.data.toList ≠ [] ∧ upL s.data.toList = s.data.toList ∧ numU s.data.toList = none := by decide
theorem isWord_mem {s : ByteArray} (h : isWordB s = true) : s ∈ wordsL := (Lib.containsS_iff wordsL s).1 h
def loB (b : UInt8) : UInt8 := if cpI (b.toNat : Int) then b + 32 else b
def loL (l : List UInt8) : List UInt8 := l.map loB
theorem words_lo : ∀ s ∈ wordsL, (loL s.data.toList).all paU = true ∧ loL s.data.toList ≠ [] ∧ upL (loL s.data.toList) = s.data.toList ∧ numU (loL s.data.toList) = none := by decide
theorem says_word {l : List UInt8} {t : Tk} (h : isWordB (bS l) = true) (ht : noAt t = ⟨1, 0, l, 0⟩) : Says l t := by
  obtain ⟨h1, h2, h3, h4⟩ := words_pa _ (isWord_mem h)
  refine says_row h1 h2 ?_
  simp only at h3 h4
  unfold rowT
  rw [h4]
  simp only
  rw [h3, if_pos h, ht]
theorem says_lower {l : List UInt8} {t : Tk} (h : isWordB (bS l) = true) (ht : noAt t = ⟨1, 0, l, 0⟩) : Says (loL l) t := by
  obtain ⟨h1, h2, h3, h4⟩ := words_lo _ (isWord_mem h)
  refine says_row h1 h2 ?_
  simp only at h3 h4
  unfold rowT
  rw [h4]
  simp only
  rw [h3, if_pos h, ht]
/-! ### names -/
theorem ok_pa {c : Int} (h : okI c = true) : paI c = true := by
  unfold okI at h; unfold paI
  revert h
  cases smI c <;> cases dgI c <;> simp
  exact Or.inr
theorem num_none {l : List UInt8} (h : ¬ l.all dgU = true) : numU l = none := if_neg fun h9 => h h9.1
theorem name_parts {l : List UInt8} (h : nameB (bS l) = true) : l.all paU = true ∧ l ≠ [] ∧ isWordB (bS (upL l)) = false ∧ ∃ b r, l = b :: r ∧ smI (b.toNat : Int) = true := by
  unfold nameB at h
  simp only [Bool.and_eq_true, Bool.not_eq_true', decide_eq_true_eq] at h
  obtain ⟨h1, _, h3, h4, h5⟩ := h
  cases l with
  | nil => exact absurd h1 (by decide)
  | cons b r =>
    refine ⟨?_, by simp, h5, b, r, rfl, h3⟩
    unfold bts at h4
    rw [List.all_map] at h4
    exact List.all_eq_true.2 fun x hx => ok_pa (List.all_eq_true.1 h4 x hx)
theorem says_name {l : List UInt8} {t : Tk} (h : nameB (bS l) = true) (ht : noAt t = ⟨2, 0, l, 0⟩) : Says l t := by
  obtain ⟨h1, h2, h3, b, r, e, hb⟩ := name_parts h
  refine says_row h1 h2 ?_
  have h4 : numU l = none := by
    refine num_none fun h9 => ?_
    rw [e, List.all_cons, Bool.and_eq_true] at h9
    have h8 := h9.1
    unfold dgU dgI at h8
    unfold smI at hb
    simp only [Bool.and_eq_true, decide_eq_true_eq] at h8 hb
    omega
  unfold rowT
  rw [h4]
  simp only
  rw [if_neg (by rw [h3]; simp), h, ht]
/-! ### numbers -/
theorem dig_nat {k : Nat} (h : k < 10) : (UInt8.ofNat (48 + k)).toNat = 48 + k := by rw [UInt8.toNat_ofNat']; omega
theorem valU_snoc (l : List UInt8) (a : Nat) (b : UInt8) : valU a (l ++ [b]) = valU a l * 10 + (b.toNat - 48) := by
  unfold valU; rw [List.foldl_append, List.foldl_cons, List.foldl_nil]
theorem dec_all (u : Nat) : (Lib.decDigits u).all dgU = true := by
  induction u using Nat.strongRecOn with
  | _ u ih =>
    have hd : ∀ k, k < 10 → dgU (UInt8.ofNat (48 + k)) = true := fun k hk => by
      unfold dgU dgI
      rw [dig_nat hk]
      simp only [Bool.and_eq_true, decide_eq_true_eq]
      omega
    rw [Lib.decDigits]
    split
    · rename_i h
      rw [List.all_cons, hd u h]; rfl
    · rw [List.all_append, ih (u / 10) (by omega), List.all_cons, hd (u % 10) (by omega)]; rfl
theorem dec_val (u : Nat) : valU 0 (Lib.decDigits u) = u := by
  induction u using Nat.strongRecOn with
  | _ u ih =>
    by_cases h : u < 10
    · rw [Lib.decDigits, dif_pos h, valU_cons, valU_nil, dig_nat h]; omega
    · rw [Lib.decDigits, dif_neg h, valU_snoc, ih (u / 10) (by omega), dig_nat (by omega)]; omega
theorem dec_ne (u : Nat) : Lib.decDigits u ≠ [] := by
  rw [Lib.decDigits]; split <;> simp
theorem dec_head (u : Nat) (h : 1 ≤ u) : (Lib.decDigits u).head? ≠ some 48 := by
  induction u using Nat.strongRecOn with
  | _ u ih =>
    rw [Lib.decDigits]
    split
    · rename_i h1
      intro h9
      simp only [List.head?_cons, Option.some.injEq] at h9
      have := congrArg UInt8.toNat h9
      rw [dig_nat h1] at this
      have h8 : (48 : UInt8).toNat = 48 := rfl
      omega
    · have := ih (u / 10) (by omega) (by omega)
      obtain ⟨c, l, e⟩ := List.exists_cons_of_ne_nil (dec_ne (u / 10))
      rw [e] at this ⊢
      exact this
theorem num_dec (u : Nat) (h : u < 9223372036854775808) : numU (Lib.decDigits u) = some u := by
  unfold numU
  rw [if_pos, dec_val]
  refine ⟨dec_all u, by rw [dec_val]; exact h, ?_⟩
  by_cases h1 : u < 10
  · left; rw [Lib.decDigits, dif_pos h1]; rfl
  · right; exact dec_head u (by omega)
theorem dg_pa {b : UInt8} (h : dgU b = true) : paU b = true := by
  unfold dgU at h; unfold paU paI; rw [h]; rfl
theorem says_num {u : Nat} {t : Tk} (h : u < 9223372036854775808) (ht : noAt t = ⟨3, 0, [], u⟩) : Says (Lib.decDigits u) t := by
  refine says_row (List.all_eq_true.2 fun x hx => dg_pa (List.all_eq_true.1 (dec_all u) x hx)) (dec_ne u) ?_
  unfold rowT
  rw [num_dec u h, ht]
/-! ### texts -/
theorem qGo_quo : ∀ (l x : List UInt8), (∀ b r, x = b :: r → b ≠ 39) → qGo (quoU l ++ (39 :: x)) = some (l, (quoU l).length + 1)
  | [], x, hx => by
    cases x with
    | nil => rfl
    | cons b r => exact (by rw [show quoU [] = [] from rfl, List.nil_append, qGo, if_neg (by simp), if_neg (hx b r rfl)]; rfl)
  | b :: l, x, hx => by
    have ih := qGo_quo l x hx
    by_cases h : b = 39
    · subst h
      rw [show quoU (39 :: l) = 39 :: 39 :: quoU l from rfl, List.cons_append, List.cons_append, qGo, if_neg (by simp), if_pos rfl, ih]
      rfl
    · rw [show quoU (b :: l) = b :: quoU l from by unfold quoU; rw [List.flatMap_cons, if_neg h]; rfl, List.cons_append]
      cases hq : quoU l ++ (39 :: x) with
      | nil => simp at hq
      | cons c r =>
        rw [qGo, if_pos h, ← hq, ih]
        rfl
theorem sep_quo {x : List UInt8} (h : sepU x) : ∀ b r, x = b :: r → b ≠ 39 := by
  intro b r e h9
  rcases h with h | ⟨b1, r1, h, hb⟩
  · rw [h] at e; cases e
  · rw [h] at e; cases e
    rw [h9] at hb
    exact absurd hb (by decide)
theorem says_text {l : List UInt8} {t : Tk} (h : plainU l = true) (ht : noAt t = ⟨4, 0, l, 0⟩) : Says (39 :: (quoU l ++ [39])) t := by
  refine ⟨⟨39, _, rfl, by decide⟩, fun x hx => ?_⟩
  rw [List.cons_append, List.append_assoc, List.singleton_append, firstU, if_pos rfl]
  unfold quoT
  rw [qGo_quo l x (sep_quo hx)]
  simp only
  rw [h, ht]
  simp
/-! ### signs -/
theorem sgn_sep : ∀ s ∈ signsU, (∃ b r, s = b :: r ∧ blU b = false ∧ b ≠ 39 ∧ paU b = false) := by
  intro s hs
  simp only [signsU, List.mem_cons, List.not_mem_nil, or_false] at hs
  rcases hs with h | h | h | h | h | h | h | h | h | h | h | h | h | h <;> subst h <;> exact ⟨_, _, rfl, by decide, by decide, by decide⟩
theorem sg_nil : ∀ s ∈ signsU, sgU s = some s := by decide
theorem pre_no {s l m : List UInt8} {c : UInt8} (h : c ∉ s) : s.isPrefixOf (l ++ c :: m) = s.isPrefixOf l := by
  induction s generalizing l with
  | nil => simp
  | cons a s ih =>
    rw [List.mem_cons, not_or] at h
    cases l with
    | nil =>
      show (a == c && s.isPrefixOf m) = false
      rw [show (a == c) = false from by simpa using fun e => h.1 e.symm]
      rfl
    | cons b l =>
      rw [List.cons_append, List.isPrefixOf, List.isPrefixOf, ih h.2]
theorem sg_no {l m : List UInt8} {c : UInt8} (h : ∀ s ∈ signsU, c ∉ s) : sgU (l ++ c :: m) = sgU l := by
  unfold sgU
  have e : ∀ (L : List (List UInt8)), (∀ s ∈ L, c ∉ s) → L.find? (fun x => x.isPrefixOf (l ++ c :: m)) = L.find? (fun x => x.isPrefixOf l) := by
    intro L hL
    induction L with
    | nil => rfl
    | cons s L ih =>
      rw [List.find?_cons, List.find?_cons, pre_no (hL s (by simp)), ih fun s hs => hL s (by simp [hs])]
  exact e signsU h
theorem bl_sgn {b : UInt8} (h : blU b = true) : ∀ s ∈ signsU, b ∉ s := by
  rcases bl_cases h with rfl | rfl | rfl | rfl <;> decide
theorem says_sign {l : List UInt8} {t : Tk} (h : l ∈ signsU) (ht : noAt t = ⟨5, 0, l, 0⟩) : Says l t := by
  obtain ⟨b, r, e, h1, h2, h3⟩ := sgn_sep l h
  refine ⟨⟨b, r, e, h1⟩, fun x hx => ?_⟩
  have hs : sgU (l ++ x) = some l := by
    rcases hx with rfl | ⟨c, y, rfl, hc⟩
    · rw [List.append_nil]; exact sg_nil l h
    · rw [sg_no (bl_sgn hc)]; exact sg_nil l h
  have e2 : firstU (l ++ x) = sgnT (l ++ x) := by
    rw [e, List.cons_append, firstU, if_neg h2, if_neg (by rw [h3]; simp)]
  rw [e2]
  unfold sgnT
  rw [hs, ht]
/-- what is laid of a token says it -/
theorem says_wr {t : Tk} (h : rightU t = true) : Says (wrU t) t := by
  obtain ⟨k, a, l, n⟩ := t
  unfold rightU at h
  simp only [Bool.and_eq_true, decide_eq_true_eq] at h
  obtain ⟨_, h⟩ := h
  unfold wrU
  simp only
  by_cases h3 : k = 3
  · subst h3
    simp only [if_true, Bool.and_eq_true, decide_eq_true_eq] at h
    rw [if_pos rfl]
    exact says_num h.2 (by unfold noAt; rw [h.1])
  · rw [if_neg h3] at h
    simp only [Bool.and_eq_true, decide_eq_true_eq] at h
    obtain ⟨rfl, h⟩ := h
    rw [if_neg h3]
    by_cases h1 : k = 1
    · subst h1
      rw [if_pos rfl] at h
      rw [if_neg (by decide)]
      exact says_word h rfl
    · rw [if_neg h1] at h
      by_cases h2 : k = 2
      · subst h2
        rw [if_pos rfl] at h
        rw [if_neg (by decide)]
        exact says_name h rfl
      · rw [if_neg h2] at h
        by_cases h4 : k = 4
        · subst h4
          rw [if_pos rfl] at h
          rw [if_pos rfl]
          exact says_text h rfl
        · rw [if_neg h4] at h
          by_cases h5 : k = 5
          · subst h5
            rw [if_pos rfl] at h
            simp only [decide_eq_true_eq] at h
            rw [if_neg (by decide)]
            exact says_sign h rfl
          · rw [if_neg h5] at h; cases h
/-! ### what is told -/
theorem first_right {l : List UInt8} (h : (firstU l).2.2 = true) (p : Nat) : rightU { (firstU l).1 with at_ := (p : Int) } = true := by
  cases l with
  | nil => simp [firstU] at h
  | cons b r =>
    rw [firstU] at h ⊢
    unfold rightU
    simp only [Bool.and_eq_true, decide_eq_true_eq]
    refine ⟨by omega, ?_⟩
    by_cases h1 : b = 39
    · rw [if_pos h1] at h ⊢
      unfold quoT at h ⊢
      split at h
      · simp at h
      · rename_i t k e
        simp only at h ⊢
        rw [h]
        rfl
    · rw [if_neg h1] at h ⊢
      by_cases h2 : paU b = true
      · rw [if_pos h2] at h ⊢
        unfold rowT at h ⊢
        split
        · rename_i k e
          unfold numU at e
          split at e
          · rename_i h9
            cases e
            simp only [if_true, decide_true, Bool.true_and, decide_eq_true_eq]
            exact h9.2.1
          · cases e
        · rename_i e
          rw [e] at h
          simp only at h
          split
          · rename_i h8
            simp only [h8]
            rfl
          · rename_i h8
            rw [if_neg h8] at h
            simp only at h ⊢
            rw [h]
            rfl
      · rw [if_neg h2] at h ⊢
        unfold sgnT at h ⊢
        split at h
        · simp at h
        · rename_i s e
          have := (sgU_mem e).1
          simp only [decide_eq_true this]
          rfl
theorem lexU_right : ∀ (f : Nat) (l : List UInt8) (p : Nat), ∀ t ∈ (lexU f l p).1, rightU t = true
  | 0, l, p, t, h => by simp [lexU] at h
  | f + 1, [], p, t, h => by simp [lexU] at h
  | f + 1, b :: r, p, t, h => by
    rw [lexU] at h
    split at h
    · exact lexU_right f r (p + 1) t h
    · split at h
      · rename_i h1
        rcases List.mem_cons.1 h with rfl | h
        · exact first_right h1 p
        · exact lexU_right f _ _ t h
      · cases h
theorem lexF_right (l : List UInt8) (p : Nat) : ∀ t ∈ (lexF l p).1, rightU t = true := lexU_right _ l p
/-! ### laid and read -/
theorem lexF_say {g x : List UInt8} {t : Tk} (h : Says g t) (hx : sepU x) (p : Nat) : lexF (g ++ x) p = ({ t with at_ := (p : Int) } :: (lexF x (p + g.length)).1, (lexF x (p + g.length)).2) := by
  obtain ⟨⟨b, r, e, hb⟩, hf⟩ := h
  have h1 := hf x hx
  have e2 : g ++ x = b :: (r ++ x) := by rw [e]; rfl
  rw [e2] at h1 ⊢
  rw [lexF_tok hb h1]
  rw [← e2, List.drop_left]
  rfl
theorem lexF_blanks : ∀ {g : List UInt8} {x : List UInt8} (_ : g.all blU = true) (p : Nat), lexF (g ++ x) p = lexF x (p + g.length)
  | [], x, _, p => rfl
  | b :: g, x, h, p => by
    rw [List.all_cons, Bool.and_eq_true] at h
    rw [List.cons_append, lexF_blank h.1, lexF_blanks h.2]
    congr 1
    simp only [List.length_cons]; omega
theorem blanks_sep {g x : List UInt8} (h : g.all blU = true) (hx : sepU x) : sepU (g ++ x) := by
  cases g with
  | nil => exact hx
  | cons b g =>
    rw [List.all_cons, Bool.and_eq_true] at h
    exact Or.inr ⟨b, g ++ x, rfl, h.1⟩
/-- tokens laid, each with blanks behind -/
def layU (f : Tk → List UInt8) (g : List UInt8) : List Tk → List UInt8
  | [] => []
  | t :: l => f t ++ (32 :: g) ++ layU f g l
theorem lay_lex {f : Tk → List UInt8} {g : List UInt8} (hg : g.all blU = true) : ∀ (l : List Tk) (_ : ∀ t ∈ l, Says (f t) t) (p : Nat), (lexF (layU f g l) p).2 = none ∧ (lexF (layU f g l) p).1.map noAt = l.map noAt
  | [], _, p => ⟨rfl, rfl⟩
  | t :: l, h, p => by
    have hb : (32 :: g).all blU = true := by rw [List.all_cons, hg]; decide
    have hs : sepU ((32 :: g) ++ layU f g l) := Or.inr ⟨32, g ++ layU f g l, rfl, by decide⟩
    unfold layU
    rw [List.append_assoc, lexF_say (h t (by simp)) hs, lexF_blanks hb]
    have ih := lay_lex hg l (fun u hu => h u (by simp [hu])) (p + (f t).length + (32 :: g).length)
    exact ⟨ih.1, by rw [List.map_cons, List.map_cons, ih.2]; rfl⟩
/-- tokens laid, parted by blanks -/
def joinU : List Tk → List UInt8
  | [] => []
  | [t] => wrU t
  | t :: u :: l => wrU t ++ (32 :: joinU (u :: l))
theorem join_lex : ∀ (l : List Tk) (_ : ∀ t ∈ l, rightU t = true) (p : Nat), (lexF (joinU l) p).2 = none ∧ (lexF (joinU l) p).1.map noAt = l.map noAt
  | [], _, p => ⟨rfl, rfl⟩
  | [t], h, p => by
    unfold joinU
    have := lexF_say (x := []) (says_wr (h t (by simp))) (Or.inl rfl) p
    rw [List.append_nil] at this
    rw [this]
    exact ⟨rfl, rfl⟩
  | t :: u :: l, h, p => by
    unfold joinU
    rw [lexF_say (says_wr (h t (by simp))) (Or.inr ⟨32, _, rfl, by decide⟩), lexF_blank (by decide)]
    have ih := join_lex (u :: l) (fun v hv => h v (by simp at hv ⊢; right; exact hv)) (p + (wrU t).length + 1)
    exact ⟨ih.1, by rw [List.map_cons, List.map_cons, ih.2]; rfl⟩
/-! ### places rise -/
def riseU : Nat → Nat → List Tk → Prop
  | _, _, [] => True
  | lo, hi, t :: l => (lo : Int) ≤ t.at_ ∧ t.at_ < (hi : Int) ∧ riseU (t.at_.toNat + 1) hi l
theorem rise_mono : ∀ {l : List Tk} {a b hi : Nat}, a ≤ b → riseU b hi l → riseU a hi l
  | [], _, _, _, _, _ => trivial
  | _ :: _, _, _, _, h, ⟨h1, h2, h3⟩ => ⟨by omega, h2, h3⟩
theorem lexF_rise : ∀ (k : Nat) (l : List UInt8) (p : Nat), l.length ≤ k → riseU p (p + l.length) (lexF l p).1
  | _, [], p, _ => by rw [lexF_nil]; trivial
  | 0, b :: r, p, h => by simp at h
  | k + 1, b :: r, p, h => by
    simp only [List.length_cons] at h
    by_cases hb : blU b = true
    · rw [lexF_blank hb]
      have := lexF_rise k r (p + 1) (by omega)
      rw [show p + 1 + r.length = p + (b :: r).length from by simp only [List.length_cons]; omega] at this
      exact rise_mono (by omega) this
    · have hb2 : blU b = false := by simpa using hb
      cases ho : (firstU (b :: r)).2.2
      · rw [lexF_bad hb2 ho]; trivial
      · have hp := first_pos ho
        rw [lexF_tok hb2 (t := (firstU (b :: r)).1) (n := (firstU (b :: r)).2.1) (by rw [← ho])]
        have := lexF_rise k ((b :: r).drop (firstU (b :: r)).2.1) (p + (firstU (b :: r)).2.1) (by simp only [List.length_drop, List.length_cons]; omega)
        rw [show p + (firstU (b :: r)).2.1 + ((b :: r).drop (firstU (b :: r)).2.1).length = p + (b :: r).length from by simp only [List.length_drop]; omega] at this
        exact ⟨by simp, by simp only [List.length_cons]; omega, rise_mono (by simp only [Int.toNat_natCast]; omega) this⟩
/-! ### what is wrong stays wrong -/
theorem qGo_more : ∀ {l t : List UInt8} {k : Nat} {m : List UInt8}, qGo l = some (t, k) → qGo (l ++ 32 :: m) = some (t, k)
  | [], t, k, m, h => by simp [qGo] at h
  | [b], t, k, m, h => by
    rw [qGo] at h
    split at h
    · rename_i hb
      cases h
      subst hb
      rw [List.cons_append, List.nil_append, qGo, if_neg (by simp), if_neg (by decide)]
    · cases h
  | b :: c :: r, t, k, m, h => by
    rw [qGo] at h
    rw [List.cons_append, List.cons_append, qGo]
    split at h
    · rename_i hb
      obtain ⟨⟨t1, k1⟩, h1, h2⟩ := Option.map_eq_some_iff.1 h
      have := qGo_more (m := m) h1
      rw [List.cons_append] at this
      rw [if_pos hb, this, Option.map_some, h2]
    · rename_i hb
      rw [if_neg hb]
      split at h
      · rename_i hc
        obtain ⟨⟨t1, k1⟩, h1, h2⟩ := Option.map_eq_some_iff.1 h
        rw [if_pos hc, qGo_more (m := m) h1, Option.map_some, h2]
      · rename_i hc
        rw [if_neg hc, h]
theorem takeWhile_more {p : UInt8 → Bool} {c : UInt8} (hc : p c = false) : ∀ (l m : List UInt8), (l ++ c :: m).takeWhile p = l.takeWhile p
  | [], m => by rw [List.nil_append, List.takeWhile_cons, if_neg (by simp [hc])]; rfl
  | a :: l, m => by rw [List.cons_append, List.takeWhile_cons, List.takeWhile_cons, takeWhile_more hc l m]
theorem first_more {b : UInt8} {r m : List UInt8} (h : b = 39 → (firstU (b :: r)).2.2 = true) : firstU (b :: r ++ 32 :: m) = firstU (b :: r) := by
  rw [List.cons_append, firstU, firstU]
  rw [firstU] at h
  by_cases h1 : b = 39
  · have h2 := h h1
    rw [if_pos h1] at h2
    rw [if_pos h1, if_pos h1]
    unfold quoT at h2 ⊢
    split at h2
    · simp at h2
    · rename_i t k e
      rw [qGo_more e]
  · rw [if_neg h1, if_neg h1, ← List.cons_append, takeWhile_more (by decide)]
    unfold sgnT
    rw [sg_no (by decide)]
theorem lexF_wrong : ∀ (k : Nat) (l : List UInt8) (p q : Nat), l.length ≤ k → (lexF l p).2 = some q → p ≤ q ∧ q < p + l.length ∧ ∀ m, l[q - p]? ≠ some 39 → (lexF (l ++ 32 :: m) p).2 = some q
  | _, [], p, q, _, h => by rw [lexF_nil] at h; cases h
  | 0, b :: r, p, q, hk, h => by simp at hk
  | k + 1, b :: r, p, q, hk, h => by
    simp only [List.length_cons] at hk
    by_cases hb : blU b = true
    · rw [lexF_blank hb] at h
      obtain ⟨h1, h2, h3⟩ := lexF_wrong k r (p + 1) q (by omega) h
      refine ⟨by omega, by simp only [List.length_cons]; omega, fun m hm => ?_⟩
      rw [List.cons_append, lexF_blank hb]
      refine h3 m ?_
      rw [show q - p = (q - (p + 1)) + 1 from by omega, List.getElem?_cons_succ] at hm
      exact hm
    · have hb2 : blU b = false := by simpa using hb
      cases ho : (firstU (b :: r)).2.2
      · rw [lexF_bad hb2 ho] at h
        cases h
        refine ⟨by omega, by simp, fun m hm => ?_⟩
        have hb3 : b ≠ 39 := by
          intro e
          rw [Nat.sub_self, List.getElem?_cons_zero, e] at hm
          exact hm rfl
        have e := first_more (r := r) (m := m) (fun h => absurd h hb3)
        rw [List.cons_append] at e ⊢
        rw [lexF_bad hb2 (by rw [e]; exact ho)]
      · have hp := first_pos ho
        have ht : firstU (b :: r) = ((firstU (b :: r)).1, (firstU (b :: r)).2.1, true) := by rw [← ho]
        rw [lexF_tok hb2 ht] at h
        simp only at h
        obtain ⟨h1, h2, h3⟩ := lexF_wrong k ((b :: r).drop (firstU (b :: r)).2.1) (p + (firstU (b :: r)).2.1) q (by simp only [List.length_drop, List.length_cons]; omega) h
        simp only [List.length_drop] at h2
        refine ⟨by omega, by omega, fun m hm => ?_⟩
        have e := first_more (r := r) (m := m) (fun _ => ho)
        have e2 : b :: r ++ 32 :: m = b :: (r ++ 32 :: m) := rfl
        rw [e2] at e ⊢
        rw [lexF_tok hb2 (e.trans ht)]
        simp only
        rw [← e2, List.drop_append_of_le_length hp.2]
        refine h3 m ?_
        rw [List.getElem?_drop, show (firstU (b :: r)).2.1 + (q - (p + (firstU (b :: r)).2.1)) = q - p from by omega]
        exact hm
end Go.Proofs.YtoaggmldekejoaaDoor
