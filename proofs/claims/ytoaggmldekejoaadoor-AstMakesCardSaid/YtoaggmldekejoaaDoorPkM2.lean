/- The layer's tokens in plain Lean: what a text's first token is, what its tokens are. Conditions: none. -/
import Derived.Test.YtoaggmldekejoaaDoorPkM1
import Derived.Lib.SlicesS
import Derived.Lib.ItoaNum
import Derived.Lib.MinMax
namespace Go.Proofs.YtoaggmldekejoaaDoor
/-- a small letter, a digit; a part of a name; a capital; a part of a row; a blank; what a value may hold -/
def smI (c : Int) : Bool := decide (97 ≤ c) && decide (c ≤ 122)
def dgI (c : Int) : Bool := decide (48 ≤ c) && decide (c ≤ 57)
def okI (c : Int) : Bool := smI c || (dgI c || decide (c = 95))
def cpI (c : Int) : Bool := decide (65 ≤ c) && decide (c ≤ 90)
def paI (c : Int) : Bool := dgI c || (smI c || (cpI c || decide (c = 95)))
def blI (c : Int) : Bool := decide (c = 32) || (decide (c = 9) || (decide (c = 10) || decide (c = 13)))
def plI (c : Int) : Bool := decide (32 ≤ c) && decide (c ≤ 126)
/-- the byte at a place -/
def bt (s : ByteArray) (i : Nat) : Int := ((s.data.toList.getD i 0).toNat : Int)
def bts (s : ByteArray) : List Int := s.data.toList.map fun b => (b.toNat : Int)
def upB (b : UInt8) : UInt8 := if smI (b.toNat : Int) then b - 32 else b
def upL (l : List UInt8) : List UInt8 := l.map upB
/-- the words of the language -/
def wordsL : List ByteArray := [⟨#[83, 69, 76, 69, 67, 84]⟩, ⟨#[68, 73, 83, 84, 73, 78, 67, 84]⟩, ⟨#[70, 82, 79, 77]⟩, ⟨#[76, 69, 70, 84]⟩, ⟨#[74, 79, 73, 78]⟩, ⟨#[79, 78]⟩, ⟨#[87, 72, 69, 82, 69]⟩, ⟨#[71, 82, 79, 85, 80]⟩, ⟨#[66, 89]⟩, ⟨#[72, 65, 86, 73, 78, 71]⟩, ⟨#[85, 78, 73, 79, 78]⟩, ⟨#[65, 76, 76]⟩, ⟨#[79, 82, 68, 69, 82]⟩, ⟨#[76, 73, 77, 73, 84]⟩, ⟨#[65, 83, 67]⟩, ⟨#[68, 69, 83, 67]⟩, ⟨#[65, 83]⟩, ⟨#[65, 78, 68]⟩, ⟨#[79, 82]⟩, ⟨#[78, 79, 84]⟩, ⟨#[73, 83]⟩, ⟨#[78, 85, 76, 76]⟩, ⟨#[84, 82, 85, 69]⟩, ⟨#[70, 65, 76, 83, 69]⟩, ⟨#[67, 79, 85, 78, 84]⟩, ⟨#[83, 85, 77]⟩, ⟨#[77, 73, 78]⟩, ⟨#[77, 65, 88]⟩]
def isWordB (s : ByteArray) : Bool := Lib.containsS wordsL s
def nameB (s : ByteArray) : Bool := decide (1 ≤ s.size) && (decide (s.size ≤ 16) && (smI (bt s 0) && ((bts s).all okI && !isWordB ⟨(upL s.data.toList).toArray⟩)))
/-- a text of these bytes -/
abbrev bS (l : List UInt8) : ByteArray := ⟨l.toArray⟩
/-- the signs, the longer ones first -/
def signsU : List (List UInt8) := [[60, 62], [60, 61], [62, 61], [40], [41], [44], [46], [42], [43], [45], [47], [61], [60], [62]]
/-- a token -/
structure Tk where
  kind : Int
  at_ : Int
  text : List UInt8
  n : Nat
deriving DecidableEq
def paU (b : UInt8) : Bool := paI (b.toNat : Int)
def dgU (b : UInt8) : Bool := dgI (b.toNat : Int)
def blU (b : UInt8) : Bool := blI (b.toNat : Int)
def plU (b : UInt8) : Bool := plI (b.toNat : Int)
/-- the number that digits say -/
def valU (a : Nat) (l : List UInt8) : Nat := l.foldl (fun a b => a * 10 + (b.toNat - 48)) a
theorem valU_nil (a : Nat) : valU a [] = a := by unfold valU; rw [List.foldl_nil]
theorem valU_cons (a : Nat) (b : UInt8) (r : List UInt8) : valU a (b :: r) = valU (a * 10 + (b.toNat - 48)) r := by unfold valU; rw [List.foldl_cons]
def numU (l : List UInt8) : Option Nat := if l.all dgU ∧ valU 0 l < 9223372036854775808 ∧ (l.length = 1 ∨ l.head? ≠ some 48) then some (valU 0 l) else none
def plainU (l : List UInt8) : Bool := decide (l.length ≤ 40) && l.all plU
/-- a text up to the quote that ends it, and how long it is there -/
def qGo : List UInt8 → Option (List UInt8 × Nat)
  | [] => none
  | [b] => if b = 39 then some ([], 1) else none
  | b :: c :: r => if b ≠ 39 then (qGo (c :: r)).map (fun p => (b :: p.1, p.2 + 1)) else if c = 39 then (qGo r).map (fun p => (39 :: p.1, p.2 + 2)) else some ([], 1)
def sgU (l : List UInt8) : Option (List UInt8) := signsU.find? fun x => x.isPrefixOf l
/-- what a row of parts is -/
def rowT (row : List UInt8) : Tk × Nat × Bool :=
  match numU row with
  | some k => (⟨3, 0, [], k⟩, row.length, true)
  | none => if isWordB (bS (upL row)) then (⟨1, 0, upL row, 0⟩, row.length, true) else (⟨2, 0, row, 0⟩, row.length, nameB (bS row))
def quoT (r : List UInt8) : Tk × Nat × Bool :=
  match qGo r with
  | none => (⟨4, 0, [], 0⟩, 0, false)
  | some (t, k) => (⟨4, 0, t, 0⟩, k + 1, plainU t)
def sgnT (l : List UInt8) : Tk × Nat × Bool :=
  match sgU l with
  | none => (⟨0, 0, [], 0⟩, 0, false)
  | some s => (⟨5, 0, s, 0⟩, s.length, true)
/-- the first token, how long it is, whether it is one -/
def firstU (l : List UInt8) : Tk × Nat × Bool :=
  match l with
  | [] => (⟨0, 0, [], 0⟩, 0, false)
  | b :: r => if b = 39 then quoT r else if paU b then rowT ((b :: r).takeWhile paU) else sgnT (b :: r)
/-- all of them; where it is wrong -/
def lexU : Nat → List UInt8 → Nat → List Tk × Option Nat
  | 0, _, _ => ([], none)
  | _ + 1, [], _ => ([], none)
  | f + 1, b :: r, p =>
    if blU b then lexU f r (p + 1)
    else if (firstU (b :: r)).2.2 then
      ({ (firstU (b :: r)).1 with at_ := (p : Int) } :: (lexU f ((b :: r).drop (firstU (b :: r)).2.1) (p + (firstU (b :: r)).2.1)).1, (lexU f ((b :: r).drop (firstU (b :: r)).2.1) (p + (firstU (b :: r)).2.1)).2)
    else ([], some p)
def lexF (l : List UInt8) (p : Nat) : List Tk × Option Nat := lexU l.length l p
/-! ### lengths -/
theorem qGo_pos : ∀ {l : List UInt8} {t : List UInt8} {k : Nat}, qGo l = some (t, k) → 1 ≤ k ∧ k ≤ l.length
  | [], t, k, h => by simp [qGo] at h
  | [b], t, k, h => by
    simp only [qGo] at h
    split at h
    · cases h; simp
    · cases h
  | b :: c :: r, t, k, h => by
    rw [qGo] at h
    split at h
    · obtain ⟨⟨t1, k1⟩, h1, h2⟩ := Option.map_eq_some_iff.1 h
      have := qGo_pos h1
      cases h2
      simp only [List.length_cons] at *
      omega
    · split at h
      · obtain ⟨⟨t1, k1⟩, h1, h2⟩ := Option.map_eq_some_iff.1 h
        have := qGo_pos h1
        cases h2
        simp only [List.length_cons] at *
        omega
      · cases h
        simp
theorem sgU_mem {l s : List UInt8} (h : sgU l = some s) : s ∈ signsU ∧ s.isPrefixOf l = true := ⟨List.mem_of_find?_eq_some h, by have := List.find?_some h; simpa using this⟩
theorem signs_pos : ∀ s ∈ signsU, 1 ≤ s.length := by decide
theorem takeWhile_le {α : Type} (p : α → Bool) : ∀ l : List α, (l.takeWhile p).length ≤ l.length
  | [] => Nat.le_refl _
  | a :: l => by
    rw [List.takeWhile_cons]
    split
    · simp only [List.length_cons]; have := takeWhile_le p l; omega
    · simp
theorem rowT_len (row : List UInt8) : (rowT row).2.1 = row.length := by
  unfold rowT
  split
  · rfl
  · split <;> rfl
theorem first_pos {l : List UInt8} (h : (firstU l).2.2 = true) : 1 ≤ (firstU l).2.1 ∧ (firstU l).2.1 ≤ l.length := by
  cases l with
  | nil => simp [firstU] at h
  | cons b r =>
    rw [firstU] at h ⊢
    by_cases h1 : b = 39
    · rw [if_pos h1] at h ⊢
      unfold quoT at h ⊢
      split at h
      · simp at h
      · rename_i t k e
        have := qGo_pos e
        simp only [List.length_cons]
        omega
    · rw [if_neg h1] at h ⊢
      by_cases h2 : paU b = true
      · rw [if_pos h2] at h ⊢
        rw [rowT_len]
        have := takeWhile_le paU (b :: r)
        refine ⟨?_, this⟩
        rw [List.takeWhile_cons, if_pos h2]
        simp
      · rw [if_neg h2] at h ⊢
        unfold sgnT at h ⊢
        split at h
        · simp at h
        · rename_i s e
          have := sgU_mem e
          have h3 := signs_pos s this.1
          have h4 := (List.isPrefixOf_iff_prefix.1 this.2).length_le
          simp only
          omega
theorem lexU_more : ∀ (f : Nat) (l : List UInt8) (p : Nat), l.length ≤ f → lexU f l p = lexU l.length l p
  | 0, l, p, h => by
    have : l = [] := List.eq_nil_of_length_eq_zero (by omega)
    subst this; rfl
  | f + 1, [], p, h => by simp [lexU]
  | f + 1, b :: r, p, h => by
    simp only [List.length_cons] at h ⊢
    have hr := lexU_more f r (p + 1) (by omega)
    rw [lexU, lexU]
    rw [hr]
    split
    · rfl
    · split
      · rename_i h1
        have hp := first_pos h1
        simp only [List.length_cons] at hp
        rw [lexU_more f ((b :: r).drop (firstU (b :: r)).2.1) _ (by simp only [List.length_drop, List.length_cons]; omega), lexU_more r.length ((b :: r).drop (firstU (b :: r)).2.1) _ (by simp only [List.length_drop, List.length_cons]; omega)]
      · rfl
termination_by f => f
theorem lexF_nil (p : Nat) : lexF [] p = ([], none) := rfl
theorem lexF_blank {b : UInt8} {r : List UInt8} {p : Nat} (h : blU b = true) : lexF (b :: r) p = lexF r (p + 1) := by
  unfold lexF
  rw [List.length_cons, lexU, if_pos h]
theorem lexF_tok {b : UInt8} {r : List UInt8} {p n : Nat} {t : Tk} (h : blU b = false) (hf : firstU (b :: r) = (t, n, true)) :
    lexF (b :: r) p = ({ t with at_ := (p : Int) } :: (lexF ((b :: r).drop n) (p + n)).1, (lexF ((b :: r).drop n) (p + n)).2) := by
  have h2 : (firstU (b :: r)).2.2 = true := by rw [hf]
  have hp := first_pos h2
  simp only [List.length_cons] at hp
  unfold lexF
  rw [List.length_cons, lexU, if_neg (by simp [h]), if_pos h2, hf]
  simp only
  rw [hf] at hp
  simp only at hp
  rw [lexU_more r.length _ _ (by simp only [List.length_drop, List.length_cons]; omega)]
theorem lexF_bad {b : UInt8} {r : List UInt8} {p : Nat} (h : blU b = false) (hf : (firstU (b :: r)).2.2 = false) : lexF (b :: r) p = ([], some p) := by
  unfold lexF
  rw [List.length_cons, lexU, if_neg (by simp [h]), if_neg (by simp [hf])]
end Go.Proofs.YtoaggmldekejoaaDoor
/- What is laid of tokens has these tokens; what is wrong stays wrong. Plain Lean. Conditions: none. -/
namespace Go.Proofs.YtoaggmldekejoaaDoor
def noAt (t : Tk) : Tk := { t with at_ := 0 }
/-- may it be a token? -/
def rightU (t : Tk) : Bool :=
  decide (0 ≤ t.at_) && (if t.kind = 3 then decide (t.text = []) && decide (t.n < 9223372036854775808) else decide (t.n = 0) && (if t.kind = 1 then isWordB (bS t.text) else if t.kind = 2 then nameB (bS t.text) else if t.kind = 4 then plainU t.text else if t.kind = 5 then decide (t.text ∈ signsU) else false))
def quoU (l : List UInt8) : List UInt8 := l.flatMap fun b => if b = 39 then [39, 39] else [b]
/-- how it is written -/
def wrU (t : Tk) : List UInt8 := if t.kind = 3 then Lib.decDigits t.n else if t.kind = 4 then 39 :: (quoU t.text ++ [39]) else t.text
def sepU (x : List UInt8) : Prop := x = [] ∨ ∃ b r, x = b :: r ∧ blU b = true
/-- a text says a token, whatever blank stands behind -/
def Says (g : List UInt8) (t : Tk) : Prop := (∃ b r, g = b :: r ∧ blU b = false) ∧ ∀ x, sepU x → firstU (g ++ x) = (noAt t, g.length, true)
theorem bl_cases {b : UInt8} (h : blU b = true) : b = 32 ∨ b = 9 ∨ b = 10 ∨ b = 13 := by
  unfold blU blI at h
  simp only [Bool.or_eq_true, decide_eq_true_eq] at h
  have e : ∀ k : UInt8, (b.toNat : Int) = (k.toNat : Int) → b = k := fun k hk => UInt8.toNat_inj.1 (by omega)
  rcases h with h | h | h | h
  · exact Or.inl (e 32 h)
  · exact Or.inr (Or.inl (e 9 h))
  · exact Or.inr (Or.inr (Or.inl (e 10 h)))
  · exact Or.inr (Or.inr (Or.inr (e 13 h)))
theorem bl_not_pa {b : UInt8} (h : blU b = true) : paU b = false := by
  rcases bl_cases h with rfl | rfl | rfl | rfl <;> decide
theorem pa_not_bl {b : UInt8} (h : paU b = true) : blU b = false := by
  cases hb : blU b
  · rfl
  · rw [bl_not_pa hb] at h; cases h
theorem takeWhile_all {p : UInt8 → Bool} : ∀ {w x : List UInt8}, w.all p = true → (∀ b r, x = b :: r → p b = false) → (w ++ x).takeWhile p = w
  | [], x, _, hx => by
    cases x with
    | nil => rfl
    | cons b r => rw [List.nil_append, List.takeWhile_cons, if_neg (by simp [hx b r rfl])]
  | a :: w, x, h, hx => by
    rw [List.all_cons, Bool.and_eq_true] at h
    rw [List.cons_append, List.takeWhile_cons, if_pos h.1, takeWhile_all h.2 hx]
theorem sep_pa {x : List UInt8} (h : sepU x) : ∀ b r, x = b :: r → paU b = false := by
  intro b r e
  rcases h with h | ⟨b1, r1, h, hb⟩
  · rw [h] at e; cases e
  · rw [h] at e; cases e; exact bl_not_pa hb
/-- a row of parts with a blank behind -/
theorem first_row {w x : List UInt8} (hw : w.all paU = true) (h0 : w ≠ []) (hx : ∀ b r, x = b :: r → paU b = false) : firstU (w ++ x) = rowT w := by
  cases w with
  | nil => exact absurd rfl h0
  | cons b r =>
    have h2 := hw
    rw [List.all_cons, Bool.and_eq_true] at h2
    have e : ((b :: r) ++ x).takeWhile paU = b :: r := takeWhile_all hw hx
    rw [List.cons_append] at e ⊢
    rw [firstU, if_neg (by intro h; rw [h] at h2; exact absurd h2.1 (by decide)), if_pos h2.1, e]
theorem says_row {w : List UInt8} {t : Tk} (hw : w.all paU = true) (h0 : w ≠ []) (ht : rowT w = (noAt t, w.length, true)) : Says w t := by
  refine ⟨?_, fun x hx => (first_row hw h0 (sep_pa hx)).trans ht⟩
  cases w with
  | nil => exact absurd rfl h0
  | cons b r =>
    rw [List.all_cons, Bool.and_eq_true] at hw
    exact ⟨b, r, rfl, pa_not_bl hw.1⟩
/-! ### words -/
theorem words_pa : ∀ s ∈ wordsL, s.data.toList.all paU = true ∧ s.data.toList ≠ [] ∧ upL s.data.toList = s.data.toList ∧ numU s.data.toList = none := by decide
theorem isWord_mem {s : ByteArray} (h : isWordB s = true) : s ∈ wordsL := (Lib.containsS_iff wordsL s).1 h
def loB (b : UInt8) : UInt8 := if cpI (b.toNat : Int) then b + 32 else b
def loL (l : List UInt8) : List UInt8 := l.map loB
theorem words_lo : ∀ s ∈ wordsL, (loL s.data.toList).all paU = true ∧ loL s.data.toList ≠ [] ∧ upL (loL s.data.toList) = s.data.toList ∧ numU (loL s.data.toList) = none := by decide
theorem says_word {l : List UInt8} {t : Tk} (h : isWordB (bS l) = true) (ht : noAt t = ⟨1, 0, l, 0⟩) : Says l t := by
  obtain ⟨h1, h2, h3, h4⟩ := words_pa _ (isWord_mem h)
  refine says_row h1 h2 ?_
  simp only at h3 h4
  unfold rowT
  rw [h4]
  simp only
  rw [h3, if_pos h, ht]
theorem says_lower {l : List UInt8} {t : Tk} (h : isWordB (bS l) = true) (ht : noAt t = ⟨1, 0, l, 0⟩) : Says (loL l) t := by
  obtain ⟨h1, h2, h3, h4⟩ := words_lo _ (isWord_mem h)
  refine says_row h1 h2 ?_
  simp only at h3 h4
  unfold rowT
  rw [h4]
  simp only
  rw [h3, if_pos h, ht]
/-! ### names -/
theorem ok_pa {c : Int} (h : okI c = true) : paI c = true := by
  unfold okI at h; unfold paI
  revert h
  cases smI c <;> cases dgI c <;> simp
  exact Or.inr
theorem num_none {l : List UInt8} (h : ¬ l.all dgU = true) : numU l = none := if_neg fun h9 => h h9.1
theorem name_parts {l : List UInt8} (h : nameB (bS l) = true) : l.all paU = true ∧ l ≠ [] ∧ isWordB (bS (upL l)) = false ∧ ∃ b r, l = b :: r ∧ smI (b.toNat : Int) = true := by
  unfold nameB at h
  simp only [Bool.and_eq_true, Bool.not_eq_true', decide_eq_true_eq] at h
  obtain ⟨h1, _, h3, h4, h5⟩ := h
  cases l with
  | nil => exact absurd h1 (by decide)
  | cons b r =>
    refine ⟨?_, by simp, h5, b, r, rfl, h3⟩
    unfold bts at h4
    rw [List.all_map] at h4
    exact List.all_eq_true.2 fun x hx => ok_pa (List.all_eq_true.1 h4 x hx)
theorem says_name {l : List UInt8} {t : Tk} (h : nameB (bS l) = true) (ht : noAt t = ⟨2, 0, l, 0⟩) : Says l t := by
  obtain ⟨h1, h2, h3, b, r, e, hb⟩ := name_parts h
  refine says_row h1 h2 ?_
  have h4 : numU l = none := by
    refine num_none fun h9 => ?_
    rw [e, List.all_cons, Bool.and_eq_true] at h9
    have h8 := h9.1
    unfold dgU dgI at h8
    unfold smI at hb
    simp only [Bool.and_eq_true, decide_eq_true_eq] at h8 hb
    omega
  unfold rowT
  rw [h4]
  simp only
  rw [if_neg (by rw [h3]; simp), h, ht]
/-! ### numbers -/
theorem dig_nat {k : Nat} (h : k < 10) : (UInt8.ofNat (48 + k)).toNat = 48 + k := by rw [UInt8.toNat_ofNat']; omega
theorem valU_snoc (l : List UInt8) (a : Nat) (b : UInt8) : valU a (l ++ [b]) = valU a l * 10 + (b.toNat - 48) := by
  unfold valU; rw [List.foldl_append, List.foldl_cons, List.foldl_nil]
theorem dec_all (u : Nat) : (Lib.decDigits u).all dgU = true := by
  induction u using Nat.strongRecOn with
  | _ u ih =>
    have hd : ∀ k, k < 10 → dgU (UInt8.ofNat (48 + k)) = true := fun k hk => by
      unfold dgU dgI
      rw [dig_nat hk]
      simp only [Bool.and_eq_true, decide_eq_true_eq]
      omega
    rw [Lib.decDigits]
    split
    · rename_i h
      rw [List.all_cons, hd u h]; rfl
    · rw [List.all_append, ih (u / 10) (by omega), List.all_cons, hd (u % 10) (by omega)]; rfl
theorem dec_val (u : Nat) : valU 0 (Lib.decDigits u) = u := by
  induction u using Nat.strongRecOn with
  | _ u ih =>
    by_cases h : u < 10
    · rw [Lib.decDigits, dif_pos h, valU_cons, valU_nil, dig_nat h]; omega
    · rw [Lib.decDigits, dif_neg h, valU_snoc, ih (u / 10) (by omega), dig_nat (by omega)]; omega
theorem dec_ne (u : Nat) : Lib.decDigits u ≠ [] := by
  rw [Lib.decDigits]; split <;> simp
theorem dec_head (u : Nat) (h : 1 ≤ u) : (Lib.decDigits u).head? ≠ some 48 := by
  induction u using Nat.strongRecOn with
  | _ u ih =>
    rw [Lib.decDigits]
    split
    · rename_i h1
      intro h9
      simp only [List.head?_cons, Option.some.injEq] at h9
      have := congrArg UInt8.toNat h9
      rw [dig_nat h1] at this
      have h8 : (48 : UInt8).toNat = 48 := rfl
      omega
    · have := ih (u / 10) (by omega) (by omega)
      obtain ⟨c, l, e⟩ := List.exists_cons_of_ne_nil (dec_ne (u / 10))
      rw [e] at this ⊢
      exact this
theorem num_dec (u : Nat) (h : u < 9223372036854775808) : numU (Lib.decDigits u) = some u := by
  unfold numU
  rw [if_pos, dec_val]
  refine ⟨dec_all u, by rw [dec_val]; exact h, ?_⟩
  by_cases h1 : u < 10
  · left; rw [Lib.decDigits, dif_pos h1]; rfl
  · right; exact dec_head u (by omega)
theorem dg_pa {b : UInt8} (h : dgU b = true) : paU b = true := by
  unfold dgU at h; unfold paU paI; rw [h]; rfl
theorem says_num {u : Nat} {t : Tk} (h : u < 9223372036854775808) (ht : noAt t = ⟨3, 0, [], u⟩) : Says (Lib.decDigits u) t := by
  refine says_row (List.all_eq_true.2 fun x hx => dg_pa (List.all_eq_true.1 (dec_all u) x hx)) (dec_ne u) ?_
  unfold rowT
  rw [num_dec u h, ht]
/-! ### texts -/
theorem qGo_quo : ∀ (l x : List UInt8), (∀ b r, x = b :: r → b ≠ 39) → qGo (quoU l ++ (39 :: x)) = some (l, (quoU l).length + 1)
  | [], x, hx => by
    cases x with
    | nil => rfl
    | cons b r => exact (by rw [show quoU [] = [] from rfl, List.nil_append, qGo, if_neg (by simp), if_neg (hx b r rfl)]; rfl)
  | b :: l, x, hx => by
    have ih := qGo_quo l x hx
    by_cases h : b = 39
    · subst h
      rw [show quoU (39 :: l) = 39 :: 39 :: quoU l from rfl, List.cons_append, List.cons_append, qGo, if_neg (by simp), if_pos rfl, ih]
      rfl
    · rw [show quoU (b :: l) = b :: quoU l from by unfold quoU; rw [List.flatMap_cons, if_neg h]; rfl, List.cons_append]
      cases hq : quoU l ++ (39 :: x) with
      | nil => simp at hq
      | cons c r =>
        rw [qGo, if_pos h, ← hq, ih]
        rfl
theorem sep_quo {x : List UInt8} (h : sepU x) : ∀ b r, x = b :: r → b ≠ 39 := by
  intro b r e h9
  rcases h with h | ⟨b1, r1, h, hb⟩
  · rw [h] at e; cases e
  · rw [h] at e; cases e
    rw [h9] at hb
    exact absurd hb (by decide)
theorem says_text {l : List UInt8} {t : Tk} (h : plainU l = true) (ht : noAt t = ⟨4, 0, l, 0⟩) : Says (39 :: (quoU l ++ [39])) t := by
  refine ⟨⟨39, _, rfl, by decide⟩, fun x hx => ?_⟩
  rw [List.cons_append, List.append_assoc, List.singleton_append, firstU, if_pos rfl]
  unfold quoT
  rw [qGo_quo l x (sep_quo hx)]
  simp only
  rw [h, ht]
  simp
/-! ### signs -/
theorem sgn_sep : ∀ s ∈ signsU, (∃ b r, s = b :: r ∧ blU b = false ∧ b ≠ 39 ∧ paU b = false) := by
  intro s hs
  simp only [signsU, List.mem_cons, List.not_mem_nil, or_false] at hs
  rcases hs with h | h | h | h | h | h | h | h | h | h | h | h | h | h <;> subst h <;> exact ⟨_, _, rfl, by decide, by decide, by decide⟩
theorem sg_nil : ∀ s ∈ signsU, sgU s = some s := by decide
theorem pre_no {s l m : List UInt8} {c : UInt8} (h : c ∉ s) : s.isPrefixOf (l ++ c :: m) = s.isPrefixOf l := by
  induction s generalizing l with
  | nil => simp
  | cons a s ih =>
    rw [List.mem_cons, not_or] at h
    cases l with
    | nil =>
      show (a == c && s.isPrefixOf m) = false
      rw [show (a == c) = false from by simpa using fun e => h.1 e.symm]
      rfl
    | cons b l =>
      rw [List.cons_append, List.isPrefixOf, List.isPrefixOf, ih h.2]
theorem sg_no {l m : List UInt8} {c : UInt8} (h : ∀ s ∈ signsU, c ∉ s) : sgU (l ++ c :: m) = sgU l := by
  unfold sgU
  have e : ∀ (L : List (List UInt8)), (∀ s ∈ L, c ∉ s) → L.find? (fun x => x.isPrefixOf (l ++ c :: m)) = L.find? (fun x => x.isPrefixOf l) := by
    intro L hL
    induction L with
    | nil => rfl
    | cons s L ih =>
      rw [List.find?_cons, List.find?_cons, pre_no (hL s (by simp)), ih fun s hs => hL s (by simp [hs])]
  exact e signsU h
theorem bl_sgn {b : UInt8} (h : blU b = true) : ∀ s ∈ signsU, b ∉ s := by
  rcases bl_cases h with rfl | rfl | rfl | rfl <;> decide
theorem says_sign {l : List UInt8} {t : Tk} (h : l ∈ signsU) (ht : noAt t = ⟨5, 0, l, 0⟩) : Says l t := by
  obtain ⟨b, r, e, h1, h2, h3⟩ := sgn_sep l h
  refine ⟨⟨b, r, e, h1⟩, fun x hx => ?_⟩
  have hs : sgU (l ++ x) = some l := by
    rcases hx with rfl | ⟨c, y, rfl, hc⟩
    · rw [List.append_nil]; exact sg_nil l h
    · rw [sg_no (bl_sgn hc)]; exact sg_nil l h
  have e2 : firstU (l ++ x) = sgnT (l ++ x) := by
    rw [e, List.cons_append, firstU, if_neg h2, if_neg (by rw [h3]; simp)]
  rw [e2]
  unfold sgnT
  rw [hs, ht]
/-- what is laid of a token says it -/
theorem says_wr {t : Tk} (h : rightU t = true) : Says (wrU t) t := by
  obtain ⟨k, a, l, n⟩ := t
  unfold rightU at h
  simp only [Bool.and_eq_true, decide_eq_true_eq] at h
  obtain ⟨_, h⟩ := h
  unfold wrU
  simp only
  by_cases h3 : k = 3
  · subst h3
    simp only [if_true, Bool.and_eq_true, decide_eq_true_eq] at h
    rw [if_pos rfl]
    exact says_num h.2 (by unfold noAt; rw [h.1])
  · rw [if_neg h3] at h
    simp only [Bool.and_eq_true, decide_eq_true_eq] at h
    obtain ⟨rfl, h⟩ := h
    rw [if_neg h3]
    by_cases h1 : k = 1
    · subst h1
      rw [if_pos rfl] at h
      rw [if_neg (by decide)]
      exact says_word h rfl
    · rw [if_neg h1] at h
      by_cases h2 : k = 2
      · subst h2
        rw [if_pos rfl] at h
        rw [if_neg (by decide)]
        exact says_name h rfl
      · rw [if_neg h2] at h
        by_cases h4 : k = 4
        · subst h4
          rw [if_pos rfl] at h
          rw [if_pos rfl]
          exact says_text h rfl
        · rw [if_neg h4] at h
          by_cases h5 : k = 5
          · subst h5
            rw [if_pos rfl] at h
            simp only [decide_eq_true_eq] at h
            rw [if_neg (by decide)]
            exact says_sign h rfl
          · rw [if_neg h5] at h; cases h
/-! ### what is told -/
theorem first_right {l : List UInt8} (h : (firstU l).2.2 = true) (p : Nat) : rightU { (firstU l).1 with at_ := (p : Int) } = true := by
  cases l with
  | nil => simp [firstU] at h
  | cons b r =>
    rw [firstU] at h ⊢
    unfold rightU
    simp only [Bool.and_eq_true, decide_eq_true_eq]
    refine ⟨by omega, ?_⟩
    by_cases h1 : b = 39
    · rw [if_pos h1] at h ⊢
      unfold quoT at h ⊢
      split at h
      · simp at h
      · rename_i t k e
        simp only at h ⊢
        rw [h]
        rfl
    · rw [if_neg h1] at h ⊢
      by_cases h2 : paU b = true
      · rw [if_pos h2] at h ⊢
        unfold rowT at h ⊢
        split
        · rename_i k e
          unfold numU at e
          split at e
          · rename_i h9
            cases e
            simp only [if_true, decide_true, Bool.true_and, decide_eq_true_eq]
            exact h9.2.1
          · cases e
        · rename_i e
          rw [e] at h
          simp only at h
          split
          · rename_i h8
            simp only [h8]
            rfl
          · rename_i h8
            rw [if_neg h8] at h
            simp only at h ⊢
            rw [h]
            rfl
      · rw [if_neg h2] at h ⊢
        unfold sgnT at h ⊢
        split at h
        · simp at h
        · rename_i s e
          have := (sgU_mem e).1
          simp only [decide_eq_true this]
          rfl
theorem lexU_right : ∀ (f : Nat) (l : List UInt8) (p : Nat), ∀ t ∈ (lexU f l p).1, rightU t = true
  | 0, l, p, t, h => by simp [lexU] at h
  | f + 1, [], p, t, h => by simp [lexU] at h
  | f + 1, b :: r, p, t, h => by
    rw [lexU] at h
    split at h
    · exact lexU_right f r (p + 1) t h
    · split at h
      · rename_i h1
        rcases List.mem_cons.1 h with rfl | h
        · exact first_right h1 p
        · exact lexU_right f _ _ t h
      · cases h
theorem lexF_right (l : List UInt8) (p : Nat) : ∀ t ∈ (lexF l p).1, rightU t = true := lexU_right _ l p
/-! ### laid and read -/
theorem lexF_say {g x : List UInt8} {t : Tk} (h : Says g t) (hx : sepU x) (p : Nat) : lexF (g ++ x) p = ({ t with at_ := (p : Int) } :: (lexF x (p + g.length)).1, (lexF x (p + g.length)).2) := by
  obtain ⟨⟨b, r, e, hb⟩, hf⟩ := h
  have h1 := hf x hx
  have e2 : g ++ x = b :: (r ++ x) := by rw [e]; rfl
  rw [e2] at h1 ⊢
  rw [lexF_tok hb h1]
  rw [← e2, List.drop_left]
  rfl
theorem lexF_blanks : ∀ {g : List UInt8} {x : List UInt8} (_ : g.all blU = true) (p : Nat), lexF (g ++ x) p = lexF x (p + g.length)
  | [], x, _, p => rfl
  | b :: g, x, h, p => by
    rw [List.all_cons, Bool.and_eq_true] at h
    rw [List.cons_append, lexF_blank h.1, lexF_blanks h.2]
    congr 1
    simp only [List.length_cons]; omega
theorem blanks_sep {g x : List UInt8} (h : g.all blU = true) (hx : sepU x) : sepU (g ++ x) := by
  cases g with
  | nil => exact hx
  | cons b g =>
    rw [List.all_cons, Bool.and_eq_true] at h
    exact Or.inr ⟨b, g ++ x, rfl, h.1⟩
/-- tokens laid, each with blanks behind -/
def layU (f : Tk → List UInt8) (g : List UInt8) : List Tk → List UInt8
  | [] => []
  | t :: l => f t ++ (32 :: g) ++ layU f g l
theorem lay_lex {f : Tk → List UInt8} {g : List UInt8} (hg : g.all blU = true) : ∀ (l : List Tk) (_ : ∀ t ∈ l, Says (f t) t) (p : Nat), (lexF (layU f g l) p).2 = none ∧ (lexF (layU f g l) p).1.map noAt = l.map noAt
  | [], _, p => ⟨rfl, rfl⟩
  | t :: l, h, p => by
    have hb : (32 :: g).all blU = true := by rw [List.all_cons, hg]; decide
    have hs : sepU ((32 :: g) ++ layU f g l) := Or.inr ⟨32, g ++ layU f g l, rfl, by decide⟩
    unfold layU
    rw [List.append_assoc, lexF_say (h t (by simp)) hs, lexF_blanks hb]
    have ih := lay_lex hg l (fun u hu => h u (by simp [hu])) (p + (f t).length + (32 :: g).length)
    exact ⟨ih.1, by rw [List.map_cons, List.map_cons, ih.2]; rfl⟩
/-- tokens laid, parted by blanks -/
def joinU : List Tk → List UInt8
  | [] => []
  | [t] => wrU t
  | t :: u :: l => wrU t ++ (32 :: joinU (u :: l))
theorem join_lex : ∀ (l : List Tk) (_ : ∀ t ∈ l, rightU t = true) (p : Nat), (lexF (joinU l) p).2 = none ∧ (lexF (joinU l) p).1.map noAt = l.map noAt
  | [], _, p => ⟨rfl, rfl⟩
  | [t], h, p => by
    unfold joinU
    have := lexF_say (x := []) (says_wr (h t (by simp))) (Or.inl rfl) p
    rw [List.append_nil] at this
    rw [this]
    exact ⟨rfl, rfl⟩
  | t :: u :: l, h, p => by
    unfold joinU
    rw [lexF_say (says_wr (h t (by simp))) (Or.inr ⟨32, _, rfl, by decide⟩), lexF_blank (by decide)]
    have ih := join_lex (u :: l) (fun v hv => h v (by simp at hv ⊢; right; exact hv)) (p + (wrU t).length + 1)
    exact ⟨ih.1, by rw [List.map_cons, List.map_cons, ih.2]; rfl⟩
/-! ### places rise -/
def riseU : Nat → Nat → List Tk → Prop
  | _, _, [] => True
  | lo, hi, t :: l => (lo : Int) ≤ t.at_ ∧ t.at_ < (hi : Int) ∧ riseU (t.at_.toNat + 1) hi l
theorem rise_mono : ∀ {l : List Tk} {a b hi : Nat}, a ≤ b → riseU b hi l → riseU a hi l
  | [], _, _, _, _, _ => trivial
  | _ :: _, _, _, _, h, ⟨h1, h2, h3⟩ => ⟨by omega, h2, h3⟩
theorem lexF_rise : ∀ (k : Nat) (l : List UInt8) (p : Nat), l.length ≤ k → riseU p (p + l.length) (lexF l p).1
  | _, [], p, _ => by rw [lexF_nil]; trivial
  | 0, b :: r, p, h => by simp at h
  | k + 1, b :: r, p, h => by
    simp only [List.length_cons] at h
    by_cases hb : blU b = true
    · rw [lexF_blank hb]
      have := lexF_rise k r (p + 1) (by omega)
      rw [show p + 1 + r.length = p + (b :: r).length from by simp only [List.length_cons]; omega] at this
      exact rise_mono (by omega) this
    · have hb2 : blU b = false := by simpa using hb
      cases ho : (firstU (b :: r)).2.2
      · rw [lexF_bad hb2 ho]; trivial
      · have hp := first_pos ho
        rw [lexF_tok hb2 (t := (firstU (b :: r)).1) (n := (firstU (b :: r)).2.1) (by rw [← ho])]
        have := lexF_rise k ((b :: r).drop (firstU (b :: r)).2.1) (p + (firstU (b :: r)).2.1) (by simp only [List.length_drop, List.length_cons]; omega)
        rw [show p + (firstU (b :: r)).2.1 + ((b :: r).drop (firstU (b :: r)).2.1).length = p + (b :: r).length from by simp only [List.length_drop]; omega] at this
        exact ⟨by simp, by simp only [List.length_cons]; omega, rise_mono (by simp only [Int.toNat_natCast]; omega) this⟩
/-! ### what is wrong stays wrong -/
theorem qGo_more : ∀ {l t : List UInt8} {k : Nat} {m : List UInt8}, qGo l = some (t, k) → qGo (l ++ 32 :: m) = some (t, k)
  | [], t, k, m, h => by simp [qGo] at h
  | [b], t, k, m, h => by
    rw [qGo] at h
    split at h
    · rename_i hb
      cases h
      subst hb
      rw [List.cons_append, List.nil_append, qGo, if_neg (by simp), if_neg (by decide)]
    · cases h
  | b :: c :: r, t, k, m, h => by
    rw [qGo] at h
    rw [List.cons_append, List.cons_append, qGo]
    split at h
    · rename_i hb
      obtain ⟨⟨t1, k1⟩, h1, h2⟩ := Option.map_eq_some_iff.1 h
      have := qGo_more (m := m) h1
      rw [List.cons_append] at this
      rw [if_pos hb, this, Option.map_some, h2]
    · rename_i hb
      rw [if_neg hb]
      split at h
      · rename_i hc
        obtain ⟨⟨t1, k1⟩, h1, h2⟩ := Option.map_eq_some_iff.1 h
        rw [if_pos hc, qGo_more (m := m) h1, Option.map_some, h2]
      · rename_i hc
        rw [if_neg hc, h]
theorem takeWhile_more {p : UInt8 → Bool} {c : UInt8} (hc : p c = false) : ∀ (l m : List UInt8), (l ++ c :: m).takeWhile p = l.takeWhile p
  | [], m => by rw [List.nil_append, List.takeWhile_cons, if_neg (by simp [hc])]; rfl
  | a :: l, m => by rw [List.cons_append, List.takeWhile_cons, List.takeWhile_cons, takeWhile_more hc l m]
theorem first_more {b : UInt8} {r m : List UInt8} (h : b = 39 → (firstU (b :: r)).2.2 = true) : firstU (b :: r ++ 32 :: m) = firstU (b :: r) := by
  rw [List.cons_append, firstU, firstU]
  rw [firstU] at h
  by_cases h1 : b = 39
  · have h2 := h h1
    rw [if_pos h1] at h2
    rw [if_pos h1, if_pos h1]
    unfold quoT at h2 ⊢
    split at h2
    · simp at h2
    · rename_i t k e
      rw [qGo_more e]
  · rw [if_neg h1, if_neg h1, ← List.cons_append, takeWhile_more (by decide)]
    unfold sgnT
    rw [sg_no (by decide)]
theorem lexF_wrong : ∀ (k : Nat) (l : List UInt8) (p q : Nat), l.length ≤ k → (lexF l p).2 = some q → p ≤ q ∧ q < p + l.length ∧ ∀ m, l[q - p]? ≠ some 39 → (lexF (l ++ 32 :: m) p).2 = some q
  | _, [], p, q, _, h => by rw [lexF_nil] at h; cases h
  | 0, b :: r, p, q, hk, h => by simp at hk
  | k + 1, b :: r, p, q, hk, h => by
    simp only [List.length_cons] at hk
    by_cases hb : blU b = true
    · rw [lexF_blank hb] at h
      obtain ⟨h1, h2, h3⟩ := lexF_wrong k r (p + 1) q (by omega) h
      refine ⟨by omega, by simp only [List.length_cons]; omega, fun m hm => ?_⟩
      rw [List.cons_append, lexF_blank hb]
      refine h3 m ?_
      rw [show q - p = (q - (p + 1)) + 1 from by omega, List.getElem?_cons_succ] at hm
      exact hm
    · have hb2 : blU b = false := by simpa using hb
      cases ho : (firstU (b :: r)).2.2
      · rw [lexF_bad hb2 ho] at h
        cases h
        refine ⟨by omega, by simp, fun m hm => ?_⟩
        have hb3 : b ≠ 39 := by
          intro e
          rw [Nat.sub_self, List.getElem?_cons_zero, e] at hm
          exact hm rfl
        have e := first_more (r := r) (m := m) (fun h => absurd h hb3)
        rw [List.cons_append] at e ⊢
        rw [lexF_bad hb2 (by rw [e]; exact ho)]
      · have hp := first_pos ho
        have ht : firstU (b :: r) = ((firstU (b :: r)).1, (firstU (b :: r)).2.1, true) := by rw [← ho]
        rw [lexF_tok hb2 ht] at h
        simp only at h
        obtain ⟨h1, h2, h3⟩ := lexF_wrong k ((b :: r).drop (firstU (b :: r)).2.1) (p + (firstU (b :: r)).2.1) q (by simp only [List.length_drop, List.length_cons]; omega) h
        simp only [List.length_drop] at h2
        refine ⟨by omega, by omega, fun m hm => ?_⟩
        have e := first_more (r := r) (m := m) (fun _ => ho)
        have e2 : b :: r ++ 32 :: m = b :: (r ++ 32 :: m) := rfl
        rw [e2] at e ⊢
        rw [lexF_tok hb2 (e.trans ht)]
        simp only
        rw [← e2, List.drop_append_of_le_length hp.2]
        refine h3 m ?_
        rw [List.getElem?_drop, show (firstU (b :: r)).2.1 + (q - (p + (firstU (b :: r)).2.1)) = q - p from by omega]
        exact hm
end Go.Proofs.YtoaggmldekejoaaDoor
/- Trees in plain Lean: rows of nodes, each behind its parts. Conditions: none. -/
namespace Go.Proofs.YtoaggmldekejoaaDoor
/-- what a node holds, but for its places -/
structure Py where
  tag : Int
  k : Int
  n : Int
  u : Int
  s : ByteArray
  tb : ByteArray
  nm : ByteArray
deriving DecidableEq
structure Nd where
  p : Py
  l : Int
  r : Int
deriving DecidableEq
def partsI (t : Int) : Int := if t < 1 then -1 else if 23 < t then -1 else if t ≤ 3 then 0 else if t ≤ 11 then 1 else 2
inductive Tr where
  | leaf (p : Py)
  | one (p : Py) (a : Tr)
  | two (p : Py) (a b : Tr)
namespace Tr
def size : Tr → Nat
  | leaf _ => 1
  | one _ a => a.size + 1
  | two _ a b => a.size + b.size + 1
def depth : Tr → Nat
  | leaf _ => 1
  | one _ a => a.depth + 1
  | two _ a b => max b.depth a.depth + 1
/-- the nodes, from a place on -/
def flat : Nat → Tr → List Nd
  | _, leaf p => [⟨p, -1, -1⟩]
  | o, one p a => a.flat o ++ [⟨p, ((o + a.size : Nat) : Int) - 1, -1⟩]
  | o, two p a b => a.flat o ++ (b.flat (o + a.size) ++ [⟨p, ((o + a.size : Nat) : Int) - 1, ((o + a.size + b.size : Nat) : Int) - 1⟩])
def ok (c : Py → Bool) : Tr → Bool
  | leaf p => decide (partsI p.tag = 0) && c p
  | one p a => decide (partsI p.tag = 1) && (c p && a.ok c)
  | two p a b => decide (partsI p.tag = 2) && (c p && (a.ok c && b.ok c))
theorem size_pos : ∀ t : Tr, 1 ≤ t.size
  | leaf _ => Nat.le_refl _
  | one _ a => by unfold size; omega
  | two _ a b => by unfold size; omega
theorem depth_pos : ∀ t : Tr, 1 ≤ t.depth
  | leaf _ => Nat.le_refl _
  | one _ a => by unfold depth; omega
  | two _ a b => by unfold depth; omega
theorem flat_len : ∀ (t : Tr) (o : Nat), (t.flat o).length = t.size
  | leaf _, _ => rfl
  | one _ a, o => by unfold flat size; rw [List.length_append, flat_len a]; rfl
  | two _ a b, o => by unfold flat size; rw [List.length_append, List.length_append, flat_len a, flat_len b]; simp only [List.length_cons, List.length_nil]; omega
end Tr
/-- the trees that stand open, the last one first -/
def sizes : List Tr → Nat
  | [] => 0
  | t :: r => sizes r + t.size
def flats : List Tr → List Nd
  | [] => []
  | t :: r => flats r ++ t.flat (sizes r)
def allOk (c : Py → Bool) (l : List Tr) : Prop := ∀ t ∈ l, t.ok c = true
theorem flats_len : ∀ l : List Tr, (flats l).length = sizes l
  | [] => rfl
  | t :: r => by unfold flats sizes; rw [List.length_append, flats_len r, t.flat_len]
/-- a node more -/
def grow (c : Py → Bool) (l : List Tr) (x : Nd) : Option (List Tr) :=
  if c x.p then
    if partsI x.p.tag = 0 then (if x.l = -1 ∧ x.r = -1 then some (.leaf x.p :: l) else none)
    else if partsI x.p.tag = 1 then
      match l with
      | [] => none
      | a :: r => if x.l = (sizes (a :: r) : Int) - 1 ∧ x.r = -1 then some (.one x.p a :: r) else none
    else if partsI x.p.tag = 2 then
      match l with
      | [] => none
      | [_] => none
      | b :: a :: r => if x.l = (sizes (a :: r) : Int) - 1 ∧ x.r = (sizes (b :: a :: r) : Int) - 1 then some (.two x.p a b :: r) else none
    else none
  else none
def grows (c : Py → Bool) : List Tr → List Nd → Option (List Tr)
  | l, [] => some l
  | l, x :: r => (grow c l x).bind fun m => grows c m r
theorem grows_app (c : Py → Bool) : ∀ (x y : List Nd) (l : List Tr), grows c l (x ++ y) = (grows c l x).bind fun m => grows c m y
  | [], y, l => rfl
  | a :: x, y, l => by
    rw [List.cons_append, grows, grows]
    cases grow c l a with
    | none => rfl
    | some m => exact grows_app c x y m
theorem grow_flats {c : Py → Bool} {l m : List Tr} {x : Nd} (h : grow c l x = some m) (hl : allOk c l) : flats m = flats l ++ [x] ∧ allOk c m := by
  obtain ⟨p, xl, xr⟩ := x
  unfold grow at h
  split at h
  case isFalse => cases h
  case isTrue hc =>
    simp only at h hc
    split at h
    · rename_i h0
      split at h
      · rename_i h1
        injection h with h
        subst h
        obtain ⟨rfl, rfl⟩ := h1
        refine ⟨rfl, fun t ht => ?_⟩
        rcases List.mem_cons.1 ht with rfl | ht
        · unfold Tr.ok; rw [decide_eq_true h0, hc]; rfl
        · exact hl t ht
      · cases h
    · split at h
      · rename_i h0
        split at h
        · cases h
        · rename_i a r
          split at h
          · rename_i h1
            injection h with h
            subst h
            obtain ⟨rfl, rfl⟩ := h1
            refine ⟨?_, fun t ht => ?_⟩
            · simp only [flats, Tr.flat, sizes, List.append_assoc]
            · rcases List.mem_cons.1 ht with rfl | ht
              · unfold Tr.ok; rw [decide_eq_true h0, hc, hl a (by simp)]; rfl
              · exact hl t (by simp [ht])
          · cases h
      · split at h
        · rename_i h0
          split at h
          · cases h
          · cases h
          · rename_i b a r
            split at h
            · rename_i h1
              injection h with h
              subst h
              obtain ⟨rfl, rfl⟩ := h1
              refine ⟨?_, fun t ht => ?_⟩
              · simp only [flats, Tr.flat, sizes, List.append_assoc]
              · rcases List.mem_cons.1 ht with rfl | ht
                · unfold Tr.ok; rw [decide_eq_true h0, hc, hl a (by simp), hl b (by simp)]; rfl
                · exact hl t (by simp [ht])
            · cases h
        · cases h
theorem grows_flats {c : Py → Bool} : ∀ {x : List Nd} {l m : List Tr}, grows c l x = some m → allOk c l → flats m = flats l ++ x ∧ allOk c m
  | [], l, m, h, hl => by
    rw [grows] at h
    injection h with h
    subst h
    exact ⟨by simp, hl⟩
  | a :: x, l, m, h, hl => by
    rw [grows] at h
    cases hg : grow c l a with
    | none => rw [hg] at h; cases h
    | some k =>
      rw [hg] at h
      have h1 := grow_flats hg hl
      have h2 := grows_flats (show grows c k x = some m from h) h1.2
      exact ⟨by rw [h2.1, h1.1, List.append_assoc]; rfl, h2.2⟩
theorem flat_grows (c : Py → Bool) : ∀ (t : Tr) (l : List Tr), t.ok c = true → grows c l (t.flat (sizes l)) = some (t :: l)
  | .leaf p, l, h => by
    unfold Tr.ok at h
    rw [Bool.and_eq_true, decide_eq_true_eq] at h
    rw [Tr.flat, grows]
    unfold grow
    simp only
    rw [if_pos h.2, if_pos h.1]
    rfl
  | .one p a, l, h => by
    unfold Tr.ok at h
    rw [Bool.and_eq_true, Bool.and_eq_true, decide_eq_true_eq] at h
    have ih := flat_grows c a l h.2.2
    rw [Tr.flat, grows_app, ih]
    simp only [Option.bind_some]
    rw [grows, grow, if_pos h.2.1]
    simp only
    rw [if_neg (by rw [h.1]; decide), if_pos h.1, if_pos ⟨by simp [sizes], trivial⟩]
    rfl
  | .two p a b, l, h => by
    unfold Tr.ok at h
    rw [Bool.and_eq_true, Bool.and_eq_true, Bool.and_eq_true, decide_eq_true_eq] at h
    have ih := flat_grows c a l h.2.2.1
    have ih2 := flat_grows c b (a :: l) h.2.2.2
    rw [Tr.flat, grows_app, ih]
    simp only [Option.bind_some]
    rw [show sizes l + a.size = sizes (a :: l) from rfl, grows_app, ih2]
    simp only [Option.bind_some]
    rw [grows, grow, if_pos h.2.1]
    simp only
    rw [if_neg (by rw [h.1]; decide), if_neg (by rw [h.1]; decide), if_pos h.1, if_pos ⟨by simp, by simp [sizes]⟩]
    rfl
/-- the tree of a row of nodes -/
def treeF (c : Py → Bool) (x : List Nd) : Option Tr :=
  match grows c [] x with
  | some [t] => if x.length ≤ 300 ∧ t.depth ≤ 20 then some t else none
  | _ => none
theorem treeF_some {c : Py → Bool} {x : List Nd} {t : Tr} : treeF c x = some t ↔ (x = t.flat 0 ∧ t.ok c = true ∧ t.size ≤ 300 ∧ t.depth ≤ 20) := by
  constructor
  · intro h
    unfold treeF at h
    split at h
    · rename_i u hu
      split at h
      · rename_i hc
        injection h with h
        subst h
        have := grows_flats hu (fun _ h => by cases h)
        have e : x = u.flat 0 := by have h9 := this.1; simp [flats] at h9; exact h9.symm
        exact ⟨e, this.2 u (by simp), by have := hc.1; rw [e, u.flat_len] at this; exact this, hc.2⟩
      · cases h
    · cases h
  · rintro ⟨rfl, h1, h2, h3⟩
    unfold treeF
    rw [show t.flat 0 = t.flat (sizes []) from rfl, flat_grows c t [] h1]
    simp only
    rw [if_pos ⟨by rw [t.flat_len]; exact h2, h3⟩]
theorem flat_inj {c : Py → Bool} {t u : Tr} (h : t.flat 0 = u.flat 0) (ht : t.ok c = true) (hu : u.ok c = true) : t = u := by
  have h1 := flat_grows c t [] ht
  have h2 := flat_grows c u [] hu
  rw [show sizes [] = 0 from rfl] at h1 h2
  rw [h, h2] at h1
  injection h1 with h1
  injection h1 with h1
  exact h1.symm
end Go.Proofs.YtoaggmldekejoaaDoor
/- The reference's Size in plain Lean: what stands last in a row of nodes. Conditions: none. -/
namespace Go.Proofs.YtoaggmldekejoaaDoor
/-- how many nodes, how deep the tree is that stands last among the first m nodes; 0: none does -/
def sizeF (c : Py → Bool) (x : List Nd) : Nat → Nat → Nat × Nat
  | 0, _ => (0, 0)
  | _ + 1, 0 => (0, 0)
  | f + 1, m + 1 =>
    match x[m]? with
    | none => (0, 0)
    | some n =>
      if c n.p then
        if partsI n.p.tag = 0 then (if n.l = -1 ∧ n.r = -1 then (1, 1) else (0, 0))
        else if partsI n.p.tag = 1 then
          (if (sizeF c x f m).1 = 0 then (0, 0)
           else if n.l = (m : Int) - 1 ∧ n.r = -1 then ((sizeF c x f m).1 + 1, (sizeF c x f m).2 + 1) else (0, 0))
        else if partsI n.p.tag = 2 then
          (if (sizeF c x f m).1 = 0 then (0, 0)
           else if (sizeF c x f (m - (sizeF c x f m).1)).1 = 0 then (0, 0)
           else if n.r = (m : Int) - 1 ∧ n.l = (m : Int) - 1 - ((sizeF c x f m).1 : Int) then
             ((sizeF c x f m).1 + (sizeF c x f (m - (sizeF c x f m).1)).1 + 1, max (sizeF c x f m).2 (sizeF c x f (m - (sizeF c x f m).1)).2 + 1) else (0, 0))
        else (0, 0)
      else (0, 0)
theorem at_app {α : Type} {p r : List α} {a : α} {k : Nat} (h : k = p.length) : (p ++ a :: r)[k]? = some a := by subst h; simp
theorem size_flat (c : Py → Bool) : ∀ (t : Tr) (p r : List Nd) (f : Nat), t.ok c = true → p.length + t.size ≤ f → sizeF c (p ++ (t.flat p.length ++ r)) f (p.length + t.size) = (t.size, t.depth)
  | .leaf q, p, r, 0, h, hf => by simp [Tr.size] at hf
  | .leaf q, p, r, f + 1, h, _ => by
    unfold Tr.ok at h
    rw [Bool.and_eq_true, decide_eq_true_eq] at h
    rw [Tr.size, Tr.flat, sizeF, List.cons_append, List.nil_append, at_app rfl]
    simp only
    rw [if_pos h.2, if_pos h.1, if_pos ⟨trivial, trivial⟩]
    rfl
  | .one q a, p, r, 0, h, hf => by have := (Tr.one q a).size_pos; omega
  | .one q a, p, r, f + 1, h, hf => by
    unfold Tr.ok at h
    rw [Bool.and_eq_true, Bool.and_eq_true, decide_eq_true_eq] at h
    unfold Tr.size at hf
    have ih := size_flat c a p (⟨q, ((p.length + a.size : Nat) : Int) - 1, -1⟩ :: r) f h.2.2 (by omega)
    have hp := a.size_pos
    have e : p ++ ((Tr.one q a).flat p.length ++ r) = p ++ (a.flat p.length ++ (⟨q, ((p.length + a.size : Nat) : Int) - 1, -1⟩ :: r)) := by rw [Tr.flat, List.append_assoc]; rfl
    rw [e, Tr.size, ← Nat.add_assoc, sizeF, ih]
    rw [← List.append_assoc, at_app (by rw [List.length_append, a.flat_len])]
    simp only
    rw [if_pos h.2.1, if_neg (by rw [h.1]; decide), if_pos h.1, if_neg (by omega), if_pos ⟨trivial, trivial⟩]
    rfl
  | .two q a b, p, r, 0, h, hf => by have := (Tr.two q a b).size_pos; omega
  | .two q a b, p, r, f + 1, h, hf => by
    unfold Tr.ok at h
    rw [Bool.and_eq_true, Bool.and_eq_true, Bool.and_eq_true, decide_eq_true_eq] at h
    unfold Tr.size at hf
    have hp := a.size_pos
    have hq := b.size_pos
    have el : (p ++ a.flat p.length).length = p.length + a.size := by rw [List.length_append, a.flat_len]
    have ib := size_flat c b (p ++ a.flat p.length) (⟨q, ((p.length + a.size : Nat) : Int) - 1, ((p.length + a.size + b.size : Nat) : Int) - 1⟩ :: r) f h.2.2.2 (by rw [el]; omega)
    have ia := size_flat c a p (b.flat (p.length + a.size) ++ (⟨q, ((p.length + a.size : Nat) : Int) - 1, ((p.length + a.size + b.size : Nat) : Int) - 1⟩ :: r)) f h.2.2.1 (by omega)
    rw [el] at ib
    have e : p ++ ((Tr.two q a b).flat p.length ++ r) = (p ++ a.flat p.length) ++ (b.flat (p.length + a.size) ++ (⟨q, ((p.length + a.size : Nat) : Int) - 1, ((p.length + a.size + b.size : Nat) : Int) - 1⟩ :: r)) := by
      rw [Tr.flat]; simp only [List.append_assoc]; rfl
    have e2 : (p ++ a.flat p.length) ++ (b.flat (p.length + a.size) ++ (⟨q, ((p.length + a.size : Nat) : Int) - 1, ((p.length + a.size + b.size : Nat) : Int) - 1⟩ :: r)) = p ++ (a.flat p.length ++ (b.flat (p.length + a.size) ++ (⟨q, ((p.length + a.size : Nat) : Int) - 1, ((p.length + a.size + b.size : Nat) : Int) - 1⟩ :: r))) := by rw [List.append_assoc]
    rw [← e2] at ia
    have h1 : (((p ++ a.flat p.length) ++ (b.flat (p.length + a.size) ++ (⟨q, ((p.length + a.size : Nat) : Int) - 1, ((p.length + a.size + b.size : Nat) : Int) - 1⟩ :: r)))[p.length + a.size + b.size]?) = some ⟨q, ((p.length + a.size : Nat) : Int) - 1, ((p.length + a.size + b.size : Nat) : Int) - 1⟩ := by
      rw [← List.append_assoc]; exact at_app (by rw [List.length_append, b.flat_len, el])
    rw [e, Tr.size, show p.length + (a.size + b.size + 1) = (p.length + a.size + b.size) + 1 from by omega, sizeF, ib]
    rw [h1]
    simp only
    rw [show p.length + a.size + b.size - b.size = p.length + a.size from by omega, ia]
    simp only
    rw [if_pos h.2.1, if_neg (by rw [h.1]; decide), if_neg (by rw [h.1]; decide), if_pos h.1, if_neg (by omega), if_neg (by omega), if_pos ⟨trivial, by omega⟩, Tr.depth]
    rw [show b.size + a.size + 1 = a.size + b.size + 1 from by omega]
theorem size_some (c : Py → Bool) (x : List Nd) : ∀ (f m : Nat), m ≤ f → (sizeF c x f m).1 ≠ 0 → ∃ (t : Tr) (p : List Nd), x.take m = p ++ t.flat p.length ∧ m ≤ x.length ∧ t.size = (sizeF c x f m).1 ∧ t.depth = (sizeF c x f m).2 ∧ t.ok c = true
  | 0, m, _, h => by simp [sizeF] at h
  | f + 1, 0, _, h => by simp [sizeF] at h
  | f + 1, m + 1, hf, h => by
    have ih := size_some c x f
    rw [sizeF] at h ⊢
    cases hx : x[m]? with
    | none => rw [hx] at h; exact absurd rfl h
    | some n =>
      have hlt : m < x.length := (List.getElem?_eq_some_iff.1 hx).1
      have htk : x.take (m + 1) = x.take m ++ [n] := by rw [List.take_add_one, hx]; rfl
      rw [hx] at h
      obtain ⟨q, nl, nr⟩ := n
      simp only at h ⊢
      by_cases hc : c q = true
      case neg => rw [if_neg hc] at h; exact absurd rfl h
      rw [if_pos hc] at h ⊢
      by_cases h0 : partsI q.tag = 0
      · rw [if_pos h0] at h ⊢
        by_cases h1 : nl = -1 ∧ nr = -1
        · rw [if_pos h1]
          obtain ⟨rfl, rfl⟩ := h1
          exact ⟨.leaf q, x.take m, by rw [htk, Tr.flat], by omega, rfl, rfl, by unfold Tr.ok; rw [decide_eq_true h0, hc]; rfl⟩
        · rw [if_neg h1] at h; exact absurd rfl h
      rw [if_neg h0] at h ⊢
      by_cases h1 : partsI q.tag = 1
      · rw [if_pos h1] at h ⊢
        by_cases hs : (sizeF c x f m).1 = 0
        · rw [if_pos hs] at h; exact absurd rfl h
        rw [if_neg hs] at h ⊢
        by_cases h2 : nl = (m : Int) - 1 ∧ nr = -1
        · rw [if_pos h2]
          obtain ⟨a, p, e1, e2, e3, e4, e5⟩ := ih m (by omega) hs
          obtain ⟨rfl, rfl⟩ := h2
          have hl := congrArg List.length e1
          rw [List.length_take, List.length_append, a.flat_len, Nat.min_eq_left e2] at hl
          refine ⟨.one q a, p, ?_, by omega, by rw [Tr.size, e3], by rw [Tr.depth, e4], by unfold Tr.ok; rw [decide_eq_true h1, hc, e5]; rfl⟩
          rw [htk, e1, Tr.flat, List.append_assoc, ← hl]
        · rw [if_neg h2] at h; exact absurd rfl h
      rw [if_neg h1] at h ⊢
      by_cases h2 : partsI q.tag = 2
      case neg => rw [if_neg h2] at h; exact absurd rfl h
      rw [if_pos h2] at h ⊢
      by_cases hs : (sizeF c x f m).1 = 0
      · rw [if_pos hs] at h; exact absurd rfl h
      rw [if_neg hs] at h ⊢
      by_cases hs2 : (sizeF c x f (m - (sizeF c x f m).1)).1 = 0
      · rw [if_pos hs2] at h; exact absurd rfl h
      rw [if_neg hs2] at h ⊢
      by_cases h3 : nr = (m : Int) - 1 ∧ nl = (m : Int) - 1 - ((sizeF c x f m).1 : Int)
      case neg => rw [if_neg h3] at h; exact absurd rfl h
      rw [if_pos h3]
      obtain ⟨b, p, e1, e2, e3, e4, e5⟩ := ih m (by omega) hs
      obtain ⟨a, p2, g1, g2, g3, g4, g5⟩ := ih (m - (sizeF c x f m).1) (by omega) hs2
      have hl := congrArg List.length e1
      rw [List.length_take, List.length_append, b.flat_len, Nat.min_eq_left e2] at hl
      have hl2 := congrArg List.length g1
      rw [List.length_take, List.length_append, a.flat_len, Nat.min_eq_left g2] at hl2
      have hpp : p = p2 ++ a.flat p2.length := by
        rw [← g1]
        have := congrArg (List.take p.length) e1
        rw [List.take_take, List.take_left, Nat.min_eq_left (by omega)] at this
        rw [← this, ← e3]
        congr 1
        omega
      obtain ⟨rfl, rfl⟩ := h3
      have hpl : p.length = p2.length + a.size := by rw [hpp, List.length_append, a.flat_len]
      refine ⟨.two q a b, p2, ?_, by omega, by rw [Tr.size, e3, g3]; omega, by rw [Tr.depth, e4, g4], by unfold Tr.ok; rw [decide_eq_true h2, hc, e5, g5]; rfl⟩
      rw [htk, e1, Tr.flat]
      have e9 : (⟨q, (m : Int) - 1 - ((sizeF c x f m).1 : Int), (m : Int) - 1⟩ : Nd) = ⟨q, ((p2.length + a.size : Nat) : Int) - 1, ((p2.length + a.size + b.size : Nat) : Int) - 1⟩ := by
        rw [← hpl, ← e3]
        congr 1 <;> omega
      rw [e9, hpl]
      conv => lhs; rw [hpp]
      simp only [List.append_assoc]
/-- may a row of nodes be a tree? as the reference says it -/
def rightT (c : Py → Bool) (x : List Nd) : Bool := decide (1 ≤ x.length) && (decide (x.length ≤ 300) && (decide ((sizeF c x x.length x.length).1 = x.length) && decide ((sizeF c x x.length x.length).2 ≤ 20)))
theorem rightT_tree (c : Py → Bool) (x : List Nd) : rightT c x = (treeF c x).isSome := by
  rw [Bool.eq_iff_iff, Option.isSome_iff_exists]
  unfold rightT
  simp only [Bool.and_eq_true, decide_eq_true_eq]
  constructor
  · rintro ⟨h1, h2, h3, h4⟩
    obtain ⟨t, p, e1, _, e3, e4, e5⟩ := size_some c x x.length x.length (Nat.le_refl _) (by omega)
    rw [List.take_length] at e1
    have hl := congrArg List.length e1
    rw [List.length_append, t.flat_len, e3, h3] at hl
    have hp : p = [] := List.length_eq_zero_iff.1 (by omega)
    subst hp
    exact ⟨t, treeF_some.2 ⟨by simpa using e1, e5, by omega, by omega⟩⟩
  · rintro ⟨t, h⟩
    obtain ⟨rfl, h1, h2, h3⟩ := treeF_some.1 h
    have hs := size_flat c t [] [] (t.flat 0).length h1 (by rw [t.flat_len]; simp)
    simp only [List.nil_append, List.append_nil, List.length_nil, Nat.zero_add] at hs
    have hp := t.size_pos
    rw [t.flat_len] at hs ⊢
    rw [hs]
    exact ⟨hp, h2, rfl, h3⟩
theorem size_tree {c : Py → Bool} {x : List Nd} {t : Tr} (h : treeF c x = some t) : sizeF c x x.length x.length = (t.size, t.depth) := by
  obtain ⟨rfl, h1, _, _⟩ := treeF_some.1 h
  have hs := size_flat c t [] [] (t.flat 0).length h1 (by rw [t.flat_len]; simp)
  simpa [t.flat_len] using hs
end Go.Proofs.YtoaggmldekejoaaDoor
