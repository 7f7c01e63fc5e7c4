/- The layer's tokens in plain Lean: what a text's first token is, what its tokens are. Conditions: none. -/
import Derived.Lib.SlicesS
import Derived.Lib.ItoaNum
namespace Go.Proofs.YtoaggmldekejoaaDoor
/-- a small letter, a digit; a part of a name; a capital; a part of a row; a blank; what a value may hold -/
def smI (c : Int) : Bool := decide (97 ≤ c) && decide (c ≤ 122)
def dgI (c : Int) : Bool := decide (48 ≤ c) && decide (c ≤ 57)
def okI (c : Int) : Bool := smI c || (dgI c || decide (c = 95))
def cpI (c : Int) : Bool := decide (65 ≤ c) && decide (c ≤ 90)
def paI (c : Int) : Bool := dgI c || (smI c || (cpI c || decide (c = 95)))
def blI (c : Int) : Bool := decide (c = 32) || (decide (c = 9) || (decide (c = 10) || decide (c = 13)))
def plI (c : Int) : Bool := decide (32 ≤ c) && decide (c ≤ 126)
/-- the byte at a place -/
def bt (s : ByteArray) (i : Nat) : Int := ((s.data.toList.getD i 0).toNat : Int)
def bts (s : ByteArray) : List Int := s.data.toList.map fun b => (b.toNat : Int)
def upB (b : UInt8) : UInt8 := if smI (b.toNat : Int) then b - 32 else b
def upL (l : List UInt8) : List UInt8 := l.map upB
/-- the words of the language -/
def wordsL : List ByteArray := [⟨#[83, 69, 76, 69, 67, 84]⟩, ⟨#[68, 73, 83, 84, 73, 78, 67, 84]⟩, ⟨#[70, 82, 79, 77]⟩, ⟨#[76, 69, 70, 84]⟩, ⟨#[74, 79, 73, 78]⟩, ⟨#[79, 78]⟩, ⟨#[87, 72, 69, 82, 69]⟩, ⟨#[71, 82, 79, 85, 80]⟩, ⟨#[66, 89]⟩, ⟨#[72, 65, 86, 73, 78, 71]⟩, ⟨#[85, 78, 73, 79, 78]⟩, ⟨#[65, 76, 76]⟩, ⟨#[79, 82, 68, 69, 82]⟩, ⟨#[76, 73, 77, 73, 84]⟩, ⟨#[65, 83, 67]⟩, ⟨#[68, 69, 83, 67]⟩, ⟨#[65, 83]⟩, ⟨#[65, 78, 68]⟩, ⟨#[79, 82]⟩, ⟨#[78, 79, 84]⟩, ⟨#[73, 83]⟩, ⟨#[78, 85, 76, 76]⟩, ⟨#[84, 82, 85, 69]⟩, ⟨#[70, 65, 76, 83, 69]⟩, ⟨#[67, 79, 85, 78, 84]⟩, ⟨#[83, 85, 77]⟩, ⟨#[77, 73, 78]⟩, ⟨#[77, 65, 88]⟩]
def isWordB (s : ByteArray) : Bool := Lib.containsS wordsL s
def nameB (s : ByteArray) : Bool := decide (1 ≤ s.size) && (decide (s.size ≤ 16) && (smI (bt s 0) && ((bts s).all okI && !isWordB ⟨(upL s.data.toList).toArray⟩)))
/-- a text of these bytes -/
abbrev bS (l : List UInt8) : ByteArray := ⟨l.toArray⟩
/-- the signs, the longer ones first -/
def signsU : List (List UInt8) := [[60, 62], [60, 61], [62, 61], [40], [41], [44], [46], [42], [43], [45], [47], [61], [60], [62]]
/-- a token -/
structure Tk where
  kind : Int
  at_ : Int
  text : List UInt8
  n : Nat
deriving DecidableEq
def paU (b : UInt8) : Bool := paI (b.toNat : Int)
def dgU (b : UInt8) : Bool := dgI (b.toNat : Int)
def blU (b : UInt8) : Bool := blI (b.toNat : Int)
def plU (b : UInt8) : Bool := plI (b.toNat : Int)
/-- the number that digits say -/
def valU (a : Nat) (l : List UInt8) : Nat := l.foldl (fun a b => a * 10 + (b.toNat - 48)) a
theorem valU_nil (a : Nat) : valU a [] = a := by unfold valU; rw [List.foldl_nil]
theorem valU_cons (a : Nat) (b : UInt8) (r : List UInt8) : valU a (b :: r) = valU (a * 10 + (b.toNat - 48)) r := by unfold valU; rw [List.foldl_cons]
def numU (l : List UInt8) : Option Nat := if l.all dgU ∧ valU 0 l < 9223372036854775808 ∧ (l.length = 1 ∨ l.head? ≠ some 48) then some (valU 0 l) else none
def plainU (l : List UInt8) : Bool := decide (l.length ≤ 40) && l.all plU
/-- a text up to the quote that ends it, and how long it is there -/
def qGo : List UInt8 → Option (List UInt8 × Nat)
  | [] => none
  | [b] => if b = 39 then some ([], 1) else none
  | b :: c :: r => if b ≠ 39 then (qGo (c :: r)).map (fun p => (b :: p.1, p.2 + 1)) else if c = 39 then (qGo r).map (fun p => (39 :: p.1, p.2 + 2)) else some ([], 1)
def sgU (l : List UInt8) : Option (List UInt8) := signsU.find? fun x => x.isPrefixOf l
/-- what a row of parts is -/
def rowT (row : List UInt8) : Tk × Nat × Bool :=
  match numU row with
  | some k => (⟨3, 0, [], k⟩, row.length, true)
  | none => if isWordB (bS (upL row)) then (⟨1, 0, upL row, 0⟩, row.length, true) else (⟨2, 0, row, 0⟩, row.length, nameB (bS row))
def quoT (r : List UInt8) : Tk × Nat × Bool :=
  match qGo r with
  | none => (⟨4, 0, [], 0⟩, 0, false)
  | some (t, k) => (⟨4, 0, t, 0⟩, k + 1, plainU t)
def sgnT (l : List UInt8) : Tk × Nat × Bool :=
  match sgU l with
  | none => (⟨0, 0, [], 0⟩, 0, false)
  | some s => (⟨5, 0, s, 0⟩, s.length, true)
/-- the first token, how long it is, whether it is one -/
def firstU (l : List UInt8) : Tk × Nat × Bool :=
  match l with
  | [] => (⟨0, 0, [], 0⟩, 0, false)
  | b :: r => if b = 39 then quoT r else if paU b then rowT ((b :: r).takeWhile paU) else sgnT (b :: r)
/-- all of them; where it is wrong -/
def lexU : Nat → List UInt8 → Nat → List Tk × Option Nat
  | 0, _, _ => ([], none)
  | _ + 1, [], _ => ([], none)
  | f + 1, b :: r, p =>
    if blU b then lexU f r (p + 1)
    else if (firstU (b :: r)).2.2 then
      ({ (firstU (b :: r)).1 with at_ := (p : Int) } :: (lexU f ((b :: r).drop (firstU (b :: r)).2.1) (p + (firstU (b :: r)).2.1)).1, (lexU f ((b :: r).drop (firstU (b :: r)).2.1) (p + (firstU (b :: r)).2.1)).2)
    else ([], some p)
def lexF (l : List UInt8) (p : Nat) : List Tk × Option Nat := lexU l.length l p
/-! ### lengths -/
theorem qGo_pos : ∀ {l : List UInt8} {t : List UInt8} {k : Nat}, qGo l = some (t, k) → 1 ≤ k ∧ k ≤ l.length
  | [], t, k, h => by simp [qGo] at h
  | [b], t, k, h => by
    simp only [qGo] at h
    split at h
    · cases h; simp
    · cases h
  | b :: c :: r, t, k, h => by
    rw [qGo] at h
    split at h
    · obtain ⟨⟨t1, k1⟩, h1, h2⟩ := Option.map_eq_some_iff.1 h
      have := qGo_pos h1
      cases h2
      simp only [List.length_cons] at *
      omega
    · split at h
      · obtain ⟨⟨t1, k1⟩, h1, h2⟩ := Option.map_eq_some_iff.1 h
        have := qGo_pos h1
        cases h2
        simp only [List.length_cons] at *
        omega
      · cases h
        simp
theorem sgU_mem {l s : List UInt8} (h : sgU l = some s) : s ∈ signsU ∧ s.isPrefixOf l = true := ⟨List.mem_of_find?_eq_some h, by have := List.find?_some h; simpa using this⟩
theorem signs_pos : ∀ s ∈ signsU, 1 ≤ s.length := by decide
theorem takeWhile_le {α : Type} (p : α → Bool) : ∀ l : List α, (l.takeWhile p).length ≤ l.length
  | [] => Nat.le_refl _
  | a :: l => by
    rw [List.takeWhile_cons]
    split
    · simp only [List.length_cons]; have := takeWhile_le p l; omega
    · simp
theorem rowT_len (row : List UInt8) : (rowT row).2.1 = row.length := by
  unfold rowT
  split
  · rfl
  · split <;> rfl
theorem first_pos {l : List UInt8} (h : (firstU l).2.2 = true) : 1 ≤ (firstU l).2.1 ∧ (firstU l).2.1 ≤ l.length := by
  cases l with
  | nil => simp [firstU] at h
  | cons b r =>
    rw [firstU] at h ⊢
    by_cases h1 : b = 39
    · rw [if_pos h1] at h ⊢
      unfold quoT at h ⊢
      split at h
      · simp at h
      · rename_i t k e
        have := qGo_pos e
        simp only [List.length_cons]
        omega
    · rw [if_neg h1] at h ⊢
      by_cases h2 : paU b = true
      · rw [if_pos h2] at h ⊢
        rw [rowT_len]
        have := takeWhile_le paU (b :: r)
        refine ⟨?_, this⟩
        rw [List.takeWhile_cons, if_pos h2]
        simp
      · rw [if_neg h2] at h ⊢
        unfold sgnT at h ⊢
        split at h
        · simp at h
        · rename_i s e
          have := sgU_mem e
          have h3 := signs_pos s this.1
          have h4 := (List.isPrefixOf_iff_prefix.1 this.2).length_le
          simp only
          omega
theorem lexU_more : ∀ (f : Nat) (l : List UInt8) (p : Nat), l.length ≤ f → lexU f l p = lexU l.length l p
  | 0, l, p, h => by
    have : l = [] := List.eq_nil_of_length_eq_zero (by omega)
    subst this; rfl
  | f + 1, [], p, h => by simp [lexU]
  | f + 1, b :: r, p, h => by
    simp only [List.length_cons] at h ⊢
    have hr := lexU_more f r (p + 1) (by omega)
    rw [lexU, lexU]
    rw [hr]
    split
    · rfl
    · split
      · rename_i h1
        have hp := first_pos h1
        simp only [List.length_cons] at hp
        rw [lexU_more f ((b :: r).drop (firstU (b :: r)).2.1) _ (by simp only [List.length_drop, List.length_cons]; omega), lexU_more r.length ((b :: r).drop (firstU (b :: r)).2.1) _ (by simp only [List.length_drop, List.length_cons]; omega)]
      · rfl
termination_by f => f
theorem lexF_nil (p : Nat) : lexF [] p = ([], none) := rfl
theorem lexF_blank {b : UInt8} {r : List UInt8} {p : Nat} (h : blU b = true) : lexF (b :: r) p = lexF r (p + 1) := by
  unfold lexF
  rw [List.length_cons, lexU, if_pos h]
theorem lexF_tok {b : UInt8} {r : List UInt8} {p n : Nat} {t : Tk} (h : blU b = false) (hf : firstU (b :: r) = (t, n, true)) :
    lexF (b :: r) p = ({ t with at_ := (p : Int) } :: (lexF ((b :: r).drop n) (p + n)).1, (lexF ((b :: r).drop n) (p + n)).2) := by
  have h2 : (firstU (b :: r)).2.2 = true := by rw [hf]
  have hp := first_pos h2
  simp only [List.length_cons] at hp
  unfold lexF
  rw [List.length_cons, lexU, if_neg (by simp [h]), if_pos h2, hf]
  simp only
  rw [hf] at hp
  simp only at hp
  rw [lexU_more r.length _ _ (by simp only [List.length_drop, List.length_cons]; omega)]
theorem lexF_bad {b : UInt8} {r : List UInt8} {p : Nat} (h : blU b = false) (hf : (firstU (b :: r)).2.2 = false) : lexF (b :: r) p = ([], some p) := by
  unfold lexF
  rw [List.length_cons, lexU, if_neg (by simp [h]), if_neg (by simp [hf])]
end Go.Proofs.YtoaggmldekejoaaDoor
