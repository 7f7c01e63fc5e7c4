/- Literals and values lead back to one another, in plain Lean. Conditions: none. -/
import Derived.Test.YtabbiepafibmmaaDoorVtM
namespace Go.Proofs.YtabbiepafibmmaaDoor
open Go.Lib
/-- a plain value: its kind, its number, its text -/
structure LV where
  k : Int
  n : Int
  s : List UInt8
  deriving DecidableEq
def wF : List UInt8 := [70, 65, 76, 83, 69]
def wN : List UInt8 := [78, 85, 76, 76]
def wT : List UInt8 := [84, 82, 85, 69]
/-- may it be? -/
def LV.ok (v : LV) : Bool :=
  if v.k = 0 then decide (v.n = 0) && decide (v.s = [])
  else if v.k = 1 then (decide (v.n = 0) || decide (v.n = 1)) && decide (v.s = [])
  else if v.k = 2 then decide (-9223372036854775808 ≤ v.n ∧ v.n ≤ 9223372036854775807) && decide (v.s = [])
  else if v.k = 3 then decide (v.n = 0) && decide (v.s.length ≤ 40) else false
def LV.lit (v : LV) : List UInt8 := if v.k = 0 then wN else if v.k = 1 then (if v.n = 1 then wT else wF) else if v.k = 2 then itoa v.n else 39 :: (quoV v.s ++ [39])
def parseP (s : List UInt8) : Option LV :=
  if s = wF then some ⟨1, 0, []⟩ else if s = wN then some ⟨0, 0, []⟩ else if s = wT then some ⟨1, 1, []⟩
  else match intP s with
    | some n => some ⟨2, n, []⟩
    | none => match quoP s with
      | some t => if t.length ≤ 40 then some ⟨3, 0, t⟩ else none
      | none => none
def parseR (s : List UInt8) : Option LV :=
  if s = wN then some ⟨0, 0, []⟩ else if s = wF then some ⟨1, 0, []⟩ else if s = wT then some ⟨1, 1, []⟩
  else match intR s with
    | some n => some ⟨2, n, []⟩
    | none => match quoR s with
      | some t => if t.length ≤ 40 then some ⟨3, 0, t⟩ else none
      | none => none
theorem parse_same (s : List UInt8) : parseP s = parseR s := by
  unfold parseP parseR
  rw [int_same, quo_same]
  by_cases h : s = wF
  · subst h; rfl
  · rw [if_neg h]
    by_cases h2 : s = wN
    · rw [if_pos h2, if_pos h2]
    · rw [if_neg h2, if_neg h2, if_neg h]
theorem itoa_head {n : Int} (h0 : -9223372036854775808 ≤ n) : ∃ c r, itoa n = c :: r ∧ (c.toNat = 45 ∨ okD c) := by
  by_cases h : n < 0
  · obtain ⟨u, rfl⟩ : ∃ u : Nat, n = -(u : Int) := ⟨n.natAbs, by omega⟩
    exact ⟨45, _, itoa_neg u (by omega), .inl rfl⟩
  · obtain ⟨u, rfl⟩ : ∃ u : Nat, n = (u : Int) := ⟨n.toNat, by omega⟩
    rw [itoa_nonneg]
    obtain ⟨c, r, e, hc⟩ := dec_head u
    exact ⟨c, r, e, .inr hc⟩
theorem itoa_no {n : Int} (h0 : -9223372036854775808 ≤ n) {b : UInt8} {l : List UInt8} (hb : 57 < b.toNat) : itoa n ≠ b :: l := by
  obtain ⟨c, r, e, hc⟩ := itoa_head h0
  rw [e]
  intro h
  injection h with h _
  subst h
  unfold okD at hc
  omega
theorem itoa_no39 {n : Int} (h0 : -9223372036854775808 ≤ n) {l : List UInt8} : itoa n ≠ 39 :: l := by
  obtain ⟨c, r, e, hc⟩ := itoa_head h0
  rw [e]
  intro h
  injection h with h _
  subst h
  unfold okD at hc
  have : (39 : UInt8).toNat = 39 := rfl
  omega
/-- what is written of a value is read as it -/
theorem parse_lit {v : LV} (h : v.ok = true) : parseP v.lit = some v := by
  obtain ⟨k, n, s⟩ := v
  unfold LV.ok at h
  unfold LV.lit parseP
  simp only at h ⊢
  by_cases h0 : k = 0
  · subst h0
    rw [if_pos rfl] at h
    simp only [Bool.and_eq_true, decide_eq_true_eq] at h
    obtain ⟨rfl, rfl⟩ := h
    rfl
  rw [if_neg h0] at h ⊢
  by_cases h1 : k = 1
  · subst h1
    rw [if_pos rfl] at h
    simp only [Bool.and_eq_true, Bool.or_eq_true, decide_eq_true_eq] at h
    obtain ⟨h2, rfl⟩ := h
    rcases h2 with rfl | rfl <;> rfl
  rw [if_neg h1] at h ⊢
  by_cases h2 : k = 2
  · subst h2
    rw [if_pos rfl] at h ⊢
    simp only [Bool.and_eq_true, decide_eq_true_eq] at h
    obtain ⟨hr, rfl⟩ := h
    rw [if_neg (show itoa n ≠ wF from itoa_no hr.1 (show 57 < (70 : UInt8).toNat by decide)), if_neg (show itoa n ≠ wN from itoa_no hr.1 (show 57 < (78 : UInt8).toNat by decide)), if_neg (show itoa n ≠ wT from itoa_no hr.1 (show 57 < (84 : UInt8).toNat by decide)), intP_some.2 ⟨hr, rfl⟩]
  rw [if_neg h2] at h ⊢
  by_cases h3 : k = 3
  · subst h3
    rw [if_pos rfl] at h
    simp only [Bool.and_eq_true, decide_eq_true_eq] at h
    obtain ⟨rfl, hl⟩ := h
    have e1 : ∀ (b : UInt8) (l : List UInt8), b ≠ 39 → 39 :: (quoV s ++ [39]) ≠ b :: l := fun b l hb he => by
      injection he with he _
      exact hb he.symm
    have hi : intP (39 :: (quoV s ++ [39])) = none := by
      cases hh : intP (39 :: (quoV s ++ [39])) with
      | none => rfl
      | some m => exact absurd (intP_some.1 hh).2 (itoa_no39 (intP_some.1 hh).1.1)
    rw [if_neg (show 39 :: (quoV s ++ [39]) ≠ wF from e1 70 _ (by decide)), if_neg (show 39 :: (quoV s ++ [39]) ≠ wN from e1 78 _ (by decide)), if_neg (show 39 :: (quoV s ++ [39]) ≠ wT from e1 84 _ (by decide)), hi, quoP_some.2 rfl]
    simp only
    rw [if_pos hl]
  · rw [if_neg h3] at h; cases h
/-- what is read is a value that may be, and is written so -/
theorem lit_parse {s : List UInt8} {v : LV} (h : parseP s = some v) : v.ok = true ∧ v.lit = s := by
  unfold parseP at h
  split at h
  · rename_i hs; injection h with h; subst h; exact ⟨rfl, hs.symm⟩
  · split at h
    · rename_i hs; injection h with h; subst h; exact ⟨rfl, hs.symm⟩
    · split at h
      · rename_i hs; injection h with h; subst h; exact ⟨rfl, hs.symm⟩
      · split at h
        · rename_i n hn
          injection h with h
          subst h
          obtain ⟨hr, e⟩ := intP_some.1 hn
          refine ⟨?_, e⟩
          unfold LV.ok
          simp only
          rw [if_neg (by decide), if_neg (by decide), if_pos trivial, decide_eq_true hr]
          rfl
        · split at h
          · rename_i t ht
            split at h
            · rename_i hl
              injection h with h
              subst h
              refine ⟨?_, (quoP_some.1 ht).symm⟩
              unfold LV.ok
              simp only
              rw [if_neg (by decide), if_neg (by decide), if_neg (by decide), if_pos trivial, decide_eq_true hl]
              rfl
            · cases h
          · cases h
theorem lit_inj {v u : LV} (h : v.ok = true) (k : u.ok = true) (e : v.lit = u.lit) : v = u := by
  have h1 := parse_lit h
  rw [e, parse_lit k] at h1
  injection h1 with h1
  exact h1.symm
end Go.Proofs.YtabbiepafibmmaaDoor
