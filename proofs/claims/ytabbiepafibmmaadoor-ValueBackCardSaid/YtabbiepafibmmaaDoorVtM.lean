/- Literals, in plain Lean: a number's digits read back, a text between quotes read back; both ways of reading are one. Conditions: none. -/
import Derived.Lib.AtoiAll
import Derived.Lib.AtoiAllCases
import Derived.Lib.ItoaNum
import Derived.Lib.ItoaMem
namespace Go.Proofs.YtabbiepafibmmaaDoor
open Go.Lib
/-! ### numbers -/
def okD (c : UInt8) : Prop := 48 ≤ c.toNat ∧ c.toNat ≤ 57
theorem dig_ok {k : Nat} (h : k < 10) : (UInt8.ofNat (48 + k)).toNat = 48 + k := by
  have : k = 0 ∨ k = 1 ∨ k = 2 ∨ k = 3 ∨ k = 4 ∨ k = 5 ∨ k = 6 ∨ k = 7 ∨ k = 8 ∨ k = 9 := by omega
  rcases this with rfl | rfl | rfl | rfl | rfl | rfl | rfl | rfl | rfl | rfl <;> rfl
theorem pu_snoc : ∀ (l : List UInt8) (a b : Nat) (c : UInt8), parseUint10 a l = .ok b → parseUint10 a (l ++ [c]) = parseUint10 b [c]
  | [], a, b, c, h => by
    simp only [parseUint10] at h
    injection h with h
    subst h; rfl
  | d :: r, a, b, c, h => by
    rw [List.cons_append]
    simp only [parseUint10] at h ⊢
    split at h
    · rename_i h1
      split at h
      · cases h
      · rename_i h2
        split at h
        · cases h
        · rename_i h3
          rw [if_pos h1, if_neg h2, if_neg h3]
          have := pu_snoc r _ _ c h
          simpa only [parseUint10] using this
    · cases h
theorem dec_eq (u : Nat) : decDigits u = if u < 10 then [UInt8.ofNat (48 + u)] else decDigits (u / 10) ++ [UInt8.ofNat (48 + u % 10)] := by
  rw [decDigits]
  by_cases h : u < 10
  · rw [dif_pos h, if_pos h]
  · rw [dif_neg h, if_neg h]
theorem pu_dec : ∀ (u : Nat), u < 18446744073709551616 → parseUint10 0 (decDigits u) = .ok u := by
  intro u
  induction u using Nat.strongRecOn with
  | ind u ih =>
    intro hu
    rw [dec_eq]
    by_cases h : u < 10
    · rw [if_pos h]
      have e := dig_ok h
      simp only [parseUint10, e]
      rw [if_pos (by omega), if_neg (by omega), if_neg (by omega)]
      congr 1
      omega
    · rw [if_neg h, pu_snoc _ _ _ _ (ih (u / 10) (by omega) (by omega))]
      have e := dig_ok (Nat.mod_lt u (show 0 < 10 by omega))
      simp only [parseUint10, e]
      rw [if_pos (by omega), if_neg (by omega), if_neg (by omega)]
      congr 1
      omega
theorem dec_head (u : Nat) : ∃ c r, decDigits u = c :: r ∧ okD c := by
  induction u using Nat.strongRecOn with
  | ind u ih =>
    rw [dec_eq]
    by_cases h : u < 10
    · rw [if_pos h]; exact ⟨_, [], rfl, by unfold okD; rw [dig_ok h]; omega⟩
    · rw [if_neg h]
      obtain ⟨c, r, e, hc⟩ := ih (u / 10) (by omega)
      exact ⟨c, r ++ [_], by rw [e]; rfl, hc⟩
theorem mag_dec {u : Nat} (h : u < 18446744073709551616) : parseMag (decDigits u) = .ok u := by
  unfold parseMag
  obtain ⟨c, r, e, _⟩ := dec_head u
  rw [if_neg (by rw [e]; simp), pu_dec u h]
theorem atoi_itoa {n : Int} (h0 : -9223372036854775808 ≤ n) (h1 : n ≤ 9223372036854775807) : atoiAll (itoa n) = .ok n := by
  by_cases h : n < 0
  · obtain ⟨u, rfl⟩ : ∃ u : Nat, n = -(u : Int) := ⟨n.natAbs, by omega⟩
    rw [itoa_neg u (by omega), atoiAll_minus, mag_dec (by omega)]
    unfold signed
    simp only
    rw [if_neg (by omega)]
  · obtain ⟨u, rfl⟩ : ∃ u : Nat, n = (u : Int) := ⟨n.toNat, by omega⟩
    rw [itoa_nonneg]
    obtain ⟨c, r, e, hc⟩ := dec_head u
    unfold okD at hc
    have hm := mag_dec (u := u) (by omega)
    rw [e] at hm ⊢
    rw [atoiAll_plain c r (by omega) (by omega), hm]
    unfold signless
    simp only
    rw [if_neg (by omega)]
/-- the program's way -/
def intP (s : List UInt8) : Option Int := match atoiAll s with
  | .ok n => if itoa n = s then some n else none
  | _ => none
theorem atoi_rng {l : List UInt8} {v : Int} (h : atoiAll l = .ok v) : -9223372036854775808 ≤ v ∧ v ≤ 9223372036854775807 := by
  unfold atoiAll at h
  match l, h with
  | [], h => cases h
  | c :: r, h =>
    simp only at h
    split at h
    · cases h
    · cases h
    · rename_i u hu
      split at h
      · cases h
      · rename_i h1
        split at h
        · cases h
        · rename_i h2
          injection h with h
          subst h
          split <;> omega
theorem intP_some {s : List UInt8} {n : Int} : intP s = some n ↔ (-9223372036854775808 ≤ n ∧ n ≤ 9223372036854775807) ∧ itoa n = s := by
  unfold intP
  constructor
  · intro h
    split at h
    · rename_i v hv
      split at h
      · rename_i he
        injection h with h
        subst h
        exact ⟨atoi_rng hv, he⟩
      · cases h
    · cases h
  · rintro ⟨⟨h0, h1⟩, rfl⟩
    rw [atoi_itoa h0 h1]
    simp only
    rw [if_pos trivial]
/-! ### the reference's number -/
def wrI (n : Int) : Int := (n + 9223372036854775808) % 18446744073709551616 - 9223372036854775808
theorem wrI_id {n : Int} (h0 : -9223372036854775808 ≤ n) (h1 : n ≤ 9223372036854775807) : wrI n = n := by unfold wrI; omega
def stepN (n : Int) (c : UInt8) : Int := if 48 ≤ c.toNat ∧ c.toNat ≤ 57 then wrI (10 * n - ((c.toNat : Int) - 48)) else n
def numR (s : List UInt8) : Int :=
  let n := s.foldl stepN 0
  match s with
  | [] => n
  | c :: _ => if c = 45 then n else wrI (-n)
def intR (s : List UInt8) : Option Int := if s.length ≤ 20 ∧ itoa (numR s) = s then some (numR s) else none
theorem fold_dec : ∀ (u : Nat), u ≤ 9223372036854775808 → (decDigits u).foldl stepN 0 = -(u : Int) := by
  intro u
  induction u using Nat.strongRecOn with
  | ind u ih =>
    intro hu
    rw [dec_eq]
    by_cases h : u < 10
    · rw [if_pos h]
      have e := dig_ok h
      show stepN 0 _ = _
      unfold stepN
      rw [e, if_pos (by omega), wrI_id (by omega) (by omega)]
      omega
    · rw [if_neg h, List.foldl_append, ih (u / 10) (by omega) (by omega)]
      have e := dig_ok (Nat.mod_lt u (show 0 < 10 by omega))
      show stepN _ _ = _
      unfold stepN
      rw [e, if_pos (by omega), wrI_id (by omega) (by omega)]
      omega
theorem numR_itoa {n : Int} (h0 : -9223372036854775808 ≤ n) (h1 : n ≤ 9223372036854775807) : numR (itoa n) = n := by
  by_cases h : n < 0
  · obtain ⟨u, rfl⟩ : ∃ u : Nat, n = -(u : Int) := ⟨n.natAbs, by omega⟩
    rw [itoa_neg u (by omega)]
    unfold numR
    have e : stepN 0 45 = 0 := rfl
    simp only [List.foldl_cons, e]
    rw [if_pos trivial, fold_dec u (by omega)]
  · obtain ⟨u, rfl⟩ : ∃ u : Nat, n = (u : Int) := ⟨n.toNat, by omega⟩
    rw [itoa_nonneg]
    have hf := fold_dec u (by omega)
    obtain ⟨c, r, e, hc⟩ := dec_head u
    unfold okD at hc
    rw [e] at hf ⊢
    unfold numR
    simp only
    rw [hf, if_neg (by intro h; rw [h] at hc; exact absurd hc (by decide)), Int.neg_neg, wrI_id (by omega) (by omega)]
theorem dec_len : ∀ (k u : Nat), 1 ≤ k → u < 10 ^ k → (decDigits u).length ≤ k := by
  intro k
  induction k with
  | zero => intro u h _; omega
  | succ k ih =>
    intro u _ hu
    rw [dec_eq]
    by_cases h : u < 10
    · rw [if_pos h]; simp
    · rw [if_neg h, List.length_append]
      have hk : 1 ≤ k := by
        rcases Nat.eq_zero_or_pos k with h9 | h9
        · subst h9; simp at hu; omega
        · exact h9
      have := ih (u / 10) hk (by rw [Nat.pow_succ] at hu; omega)
      simp only [List.length_cons, List.length_nil]
      omega
theorem itoa_len {n : Int} (h0 : -9223372036854775808 ≤ n) (h1 : n ≤ 9223372036854775807) : (itoa n).length ≤ 20 := by
  by_cases h : n < 0
  · obtain ⟨u, rfl⟩ : ∃ u : Nat, n = -(u : Int) := ⟨n.natAbs, by omega⟩
    rw [itoa_neg u (by omega), List.length_cons]
    have := dec_len 19 u (by omega) (by have : u ≤ 9223372036854775808 := by omega
                                        exact Nat.lt_of_le_of_lt this (by decide))
    omega
  · obtain ⟨u, rfl⟩ : ∃ u : Nat, n = (u : Int) := ⟨n.toNat, by omega⟩
    rw [itoa_nonneg]
    have := dec_len 19 u (by omega) (by have : u ≤ 9223372036854775808 := by omega
                                        exact Nat.lt_of_le_of_lt this (by decide))
    omega
theorem wrI_rng (n : Int) : -9223372036854775808 ≤ wrI n ∧ wrI n ≤ 9223372036854775807 := by unfold wrI; omega
theorem stepN_rng {n : Int} (c : UInt8) (h : -9223372036854775808 ≤ n ∧ n ≤ 9223372036854775807) : -9223372036854775808 ≤ stepN n c ∧ stepN n c ≤ 9223372036854775807 := by
  unfold stepN; split
  · exact wrI_rng _
  · exact h
theorem fold_rng : ∀ (l : List UInt8) (n : Int), (-9223372036854775808 ≤ n ∧ n ≤ 9223372036854775807) → -9223372036854775808 ≤ l.foldl stepN n ∧ l.foldl stepN n ≤ 9223372036854775807
  | [], _, h => h
  | c :: l, n, h => fold_rng l (stepN n c) (stepN_rng c h)
theorem numR_rng (s : List UInt8) : -9223372036854775808 ≤ numR s ∧ numR s ≤ 9223372036854775807 := by
  have := fold_rng s 0 (by omega)
  unfold numR
  match s, this with
  | [], h => exact h
  | c :: r, h =>
    simp only
    split
    · exact h
    · exact wrI_rng _
/-- both ways of reading a number are one -/
theorem int_same (s : List UInt8) : intP s = intR s := by
  apply Option.ext
  intro n
  rw [intP_some]
  unfold intR
  constructor
  · rintro ⟨⟨h0, h1⟩, rfl⟩
    rw [numR_itoa h0 h1, if_pos ⟨itoa_len h0 h1, rfl⟩]
  · intro h
    split at h
    · rename_i h1
      injection h with h
      subst h
      exact ⟨numR_rng s, h1.2⟩
    · cases h
/-! ### texts -/
def quoV (l : List UInt8) : List UInt8 := l.flatMap fun b => if b = 39 then [39, 39] else [b]
theorem quoV_cons (b : UInt8) (l : List UInt8) : quoV (b :: l) = (if b = 39 then [39, 39] else [b]) ++ quoV l := by unfold quoV; rw [List.flatMap_cons]
/-- the program's way: what stands behind the first quote -/
def inQ : List UInt8 → Option (List UInt8)
  | [] => none
  | [b] => if b = 39 then some [] else none
  | b :: c :: r => if b = 39 then (if c = 39 then (inQ r).map (39 :: ·) else none) else (inQ (c :: r)).map (b :: ·)
theorem inQ_quo : ∀ t : List UInt8, inQ (quoV t ++ [39]) = some t
  | [] => rfl
  | b :: t => by
    have ih := inQ_quo t
    rw [quoV_cons]
    by_cases h : b = 39
    · subst h
      rw [if_pos rfl]
      show inQ (39 :: 39 :: (quoV t ++ [39])) = _
      rw [inQ, if_pos rfl, if_pos rfl, ih]; rfl
    · rw [if_neg h]
      show inQ (b :: (quoV t ++ [39])) = _
      obtain ⟨c, r, e⟩ : ∃ c r, quoV t ++ [39] = c :: r := by
        cases hq : quoV t with
        | nil => exact ⟨39, [], rfl⟩
        | cons c r => exact ⟨c, r ++ [39], rfl⟩
      rw [e] at ih ⊢
      rw [inQ, if_neg h, ih]; rfl
theorem inQ_some : ∀ {l t : List UInt8}, inQ l = some t → l = quoV t ++ [39]
  | [], t, h => by cases h
  | [b], t, h => by
    rw [inQ] at h
    split at h
    · rename_i hb
      injection h with h
      subst h; subst hb; rfl
    · cases h
  | b :: c :: r, t, h => by
    rw [inQ] at h
    split at h
    · rename_i hb
      split at h
      · rename_i hc
        rw [Option.map_eq_some_iff] at h
        obtain ⟨u, hu, rfl⟩ := h
        subst hb; subst hc
        rw [inQ_some hu, quoV_cons, if_pos rfl]; rfl
      · cases h
    · rename_i hb
      rw [Option.map_eq_some_iff] at h
      obtain ⟨u, hu, rfl⟩ := h
      rw [inQ_some hu, quoV_cons, if_neg hb]; rfl
theorem inQ_ne {b : UInt8} (h : b ≠ 39) : ∀ (r : List UInt8), inQ (b :: r) = (inQ r).map (b :: ·)
  | [] => by
    show (if b = 39 then some [] else none) = none
    rw [if_neg h]
  | c :: r => by rw [inQ, if_neg h]
theorem inQ_qq (r : List UInt8) : inQ (39 :: 39 :: r) = (inQ r).map (39 :: ·) := by rw [inQ, if_pos rfl, if_pos rfl]
theorem inQ_no {c : UInt8} (h : c ≠ 39) (r : List UInt8) : inQ (39 :: c :: r) = none := by rw [inQ, if_pos rfl, if_neg h]
def quoP : List UInt8 → Option (List UInt8)
  | 39 :: r => inQ r
  | _ => none
theorem quoP_some {s t : List UInt8} : quoP s = some t ↔ s = 39 :: (quoV t ++ [39]) := by
  constructor
  · intro h
    unfold quoP at h
    split at h
    · rw [inQ_some h]
    · cases h
  · rintro rfl
    exact inQ_quo t
/-- the reference's way: the bytes between the first and the last -/
def outF : List UInt8 → List UInt8
  | [] => []
  | [b] => [b]
  | b :: c :: r => if b = 39 then b :: outF r else b :: outF (c :: r)
theorem outF_quo : ∀ t : List UInt8, outF (quoV t) = t
  | [] => rfl
  | b :: t => by
    have ih := outF_quo t
    rw [quoV_cons]
    by_cases h : b = 39
    · subst h
      rw [if_pos rfl]
      show outF (39 :: 39 :: quoV t) = _
      rw [outF, if_pos rfl, ih]
    · rw [if_neg h]
      show outF (b :: quoV t) = _
      cases hq : quoV t with
      | nil =>
        rw [hq] at ih
        rw [outF]
        rw [show t = [] from ih.symm]
      | cons c r =>
        rw [hq] at ih
        rw [outF, if_neg h, ih]
def midU (s : List UInt8) : List UInt8 := (s.drop 1).take (s.length - 2)
def quoR (s : List UInt8) : Option (List UInt8) := if 39 :: (quoV (outF (midU s)) ++ [39]) = s then some (outF (midU s)) else none
theorem quo_same (s : List UInt8) : quoP s = quoR s := by
  apply Option.ext
  intro t
  rw [quoP_some]
  unfold quoR
  constructor
  · rintro rfl
    have e : midU (39 :: (quoV t ++ [39])) = quoV t := by
      unfold midU
      rw [List.drop_succ_cons, List.drop_zero, List.length_cons, List.length_append, List.length_singleton, show (quoV t).length + 1 + 1 - 2 = (quoV t).length from by omega, List.take_left]
    rw [e, outF_quo, if_pos rfl]
  · intro h
    split at h
    · rename_i h1
      injection h with h
      rw [h] at h1
      exact h1.symm
    · cases h
end Go.Proofs.YtabbiepafibmmaaDoor
