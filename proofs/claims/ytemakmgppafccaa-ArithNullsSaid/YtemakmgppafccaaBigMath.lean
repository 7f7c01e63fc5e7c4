/- Numbers as rows of digits to the base 2^32: plain laws. Conditions: none. -/
namespace Go.Proofs.Big
/-- what a row of digits is worth, the lowest first -/
def val : List Nat → Nat
  | [] => 0
  | d :: l => d + 4294967296 * val l
/-- the n digits of a number -/
def digs : Nat → Nat → List Nat
  | 0, _ => []
  | n + 1, m => m % 4294967296 :: digs n (m / 4294967296)
def Small (l : List Nat) : Prop := ∀ d ∈ l, d < 4294967296
theorem digs_len (n m : Nat) : (digs n m).length = n := by
  induction n generalizing m with
  | zero => rfl
  | succ n ih => simp [digs, ih]
theorem digs_small (n m : Nat) : Small (digs n m) := by
  induction n generalizing m with
  | zero => intro d h; simp [digs] at h
  | succ n ih =>
    intro d h
    simp only [digs, List.mem_cons] at h
    rcases h with rfl | h
    · exact Nat.mod_lt _ (by decide)
    · exact ih _ d h
theorem val_digs (n m : Nat) (h : m < 4294967296 ^ n) : val (digs n m) = m := by
  induction n generalizing m with
  | zero => simp [val, digs] at *; omega
  | succ n ih =>
    have h2 : m / 4294967296 < 4294967296 ^ n := by
      rw [Nat.div_lt_iff_lt_mul (by decide)]; rwa [Nat.pow_succ] at h
    simp only [digs, val]
    rw [ih _ h2]
    omega
theorem small_cons {d : Nat} {l : List Nat} : Small (d :: l) ↔ d < 4294967296 ∧ Small l := by
  simp [Small]
theorem val_lt (l : List Nat) (h : Small l) : val l < 4294967296 ^ l.length := by
  induction l with
  | nil => simp [val]
  | cons d l ih =>
    rw [small_cons] at h
    have := ih h.2
    simp only [val, List.length_cons, Nat.pow_succ]
    omega
theorem digs_val (l : List Nat) (h : Small l) (n : Nat) (hn : l.length = n) : digs n (val l) = l := by
  induction l generalizing n with
  | nil => subst hn; rfl
  | cons d l ih =>
    subst hn
    rw [small_cons] at h
    simp only [List.length_cons, digs, val]
    have h1 : (d + 4294967296 * val l) % 4294967296 = d := by omega
    have h2 : (d + 4294967296 * val l) / 4294967296 = val l := by omega
    rw [h1, h2, ih h.2 _ rfl]
theorem digs_of {l : List Nat} (h : Small l) {n : Nat} (hn : l.length = n) {m : Nat} (hm : val l = m) : l = digs n m := by
  subst hm; exact (digs_val l h n hn).symm
theorem val_append (l r : List Nat) : val (l ++ r) = val l + 4294967296 ^ l.length * val r := by
  induction l with
  | nil => simp [val]
  | cons d l ih =>
    simp only [List.cons_append, val, ih, List.length_cons, Nat.pow_succ]
    rw [Nat.mul_add, Nat.add_assoc, Nat.mul_comm (4294967296 ^ l.length) 4294967296, Nat.mul_assoc]
theorem val_take (l : List Nat) (i : Nat) (hi : i < l.length) : val (l.take (i + 1)) = val (l.take i) + 4294967296 ^ i * l.getD i 0 := by
  have e : l.take (i + 1) = l.take i ++ [l.getD i 0] := by
    rw [List.take_add_one]; simp [List.getD, hi]
  rw [e, val_append, List.length_take, Nat.min_eq_left (by omega)]
  simp [val]
theorem small_getD {l : List Nat} (h : Small l) (i : Nat) : l.getD i 0 < 4294967296 := by
  by_cases hi : i < l.length
  · simp only [List.getD, List.getElem?_eq_getElem hi, Option.getD_some]
    exact h _ (List.getElem_mem hi)
  · simp only [List.getD, List.getElem?_eq_none (by omega : l.length ≤ i), Option.getD_none]; decide
theorem small_set {l : List Nat} (h : Small l) (i : Nat) {x : Nat} (hx : x < 4294967296) : Small (l.set i x) := by
  intro d hd
  rcases List.mem_or_eq_of_mem_set hd with h1 | rfl
  · exact h d h1
  · exact hx
theorem take_set {l : List Nat} (i x : Nat) : (l.set i x).take i = l.take i := by
  rw [List.take_set]; exact List.set_eq_of_length_le (by rw [List.length_take]; omega)
theorem getD_set {l : List Nat} (i x : Nat) (hi : i < l.length) : (l.set i x).getD i 0 = x := by
  simp [List.getD, hi]
/-- one round of adding -/
theorem add_round (A B O : List Nat) (i c : Nat) (hA : i < A.length) (hB : i < B.length) (hO : i < O.length)
    (h : val (O.take i) + 4294967296 ^ i * c = val (A.take i) + val (B.take i)) :
    val ((O.set i ((A.getD i 0 + B.getD i 0 + c) % 4294967296)).take (i + 1)) + 4294967296 ^ (i + 1) * ((A.getD i 0 + B.getD i 0 + c) / 4294967296) = val (A.take (i + 1)) + val (B.take (i + 1)) := by
  rw [val_take _ i (by simpa using hO), val_take _ i hA, val_take _ i hB, take_set, getD_set _ _ hO, Nat.pow_succ]
  generalize A.getD i 0 = a at *
  generalize B.getD i 0 = b at *
  have hx := Nat.mod_add_div (a + b + c) 4294967296
  generalize (a + b + c) % 4294967296 = r at *
  generalize (a + b + c) / 4294967296 = q at *
  generalize 4294967296 ^ i = p at *
  rw [Nat.mul_assoc]
  have : p * r + p * (4294967296 * q) = p * a + p * b + p * c := by rw [← Nat.mul_add, hx, Nat.mul_add, Nat.mul_add]
  omega
/-- one round of taking away -/
theorem sub_round (A B O : List Nat) (i c : Nat) (hA : i < A.length) (hB : i < B.length) (hO : i < O.length) (sA : Small A) (sB : Small B) (hc : c ≤ 1)
    (h : val (O.take i) + val (B.take i) = val (A.take i) + 4294967296 ^ i * c) :
    val ((O.set i ((A.getD i 0 + 4294967296 - B.getD i 0 - c) % 4294967296)).take (i + 1)) + val (B.take (i + 1)) = val (A.take (i + 1)) + 4294967296 ^ (i + 1) * (1 - (A.getD i 0 + 4294967296 - B.getD i 0 - c) / 4294967296) := by
  rw [val_take _ i (by simpa using hO), val_take _ i hA, val_take _ i hB, take_set, getD_set _ _ hO, Nat.pow_succ]
  have ha := small_getD sA i
  have hb := small_getD sB i
  generalize A.getD i 0 = a at *
  generalize B.getD i 0 = b at *
  have hx : (a + 4294967296 - b - c) % 4294967296 + b + c = a + 4294967296 * (1 - (a + 4294967296 - b - c) / 4294967296) := by omega
  generalize (a + 4294967296 - b - c) % 4294967296 = r at *
  generalize 1 - (a + 4294967296 - b - c) / 4294967296 = q at *
  generalize 4294967296 ^ i = p at *
  rw [Nat.mul_assoc]
  have : p * r + p * b + p * c = p * a + p * (4294967296 * q) := by rw [← Nat.mul_add, ← Nat.mul_add, hx, Nat.mul_add]
  omega
theorem val_split (l : List Nat) (i : Nat) (hi : i ≤ l.length) : val l = val (l.take i) + 4294967296 ^ i * val (l.drop i) := by
  conv => lhs; rw [← List.take_append_drop i l]
  rw [val_append, List.length_take, Nat.min_eq_left hi]
theorem small_take {l : List Nat} (h : Small l) (i : Nat) : Small (l.take i) := fun d hd => h d (List.mem_of_mem_take hd)
/-- where the highest unlike digits part -/
theorem val_less (A B : List Nat) (i : Nat) (sA : Small A) (sB : Small B) (hA : i < A.length) (hB : i < B.length) (hd : A.drop (i + 1) = B.drop (i + 1)) (hne : A.getD i 0 ≠ B.getD i 0) :
    (val A < val B) = (A.getD i 0 < B.getD i 0) := by
  have la := val_lt _ (small_take sA i)
  have lb := val_lt _ (small_take sB i)
  rw [List.length_take, Nat.min_eq_left (by omega)] at la lb
  rw [val_split A (i + 1) (by omega), val_split B (i + 1) (by omega), hd, val_take _ _ hA, val_take _ _ hB]
  generalize A.getD i 0 = a at *
  generalize B.getD i 0 = b at *
  generalize 4294967296 ^ (i + 1) * val (B.drop (i + 1)) = t
  generalize val (A.take i) = x at *
  generalize val (B.take i) = y at *
  generalize 4294967296 ^ i = p at *
  apply propext
  constructor
  · intro h
    rcases Nat.lt_or_ge a b with h1 | h1
    · exact h1
    · have h2 : b + 1 ≤ a := by omega
      have := Nat.mul_le_mul_left p h2
      rw [Nat.mul_add] at this
      omega
  · intro h
    have := Nat.mul_le_mul_left p (show a + 1 ≤ b from h)
    rw [Nat.mul_add] at this
    omega
theorem drop_eq {A B : List Nat} {i : Nat} (hA : i < A.length) (hB : i < B.length) (hd : A.drop (i + 1) = B.drop (i + 1)) (he : A.getD i 0 = B.getD i 0) : A.drop i = B.drop i := by
  rw [List.drop_eq_getElem_cons hA, List.drop_eq_getElem_cons hB, hd]
  simp only [List.getD, List.getElem?_eq_getElem hA, List.getElem?_eq_getElem hB, Option.getD_some] at he
  rw [he]
theorem val_zero (l : List Nat) : val l = 0 ↔ ∀ d ∈ l, d = 0 := by
  induction l with
  | nil => simp [val]
  | cons d l ih => simp only [val, List.mem_cons, forall_eq_or_imp, ← ih]; omega
theorem tdiv_sign (x y : Int) (hz : x.tdiv y ≠ 0) : (decide (x < 0) != decide (y < 0)) = decide (x.tdiv y < 0) := by
  rcases x with m | m <;> rcases y with n | n
  · obtain ⟨k, hk⟩ : ∃ k : Nat, (Int.ofNat m).tdiv (Int.ofNat n) = (k : Int) := ⟨m / n, rfl⟩
    generalize (Int.ofNat m).tdiv (Int.ofNat n) = z at *
    subst hk
    rw [decide_eq_false (show ¬ (Int.ofNat m < 0) from by simp), decide_eq_false (show ¬ (Int.ofNat n < 0) from by simp), decide_eq_false (show ¬ ((k : Int) < 0) from by omega)]; rfl
  · obtain ⟨k, hk⟩ : ∃ k : Nat, (Int.ofNat m).tdiv (Int.negSucc n) = -(k : Int) := ⟨m / (n + 1), rfl⟩
    generalize (Int.ofNat m).tdiv (Int.negSucc n) = z at *
    subst hk
    rw [decide_eq_false (show ¬ (Int.ofNat m < 0) from by simp), decide_eq_true (Int.negSucc_lt_zero n), decide_eq_true (show (-(k : Int) < 0) from by omega)]; rfl
  · obtain ⟨k, hk⟩ : ∃ k : Nat, (Int.negSucc m).tdiv (Int.ofNat n) = -(k : Int) := ⟨(m + 1) / n, rfl⟩
    generalize (Int.negSucc m).tdiv (Int.ofNat n) = z at *
    subst hk
    rw [decide_eq_false (show ¬ (Int.ofNat n < 0) from by simp), decide_eq_true (Int.negSucc_lt_zero m), decide_eq_true (show (-(k : Int) < 0) from by omega)]; rfl
  · obtain ⟨k, hk⟩ : ∃ k : Nat, (Int.negSucc m).tdiv (Int.negSucc n) = (k : Int) := ⟨(m + 1) / (n + 1), rfl⟩
    generalize (Int.negSucc m).tdiv (Int.negSucc n) = z at *
    subst hk
    rw [decide_eq_true (Int.negSucc_lt_zero n), decide_eq_true (Int.negSucc_lt_zero m), decide_eq_false (show ¬ ((k : Int) < 0) from by omega)]; rfl
theorem val_set (l : List Nat) (i x : Nat) (hi : i < l.length) : val (l.set i x) + 4294967296 ^ i * l.getD i 0 = val l + 4294967296 ^ i * x := by
  induction l generalizing i with
  | nil => simp at hi
  | cons d l ih =>
    cases i with
    | zero => simp only [List.set_cons_zero, val, List.getD, List.getElem?_cons_zero, Option.getD_some, Nat.pow_zero, Nat.one_mul]; omega
    | succ i =>
      have := ih i (by simpa using hi)
      simp only [List.set_cons_succ, val, List.getD, List.getElem?_cons_succ, Nat.pow_succ] at *
      generalize (l[i]?.getD 0) = z at *
      generalize 4294967296 ^ i = p at *
      rw [Nat.mul_comm p 4294967296, Nat.mul_assoc, Nat.mul_assoc]
      omega
/-- one round of times -/
theorem times_round (A B O : List Nat) (i k c : Nat) (hi : i < 4) (hk : k < 4) (hB : B.length = 8) (hO : O.length = 8)
    (h : val O + 4294967296 ^ (i + k) * c = val (A.take i) * val (B.take 4) + 4294967296 ^ i * (A.getD i 0 * val (B.take k))) :
    val (O.set (i + k) ((O.getD (i + k) 0 + A.getD i 0 * B.getD k 0 + c) % 4294967296)) + 4294967296 ^ (i + (k + 1)) * ((O.getD (i + k) 0 + A.getD i 0 * B.getD k 0 + c) / 4294967296) = val (A.take i) * val (B.take 4) + 4294967296 ^ i * (A.getD i 0 * val (B.take (k + 1))) := by
  have h1 := val_set O (i + k) ((O.getD (i + k) 0 + A.getD i 0 * B.getD k 0 + c) % 4294967296) (by omega)
  have h2 := val_take B k (by omega)
  rw [h2, ← Nat.add_assoc, Nat.pow_succ]
  generalize O.getD (i + k) 0 = o at *
  generalize A.getD i 0 = a at *
  generalize B.getD k 0 = b at *
  have hx := Nat.mod_add_div (o + a * b + c) 4294967296
  generalize (o + a * b + c) % 4294967296 = r at *
  generalize (o + a * b + c) / 4294967296 = q at *
  have hp : 4294967296 ^ (i + k) = 4294967296 ^ i * 4294967296 ^ k := Nat.pow_add _ _ _
  have e1 : 4294967296 ^ (i + k) * r + 4294967296 ^ (i + k) * (4294967296 * q) = 4294967296 ^ (i + k) * o + 4294967296 ^ (i + k) * (a * b) + 4294967296 ^ (i + k) * c := by
    rw [← Nat.mul_add, hx, Nat.mul_add, Nat.mul_add]
  have e2 : 4294967296 ^ i * (a * (val (B.take k) + 4294967296 ^ k * b)) = 4294967296 ^ i * (a * val (B.take k)) + 4294967296 ^ (i + k) * (a * b) := by
    rw [hp, Nat.mul_add, Nat.mul_add, Nat.mul_assoc, Nat.mul_left_comm a (4294967296 ^ k) b]
  rw [e2, Nat.mul_assoc]
  omega
theorem times_end (A B O : List Nat) (i c : Nat) (hi : i < 4) (hA : A.length = 8) (hO : O.length = 8) (hz : O.getD (i + 4) 0 = 0)
    (h : val O + 4294967296 ^ (i + 4) * c = val (A.take i) * val (B.take 4) + 4294967296 ^ i * (A.getD i 0 * val (B.take 4))) :
    val (O.set (i + 4) c) = val (A.take (i + 1)) * val (B.take 4) := by
  have h1 := val_set O (i + 4) c (by omega)
  have h2 := val_take A i (by omega)
  rw [hz, Nat.mul_zero, Nat.add_zero] at h1
  rw [h1, h, h2, Nat.add_mul, Nat.mul_assoc]
theorem mul_small {a b : Nat} (ha : a < 4294967296) (hb : b < 4294967296) : a * b ≤ 18446744065119617025 := by
  have := Nat.mul_le_mul (show a ≤ 4294967295 by omega) (show b ≤ 4294967295 by omega)
  omega
theorem gd_other {l : List Nat} {i j x : Nat} (h : i ≠ j) : (l.set i x).getD j 0 = l.getD j 0 := by
  simp [List.getD, h]
theorem val_take4 (m : Nat) (h : m < 4294967296 ^ 4) : val ((digs 8 m).take 4) = m := by
  have e : (digs 8 m).take 4 = digs 4 m := by simp [digs]
  rw [e, val_digs 4 m h]
end Go.Proofs.Big
