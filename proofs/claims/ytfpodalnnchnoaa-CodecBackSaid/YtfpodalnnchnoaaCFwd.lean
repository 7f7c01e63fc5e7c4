/- The plain law forward: bytes that begin with a value's, a row's, a list's are taken as that. -/
import Derived.Test.YtfpodalnnchnoaaCTakM
import Derived.Test.YtfpodalnnchnoaaCApM
namespace Go.Proofs.Ytfpodalnnchnoaa
open Go.RowKit
/-- the bytes at the taker's place begin with these -/
structure Begins (bs : List UInt8) (s : St) (X : List UInt8) : Prop where
  le : s.p + X.length ≤ bs.length
  eq : (bs.drop s.p).take X.length = X
theorem Begins.left {bs : List UInt8} {s : St} {X Y : List UInt8} (h : Begins bs s (X ++ Y)) : Begins bs s X := by
  obtain ⟨h0, h1⟩ := h
  rw [List.length_append] at h0
  refine ⟨by omega, ?_⟩
  have := congrArg (List.take X.length) h1
  rw [List.take_take, List.take_left, List.length_append, Nat.min_eq_left (by omega)] at this
  exact this
def moved (s : St) (n : Nat) : St := ⟨s.p + n, 0, false⟩
theorem moved_fine (s : St) (n : Nat) : Fine (moved s n) := ⟨rfl, rfl⟩
theorem moved_moved (s : St) (n m : Nat) : moved (moved s n) m = moved s (n + m) := by unfold moved; simp only; rw [Nat.add_assoc]
theorem Begins.right {bs : List UInt8} {s : St} {X Y : List UInt8} (h : Begins bs s (X ++ Y)) : Begins bs (moved s X.length) Y := by
  obtain ⟨h0, h1⟩ := h
  rw [List.length_append] at h0
  refine ⟨by show s.p + X.length + Y.length ≤ _; omega, ?_⟩
  have := congrArg (List.drop X.length) h1
  rw [List.drop_left, List.drop_take, List.drop_drop, List.length_append, Nat.add_sub_cancel_left] at this
  exact this
theorem fwd_rd {bs : List UInt8} {s : St} {X : List UInt8} {k : Nat} (hk : X.length = k) (hs : Fine s) (h : Begins bs s X) : rdS bs s (k : Int) = moved s k ∧ rdO bs s.p s.why (k : Int) = X := by
  subst hk
  obtain ⟨hb, hw⟩ := hs
  have hle := h.le
  have hc : s.why = 0 ∧ 0 ≤ (X.length : Int) ∧ (X.length : Int) ≤ (bs.length : Int) - s.p := ⟨hw, by omega, by omega⟩
  refine ⟨?_, ?_⟩
  · unfold rdS moved
    have e1 : rdP bs s.p s.why X.length = s.p + X.length := by unfold rdP; rw [if_pos hc]; simp
    have e2 : rdW bs s.p s.why X.length = 0 := by unfold rdW; rw [if_pos hw, if_neg (by omega), if_neg (by omega)]
    rw [e1, e2, hb]
  · unfold rdO
    rw [if_pos hc]
    simpa using h.eq
theorem nd_t {s : St} : nd s true = s := by unfold nd; cases s; simp
theorem wv_ofNat {x : Nat} (h : x < 256) : wv [UInt8.ofNat x] = x := by
  simp [wv, val, M64]
  omega
theorem wv_beB8 {x : Nat} (h : x < 18446744073709551616) : wv (beB 8 x) = x := by
  unfold wv
  rw [val_beB 8 x h]
  exact Nat.mod_eq_of_lt h
theorem i64w_u64 {n : Int} (h : -9223372036854775808 ≤ n ∧ n ≤ 9223372036854775807) : i64w (U64 n) = n := by
  unfold i64w
  rw [← (u64_spec n).1, IntKind.wrap_u64, IntKind.wrap_i64]
  omega
/-- a value's bytes are taken as that value -/
theorem fwd_val {bs : List UInt8} {s : St} {v : VV} (hs : Fine s) (hv : v.ok = true) (hr : v.rng) (h : Begins bs s (valB v)) : valS bs s = (v, moved s (valB v).length) := by
  have kind : ∀ (k : Nat) (Y : List UInt8), k ≤ 4 → Begins bs s ([UInt8.ofNat k] ++ Y) → kS bs s = k ∧ s1S bs s = moved s 1 := by
    intro k Y hk h
    obtain ⟨h1, h2⟩ := fwd_rd (k := 1) rfl hs h.left
    have e : kS bs s = k := by unfold kS; exact (congrArg wv h2).trans (wv_ofNat (by omega))
    refine ⟨e, ?_⟩
    unfold s1S
    rw [e, decide_eq_true (by omega), nd_t]
    exact h1
  have fin : ∀ (t : St), finS v t = (v, t) := by intro t; unfold finS; rw [hv, nd_t]
  obtain ⟨k, n, u, z⟩ := v
  have ok1 := fine_okS.2 (moved_fine s 1)
  rcases ok_cases hv with ⟨h1, h2, h3, h4⟩ | ⟨h1, h2, h3, h4⟩ | ⟨h1, h3, h4⟩ | ⟨h1, h2, h3, h4⟩ | ⟨h1, h4⟩ <;> simp only at h1
  · simp only at h2 h3 h4; subst h1 h2 h3 h4
    have e : valB ⟨0, 0, 0, ⟨#[]⟩⟩ = [UInt8.ofNat 0] ++ [] := by simp [valB]
    rw [e] at h ⊢
    obtain ⟨k1, k2⟩ := kind 0 [] (by omega) h
    unfold valS
    rw [k1, k2, ok1]
    simpa using fin (moved s 1)
  · simp only at h2 h3 h4; subst h1 h3 h4
    have e : valB ⟨1, n, 0, ⟨#[]⟩⟩ = [UInt8.ofNat 1] ++ [UInt8.ofNat n.toNat] := by simp [valB]
    rw [e] at h ⊢
    obtain ⟨k1, k2⟩ := kind 1 _ (by omega) h
    obtain ⟨r1, r2⟩ := fwd_rd (k := 1) rfl (moved_fine s 1) h.right
    have e2 : kS bs (moved s 1) = n.toNat := by unfold kS; exact (congrArg wv r2).trans (wv_ofNat (by rcases h2 with rfl | rfl <;> decide))
    have e3 : ((n.toNat : Nat) : Int) = n := by rcases h2 with rfl | rfl <;> rfl
    unfold valS
    rw [k1, k2, ok1, e2]
    simp only [Bool.true_eq_false, if_false, if_true]
    rw [show ((n.toNat : Nat) : Int) = n from e3, show rdS bs (moved s 1) 1 = moved (moved s 1) 1 from r1, moved_moved]
    exact fin _
  · simp only at h3 h4; subst h1 h3 h4
    have e : valB ⟨2, n, 0, ⟨#[]⟩⟩ = [UInt8.ofNat 2] ++ beB 8 (U64 n) := by simp [valB]
    rw [e] at h ⊢
    obtain ⟨k1, k2⟩ := kind 2 _ (by omega) h
    obtain ⟨r1, r2⟩ := fwd_rd (k := 8) (beB_len 8 _) (moved_fine s 1) h.right
    have e2 : xS bs (moved s 1) = U64 n := by unfold xS; exact (congrArg wv r2).trans (wv_beB8 (u64_spec n).2)
    unfold valS
    rw [k1, k2, ok1, e2]
    simp only [Bool.true_eq_false, if_false, if_true, show ¬ (2 : Nat) = 1 from by decide]
    rw [i64w_u64 hr.1, show rdS bs (moved s 1) 8 = moved (moved s 1) 8 from r1, moved_moved, List.length_append, beB_len]
    exact fin _
  · simp only at h2 h3 h4; subst h1 h2 h3
    have hz : z.data.toList.length = z.size := Array.length_toList
    have e : valB ⟨3, 0, 0, z⟩ = [UInt8.ofNat 3] ++ ([UInt8.ofNat z.size] ++ z.data.toList) := by simp [valB]
    rw [e] at h ⊢
    obtain ⟨k1, k2⟩ := kind 3 _ (by omega) h
    obtain ⟨r1, r2⟩ := fwd_rd (k := 1) rfl (moved_fine s 1) h.right.left
    have h5 := h.right.right
    rw [show [UInt8.ofNat 3].length = 1 from rfl, show [UInt8.ofNat z.size].length = 1 from rfl] at h5
    obtain ⟨r3, r4⟩ := fwd_rd (k := z.size) hz (moved_fine (moved s 1) 1) h5
    have e2 : kS bs (moved s 1) = z.size := by unfold kS; exact (congrArg wv r2).trans (wv_ofNat (by omega))
    have e3 : tS bs (moved s 1) = moved (moved s 1) 1 := by
      unfold tS
      rw [e2, decide_eq_true (by omega), nd_t]
      exact r1
    unfold valS
    rw [k1, k2, ok1]
    simp only [Bool.true_eq_false, if_false, if_true, show ¬ (3 : Nat) = 1 from by decide, show ¬ (3 : Nat) = 2 from by decide]
    unfold txtS
    rw [e3, if_pos (fine_okS.2 (moved_fine _ _)), e2, r3, moved_moved, moved_moved, List.length_append, List.length_append, hz]
    have e4 : bS bs (moved (moved s 1) 1) z.size = z := by unfold bS; rw [r4]
    rw [moved_moved] at e4
    rw [e4, fin, show [UInt8.ofNat 3].length = 1 from rfl, show [UInt8.ofNat z.size].length = 1 from rfl, Nat.add_assoc]
  · simp only at h4; subst h1 h4
    have e : valB ⟨4, n, u, ⟨#[]⟩⟩ = [UInt8.ofNat 4] ++ (beB 8 (U64 n) ++ beB 8 (U64 u)) := by simp [valB]
    rw [e] at h ⊢
    obtain ⟨k1, k2⟩ := kind 4 _ (by omega) h
    obtain ⟨r1, r2⟩ := fwd_rd (k := 8) (beB_len 8 _) (moved_fine s 1) h.right.left
    have h5 := h.right.right
    rw [show [UInt8.ofNat 4].length = 1 from rfl, beB_len] at h5
    obtain ⟨r3, r4⟩ := fwd_rd (k := 8) (beB_len 8 _) (moved_fine (moved s 1) 8) h5
    have e2 : xS bs (moved s 1) = U64 n := by unfold xS; exact (congrArg wv r2).trans (wv_beB8 (u64_spec n).2)
    have e5 : rdS bs (moved s 1) 8 = moved (moved s 1) 8 := r1
    have e6 : xS bs (moved (moved s 1) 8) = U64 u := by unfold xS; exact (congrArg wv r4).trans (wv_beB8 (u64_spec u).2)
    have e7 : ((U64 u : Nat) : Int) = u := u64_id hr.2
    unfold valS
    rw [k1, k2, ok1]
    simp only [Bool.true_eq_false, if_false, if_true, show ¬ (4 : Nat) = 1 from by decide, show ¬ (4 : Nat) = 2 from by decide, show ¬ (4 : Nat) = 3 from by decide]
    rw [e5, e2, e6, e7, i64w_u64 hr.1, show rdS bs (moved (moved s 1) 8) 8 = moved (moved (moved s 1) 8) 8 from r3, moved_moved, moved_moved, List.length_append, List.length_append, beB_len, beB_len]
    exact fin _
/-- so many are taken, one behind the other -/
theorem fwd_many {α : Type} (bs : List UInt8) (f : St → α × St) (E : α → List UInt8) (G : α → Prop) (hf : ∀ s x, Fine s → G x → Begins bs s (E x) → f s = (x, moved s (E x).length)) :
    ∀ (xs : List α) (s : St), Fine s → (∀ x ∈ xs, G x) → Begins bs s (xs.flatMap E) → manyS f xs.length s = (xs, moved s (xs.flatMap E).length)
  | [], s, h, _, _ => by
    obtain ⟨h1, h2⟩ := h
    simp [manyS, moved]
    cases s
    simp_all
  | x :: l, s, h, hg, hb => by
    rw [List.flatMap_cons] at hb ⊢
    have h1 := hf s x h (hg x (by simp)) hb.left
    have h2 := fwd_many bs f E G hf l (moved s (E x).length) (moved_fine _ _) (fun y hy => hg y (by simp [hy])) hb.right
    show manyS f (l.length + 1) s = _
    unfold manyS
    rw [if_pos (fine_okS.2 h), h1]
    simp only
    rw [h2, moved_moved, List.length_append]
theorem fwd_row {bs : List UInt8} {s : St} {r : List VV} (hs : Fine s) (hr : rowE r = 0) (hg : ∀ v ∈ r, v.rng) (h : Begins bs s (rowB r)) : rowS bs s = (r, moved s (rowB r).length) := by
  have hrB : rowB r = [UInt8.ofNat r.length] ++ r.flatMap valB := by unfold rowB; rw [if_pos hr]; rfl
  have hE := hr
  unfold rowE at hE
  split at hE
  · omega
  rename_i hl
  split at hE
  · rename_i hall
    rw [hrB] at h ⊢
    obtain ⟨r1, r2⟩ := fwd_rd (k := 1) rfl hs h.left
    have e1 : kS bs s = r.length := by unfold kS; exact (congrArg wv r2).trans (wv_ofNat (by omega))
    have e2 : r1S bs s = moved s 1 := by
      unfold r1S
      rw [e1, decide_eq_true (by omega), nd_t]
      exact r1
    unfold rowS
    rw [e1, e2, fwd_many bs (valS bs) valB (fun v => v.ok = true ∧ v.rng) (fun s x h g hb => fwd_val h g.1 g.2 hb) r (moved s 1) (moved_fine _ _) (fun v hv => ⟨List.all_eq_true.1 hall v hv, hg v hv⟩) h.right, moved_moved, List.length_append]
    rfl
  · omega
theorem listX_ok : ∀ {rows : List (List VV)} {i : Nat}, listX rows i = none → ∀ r ∈ rows, rowE r = 0
  | [], _, _, r, hr => by simp at hr
  | x :: l, i, h, r, hr => by
    unfold listX at h
    split at h
    · rename_i hx
      rcases List.mem_cons.1 hr with rfl | hr
      · exact hx
      · exact listX_ok h r hr
    · cases h
theorem fwd_list {bs : List UInt8} {s : St} {l : List (List VV)} (hs : Fine s) (hl : listE l = 0) (hg : ∀ r ∈ l, ∀ v ∈ r, v.rng) (h : Begins bs s (listB l)) : listS bs s = (l, moved s (listB l).length) := by
  have hB : listB l = beB 2 l.length ++ l.flatMap rowB := by unfold listB; rw [if_pos hl]
  have hE := hl
  unfold listE at hE
  split at hE
  · omega
  rename_i hle
  have hX : listX l 0 = none := by
    cases hx : listX l 0 with
    | none => rfl
    | some y =>
      rw [hx] at hE
      exfalso
      have : ∀ (rows : List (List VV)) (i : Nat) (y : Nat × Int), listX rows i = some y → y.2 ≠ 0 := by
        intro rows
        induction rows with
        | nil => intro i y h; cases h
        | cons a t ih =>
          intro i y h
          unfold listX at h
          split at h
          · exact ih _ _ h
          · rename_i hne
            injection h with h
            subst h
            exact hne
      exact this l 0 y hx hE
  rw [hB] at h ⊢
  obtain ⟨r1, r2⟩ := fwd_rd (k := 2) (beB_len 2 _) hs h.left
  have e1 : hS bs s = l.length := by
    unfold hS
    refine (congrArg wv r2).trans ?_
    unfold wv
    rw [val_beB 2 _ (by omega)]
    exact Nat.mod_eq_of_lt (by unfold M64; omega)
  have e2 : l1S bs s = moved s 2 := by
    unfold l1S
    rw [e1, decide_eq_true (by omega), nd_t]
    exact r1
  have h5 := h.right
  rw [beB_len] at h5
  unfold listS
  rw [e1, e2, fwd_many bs (rowS bs) rowB (fun r => rowE r = 0 ∧ ∀ v ∈ r, v.rng) (fun s x h g hb => fwd_row h g.1 g.2 hb) l (moved s 2) (moved_fine _ _) (fun r hr => ⟨listX_ok hX r hr, hg r hr⟩) h5, moved_moved, List.length_append, beB_len]
theorem begins_s0 (X Y : List UInt8) : Begins (X ++ Y) s0 X := ⟨by simp [s0], by simp [s0]⟩
/-- whatever stands behind: the list is taken back -/
theorem tl_fwd {l : List (List VV)} (tail : List UInt8) (hl : listE l = 0) (hg : ∀ r ∈ l, ∀ v ∈ r, v.rng) : tlE (listB l ++ tail) = 0 ∧ tlN (listB l ++ tail) = (listB l).length ∧ tlV (listB l ++ tail) = l := by
  have h := fwd_list (s := s0) ⟨rfl, rfl⟩ hl hg (begins_s0 (listB l) tail)
  have e1 : tlE (listB l ++ tail) = 0 := by unfold tlE; rw [h]; rfl
  refine ⟨e1, ?_, ?_⟩
  · refine (if_pos e1).trans ?_
    rw [h]
    simp [moved, s0]
  · unfold tlV
    rw [if_pos e1, h]
theorem tr_fwd {r : List VV} (tail : List UInt8) (hr : rowE r = 0) (hg : ∀ v ∈ r, v.rng) : trE (rowB r ++ tail) = 0 ∧ trN (rowB r ++ tail) = (rowB r).length ∧ trV (rowB r ++ tail) = r := by
  have h := fwd_row (s := s0) ⟨rfl, rfl⟩ hr hg (begins_s0 (rowB r) tail)
  have e1 : trE (rowB r ++ tail) = 0 := by unfold trE; rw [h]; rfl
  refine ⟨e1, ?_, ?_⟩
  · refine (if_pos e1).trans ?_
    rw [h]
    simp [moved, s0]
  · unfold trV
    rw [if_pos e1, h]
end Go.Proofs.Ytfpodalnnchnoaa
