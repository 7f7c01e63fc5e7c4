/- The plain law of bytes that break off: less of a list's bytes is too short. -/
import Derived.Test.YtfpodalnnchnoaaCFwd
namespace Go.Proofs.Ytfpodalnnchnoaa
open Go.RowKit
/-- the bytes from the taker's place on are some of these, not all -/
structure Part (bs : List UInt8) (s : St) (X : List UInt8) : Prop where
  le : s.p ≤ bs.length
  lt : bs.length - s.p < X.length
  eq : bs.drop s.p = X.take (bs.length - s.p)
/-- the taker has found them too short -/
def Sh (s : St) : Prop := s.bad = false ∧ s.why = 7
theorem sh_ok {s : St} (h : Sh s) : okS s = false := by unfold okS; rw [h.1, h.2]; rfl
theorem sh_nd {s : St} (h : Sh s) (b : Bool) : Sh (nd s b) := by
  obtain ⟨h1, h2⟩ := h
  refine ⟨?_, h2⟩
  unfold nd
  simp [h1, h2]
theorem sh_rd {s : St} (h : Sh s) (bs : List UInt8) (k : Int) : Sh (rdS bs s k) := by
  refine ⟨h.1, ?_⟩
  show rdW bs s.p s.why k = 7
  unfold rdW
  rw [h.2, if_neg (by decide)]
theorem part_rd {bs : List UInt8} {s : St} {X : List UInt8} {k : Nat} (hk : X.length = k) (hs : Fine s) (h : Part bs s X) : Sh (rdS bs s (k : Int)) := by
  subst hk
  refine ⟨hs.1, ?_⟩
  have h1 := h.le
  have h2 := h.lt
  show rdW bs s.p s.why X.length = 7
  unfold rdW
  rw [if_pos hs.2, if_neg (by omega), if_pos (by omega)]
theorem Part.split {bs : List UInt8} {s : St} {X Y : List UInt8} (h : Part bs s (X ++ Y)) : Part bs s X ∨ Begins bs s X ∧ Part bs (moved s X.length) Y := by
  obtain ⟨h0, h1, h2⟩ := h
  rw [List.length_append] at h1
  rcases Nat.lt_or_ge (bs.length - s.p) X.length with hl | hl
  · refine .inl ⟨h0, hl, ?_⟩
    rw [h2, List.take_append_of_le_length (by omega)]
  · refine .inr ⟨⟨by omega, ?_⟩, ?_, ?_, ?_⟩
    · rw [h2, List.take_take, Nat.min_eq_left hl, List.take_left]
    · show s.p + X.length ≤ _
      omega
    · show bs.length - (s.p + X.length) < _
      omega
    · show bs.drop (s.p + X.length) = Y.take (bs.length - (s.p + X.length))
      rw [← List.drop_drop, h2, List.drop_take, List.drop_left]
      congr 1
      omega
theorem sh_fin {s : St} (h : Sh s) (v : VV) : Sh (finS v s).2 := sh_nd h _
theorem part_nil {bs : List UInt8} {s : St} (h : Part bs s []) : False := Nat.not_lt_zero _ h.lt
theorem part_val {bs : List UInt8} {s : St} {v : VV} (hs : Fine s) (hv : v.ok = true) (h : Part bs s (valB v)) : Sh (valS bs s).2 := by
  have first : ∀ (k : Nat) (Y : List UInt8), k ≤ 4 → Part bs s ([UInt8.ofNat k] ++ Y) → Sh (valS bs s).2 ∨ kS bs s = k ∧ s1S bs s = moved s 1 ∧ Part bs (moved s 1) Y := by
    intro k Y hk h
    rcases h.split with h | ⟨hb, hp⟩
    · left
      have hsh := part_rd (k := 1) rfl hs h
      have h1 : Sh (s1S bs s) := sh_nd hsh _
      unfold valS
      rw [if_pos (sh_ok h1)]
      exact h1
    · right
      obtain ⟨h1, h2⟩ := fwd_rd (k := 1) rfl hs hb
      have e : kS bs s = k := by unfold kS; exact (congrArg wv h2).trans (wv_ofNat (by omega))
      refine ⟨e, ?_, hp⟩
      unfold s1S
      rw [e, decide_eq_true (by omega), nd_t]
      exact h1
  obtain ⟨k, n, u, z⟩ := v
  have ok1 := fine_okS.2 (moved_fine s 1)
  rcases ok_cases hv with ⟨h1, h2, h3, h4⟩ | ⟨h1, h2, h3, h4⟩ | ⟨h1, h3, h4⟩ | ⟨h1, h2, h3, h4⟩ | ⟨h1, h4⟩ <;> simp only at h1
  · simp only at h2 h3 h4; subst h1 h2 h3 h4
    have e : valB ⟨0, 0, 0, ⟨#[]⟩⟩ = [UInt8.ofNat 0] ++ [] := by simp [valB]
    rw [e] at h
    rcases first 0 [] (by omega) h with h | ⟨_, _, hp⟩
    · exact h
    · exact (part_nil hp).elim
  · simp only at h2 h3 h4; subst h1 h3 h4
    have e : valB ⟨1, n, 0, ⟨#[]⟩⟩ = [UInt8.ofNat 1] ++ [UInt8.ofNat n.toNat] := by simp [valB]
    rw [e] at h
    rcases first 1 _ (by omega) h with h | ⟨k1, k2, hp⟩
    · exact h
    · unfold valS
      rw [k1, k2, ok1]
      simp only [Bool.true_eq_false, if_false, if_true]
      exact sh_fin (part_rd (k := 1) rfl (moved_fine s 1) hp) _
  · simp only at h3 h4; subst h1 h3 h4
    have e : valB ⟨2, n, 0, ⟨#[]⟩⟩ = [UInt8.ofNat 2] ++ beB 8 (U64 n) := by simp [valB]
    rw [e] at h
    rcases first 2 _ (by omega) h with h | ⟨k1, k2, hp⟩
    · exact h
    · unfold valS
      rw [k1, k2, ok1]
      simp only [Bool.true_eq_false, if_false, if_true, show ¬ (2 : Nat) = 1 from by decide]
      exact sh_fin (part_rd (k := 8) (beB_len 8 _) (moved_fine s 1) hp) _
  · simp only at h2 h3 h4; subst h1 h2 h3
    have hz : z.data.toList.length = z.size := Array.length_toList
    have e : valB ⟨3, 0, 0, z⟩ = [UInt8.ofNat 3] ++ ([UInt8.ofNat z.size] ++ z.data.toList) := by simp [valB]
    rw [e] at h
    rcases first 3 _ (by omega) h with h | ⟨k1, k2, hp⟩
    · exact h
    · unfold valS
      rw [k1, k2, ok1]
      simp only [Bool.true_eq_false, if_false, if_true, show ¬ (3 : Nat) = 1 from by decide, show ¬ (3 : Nat) = 2 from by decide]
      unfold txtS
      rcases hp.split with hp | ⟨hb, hp⟩
      · have h1 : Sh (tS bs (moved s 1)) := sh_nd (part_rd (k := 1) rfl (moved_fine s 1) hp) _
        rw [if_neg (by rw [sh_ok h1]; decide)]
        exact sh_fin h1 _
      · obtain ⟨r1, r2⟩ := fwd_rd (k := 1) rfl (moved_fine s 1) hb
        have e2 : kS bs (moved s 1) = z.size := by unfold kS; exact (congrArg wv r2).trans (wv_ofNat (by omega))
        have e3 : tS bs (moved s 1) = moved (moved s 1) 1 := by
          unfold tS
          rw [e2, decide_eq_true (by omega), nd_t]
          exact r1
        rw [e3, if_pos (fine_okS.2 (moved_fine _ _)), e2]
        exact sh_fin (part_rd (k := z.size) hz (moved_fine (moved s 1) 1) hp) _
  · simp only at h4; subst h1 h4
    have e : valB ⟨4, n, u, ⟨#[]⟩⟩ = [UInt8.ofNat 4] ++ (beB 8 (U64 n) ++ beB 8 (U64 u)) := by simp [valB]
    rw [e] at h
    rcases first 4 _ (by omega) h with h | ⟨k1, k2, hp⟩
    · exact h
    · unfold valS
      rw [k1, k2, ok1]
      simp only [Bool.true_eq_false, if_false, if_true, show ¬ (4 : Nat) = 1 from by decide, show ¬ (4 : Nat) = 2 from by decide, show ¬ (4 : Nat) = 3 from by decide]
      rcases hp.split with hp | ⟨hb, hp⟩
      · exact sh_fin (sh_rd (part_rd (k := 8) (beB_len 8 _) (moved_fine s 1) hp) bs 8) _
      · obtain ⟨r1, _⟩ := fwd_rd (k := 8) (beB_len 8 _) (moved_fine s 1) hb
        rw [show rdS bs (moved s 1) 8 = moved (moved s 1) 8 from r1]
        rw [beB_len] at hp
        exact sh_fin (part_rd (k := 8) (beB_len 8 _) (moved_fine _ 8) hp) _
theorem part_many {α : Type} (bs : List UInt8) (f : St → α × St) (E : α → List UInt8) (G : α → Prop) (hf : ∀ s x, Fine s → G x → Begins bs s (E x) → f s = (x, moved s (E x).length)) (hp : ∀ s x, Fine s → G x → Part bs s (E x) → Sh (f s).2) :
    ∀ (xs : List α) (s : St), Fine s → (∀ x ∈ xs, G x) → Part bs s (xs.flatMap E) → Sh (manyS f xs.length s).2
  | [], _, _, _, h => (part_nil h).elim
  | x :: l, s, h, hg, hb => by
    rw [List.flatMap_cons] at hb
    show Sh (manyS f (l.length + 1) s).2
    rw [manyS_go (fine_okS.2 h)]
    show Sh (manyS f l.length (f s).2).2
    rcases hb.split with hb | ⟨hb, hq⟩
    · have h1 := hp s x h (hg x (by simp)) hb
      rw [manyS_stop (sh_ok h1)]
      exact h1
    · rw [hf s x h (hg x (by simp)) hb]
      exact part_many bs f E G hf hp l _ (moved_fine _ _) (fun y hy => hg y (by simp [hy])) hq
theorem part_row {bs : List UInt8} {s : St} {r : List VV} (hs : Fine s) (hr : rowE r = 0) (hg : ∀ v ∈ r, v.rng) (h : Part bs s (rowB r)) : Sh (rowS bs s).2 := by
  have hrB : rowB r = [UInt8.ofNat r.length] ++ r.flatMap valB := by unfold rowB; rw [if_pos hr]; rfl
  have hE := hr
  unfold rowE at hE
  split at hE
  · omega
  rename_i hl
  split at hE
  · rename_i hall
    rw [hrB] at h
    unfold rowS
    rcases h.split with h | ⟨hb, hp⟩
    · have h1 : Sh (r1S bs s) := sh_nd (part_rd (k := 1) rfl hs h) _
      rw [manyS_stop (sh_ok h1)]
      exact h1
    · obtain ⟨r1, r2⟩ := fwd_rd (k := 1) rfl hs hb
      have e1 : kS bs s = r.length := by unfold kS; exact (congrArg wv r2).trans (wv_ofNat (by omega))
      have e2 : r1S bs s = moved s 1 := by
        unfold r1S
        rw [e1, decide_eq_true (by omega), nd_t]
        exact r1
      rw [e1, e2]
      exact part_many bs (valS bs) valB (fun v => v.ok = true ∧ v.rng) (fun s x h g hb => fwd_val h g.1 g.2 hb) (fun s x h g hb => part_val h g.1 hb) r _ (moved_fine _ _) (fun v hv => ⟨List.all_eq_true.1 hall v hv, hg v hv⟩) hp
  · omega
theorem listE_ok {l : List (List VV)} (hl : listE l = 0) : l.length ≤ 400 ∧ ∀ r ∈ l, rowE r = 0 := by
  have hE := hl
  unfold listE at hE
  split at hE
  · omega
  rename_i hle
  have hX : listX l 0 = none := by
    cases hx : listX l 0 with
    | none => rfl
    | some y =>
      rw [hx] at hE
      exfalso
      have : ∀ (rows : List (List VV)) (i : Nat) (y : Nat × Int), listX rows i = some y → y.2 ≠ 0 := by
        intro rows
        induction rows with
        | nil => intro i y h; cases h
        | cons a t ih =>
          intro i y h
          unfold listX at h
          split at h
          · exact ih _ _ h
          · rename_i hne
            injection h with h
            subst h
            exact hne
      exact this l 0 y hx hE
  exact ⟨by omega, listX_ok hX⟩
theorem part_list {bs : List UInt8} {s : St} {l : List (List VV)} (hs : Fine s) (hl : listE l = 0) (hg : ∀ r ∈ l, ∀ v ∈ r, v.rng) (h : Part bs s (listB l)) : Sh (listS bs s).2 := by
  have hB : listB l = beB 2 l.length ++ l.flatMap rowB := by unfold listB; rw [if_pos hl]
  obtain ⟨hle, hrows⟩ := listE_ok hl
  rw [hB] at h
  unfold listS
  rcases h.split with h | ⟨hb, hp⟩
  · have h1 : Sh (l1S bs s) := sh_nd (part_rd (k := 2) (beB_len 2 _) hs h) _
    rw [manyS_stop (sh_ok h1)]
    exact h1
  · obtain ⟨r1, r2⟩ := fwd_rd (k := 2) (beB_len 2 _) hs hb
    have e1 : hS bs s = l.length := by
      unfold hS
      refine (congrArg wv r2).trans ?_
      unfold wv
      rw [val_beB 2 _ (by omega)]
      exact Nat.mod_eq_of_lt (by unfold M64; omega)
    have e2 : l1S bs s = moved s 2 := by
      unfold l1S
      rw [e1, decide_eq_true (by omega), nd_t]
      exact r1
    rw [beB_len] at hp
    rw [e1, e2]
    exact part_many bs (rowS bs) rowB (fun r => rowE r = 0 ∧ ∀ v ∈ r, v.rng) (fun s x h g hb => fwd_row h g.1 g.2 hb) (fun s x h g hb => part_row h g.1 g.2 hb) l _ (moved_fine _ _) (fun r hr => ⟨hrows r hr, hg r hr⟩) hp
/-- less of a list's bytes is too short -/
theorem tl_less {l : List (List VV)} {k : Nat} (hl : listE l = 0) (hg : ∀ r ∈ l, ∀ v ∈ r, v.rng) (hk : k < (listB l).length) : tlE ((listB l).take k) = 7 := by
  have hp : Part ((listB l).take k) s0 (listB l) := by
    refine ⟨Nat.zero_le _, ?_, ?_⟩
    · rw [List.length_take]; show min k _ - 0 < _; omega
    · show ((listB l).take k).drop 0 = _
      rw [List.drop_zero, List.length_take]
      congr 1
      show k = min k _ - 0
      omega
  obtain ⟨h1, h2⟩ := part_list (s := s0) ⟨rfl, rfl⟩ hl hg hp
  unfold tlE takE
  rw [h1, h2]
  rfl
end Go.Proofs.Ytfpodalnnchnoaa
