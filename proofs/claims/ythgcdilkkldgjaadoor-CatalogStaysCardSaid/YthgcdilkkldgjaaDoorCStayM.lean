/- What CatalogStays rests on, in plain Lean. Conditions: none. -/
import Derived.Test.YthgcdilkkldgjaaDoorCDrop
namespace Go.Proofs.YthgcdilkkldgjaaDoor
theorem idxL_none {α : Type} {f : α → Bool} {l : List α} (h : ∀ x ∈ l, f x = false) : idxL f l = -1 := by
  unfold idxL
  rw [if_neg]
  intro h9
  obtain ⟨x, hx, hf⟩ := List.findIdx_lt_length.1 h9
  rw [h x hx] at hf
  cases hf
theorem idxL_neg {α : Type} {f : α → Bool} {l : List α} (h : ¬ 0 ≤ idxL f l) : ∀ x ∈ l, f x = false := by
  intro x hx
  cases hf : f x
  · rfl
  · exfalso
    apply h
    unfold idxL
    rw [if_pos (List.findIdx_lt_length.2 ⟨x, hx, hf⟩)]
    omega
theorem idxL_pos {α : Type} {f : α → Bool} {l : List α} (h : 0 ≤ idxL f l) : ∃ k : Nat, idxL f l = (k : Int) ∧ k < l.length ∧ ∃ x, l[k]? = some x ∧ f x = true := by
  unfold idxL at *
  split at h
  · next h9 =>
    rw [if_pos h9]
    exact ⟨l.findIdx f, rfl, h9, _, List.getElem?_eq_getElem h9, List.findIdx_getElem (w := h9)⟩
  · omega
theorem idxL_snoc {α : Type} {f : α → Bool} {l : List α} {x : α} (h : ∀ y ∈ l, f y = false) (hx : f x = true) : idxL f (l ++ [x]) = (l.length : Int) := by
  have h1 : (l ++ [x]).findIdx f = l.length := by
    rw [List.findIdx_append, if_neg (by intro h9; obtain ⟨y, hy, e⟩ := List.findIdx_lt_length.1 h9; rw [h y hy] at e; cases e)]
    rw [List.findIdx_cons, hx]
    simp
  unfold idxL
  rw [h1, if_pos (by simp)]
structure AddOk (cs : List TC) (x : TC) : Prop where
  c : catB cs = true
  t : tabB x = true
  no : ∀ y ∈ cs, decide (y.name = x.name) = false
  len : cs.length ≠ 4
theorem add_ok {cs : List TC} {x : TC} (h : addE cs x = 0) : AddOk cs x := by
  unfold addE at h
  split at h
  · cases h
  · split at h
    · cases h
    · split at h
      · cases h
      · next h1 h2 h3 =>
        split at h
        · cases h
        · next h4 => exact ⟨by simpa using h1, by simpa using h2, idxL_neg h3, h4⟩
theorem AddOk.cat {cs : List TC} {x : TC} (h : AddOk cs x) : catB (cs ++ [x]) = true := by
  have hc := (catB_iff cs).1 h.c
  refine (catB_iff _).2 ⟨?_, fun k t hk => ?_, fun i k a b hik ha hb => ?_⟩
  · rw [List.length_append]
    have := hc.hi
    have := h.len
    simp only [List.length_singleton]
    omega
  · rcases Nat.lt_or_ge k cs.length with h9 | h9
    · rw [List.getElem?_append_left h9] at hk; exact hc.ok k t hk
    · rw [List.getElem?_append_right h9] at hk
      have : k - cs.length = 0 := by
        rcases Nat.eq_zero_or_pos (k - cs.length) with e | e
        · exact e
        · rw [List.getElem?_eq_none (by simp only [List.length_singleton]; omega)] at hk; cases hk
      rw [this] at hk
      simp at hk
      subst hk
      exact h.t
  · rcases Nat.lt_or_ge k cs.length with h9 | h9
    · rw [List.getElem?_append_left h9] at hb
      rw [List.getElem?_append_left (by omega)] at ha
      exact hc.nd i k a b hik ha hb
    · rw [List.getElem?_append_right h9] at hb
      have : k - cs.length = 0 := by
        rcases Nat.eq_zero_or_pos (k - cs.length) with e | e
        · exact e
        · rw [List.getElem?_eq_none (by simp only [List.length_singleton]; omega)] at hb; cases hb
      rw [this] at hb
      simp at hb
      subst hb
      rw [List.getElem?_append_left (by omega)] at ha
      obtain ⟨hlt, e⟩ := List.getElem?_eq_some_iff.1 ha
      have := h.no a (by rw [← e]; exact List.getElem_mem hlt)
      simpa using this
theorem AddOk.idx {cs : List TC} {x : TC} (h : AddOk cs x) : idxL (fun y : TC => decide (y.name = x.name)) (cs ++ [x]) = (cs.length : Int) := idxL_snoc h.no (by simp)
theorem AddOk.dropE {cs : List TC} {x : TC} (h : AddOk cs x) : dropE (cs ++ [x]) x.name = 0 := by
  unfold Go.Proofs.YthgcdilkkldgjaaDoor.dropE
  rw [if_neg (by rw [h.cat]; simp), h.idx, if_pos (by omega)]
theorem AddOk.dropR {cs : List TC} {x : TC} (h : AddOk cs x) : dropR (cs ++ [x]) x.name = cs := by
  unfold Go.Proofs.YthgcdilkkldgjaaDoor.dropR
  rw [if_pos h.dropE, h.idx, Int.toNat_natCast, List.eraseIdx_append_of_length_le (Nat.le_refl _), Nat.sub_self]
  simp
structure AddThere (cs : List TC) (x : TC) (k : Nat) : Prop where
  c : catB cs = true
  ix : idxL (fun y : TC => decide (y.name = x.name)) cs = (k : Int)
  lt : k < cs.length
  de : dropE cs x.name = 0
  dr : dropR cs x.name = cs.eraseIdx k
  no : idxL (fun y : TC => decide (y.name = x.name)) (cs.eraseIdx k) = -1
theorem add_there {cs : List TC} {x : TC} (h : addE cs x = 5) : ∃ k, AddThere cs x k := by
  unfold addE at h
  split at h
  · cases h
  · next h1 =>
    have hc : catB cs = true := by simpa using h1
    split at h
    · cases h
    · split at h
      · next h3 =>
        obtain ⟨k, hk, hlt, y, hy, hf⟩ := idxL_pos h3
        have hd : dropE cs x.name = 0 := by unfold dropE; rw [if_neg h1, if_pos h3]
        refine ⟨k, hc, hk, hlt, hd, by unfold dropR; rw [if_pos hd, hk, Int.toNat_natCast], idxL_none fun z hz => ?_⟩
        have hnd := ((catB_iff cs).1 hc).nd
        have hyn : y.name = x.name := by simpa using hf
        rw [List.eraseIdx_eq_take_drop_succ] at hz
        rw [← hyn]
        rcases List.mem_append.1 hz with hz | hz
        · obtain ⟨j, hj, e⟩ := List.getElem_of_mem hz
          rw [List.length_take] at hj
          have h8 : cs[j]? = some z := by
            rw [← e, List.getElem_take]
            exact List.getElem?_eq_getElem _
          have := hnd j k z y (by omega) h8 hy
          simpa using this
        · obtain ⟨j, hj, e⟩ := List.getElem_of_mem hz
          rw [List.length_drop] at hj
          have h8 : cs[k + 1 + j]? = some z := by
            rw [← e, List.getElem_drop]
            exact List.getElem?_eq_getElem _
          have := hnd k (k + 1 + j) y z (by omega) hy h8
          simp only [decide_eq_false_iff_not]
          exact fun e => this e.symm
      · split at h <;> cases h
end Go.Proofs.YthgcdilkkldgjaaDoor
