/- Laws of tokens for the walks of the layer's laws. Conditions: none. -/
import Derived.Test.YtnpicnddcoaboaaGreatDoorLxW
import Derived.Test.YtnpicnddcoaboaaGreatDoorLxR6
namespace Go.Proofs.YtnpicnddcoaboaaGreatDoor
open Go.RowKit
theorem rd_lt {α : Type} {L : Lay α} {w : World} {F : Nat → Prop} {A : Option Addr} {n : Nat} {xs : List α} (h : L.rd w F A n xs) : L.rd w (fun b => F b ∧ b < w.heap.size) A n xs := Lay.rd_weak (fun _ h1 h2 => ⟨h1, h2⟩) h
theorem all_take {α : Type} {l : List α} {i : Nat} {x : α} (p : α → Bool) (h : l[i]? = some x) : (l.take (i + 1)).all p = ((l.take i).all p && p x) := by
  rw [List.take_add_one, h, List.all_append]
  simp
theorem take_one {α : Type} {l : List α} {i : Nat} {x : α} (h : l[i]? = some x) : l.take (i + 1) = l.take i ++ [x] := by rw [List.take_add_one, h]; rfl
theorem word_small : ∀ s ∈ wordsL, s.size ≤ 1000 := by decide
theorem sign_small : ∀ s ∈ signsU, s.length ≤ 1000 := by decide
theorem right_small {t : Tk} (h : rightU t = true) : t.text.length ≤ 1000 ∧ t.n < 18446744073709551616 := by
  obtain ⟨k, a, l, n⟩ := t
  unfold rightU at h
  rw [Bool.and_eq_true] at h
  have h := h.2
  simp only at h ⊢
  have hz : (bS l).size = l.length := by rw [← len_data]
  split at h
  · rw [Bool.and_eq_true, decide_eq_true_eq, decide_eq_true_eq] at h
    rw [h.1]
    exact ⟨by simp, by omega⟩
  · rw [Bool.and_eq_true, decide_eq_true_eq] at h
    refine ⟨?_, by omega⟩
    have h := h.2
    split at h
    · have := word_small _ (isWord_mem h); omega
    · split at h
      · unfold nameB at h
        simp only [Bool.and_eq_true, decide_eq_true_eq] at h
        omega
      · split at h
        · unfold plainU at h
          simp only [Bool.and_eq_true, decide_eq_true_eq] at h
          omega
        · split at h
          · exact sign_small _ (by simpa using h)
          · cases h
theorem rise_len : ∀ {l : List Tk} {lo hi : Nat}, riseU lo hi l → l.length ≤ hi - lo
  | [], _, _, _ => by simp
  | t :: l, lo, hi, ⟨h1, h2, h3⟩ => by
    have := rise_len h3
    rw [List.length_cons]
    omega
theorem tok_len (l : List UInt8) : (tokM l).1.length ≤ 600 := by
  unfold tokM
  split
  · simp
  · rename_i h
    split
    · simp
    · have := rise_len (lexF_rise l.length l 0 (Nat.le_refl _))
      simp only at this ⊢
      omega
theorem tok_right (l : List UInt8) : ∀ t ∈ (tokM l).1, rightU t = true := by
  unfold tokM
  split
  · simp
  · split
    · simp
    · exact lexF_right l 0
theorem tok_none {l : List UInt8} (h : (tokM l).2.2 ≠ 0) : (tokM l).1 = [] := by
  unfold tokM at h ⊢
  split
  · rfl
  · rename_i h6
    rw [if_neg h6] at h
    split
    · rfl
    · rename_i h5
      rw [h5] at h
      exact absurd rfl h
theorem all_of {l : List Tk} (h : ∀ t ∈ l, rightU t = true) : l.all rightU = true := List.all_eq_true.2 h
theorem tok_join {l : List Tk} (h : l.all rightU = true) (h2 : (joinU l).length ≤ 600) : ∃ ts, tokM (joinU l) = (ts, 0, 0) ∧ sameU l ts = true := by
  have hj := join_lex l (List.all_eq_true.1 h) 0
  exact ⟨_, tokM_ok h2 hj.1, decide_eq_true hj.2.symm⟩
theorem joinU_len : ∀ (l : List Tk), (∀ t ∈ l, t.text.length ≤ 1000 ∧ t.n < 18446744073709551616) → (joinU l).length ≤ 2003 * l.length
  | [], _ => by simp [joinU]
  | [t], h => by
    have h1 := wr_len (h t (by simp)).1 (h t (by simp)).2
    rw [joinU]
    simp only [List.length_cons, List.length_nil]
    omega
  | t :: u :: l, h => by
    have h1 := wr_len (h t (by simp)).1 (h t (by simp)).2
    have h2 := joinU_len (u :: l) (fun v hv => h v (by simp [hv]))
    rw [joinU]
    simp only [List.length_cons, List.length_append] at h2 ⊢
    omega
end Go.Proofs.YtnpicnddcoaboaaGreatDoor
