/- Sums of numbers: what the program's sums come to. Conditions: at most a thousand numbers of 64 bits. -/
import Derived.Test.YtemakmgppafccaaWakes4
namespace Go.Proofs.Ytemakmgppafccaa
open Go.RowKit
def tot : List Int → Int
  | [] => 0
  | n :: l => n + tot l
theorem tot_append (a b : List Int) : tot (a ++ b) = tot a + tot b := by
  induction a with
  | nil => simp [tot]
  | cons n l ih => simp only [List.cons_append, tot, ih]; omega
theorem tot_reverse (a : List Int) : tot a.reverse = tot a := by
  induction a with
  | nil => rfl
  | cons n l ih => simp only [List.reverse_cons, tot_append, ih, tot]; omega
theorem tot_bd (l : List Int) (h : ∀ n ∈ l, I64 n) : -(l.length * 9223372036854775808 : Int) ≤ tot l ∧ tot l ≤ l.length * 9223372036854775808 := by
  induction l with
  | nil => simp [tot]
  | cons n l ih =>
    have h1 := ih (fun x hx => h x (by simp [hx]))
    have h2 := h n (by simp)
    unfold I64 at h2
    simp only [tot, List.length_cons]
    omega
/-- a sum under way of numbers -/
def accV (l : List Int) : VV := if l = [] then V0 else VS (tot l)
/-- the sum of numbers, or why there is none -/
def resV (l : List Int) : VV × Int := if l = [] then (V0, 0) else outR (tot l)
theorem okE : (⟨#[]⟩ : ByteArray).toList = [] := by rw [ByteArray.toList_eq]
theorem okI (n : Int) : (VI n).ok = true := by simp [VI, VV.ok, rightB]
theorem ok0 : V0.ok = true := by simp [V0, VV.ok, rightB]
theorem okS (n : Int) : (VS n).ok = true := by simp [VS, VV.ok, rightB]
theorem mis2I (n : Int) : misB 2 (VI n) = false := by simp [VI, misB]
theorem mis4S (n : Int) : misB 4 (VS n) = false := by simp [VS, misB]
theorem mis0 (k : Int) : misB k V0 = false := by simp [V0, misB]
theorem kI (n : Int) : (VI n).k ≠ 0 := by simp [VI]
theorem kS (n : Int) : (VS n).k ≠ 0 := by simp [VS]
theorem k0 : V0.k = 0 := rfl
theorem sumV_0I (n : Int) : sumV V0 (VI n) = (VS n, 0) := by
  unfold sumV
  rw [ok0, okI, mis0, mis2I, if_neg (by simp), if_neg (by simp), if_neg (kI n), if_pos k0]
  rfl
theorem sumV_SI (z n : Int) : sumV (VS z) (VI n) = outS (z + n) := by
  unfold sumV
  rw [okS, okI, mis4S, mis2I, if_neg (by simp), if_neg (by simp), if_neg (kI n), if_neg (kS z), VS_z]
  rfl
theorem outS_y {z : Int} (h : -170141183460469231731687303715884105728 ≤ z ∧ z < 170141183460469231731687303715884105728) : outS z = (VS z, 0) := by
  unfold outS
  rw [if_pos]
  unfold fitB
  simpa using h
theorem sumV_acc (l : List Int) (n : Int) (h : ∀ x ∈ l, I64 x) (hn : I64 n) (hl : l.length ≤ 1000) : sumV (accV l) (VI n) = (accV (l ++ [n]), 0) := by
  have hb := tot_bd l h
  unfold I64 at hn
  by_cases h0 : l = []
  · subst h0
    rw [show accV [] = V0 from rfl, sumV_0I, show accV ([] ++ [n]) = VS (n + 0) from rfl, Int.add_zero]
  · rw [show accV l = VS (tot l) from by unfold accV; rw [if_neg h0], sumV_SI, outS_y (by omega), show accV (l ++ [n]) = VS (tot l + n) from by unfold accV; rw [if_neg (by simp), tot_append]; simp [tot]]
theorem joinV_acc (s t : List Int) (hs : ∀ x ∈ s, I64 x) (ht : ∀ x ∈ t, I64 x) (hl : s.length ≤ 1000) (hl2 : t.length ≤ 1000) : joinV (accV s) (accV t) = (accV (s ++ t), 0) := by
  have hb := tot_bd s hs
  have hb2 := tot_bd t ht
  have ok : ∀ l, (accV l).ok = true := fun l => by unfold accV; split; exact ok0; exact okS _
  have mis : ∀ l, misB 4 (accV l) = false := fun l => by unfold accV; split; exact mis0 4; exact mis4S _
  unfold joinV
  rw [ok, ok, mis, mis, if_neg (by simp), if_neg (by simp)]
  by_cases h0 : s = []
  · subst h0
    rw [if_pos (show (accV []).k = 0 from rfl), List.nil_append]
  · have e : accV s = VS (tot s) := by unfold accV; rw [if_neg h0]
    rw [e, if_neg (kS _)]
    by_cases h1 : t = []
    · subst h1
      rw [if_pos (show (accV []).k = 0 from rfl), List.append_nil, e]
    · have e1 : accV t = VS (tot t) := by unfold accV; rw [if_neg h1]
      rw [e1, if_neg (kS _), VS_z, VS_z, outS_y (by omega), show accV (s ++ t) = VS (tot s + tot t) from by unfold accV; rw [if_neg (by simp [h0]), tot_append]]
theorem endV_acc (l : List Int) : endV (accV l) = resV l := by
  unfold endV resV
  by_cases h0 : l = []
  · subst h0
    rw [show accV [] = V0 from rfl, ok0, mis0, if_neg (by simp), if_neg (by simp), if_pos k0, if_pos rfl]
  · rw [show accV l = VS (tot l) from by unfold accV; rw [if_neg h0], okS, mis4S, if_neg (by simp), if_neg (by simp), if_neg (kS _), VS_z, if_neg h0]
theorem runV_acc (l p : List Int) (h : ∀ x ∈ l, I64 x) (hp : ∀ x ∈ p, I64 x) (hl : p.length + l.length ≤ 1000) : runV (accV p) (l.map VI) = resV (p ++ l) := by
  induction l generalizing p with
  | nil => rw [List.append_nil, ← endV_acc]; rfl
  | cons n l ih =>
    simp only [List.length_cons] at hl
    rw [List.map_cons]
    unfold runV
    rw [sumV_acc p n hp (h n (by simp)) (by omega)]
    simp only [ne_eq, not_true_eq_false, if_false]
    rw [ih (p ++ [n]) (fun x hx => h x (by simp [hx])) (fun x hx => by simp at hx; rcases hx with hx | rfl; exact hp x hx; exact h x (by simp)) (by simp; omega), List.append_assoc]
    rfl
theorem runV_ints (l : List Int) (h : ∀ x ∈ l, I64 x) (hl : l.length ≤ 1000) : runV V0 (l.map VI) = resV l := runV_acc l [] h (by simp) (by simpa using hl)
theorem accV_rng (l : List Int) (h : ∀ x ∈ l, I64 x) (hl : l.length ≤ 1000) : (accV l).rng := by
  have hb := tot_bd l h
  unfold accV
  split
  · exact V0_rng
  · exact VS_rng _ (by unfold fitB; simp only [decide_eq_true_eq]; omega)
theorem resV_reverse (l : List Int) : resV l.reverse = resV l := by
  unfold resV
  rw [tot_reverse]
  by_cases h : l = [] <;> simp [h]
theorem VI_rng (n : Int) (h : I64 n) : (VI n).rng := ⟨h, by show U64 0; exact ⟨by decide, by decide⟩⟩
theorem vi_rng (l : List Int) (h : ∀ x ∈ l, I64 x) : ∀ v ∈ l.map VI, v.rng := by
  intro v hv
  obtain ⟨n, hn, rfl⟩ := List.mem_map.1 hv
  exact VI_rng n (h n hn)
end Go.Proofs.Ytemakmgppafccaa
