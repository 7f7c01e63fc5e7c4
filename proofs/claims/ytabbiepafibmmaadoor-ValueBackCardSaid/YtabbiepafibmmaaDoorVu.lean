/- The tables that Print and Parse read; plain values by their kinds; quotes doubled. Conditions: none. -/
import Derived.Test.YtabbiepafibmmaaDoorVtP
import Derived.Test.YtabbiepafibmmaaDoorVq
import Derived.Lib.ParseIntBTie
import Derived.Lib.AppendIntMem
namespace Go.Proofs.YtabbiepafibmmaaDoor
open Go.RowKit
def bS (l : List UInt8) : ByteArray := ⟨l.toArray⟩
theorem bS_data (l : List UInt8) : (bS l).data.toList = l := rfl
theorem bS_of {s : ByteArray} {l : List UInt8} (h : s.data.toList = l) : s = bS l := by rw [← h]; rfl
theorem len_data (s : ByteArray) : s.data.toList.length = s.size := by simp
theorem toList_data (s : ByteArray) : s.toList = s.data.toList := ByteArray.toList_eq s
theorem ba_list {s t : ByteArray} : s.toList = t.toList ↔ s = t := by
  rw [toList_data, toList_data]
  exact ⟨fun h => (bS_of h).trans (bS_of rfl).symm, fun h => by rw [h]⟩
/-- the tables, with those of FormatInt and ParseInt -/
structure TabX (w : World) : Prop where
  t : Tab w
  pw : Lib.TabIs Tryd.prog w "internal/strconv.uint64pow10" .u64 Lib.pow10Tab
  er : ∃ tp p, World.var? Tryd.prog w "strconv.ErrRange" = some #[.iface tp p]
theorem TabX.below {w w' : World} (h : TabX w) (b : Below w.heap.size w w') : TabX w' :=
  ⟨h.t.below b, Lib.tabBelow_of_tabIs h.pw w' b, by obtain ⟨tp, p, hv⟩ := h.er; exact ⟨tp, p, var_below b hv⟩⟩
/-! ### quotes -/
theorem quo_lenV : ∀ l : List UInt8, (quoV l).length ≤ 2 * l.length
  | [] => by simp [quoV]
  | b :: l => by
    have := quo_lenV l
    rw [quoV_cons, List.length_append, List.length_cons]
    split <;> simp only [List.length_cons, List.length_nil] <;> omega
theorem quo_noneV : ∀ {l : List UInt8}, (∀ k : Nat, l[k]? ≠ some 39) → quoV l = l
  | [], _ => rfl
  | b :: l, h => by
    have hb : b ≠ 39 := fun e => h 0 (by rw [e]; rfl)
    rw [quoV_cons, if_neg hb, quo_noneV (fun k => by have := h (k + 1); rwa [List.getElem?_cons_succ] at this)]; rfl
theorem quo_appV (a b : List UInt8) : quoV (a ++ b) = quoV a ++ quoV b := by unfold quoV; rw [List.flatMap_append]
theorem quo_snocV (l : List UInt8) (b : UInt8) : quoV (l ++ [b]) = quoV l ++ (if b = 39 then [39, 39] else [b]) := by unfold quoV; rw [List.flatMap_append]; simp
theorem replace_quoV : ∀ (n : Nat) (s : List UInt8), s.length ≤ n → Lib.replaceK [39] [39, 39] (Lib.count s [39]) s = quoV s := by
  intro n
  induction n with
  | zero =>
    intro s h
    have : s = [] := List.eq_nil_of_length_eq_zero (by omega)
    subst this
    rfl
  | succ n ih =>
    intro s h
    by_cases hm : Lib.indexByte s 39 = -1
    · rw [Lib.count_miss (by rw [Lib.index_one]; exact hm), Lib.replaceK, quo_noneV (Lib.indexByte_none hm)]
    · have hg := Lib.indexByte_ge s 39
      obtain ⟨i, hi⟩ : ∃ i : Nat, Lib.indexByte s 39 = i := ⟨(Lib.indexByte s 39).toNat, by omega⟩
      have hidx : Lib.index s [39] = i := by rw [Lib.index_one]; exact hi
      obtain ⟨h1, h2⟩ := Lib.indexByte_some hi
      have hlt : i < s.length := by
        rcases Nat.lt_or_ge i s.length with h3 | h3
        · exact h3
        · rw [List.getElem?_eq_none h3] at h1; cases h1
      rw [Lib.count_hit (by simp) hidx, Nat.add_comm, Lib.replaceK_hit _ _ _ _ _ hidx]
      rw [show i + ([39] : List UInt8).length = i + 1 from rfl, ih (s.drop (i + 1)) (by rw [List.length_drop]; omega)]
      have e : s = s.take i ++ (39 :: s.drop (i + 1)) := by
        rw [← drop_at h1, List.take_append_drop]
      conv => rhs; rw [e]
      rw [quo_appV, quo_noneV (l := s.take i) (fun k hk => by
        rw [List.getElem?_take] at hk
        split at hk
        · rename_i h9; exact h2 k h9 hk
        · cases hk)]
      rw [List.append_assoc]
      rfl
theorem replaceAll_quoV (s : List UInt8) : Lib.replaceAll s [39] [39, 39] = quoV s := by
  unfold Lib.replaceAll Lib.replace
  rw [if_neg (by decide), show Lib.replaceNum s [39] (-1) = Lib.count s [39] from by unfold Lib.replaceNum; rw [if_pos (by left; decide)]]
  exact replace_quoV _ s (Nat.le_refl _)
/-! ### values by their kinds -/
def VI (n : Int) : VV := ⟨2, n, 0, ⟨#[]⟩⟩
def VT (s : ByteArray) : VV := ⟨3, 0, 0, s⟩
theorem nil_of {s : ByteArray} (h : s.toList = []) : s = ⟨#[]⟩ := bS_of (l := []) (by rw [← toList_data]; exact h)
theorem ok_cases {v : VV} (h : v.ok = true) : v = V0 ∨ v = VB0 ∨ v = VB1 ∨ (∃ n, v = VI n) ∨ (∃ s : ByteArray, s.size ≤ 40 ∧ v = VT s) ∨ v.k = 4 := by
  obtain ⟨k, n, u, s⟩ := v
  unfold VV.ok rightB at h
  simp only at h
  by_cases h0 : k = 0
  · subst h0
    rw [if_pos rfl] at h
    obtain ⟨rfl, rfl, hs⟩ := of_decide_eq_true h
    rw [nil_of hs]; exact .inl rfl
  rw [if_neg h0] at h
  by_cases h1 : k = 1
  · subst h1
    rw [if_pos rfl] at h
    obtain ⟨hn, rfl, hs⟩ := of_decide_eq_true h
    rw [nil_of hs]
    rcases hn with rfl | rfl
    · exact .inr (.inl rfl)
    · exact .inr (.inr (.inl rfl))
  rw [if_neg h1] at h
  by_cases h2 : k = 2
  · subst h2
    rw [if_pos rfl] at h
    obtain ⟨rfl, hs⟩ := of_decide_eq_true h
    rw [nil_of hs]; exact .inr (.inr (.inr (.inl ⟨n, rfl⟩)))
  rw [if_neg h2] at h
  by_cases h3 : k = 3
  · subst h3
    rw [if_pos rfl] at h
    obtain ⟨rfl, rfl, hs⟩ := of_decide_eq_true h
    exact .inr (.inr (.inr (.inr (.inl ⟨s, hs, rfl⟩))))
  rw [if_neg h3] at h
  exact .inr (.inr (.inr (.inr (.inr (of_decide_eq_true h).1))))
/-- a value as its literal is of it -/
def VV.lv (v : VV) : LV := ⟨v.k, v.n, v.s.data.toList⟩
def LV.vv (l : LV) : VV := ⟨l.k, l.n, 0, bS l.s⟩
theorem plain_ok {v : VV} : v.plain = true ↔ v.ok = true ∧ v.k ≠ 4 := by
  unfold VV.plain plainB VV.ok
  simp
/-- what Print gives back -/
def prE (v : VV) : Int := if v.ok then (if v.k = 4 then 2 else 0) else 120
def prS (v : VV) : ByteArray := if prE v = 0 then bS v.lv.lit else ⟨#[]⟩
theorem prE_plain {v : VV} : prE v = 0 ↔ v.plain = true := by
  rw [plain_ok]
  unfold prE
  cases v.ok
  · simp
  · by_cases h : v.k = 4 <;> simp [h]
theorem plain_cases {v : VV} (h : v.plain = true) : v = V0 ∨ v = VB0 ∨ v = VB1 ∨ (∃ n, v = VI n) ∨ (∃ s : ByteArray, s.size ≤ 40 ∧ v = VT s) := by
  obtain ⟨h1, h2⟩ := plain_ok.1 h
  rcases ok_cases h1 with h | h | h | h | h | h
  · exact .inl h
  · exact .inr (.inl h)
  · exact .inr (.inr (.inl h))
  · exact .inr (.inr (.inr (.inl h)))
  · exact .inr (.inr (.inr (.inr h)))
  · exact absurd h h2
theorem lv_ok {v : VV} (h : v.plain = true) (hr : -9223372036854775808 ≤ v.n ∧ v.n ≤ 9223372036854775807) : v.lv.ok = true ∧ v.lv.vv = v := by
  rcases plain_cases h with rfl | rfl | rfl | ⟨n, rfl⟩ | ⟨s, hs, rfl⟩
  · exact ⟨by decide, rfl⟩
  · exact ⟨by decide, rfl⟩
  · exact ⟨by decide, rfl⟩
  · refine ⟨?_, rfl⟩
    unfold LV.ok VV.lv VI
    simp only
    rw [if_neg (by decide), if_neg (by decide), if_pos trivial, decide_eq_true (show -9223372036854775808 ≤ n ∧ n ≤ 9223372036854775807 from hr)]
    rfl
  · refine ⟨?_, ?_⟩
    · unfold LV.ok VV.lv VT
      simp only
      rw [if_neg (by decide), if_neg (by decide), if_neg (by decide), if_pos trivial, len_data, decide_eq_true hs]
      rfl
    · unfold VV.lv LV.vv VT
      rw [← bS_of rfl]
theorem vv_plain {l : LV} (h : l.ok = true) : l.vv.plain = true ∧ l.vv.lv = l ∧ (-9223372036854775808 ≤ l.vv.n ∧ l.vv.n ≤ 9223372036854775807) := by
  obtain ⟨k, n, s⟩ := l
  unfold LV.ok at h
  unfold LV.vv VV.plain plainB rightB VV.lv
  simp only at h ⊢
  refine ⟨?_, by rw [bS_data], ?_⟩
  · by_cases h0 : k = 0
    · subst h0
      rw [if_pos rfl] at h
      simp only [Bool.and_eq_true, decide_eq_true_eq] at h
      obtain ⟨rfl, rfl⟩ := h
      decide +kernel
    rw [if_neg h0] at h
    by_cases h1 : k = 1
    · subst h1
      rw [if_pos rfl] at h
      simp only [Bool.and_eq_true, Bool.or_eq_true, decide_eq_true_eq] at h
      obtain ⟨h2, rfl⟩ := h
      rcases h2 with rfl | rfl <;> decide +kernel
    rw [if_neg h1] at h
    by_cases h2 : k = 2
    · subst h2
      rw [if_pos rfl] at h
      simp only [Bool.and_eq_true, decide_eq_true_eq] at h
      obtain ⟨hr, rfl⟩ := h
      rw [if_neg (by decide), if_neg (by decide), if_pos rfl, decide_eq_true ⟨trivial, by rw [toList_data]; rfl⟩]
      rfl
    rw [if_neg h2] at h
    by_cases h3 : k = 3
    · subst h3
      rw [if_pos rfl] at h
      simp only [Bool.and_eq_true, decide_eq_true_eq] at h
      obtain ⟨rfl, hl⟩ := h
      rw [if_neg (by decide), if_neg (by decide), if_neg (by decide), if_pos rfl, decide_eq_true ⟨rfl, trivial, by rw [← len_data]; exact hl⟩]
      rfl
    · rw [if_neg h3] at h; cases h
  · by_cases h0 : k = 0
    · subst h0
      rw [if_pos rfl] at h
      simp only [Bool.and_eq_true, decide_eq_true_eq] at h
      omega
    rw [if_neg h0] at h
    by_cases h1 : k = 1
    · subst h1
      rw [if_pos rfl] at h
      simp only [Bool.and_eq_true, Bool.or_eq_true, decide_eq_true_eq] at h
      omega
    rw [if_neg h1] at h
    by_cases h2 : k = 2
    · subst h2
      rw [if_pos rfl] at h
      simp only [Bool.and_eq_true, decide_eq_true_eq] at h
      exact h.1
    rw [if_neg h2] at h
    by_cases h3 : k = 3
    · subst h3
      rw [if_pos rfl] at h
      simp only [Bool.and_eq_true, decide_eq_true_eq] at h
      omega
    · rw [if_neg h3] at h; cases h
/-- what Parse gives back -/
def paE (s : ByteArray) : Int := if 100 < s.size then 3 else if (parseP s.data.toList).isSome then 0 else 2
def paV (s : ByteArray) : VV := if 100 < s.size then V0 else match parseP s.data.toList with
  | some l => l.vv
  | none => V0
theorem pa_long {s : ByteArray} (h : 100 < s.size) : paE s = 3 ∧ paV s = V0 := by unfold paE paV; rw [if_pos h, if_pos h]; exact ⟨rfl, rfl⟩
theorem pa_some {s : ByteArray} {l : LV} (h : ¬ 100 < s.size) (hp : parseP s.data.toList = some l) : paE s = 0 ∧ paV s = l.vv := by unfold paE paV; rw [if_neg h, if_neg h, hp]; exact ⟨rfl, rfl⟩
theorem pa_none {s : ByteArray} (h : ¬ 100 < s.size) (hp : parseP s.data.toList = none) : paE s = 2 ∧ paV s = V0 := by unfold paE paV; rw [if_neg h, if_neg h, hp]; exact ⟨rfl, rfl⟩
end Go.Proofs.YtabbiepafibmmaaDoor
