/- slices.IndexFunc over tables and columns, ContainsFunc over tables. Conditions: the slice reads as these; what is handed over answers for each and turns no memory that was there. -/
import Derived.Test.YthgcdilkkldgjaaDoorCName
import Derived.Test.YthgcdilkkldgjaaDoorCCopy
import Derived.Deep.LoopGhost
namespace Go.Proofs.YthgcdilkkldgjaaDoor
open Go.RowKit
/-- what is handed over: a test of a table, of a column -/
def TestT (F0 : Nat → Prop) (l : List TC) (D : FuncId) (cap : Array Value) (f : TC → Bool) (G : World → Prop) : Prop :=
  ∀ (i : Nat) (t : TC) (A : Option Addr) (n c : Nat) (B : Option Addr) (m d : Nat) (W : World), G W → l[i]? = some t → LCO.rd W F0 A n t.cols → n ≤ c → c ≤ 9223372036854775807 → LK.rd W F0 B m t.keys → m ≤ d → d ≤ 9223372036854775807 → Calls Tryd.prog D (#[.agg #[.string t.name, .slice A n c, .slice B m d]] ++ cap) W fun e w' => e = .returned (.bool (f t)) ∧ Below W.heap.size W w'
def TestO (l : List CO) (D : FuncId) (cap : Array Value) (f : CO → Bool) (G : World → Prop) : Prop :=
  ∀ (i : Nat) (t : CO) (W : World), G W → l[i]? = some t → Calls Tryd.prog D (#[.agg #[.string t.name, .int .i64 t.kind]] ++ cap) W fun e w' => e = .returned (.bool (f t)) ∧ Below W.heap.size W w'
theorem idxL_has {α : Type} (f : α → Bool) (l : List α) : decide (0 ≤ idxL f l) = l.any f := by
  unfold idxL
  by_cases h : l.findIdx f < l.length
  · rw [if_pos h, decide_eq_true (by omega)]
    obtain ⟨x, hx, hf⟩ := List.findIdx_lt_length.1 h
    exact (List.any_eq_true.2 ⟨x, hx, hf⟩).symm
  · rw [if_neg h, decide_eq_false (by omega)]
    symm
    rw [Bool.eq_false_iff]
    intro e
    obtain ⟨x, hx, hf⟩ := List.any_eq_true.1 e
    exact h (List.findIdx_lt_length.2 ⟨x, hx, hf⟩)
set_option maxRecDepth 100000 in
set_option maxHeartbeats 4000000 in
theorem indexT (F : Nat → Prop) (A : Option Addr) (m c : Nat) (xs : List TC) (D : FuncId) (cap : Array Value) (f : TC → Bool) (w : World) (h : LT3.rd w F A m xs) (hm : m ≤ 9223372036854775807)
    (hent : ∀ (args : Array Value) (w : World), (callFunc D args).run Tryd.prog w = .ok (.enter D args) w) (hD : TestT F xs D cap f (fun W => Below w.heap.size w W)) :
    Calls Tryd.prog 60 #[.slice A m c, .func (.func D) #[] cap] w fun e w' => e = .returned (.int .i64 (idxL f xs)) ∧ Below w.heap.size w w' := by
  have HL := Lib.hid h.1
  have HEN := hent
  have HD := Lib.hid hD
  clear hent hD
  go_enter Tryd.func60, Tryd.ntmps60
  go_wp2_with fail
  go_loopg [8] m (fun g a wr => ∃ i : Nat, i + g = m ∧ a = .int .i64 i ∧ (∀ (k : Nat) (q : TC), k < i → xs[k]? = some q → f q = false) ∧ Below w.heap.size w wr)
  case atStart => exact ⟨0, by omega, rfl, fun k q hk => by omega, Below.refl _ _⟩
  case round =>
    obtain ⟨i, hig, rfl, hlo, bb⟩ := hrel
    have HLO := Lib.hid hlo
    have HBB := Lib.hid bb
    clear hlo
    by_cases hlt : i < m
    · have hi1 : (i : Int) < (m : Int) := by omega
      obtain ⟨p, q, B1, n1, c1, B2, n2, c2, rfl, hx, s1⟩ := LT3_at (Lay.rd_below h bb) hlt
      have e0 := s1.c0
      have e1 := s1.c1
      have e2 := s1.c2
      have HX := Lib.hid hx
      have HC := Lib.hid (HD.out i q B1 n1 c1 B2 n2 c2 wr bb hx s1.rd s1.nc s1.cm s1.rk s1.md s1.dm)
      clear hx s1 bb
      cases hq : f q
      · rw [hq] at HC
        have HF := Lib.hid (lo_next HX.out hq HLO.out)
        clear hq
        go_wp2_with fail
        refine HC.out.mono ?_
        rintro e w2 ⟨rfl, q2⟩
        have b2 := bl_ca HBB.out q2
        clear q2
        go_wp2
        go_roundg (gk - 1)
        · exact ⟨i + 1, by omega, by go_num, HF.out, b2⟩
        · omega
      · rw [hq] at HC
        have HF := Lib.hid (idxL_hit HX.out hq HLO.out)
        clear hq
        go_wp2_with fail
        refine HC.out.mono ?_
        rintro e w2 ⟨rfl, q2⟩
        have b2 := bl_ca HBB.out q2
        clear q2
        go_wp2
        go_ret
        exact ⟨ret_int (by rw [HF.out]), b2⟩
    · obtain rfl : i = m := by omega
      have hi1 : (i : Int) ≤ (i : Int) := by omega
      have HF := Lib.hid (idxL_miss (fun k q hk => HLO.out k q (by rw [← HL.out]; exact hk)))
      clear bb
      go_wp2
      go_ret
      exact ⟨ret_int (by rw [HF.out]), HBB.out⟩
set_option maxRecDepth 100000 in
set_option maxHeartbeats 4000000 in
theorem indexO (F : Nat → Prop) (A : Option Addr) (m c : Nat) (xs : List CO) (D : FuncId) (cap : Array Value) (f : CO → Bool) (w : World) (h : LCO.rd w F A m xs) (hm : m ≤ 9223372036854775807)
    (hent : ∀ (args : Array Value) (w : World), (callFunc D args).run Tryd.prog w = .ok (.enter D args) w) (hD : TestO xs D cap f (fun W => Below w.heap.size w W)) :
    Calls Tryd.prog 68 #[.slice A m c, .func (.func D) #[] cap] w fun e w' => e = .returned (.int .i64 (idxL f xs)) ∧ Below w.heap.size w w' := by
  have HL := Lib.hid h.1
  have HEN := hent
  have HD := Lib.hid hD
  clear hent hD
  go_enter Tryd.func68, Tryd.ntmps68
  go_wp2_with fail
  go_loopg [8] m (fun g a wr => ∃ i : Nat, i + g = m ∧ a = .int .i64 i ∧ (∀ (k : Nat) (q : CO), k < i → xs[k]? = some q → f q = false) ∧ Below w.heap.size w wr)
  case atStart => exact ⟨0, by omega, rfl, fun k q hk => by omega, Below.refl _ _⟩
  case round =>
    obtain ⟨i, hig, rfl, hlo, bb⟩ := hrel
    have HLO := Lib.hid hlo
    have HBB := Lib.hid bb
    clear hlo
    by_cases hlt : i < m
    · have hi1 : (i : Int) < (m : Int) := by omega
      obtain ⟨p, q, rfl, hx, s1⟩ := LCO_at (Lay.rd_below h bb) hlt
      have e0 := s1.c0
      have e1 := s1.c1
      have HX := Lib.hid hx
      have HC := Lib.hid (HD.out i q wr bb hx)
      clear hx s1 bb
      cases hq : f q
      · rw [hq] at HC
        have HF := Lib.hid (lo_next HX.out hq HLO.out)
        clear hq
        go_wp2_with fail
        refine HC.out.mono ?_
        rintro e w2 ⟨rfl, q2⟩
        have b2 := bl_ca HBB.out q2
        clear q2
        go_wp2
        go_roundg (gk - 1)
        · exact ⟨i + 1, by omega, by go_num, HF.out, b2⟩
        · omega
      · rw [hq] at HC
        have HF := Lib.hid (idxL_hit HX.out hq HLO.out)
        clear hq
        go_wp2_with fail
        refine HC.out.mono ?_
        rintro e w2 ⟨rfl, q2⟩
        have b2 := bl_ca HBB.out q2
        clear q2
        go_wp2
        go_ret
        exact ⟨ret_int (by rw [HF.out]), b2⟩
    · obtain rfl : i = m := by omega
      have hi1 : (i : Int) ≤ (i : Int) := by omega
      have HF := Lib.hid (idxL_miss (fun k q hk => HLO.out k q (by rw [← HL.out]; exact hk)))
      clear bb
      go_wp2
      go_ret
      exact ⟨ret_int (by rw [HF.out]), HBB.out⟩
set_option maxRecDepth 100000 in
theorem containsT (F : Nat → Prop) (A : Option Addr) (m c : Nat) (xs : List TC) (D : FuncId) (cap : Array Value) (f : TC → Bool) (w : World) (h : LT3.rd w F A m xs) (hm : m ≤ 9223372036854775807)
    (hent : ∀ (args : Array Value) (w : World), (callFunc D args).run Tryd.prog w = .ok (.enter D args) w) (hD : TestT F xs D cap f (fun W => Below w.heap.size w W)) :
    Calls Tryd.prog 37 #[.slice A m c, .func (.func D) #[] cap] w fun e w' => e = .returned (.bool (xs.any f)) ∧ Below w.heap.size w w' := by
  have HI := Lib.hid (indexT F A m c xs D cap f w h hm hent hD)
  have HE := Lib.hid (idxL_has f xs)
  clear h hent hD
  generalize idxL f xs = z at *
  go_enter Tryd.func37, Tryd.ntmps37
  go_wp2_with fail
  refine HI.out.mono ?_
  rintro e w2 ⟨rfl, q2⟩
  have HQ := Lib.hid q2
  clear q2
  go_wp2
  go_ret
  exact ⟨ret_bool (by rw [← HE.out]), HQ.out⟩
set_option maxRecDepth 100000 in
theorem tname_any (t : TC) (A : Option Addr) (n c : Nat) (B : Option Addr) (m d : Nat) (w : World) : Calls Tryd.prog 39 #[.agg #[.string t.name, .slice A n c, .slice B m d]] w fun e w' => e = .returned (.string t.name) ∧ Below w.heap.size w w' := by
  go_enter Tryd.func39, Tryd.ntmps39
  go_wp2
  go_ret
  exact ⟨rfl, bl_al (Below.refl _ _) _⟩
set_option maxRecDepth 100000 in
theorem cname_any (t : CO) (w : World) : Calls Tryd.prog 45 #[.agg #[.string t.name, .int .i64 t.kind]] w fun e w' => e = .returned (.string t.name) ∧ Below w.heap.size w w' := by
  go_enter Tryd.func45, Tryd.ntmps45
  go_wp2
  go_ret
  exact ⟨rfl, bl_al (Below.refl _ _) _⟩
end Go.Proofs.YthgcdilkkldgjaaDoor
