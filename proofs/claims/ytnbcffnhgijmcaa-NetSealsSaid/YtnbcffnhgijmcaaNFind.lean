/- slices.BinarySearchFunc over parcels by their numbers. Conditions: the slice reads as these parcels, whose numbers rise. -/
import Derived.Test.YtnbcffnhgijmcaaNSend2
namespace Go.Proofs.Ytnbcffnhgijmcaa
open Go.RowKit
theorem isnan_any (x : Int) (w : World) : Calls Try.prog 75 #[.int .u64 x] w fun e w' => e = .returned (.bool false) ∧ w = w' := by
  go_enter Try.func75, Try.ntmps75
  go_wp2
  go_ret
  exact ⟨rfl, rfl⟩
def cmpI (a b : Int) : Int := if a < b then -1 else if b < a then 1 else 0
theorem cmp_any (a b : Int) (w : World) : Calls Try.prog 68 #[.int .u64 a, .int .u64 b] w fun e w' => e = .returned (.int .i64 (cmpI a b)) ∧ w = w' := by
  obtain ⟨r, hr⟩ : ∃ r, r = cmpI a b := ⟨_, rfl⟩
  rw [← hr]
  have HR := Lib.hid hr
  clear hr
  have HN := Lib.hid (fun x w => isnan_any x w)
  by_cases h1 : a < b
  · go_enter Try.func68, Try.ntmps68
    go_wp2_with fail
    refine (HN.out a _).mono ?_
    rintro e w1 ⟨rfl, rfl⟩
    go_wp2_with fail
    refine (HN.out b _).mono ?_
    rintro e w1 ⟨rfl, rfl⟩
    go_wp2
    go_ret
    exact ⟨ret_int (by rw [HR.out]; unfold cmpI; rw [if_pos h1]), rfl⟩
  · by_cases h2 : b < a
    · have h3 : b ≤ a := by omega
      go_enter Try.func68, Try.ntmps68
      go_wp2_with fail
      refine (HN.out a _).mono ?_
      rintro e w1 ⟨rfl, rfl⟩
      go_wp2_with fail
      refine (HN.out b _).mono ?_
      rintro e w1 ⟨rfl, rfl⟩
      go_wp2
      go_ret
      exact ⟨ret_int (by rw [HR.out]; unfold cmpI; rw [if_neg (by omega), if_pos h2]), rfl⟩
    · obtain rfl : a = b := by omega
      have h3 : ¬ a < a := by omega
      go_enter Try.func68, Try.ntmps68
      go_wp2_with fail
      refine (HN.out a _).mono ?_
      rintro e w1 ⟨rfl, rfl⟩
      go_wp2_with fail
      refine (HN.out a _).mono ?_
      rintro e w1 ⟨rfl, rfl⟩
      go_wp2
      go_ret
      exact ⟨ret_int (by rw [HR.out]; unfold cmpI; rw [if_neg (by omega), if_neg (by omega)]), rfl⟩
theorem oncmp_any (p : PC) (A : Option Addr) (n c : Nat) (x : Int) (w : World) : Calls Try.prog 67 #[.agg #[.int .u64 p.num, .int .i64 p.frm, .int .i64 p.to, .slice A n c, .bool p.sp], .int .u64 x] w fun e w' => e = .returned (.int .i64 (cmpI p.num x)) ∧ Below w.heap.size w w' := by
  have HC := Lib.hid (fun w => cmp_any p.num x w)
  generalize cmpI p.num x = r at *
  have b1 := bl_al (Below.refl w.heap.size w) (.cells #[.int .u64 p.num, .int .i64 p.frm, .int .i64 p.to, .slice A n c, .bool p.sp] 29)
  go_enter Try.func67, Try.ntmps67
  go_wp2_with fail
  refine (HC.out _).mono ?_
  rintro e w1 ⟨rfl, rfl⟩
  go_wp2
  go_ret
  exact ⟨rfl, b1⟩
/-- the numbers rise -/
def Rise (ps : List PC) : Prop := ∀ (i j : Nat) (p q : PC), ps[i]? = some p → ps[j]? = some q → i < j → p.num < q.num
theorem go_last {sent : Int} : ∀ {ps : List PC} {last : Int}, goB sent last ps = true → ∀ p ∈ ps, last < p.num
  | x :: l, last, h, p, hp => by
    unfold goB parB at h
    simp only [Bool.and_eq_true, decide_eq_true_eq] at h
    rcases List.mem_cons.1 hp with rfl | hp
    · exact h.1.1.1.1.1
    · have := go_last h.2 p hp
      have := h.1.1.1.1.1
      omega
theorem go_rise {sent : Int} : ∀ {ps : List PC} {last : Int}, goB sent last ps = true → Rise ps
  | x :: l, last, h => by
    have h' := h
    unfold goB at h
    simp only [Bool.and_eq_true] at h
    intro i j p q hp hq hij
    cases j with
    | zero => omega
    | succ j =>
      have hq' : l[j]? = some q := by simpa using hq
      cases i with
      | zero =>
        simp at hp
        subst hp
        exact go_last h.2 q (List.mem_of_getElem? hq')
      | succ i => exact go_rise h.2 i j p q (by simpa using hp) hq' (by omega)
  | [], _, _ => by intro i j p q hp; simp at hp
theorem chk_rise {sent : Int} {ps : List PC} (h : chkB sent ps = true) : Rise ps := by
  unfold chkB at h
  simp only [Bool.and_eq_true] at h
  exact go_rise h.2
def foundB (ps : List PC) (x : Int) (i : Nat) : Bool := match ps[i]? with | some p => decide (p.num = x) | none => false
/-- so many have a lesser number -/
structure Low (ps : List PC) (x : Int) (i : Nat) : Prop where
  le : i ≤ ps.length
  lt : ∀ (k : Nat) (p : PC), ps[k]? = some p → k < i → p.num < x
  ge : ∀ (k : Nat) (p : PC), ps[k]? = some p → i ≤ k → x ≤ p.num
set_option maxRecDepth 100000 in
set_option maxHeartbeats 4000000 in
theorem find_any (F : Nat → Prop) (A : Option Addr) (m c : Nat) (ps : List PC) (x : Int) (w : World) (h : LP.rd w F A m ps) (hm : m ≤ 20000) (hr : Rise ps) :
    Calls Try.prog 66 #[.slice A m c, .int .u64 x, .func (.func 67) #[] #[]] w fun e w' => ∃ i : Nat, e = .returned (.tuple #[.int .i64 i, .bool (foundB ps x i)]) ∧ Low ps x i ∧ Below w.heap.size w w' := by
  have HEN : ∀ (args : Array Value) (w : World), (callFunc 67 args).run Try.prog w = .ok (.enter 67 args) w := Go.Proofs.enters_of Try.func67 (by kernel_rfl) rfl
  have HL := Lib.hid h.1
  have HR := Lib.hid hr
  clear hr
  go_enter Try.func66, Try.ntmps66
  go_wp2_with fail
  go_loopg [9, 10] m (fun g a b wr => ∃ i j : Nat, i ≤ j ∧ j ≤ m ∧ j - i ≤ g ∧ a = .int .i64 i ∧ b = .int .i64 j ∧ (∀ (k : Nat) (p : PC), ps[k]? = some p → k < i → p.num < x) ∧ (∀ (k : Nat) (p : PC), ps[k]? = some p → j ≤ k → x ≤ p.num) ∧ Below w.heap.size w wr)
  case atStart => exact ⟨0, m, by omega, by omega, by omega, rfl, rfl, fun k p _ hk => by omega, fun k p hp hk => by have := (List.getElem?_eq_some_iff.1 hp).1; rw [HL.out] at this; omega, Below.refl _ _⟩
  case round =>
    obtain ⟨i, j, hij, hjm, hg, rfl, rfl, hlo, hhi, bb⟩ := hrel
    have HLO := Lib.hid hlo
    have HHI := Lib.hid hhi
    clear hlo hhi
    by_cases hlt : i < j
    · have hij1 : (i : Int) < (j : Int) := by omega
      obtain ⟨k, hk⟩ : ∃ k : Nat, k = (i + j) / 2 := ⟨_, rfl⟩
      have hmid : ((i : Int) + (j : Int)) / 2 = (k : Int) := by omega
      have hk1 : i ≤ k := by omega
      have hk2 : k < j := by omega
      have hkm : (k : Int) < (m : Int) := by omega
      obtain ⟨p, q, B, n', c', rfl, hx, s1⟩ := LP_at (Lay.rd_below h bb) (show k < m by omega)
      have e0 := s1.c0
      have e1 := s1.c1
      have e2 := s1.c2
      have e3 := s1.c3
      have e4 := s1.c4
      have HX := Lib.hid hx
      clear hx s1 hk
      by_cases hq : q.num < x
      · have HC := Lib.hid (fun w => by have := oncmp_any q B n' c' x w; rwa [show cmpI q.num x = -1 from by unfold cmpI; rw [if_pos hq]] at this)
        have HLO2 := Lib.hid (show ∀ (l : Nat) (p : PC), ps[l]? = some p → l < k + 1 → p.num < x from fun l p hp hl => by
          rcases Nat.lt_or_ge l k with h1 | h1
          · have := HR.out l k p q hp HX.out h1
            omega
          · obtain rfl : l = k := by omega
            have h2 := HX.out
            rw [hp] at h2
            injection h2 with h2
            subst h2
            exact hq)
        clear hq
        go_wp2_with fail
        refine (HC.out _).mono ?_
        rintro e w2 ⟨rfl, q2⟩
        have b2 := bl_ca bb q2
        clear e0 e1 e2 e3 e4 q2
        go_wp2
        go_roundg (gk - 1)
        · exact ⟨k + 1, j, by omega, by omega, by omega, by go_num, rfl, HLO2.out, HHI.out, b2⟩
        · omega
      · have HC := Lib.hid (show ∀ w, ∃ r : Int, 0 ≤ r ∧ Calls Try.prog 67 #[.agg #[.int .u64 q.num, .int .i64 q.frm, .int .i64 q.to, .slice B n' c', .bool q.sp], .int .u64 x] w fun e w' => e = .returned (.int .i64 r) ∧ Below w.heap.size w w' from fun w => ⟨cmpI q.num x, by unfold cmpI; rw [if_neg hq]; split <;> omega, oncmp_any q B n' c' x w⟩)
        have HHI2 := Lib.hid (show ∀ (l : Nat) (p : PC), ps[l]? = some p → k ≤ l → x ≤ p.num from fun l p hp hl => by
          rcases Nat.lt_or_ge k l with h1 | h1
          · have := HR.out k l q p HX.out hp h1
            omega
          · obtain rfl : l = k := by omega
            have h2 := HX.out
            rw [hp] at h2
            injection h2 with h2
            subst h2
            omega)
        clear hq
        go_wp2_with fail
        obtain ⟨r, hr0, hcc⟩ := HC.out wr
        refine hcc.mono ?_
        rintro e w2 ⟨rfl, q2⟩
        have b2 := bl_ca bb q2
        clear e0 e1 e2 e3 e4 q2 hcc
        go_wp2
        go_roundg (gk - 1)
        · exact ⟨i, k, by omega, by omega, by omega, rfl, by go_num, HLO.out, HHI2.out, b2⟩
        · omega
    · obtain rfl : i = j := by omega
      have HLOW := Lib.hid (show Low ps x i from ⟨by rw [HL.out]; exact hjm, HLO.out, HHI.out⟩)
      by_cases him : i < m
      · have hi1 : (i : Int) < (m : Int) := by omega
        obtain ⟨p, q, B, n', c', rfl, hx, s1⟩ := LP_at (Lay.rd_below h bb) him
        have e0 := s1.c0
        have e1 := s1.c1
        have e2 := s1.c2
        have e3 := s1.c3
        have e4 := s1.c4
        have HF := Lib.hid (show foundB ps x i = decide (q.num = x) from by unfold foundB; rw [hx])
        have HC := Lib.hid (fun w => oncmp_any q B n' c' x w)
        have HZ := Lib.hid (show (cmpI q.num x == 0) = decide (q.num = x) from by
          unfold cmpI
          by_cases h1 : q.num < x
          · rw [if_pos h1, decide_eq_false (by omega)]; rfl
          · by_cases h2 : x < q.num
            · rw [if_neg h1, if_pos h2, decide_eq_false (by omega)]; rfl
            · rw [if_neg h1, if_neg h2, decide_eq_true (by omega)]; rfl)
        generalize cmpI q.num x = r at *
        clear hx s1
        go_wp2_with fail
        refine (HC.out _).mono ?_
        rintro e w2 ⟨rfl, q2⟩
        have b2 := bl_ca bb q2
        clear e0 e1 e2 e3 e4 q2
        go_wp2
        go_ret2
        exact ⟨i, by rw [HF.out, ← HZ.out]; rfl, HLOW.out, b2⟩
      · have hi1 : (m : Int) ≤ (i : Int) := by omega
        have HF := Lib.hid (show foundB ps x i = false from by unfold foundB; rw [List.getElem?_eq_none (by rw [HL.out]; omega)])
        go_wp2
        go_ret2
        exact ⟨i, by rw [HF.out]; rfl, HLOW.out, bb⟩
end Go.Proofs.Ytnbcffnhgijmcaa
