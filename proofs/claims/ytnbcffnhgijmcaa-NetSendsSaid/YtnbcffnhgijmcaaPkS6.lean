/- slices.BinarySearchFunc over parcels by their numbers. Conditions: the slice reads as these parcels, whose numbers rise. -/
import Derived.Test.YtnbcffnhgijmcaaPkS5
import Derived.Laws.EntriesVeiled
namespace Go.Proofs.Ytnbcffnhgijmcaa
open Go.RowKit
theorem isnan_any (x : Int) (w : World) : Calls Try.prog 75 #[.int .u64 x] w fun e w' => e = .returned (.bool false) ∧ w = w' := by
  go_enter Try.func75, Try.ntmps75
  go_wp2
  go_ret
  exact ⟨rfl, rfl⟩
def cmpI (a b : Int) : Int := if a < b then -1 else if b < a then 1 else 0
theorem cmp_any (a b : Int) (w : World) : Calls Try.prog 68 #[.int .u64 a, .int .u64 b] w fun e w' => e = .returned (.int .i64 (cmpI a b)) ∧ w = w' := by
  obtain ⟨r, hr⟩ : ∃ r, r = cmpI a b := ⟨_, rfl⟩
  rw [← hr]
  have HR := Lib.hid hr
  clear hr
  have HN := Lib.hid (fun x w => isnan_any x w)
  by_cases h1 : a < b
  · go_enter Try.func68, Try.ntmps68
    go_wp2_with fail
    refine (HN.out a _).mono ?_
    rintro e w1 ⟨rfl, rfl⟩
    go_wp2_with fail
    refine (HN.out b _).mono ?_
    rintro e w1 ⟨rfl, rfl⟩
    go_wp2
    go_ret
    exact ⟨ret_int (by rw [HR.out]; unfold cmpI; rw [if_pos h1]), rfl⟩
  · by_cases h2 : b < a
    · have h3 : b ≤ a := by omega
      go_enter Try.func68, Try.ntmps68
      go_wp2_with fail
      refine (HN.out a _).mono ?_
      rintro e w1 ⟨rfl, rfl⟩
      go_wp2_with fail
      refine (HN.out b _).mono ?_
      rintro e w1 ⟨rfl, rfl⟩
      go_wp2
      go_ret
      exact ⟨ret_int (by rw [HR.out]; unfold cmpI; rw [if_neg (by omega), if_pos h2]), rfl⟩
    · obtain rfl : a = b := by omega
      have h3 : ¬ a < a := by omega
      go_enter Try.func68, Try.ntmps68
      go_wp2_with fail
      refine (HN.out a _).mono ?_
      rintro e w1 ⟨rfl, rfl⟩
      go_wp2_with fail
      refine (HN.out a _).mono ?_
      rintro e w1 ⟨rfl, rfl⟩
      go_wp2
      go_ret
      exact ⟨ret_int (by rw [HR.out]; unfold cmpI; rw [if_neg (by omega), if_neg (by omega)]), rfl⟩
theorem oncmp_any (p : PC) (A : Option Addr) (n c : Nat) (x : Int) (w : World) : Calls Try.prog 67 #[.agg #[.int .u64 p.num, .int .i64 p.frm, .int .i64 p.to, .slice A n c, .bool p.sp], .int .u64 x] w fun e w' => e = .returned (.int .i64 (cmpI p.num x)) ∧ Below w.heap.size w w' := by
  have HC := Lib.hid (fun w => cmp_any p.num x w)
  generalize cmpI p.num x = r at *
  have b1 := bl_al (Below.refl w.heap.size w) (.cells #[.int .u64 p.num, .int .i64 p.frm, .int .i64 p.to, .slice A n c, .bool p.sp] 29)
  go_enter Try.func67, Try.ntmps67
  go_wp2_with fail
  refine (HC.out _).mono ?_
  rintro e w1 ⟨rfl, rfl⟩
  go_wp2
  go_ret
  exact ⟨rfl, b1⟩
/-- the numbers rise -/
def Rise (ps : List PC) : Prop := ∀ (i j : Nat) (p q : PC), ps[i]? = some p → ps[j]? = some q → i < j → p.num < q.num
theorem go_last {sent : Int} : ∀ {ps : List PC} {last : Int}, goB sent last ps = true → ∀ p ∈ ps, last < p.num
  | x :: l, last, h, p, hp => by
    unfold goB parB at h
    simp only [Bool.and_eq_true, decide_eq_true_eq] at h
    rcases List.mem_cons.1 hp with rfl | hp
    · exact h.1.1.1.1.1
    · have := go_last h.2 p hp
      have := h.1.1.1.1.1
      omega
theorem go_rise {sent : Int} : ∀ {ps : List PC} {last : Int}, goB sent last ps = true → Rise ps
  | x :: l, last, h => by
    have h' := h
    unfold goB at h
    simp only [Bool.and_eq_true] at h
    intro i j p q hp hq hij
    cases j with
    | zero => omega
    | succ j =>
      have hq' : l[j]? = some q := by simpa using hq
      cases i with
      | zero =>
        simp at hp
        subst hp
        exact go_last h.2 q (List.mem_of_getElem? hq')
      | succ i => exact go_rise h.2 i j p q (by simpa using hp) hq' (by omega)
  | [], _, _ => by intro i j p q hp; simp at hp
theorem chk_rise {sent : Int} {ps : List PC} (h : chkB sent ps = true) : Rise ps := by
  unfold chkB at h
  simp only [Bool.and_eq_true] at h
  exact go_rise h.2
def foundB (ps : List PC) (x : Int) (i : Nat) : Bool := match ps[i]? with | some p => decide (p.num = x) | none => false
/-- so many have a lesser number -/
structure Low (ps : List PC) (x : Int) (i : Nat) : Prop where
  le : i ≤ ps.length
  lt : ∀ (k : Nat) (p : PC), ps[k]? = some p → k < i → p.num < x
  ge : ∀ (k : Nat) (p : PC), ps[k]? = some p → i ≤ k → x ≤ p.num
set_option maxRecDepth 100000 in
set_option maxHeartbeats 4000000 in
theorem find_any (F : Nat → Prop) (A : Option Addr) (m c : Nat) (ps : List PC) (x : Int) (w : World) (h : LP.rd w F A m ps) (hm : m ≤ 20000) (hr : Rise ps) :
    Calls Try.prog 66 #[.slice A m c, .int .u64 x, .func (.func 67) #[] #[]] w fun e w' => ∃ i : Nat, e = .returned (.tuple #[.int .i64 i, .bool (foundB ps x i)]) ∧ Low ps x i ∧ Below w.heap.size w w' := by
  have HEN : ∀ (args : Array Value) (w : World), (callFunc 67 args).run Try.prog w = .ok (.enter 67 args) w := Go.Proofs.enters_of Try.func67 (by kernel_rfl) rfl
  have HL := Lib.hid h.1
  have HR := Lib.hid hr
  clear hr
  go_enter Try.func66, Try.ntmps66
  go_wp2_with fail
  go_loopg [9, 10] m (fun g a b wr => ∃ i j : Nat, i ≤ j ∧ j ≤ m ∧ j - i ≤ g ∧ a = .int .i64 i ∧ b = .int .i64 j ∧ (∀ (k : Nat) (p : PC), ps[k]? = some p → k < i → p.num < x) ∧ (∀ (k : Nat) (p : PC), ps[k]? = some p → j ≤ k → x ≤ p.num) ∧ Below w.heap.size w wr)
  case atStart => exact ⟨0, m, by omega, by omega, by omega, rfl, rfl, fun k p _ hk => by omega, fun k p hp hk => by have := (List.getElem?_eq_some_iff.1 hp).1; rw [HL.out] at this; omega, Below.refl _ _⟩
  case round =>
    obtain ⟨i, j, hij, hjm, hg, rfl, rfl, hlo, hhi, bb⟩ := hrel
    have HLO := Lib.hid hlo
    have HHI := Lib.hid hhi
    clear hlo hhi
    by_cases hlt : i < j
    · have hij1 : (i : Int) < (j : Int) := by omega
      obtain ⟨k, hk⟩ : ∃ k : Nat, k = (i + j) / 2 := ⟨_, rfl⟩
      have hmid : ((i : Int) + (j : Int)) / 2 = (k : Int) := by omega
      have hk1 : i ≤ k := by omega
      have hk2 : k < j := by omega
      have hkm : (k : Int) < (m : Int) := by omega
      obtain ⟨p, q, B, n', c', rfl, hx, s1⟩ := LP_at (Lay.rd_below h bb) (show k < m by omega)
      have e0 := s1.c0
      have e1 := s1.c1
      have e2 := s1.c2
      have e3 := s1.c3
      have e4 := s1.c4
      have HX := Lib.hid hx
      clear hx s1 hk
      by_cases hq : q.num < x
      · have HC := Lib.hid (fun w => by have := oncmp_any q B n' c' x w; rwa [show cmpI q.num x = -1 from by unfold cmpI; rw [if_pos hq]] at this)
        have HLO2 := Lib.hid (show ∀ (l : Nat) (p : PC), ps[l]? = some p → l < k + 1 → p.num < x from fun l p hp hl => by
          rcases Nat.lt_or_ge l k with h1 | h1
          · have := HR.out l k p q hp HX.out h1
            omega
          · obtain rfl : l = k := by omega
            have h2 := HX.out
            rw [hp] at h2
            injection h2 with h2
            subst h2
            exact hq)
        clear hq
        go_wp2_with fail
        refine (HC.out _).mono ?_
        rintro e w2 ⟨rfl, q2⟩
        have b2 := bl_ca bb q2
        clear e0 e1 e2 e3 e4 q2
        go_wp2
        go_roundg (gk - 1)
        · exact ⟨k + 1, j, by omega, by omega, by omega, by go_num, rfl, HLO2.out, HHI.out, b2⟩
        · omega
      · have HC := Lib.hid (show ∀ w, ∃ r : Int, 0 ≤ r ∧ Calls Try.prog 67 #[.agg #[.int .u64 q.num, .int .i64 q.frm, .int .i64 q.to, .slice B n' c', .bool q.sp], .int .u64 x] w fun e w' => e = .returned (.int .i64 r) ∧ Below w.heap.size w w' from fun w => ⟨cmpI q.num x, by unfold cmpI; rw [if_neg hq]; split <;> omega, oncmp_any q B n' c' x w⟩)
        have HHI2 := Lib.hid (show ∀ (l : Nat) (p : PC), ps[l]? = some p → k ≤ l → x ≤ p.num from fun l p hp hl => by
          rcases Nat.lt_or_ge k l with h1 | h1
          · have := HR.out k l q p HX.out hp h1
            omega
          · obtain rfl : l = k := by omega
            have h2 := HX.out
            rw [hp] at h2
            injection h2 with h2
            subst h2
            omega)
        clear hq
        go_wp2_with fail
        obtain ⟨r, hr0, hcc⟩ := HC.out wr
        refine hcc.mono ?_
        rintro e w2 ⟨rfl, q2⟩
        have b2 := bl_ca bb q2
        clear e0 e1 e2 e3 e4 q2 hcc
        go_wp2
        go_roundg (gk - 1)
        · exact ⟨i, k, by omega, by omega, by omega, rfl, by go_num, HLO.out, HHI2.out, b2⟩
        · omega
    · obtain rfl : i = j := by omega
      have HLOW := Lib.hid (show Low ps x i from ⟨by rw [HL.out]; exact hjm, HLO.out, HHI.out⟩)
      by_cases him : i < m
      · have hi1 : (i : Int) < (m : Int) := by omega
        obtain ⟨p, q, B, n', c', rfl, hx, s1⟩ := LP_at (Lay.rd_below h bb) him
        have e0 := s1.c0
        have e1 := s1.c1
        have e2 := s1.c2
        have e3 := s1.c3
        have e4 := s1.c4
        have HF := Lib.hid (show foundB ps x i = decide (q.num = x) from by unfold foundB; rw [hx])
        have HC := Lib.hid (fun w => oncmp_any q B n' c' x w)
        have HZ := Lib.hid (show (cmpI q.num x == 0) = decide (q.num = x) from by
          unfold cmpI
          by_cases h1 : q.num < x
          · rw [if_pos h1, decide_eq_false (by omega)]; rfl
          · by_cases h2 : x < q.num
            · rw [if_neg h1, if_pos h2, decide_eq_false (by omega)]; rfl
            · rw [if_neg h1, if_neg h2, decide_eq_true (by omega)]; rfl)
        generalize cmpI q.num x = r at *
        clear hx s1
        go_wp2_with fail
        refine (HC.out _).mono ?_
        rintro e w2 ⟨rfl, q2⟩
        have b2 := bl_ca bb q2
        clear e0 e1 e2 e3 e4 q2
        go_wp2
        go_ret2
        exact ⟨i, by rw [HF.out, ← HZ.out]; rfl, HLOW.out, b2⟩
      · have hi1 : (m : Int) ≤ (i : Int) := by omega
        have HF := Lib.hid (show foundB ps x i = false from by unfold foundB; rw [List.getElem?_eq_none (by rw [HL.out]; omega)])
        go_wp2
        go_ret2
        exact ⟨i, by rw [HF.out]; rfl, HLOW.out, bb⟩
end Go.Proofs.Ytnbcffnhgijmcaa
/- net.on. Conditions: the slice reads as these parcels; what is handed over keeps to its contract. -/
namespace Go.Proofs.Ytnbcffnhgijmcaa
open Go.RowKit
def hasB (ps : List PC) (x : Int) : Bool := ps.any fun p => decide (p.num = x)
theorem found_has {ps : List PC} {x : Int} {i : Nat} (hr : Rise ps) (h : Low ps x i) : foundB ps x i = hasB ps x := by
  unfold foundB hasB
  cases hi : ps[i]? with
  | none =>
    have hl : ps.length ≤ i := List.getElem?_eq_none_iff.1 hi
    refine (List.any_eq_false.2 fun p hp => ?_).symm
    obtain ⟨k, hk⟩ := List.mem_iff_getElem?.1 hp
    have h1 := (List.getElem?_eq_some_iff.1 hk).1
    have := h.lt k p hk (by omega)
    simp
    omega
  | some p =>
    show decide (p.num = x) = _
    by_cases hx : p.num = x
    · rw [show decide (p.num = x) = true from by simpa using hx]
      exact (List.any_eq_true.2 ⟨p, List.mem_of_getElem? hi, by simpa using hx⟩).symm
    · rw [show decide (p.num = x) = false from by simpa using hx]
      refine (List.any_eq_false.2 fun q hq => ?_).symm
      obtain ⟨k, hk⟩ := List.mem_iff_getElem?.1 hq
      simp only [decide_eq_true_eq]
      intro e
      rcases Nat.lt_or_ge k i with h1 | h1
      · have := h.lt k q hk h1; omega
      · have h2 := h.ge i p hi (Nat.le_refl _)
        rcases Nat.lt_or_ge i k with h3 | h3
        · have := hr i k p q hi hk h3; omega
        · obtain rfl : i = k := by omega
          rw [hi] at hk
          injection hk with hk
          subst hk
          exact hx e
/-- what is handed over, told a place -/
def DoI (D : FuncId) (cap : Array Value) (W : World) (b B : Nat) (sent : Int) (m : Nat) (ps : List PC) (i : Nat) (J : Int → World → Prop) (Y : World → Int → List El → Prop) : Prop :=
  ∀ w A c es, Below b W w → b < B → B ≤ w.heap.size → Blk w b 26 #[.int .u64 sent, .slice A m c] → DO w B A m c es → es.map El.p = ps →
    Calls Try.prog D (#[.pointer (some ⟨b, 0, none⟩), .int .i64 i] ++ cap) w fun e w' => ∃ er, e = .returned (.int .i64 er) ∧ J er w' ∧ w.heap.size ≤ w'.heap.size ∧ (∀ k, b < k → k < B → w'.heap[k]? = w.heap[k]?) ∧
      (er = 0 → ∃ s A2 m2 c2 es2, Blk w' b 26 #[.int .u64 s, .slice A2 m2 c2] ∧ DO w' B A2 m2 c2 es2 ∧ Y w' s es2)
set_option maxRecDepth 100000 in
set_option maxHeartbeats 4000000 in
theorem on1_doc (sent : Int) (m : Nat) (ps : List PC) (x : Int) (D : FuncId) (cap : Array Value) (W : World) (gN gD : Nat) (J : Int → World → Prop) (Y : World → Int → List El → Prop) (hr : Rise ps) (hm : m ≤ 20000)
    (hent : ∀ (args : Array Value) (w : World), (callFunc D args).run Try.prog w = .ok (.enter D args) w)
    (h1 : Blk W gN 23 #[.int .u64 x]) (h2 : Blk W gD 83 #[.func (.func D) #[] cap])
    (hno : hasB ps x = false → ∀ w, Below W.heap.size W w → J 4 w) (hyes : ∀ i, Low ps x i → hasB ps x = true → DoI D cap W W.heap.size (W.heap.size + 2) sent m ps i J Y) :
    DoC 65 #[.pointer (some ⟨gN, 0, none⟩), .pointer (some ⟨gD, 0, none⟩)] W W.heap.size (W.heap.size + 2) sent m ps J Y := by
  intro w A c es hbel hbB hB hN hD hes
  have HEN := hent
  have HN := Lib.hid hN
  have HD := Lib.hid hD
  have HES := Lib.hid hes
  have H1 := Lib.hid (h1.below hbel h1.lt)
  have H2 := Lib.hid (h2.below hbel h2.lt)
  have HNO := Lib.hid hno
  have HYES := Lib.hid hyes
  have HBEL := Lib.hid hbel
  have HFIND := Lib.hid (fun W (q : Below w.heap.size w W) => find_any AllB A m c ps x W (Lay.rd_below (hes ▸ hD.rd (F := AllB) (fun _ _ => trivial)) q) hm hr)
  have HRISE := Lib.hid hr
  clear hent hN hD hes h1 h2 hno hyes hbel hr
  rw [show (#[Value.pointer (some ⟨W.heap.size, 0, none⟩)] ++ #[.pointer (some ⟨gN, 0, none⟩), .pointer (some ⟨gD, 0, none⟩)] : Array Value) = #[.pointer (some ⟨W.heap.size, 0, none⟩), .pointer (some ⟨gN, 0, none⟩), .pointer (some ⟨gD, 0, none⟩)] from rfl]
  go_enter Try.func65, Try.ntmps65
  go_wp2_with fail
  refine wp_region_ps (S := Seq1 5 (fun _ w' => Below w.heap.size w w') (fun _ w' => Below w.heap.size w w')) (by kernel_rfl) ?spsw5 ?ppsw5
  case spsw5 =>
    exact Seq1.start (by decide) (Below.refl _ _).drew
  refine Ps.step (i := 0) (d := some 8) (u := ?uw5_1) rfl rfl (by kernel_rfl) (by kernel_rfl) (by kernel_rfl) (by kernel_rfl) ?yw5_1 ?rw5_1
  case yw5_1 =>
    refine StepS.pure (Seq1.pass (by decide)) (by rfl) (fun w9 => ?_)
    go_simp
    try rfl
  try simp only [Act.put, List.setIfInBounds_toArray, List.set_cons_zero, List.set_cons_succ]
  refine Ps.step (i := 1) (d := some 9) (u := ?uw5_2) rfl rfl (by kernel_rfl) (by kernel_rfl) (by kernel_rfl) (by kernel_rfl) ?yw5_2 ?rw5_2
  case yw5_2 =>
    refine StepS.pure (Seq1.pass (by decide)) (by rfl) (fun w9 => ?_)
    go_simp
    try rfl
  try simp only [Act.put, List.setIfInBounds_toArray, List.set_cons_zero, List.set_cons_succ]
  refine Ps.step (i := 2) (d := some 10) (u := ?uw5_3) rfl rfl (by kernel_rfl) (by kernel_rfl) (by kernel_rfl) (by kernel_rfl) ?yw5_3 ?rw5_3
  case yw5_3 =>
    refine StepS.pure (Seq1.pass (by decide)) (by rfl) (fun w9 => ?_)
    go_simp
    try rfl
  try simp only [Act.put, List.setIfInBounds_toArray, List.set_cons_zero, List.set_cons_succ]
  refine Ps.step (i := 3) (d := some 11) (u := ?uw5_4) rfl rfl (by kernel_rfl) (by kernel_rfl) (by kernel_rfl) (by kernel_rfl) ?yw5_4 ?rw5_4
  case yw5_4 =>
    refine StepS.read [] (by kernel_rfl) (Seq1.pass (by decide)) (by rfl) (fun L9 m9 w9 hSh hAt hDn hS => ?_)
    have hT : Below w.heap.size w w9 := Seq1.any (T := fun w9 => Below w.heap.size w w9) (fun _ _ h => h) (fun _ _ h => h) hS
    have n1 : w9.cell? ⟨W.heap.size, 1, none⟩ = some (.slice A m c) := (HN.out.ca hT).cell 1
    clear hS hT
    go_simp
    try rfl
  try simp only [Act.put, List.setIfInBounds_toArray, List.set_cons_zero, List.set_cons_succ]
  refine Ps.step (i := 4) (d := some 12) (u := ?uw5_5) rfl rfl (by kernel_rfl) (by kernel_rfl) (by kernel_rfl) (by kernel_rfl) ?yw5_5 ?rw5_5
  case yw5_5 =>
    refine StepS.read [] (by kernel_rfl) (Seq1.pass (by decide)) (by rfl) (fun L9 m9 w9 hSh hAt hDn hS => ?_)
    have hT : Below w.heap.size w w9 := Seq1.any (T := fun w9 => Below w.heap.size w w9) (fun _ _ h => h) (fun _ _ h => h) hS
    have n1 : w9.cell? ⟨gN, 0, none⟩ = some (.int .u64 x) := (H1.out.ca hT).cell 0
    clear hS hT
    go_simp
    try rfl
  try simp only [Act.put, List.setIfInBounds_toArray, List.set_cons_zero, List.set_cons_succ]
  refine Ps.one (k := 5) (d := some 13) rfl rfl (by kernel_rfl) (TurnS.call (V := fun v => ∃ i : Nat, v = .tuple #[.int .i64 i, .bool (foundB ps x i)] ∧ Low ps x i) ?fw5_6 ?aw5_6 [] (by kernel_rfl) (by rfl) (fun w9 => ?hw5_6) (fun L9 m9 w9 hSh hAt hDn hS => ?cw5_6)) (fun v5 hVv5 => ?rw5_6)
  case hw5_6 => go_simp; refine ⟨?_, ?_⟩ <;> rfl
  case cw5_6 =>
    have hT : Below w.heap.size w w9 := Seq1.any (T := fun w9 => Below w.heap.size w w9) (fun _ _ h => h) (fun _ _ h => h) hS
    exact (HFIND.out w9 hT).mono fun _ _ ⟨i, h1, h2, h3⟩ => ⟨_, h1, ⟨i, rfl, h2⟩, Seq1.set1 (bl_ca hT h3)⟩
  try simp only [Act.put, List.setIfInBounds_toArray, List.set_cons_zero, List.set_cons_succ]
  obtain ⟨i, rfl, hlow⟩ := hVv5
  have HLOW := Lib.hid hlow
  have HFH := Lib.hid (found_has HRISE.out hlow)
  generalize foundB ps x i = fb at *
  clear hlow
  refine Ps.step (i := 6) (d := some 7) (u := ?uw5_7) rfl rfl (by kernel_rfl) (by kernel_rfl) (by kernel_rfl) (by kernel_rfl) ?yw5_7 ?rw5_7
  case yw5_7 =>
    refine StepS.pure (Seq1.pass (by decide)) (by rfl) (fun w9 => ?_)
    go_simp
    try rfl
  try simp only [Act.put, List.setIfInBounds_toArray, List.set_cons_zero, List.set_cons_succ]
  refine Ps.step (i := 7) (d := some 14) (u := ?uw5_8) rfl rfl (by kernel_rfl) (by kernel_rfl) (by kernel_rfl) (by kernel_rfl) ?yw5_8 ?rw5_8
  case yw5_8 =>
    refine StepS.pure (Seq1.pass (by decide)) (by rfl) (fun w9 => ?_)
    go_simp
    try rfl
  try simp only [Act.put, List.setIfInBounds_toArray, List.set_cons_zero, List.set_cons_succ]
  refine Ps.step (i := 8) (d := some 15) (u := ?uw5_9) rfl rfl (by kernel_rfl) (by kernel_rfl) (by kernel_rfl) (by kernel_rfl) ?yw5_9 ?rw5_9
  case yw5_9 =>
    refine StepS.pure (Seq1.pass (by decide)) (by rfl) (fun w9 => ?_)
    go_simp
    try rfl
  try simp only [Act.put, List.setIfInBounds_toArray, List.set_cons_zero, List.set_cons_succ]
  refine Ps.step (i := 9) (d := some 5) (u := ?uw5_10) rfl rfl (by kernel_rfl) (by kernel_rfl) (by kernel_rfl) (by kernel_rfl) ?yw5_10 ?rw5_10
  case yw5_10 =>
    refine StepS.pure (Seq1.pass (by decide)) (by rfl) (fun w9 => ?_)
    go_simp
    try rfl
  try simp only [Act.put, List.setIfInBounds_toArray, List.set_cons_zero, List.set_cons_succ]
  refine Ps.step (i := 10) (d := some 6) (u := ?uw5_11) rfl rfl (by kernel_rfl) (by kernel_rfl) (by kernel_rfl) (by kernel_rfl) ?yw5_11 ?rw5_11
  case yw5_11 =>
    refine StepS.pure (Seq1.pass (by decide)) (by rfl) (fun w9 => ?_)
    go_simp
    try rfl
  try simp only [Act.put, List.setIfInBounds_toArray, List.set_cons_zero, List.set_cons_succ]
  refine Ps.done (by kernel_rfl) (fun w5 hS => ?_) _
  have hT := Seq1.fin (by rfl) hS
  clear hS
  cases fb
  · have HJ := Lib.hid (HNO.out HFH.out.symm _ (HBEL.out.trans (hT.mono HBEL.out.size)))
    have hs := hT.size
    have hbl : ∀ k, W.heap.size < k → k < W.heap.size + 2 → w5.heap[k]? = w.heap[k]? := fun k _ hk => hT.block k (by omega)
    go_wp2
    go_ret
    exact ⟨4, rfl, HJ.out, hs, hbl, fun h => by cases h⟩
  · have HC := Lib.hid (HYES.out i HLOW.out HFH.out.symm w5 A c es (HBEL.out.trans (hT.mono HBEL.out.size)) hbB (Nat.le_trans hB hT.size) (HN.out.ca hT) (HD.out.below hT) HES.out)
    have f0 : w5.cell? ⟨gD, 0, none⟩ = some (.func (.func D) #[] cap) := (H2.out.ca hT).cell 0
    have HS := Lib.hid hT.size
    have HBL := Lib.hid (show ∀ k, W.heap.size < k → k < W.heap.size + 2 → w5.heap[k]? = w.heap[k]? from fun k _ hk => hT.block k (by omega))
    clear hT
    go_wp2_with fail
    refine HC.out.mono ?_
    rintro e w6 ⟨er, rfl, hj, hs6, hk6, hz6⟩
    have HJ := Lib.hid hj
    have HK6 := Lib.hid hk6
    have HZ6 := Lib.hid hz6
    clear hj hk6 hz6
    go_wp2
    go_ret
    exact ⟨er, rfl, HJ.out, Nat.le_trans HS.out hs6, fun k h1 h2 => (HK6.out k h1 h2).trans (HBL.out k h1 h2), HZ6.out⟩
end Go.Proofs.Ytnbcffnhgijmcaa
/- net.on, whole. Conditions: the slice reads as these parcels; what is handed over keeps to its contract. -/
namespace Go.Proofs.Ytnbcffnhgijmcaa
open Go.RowKit
set_option maxRecDepth 100000 in
set_option maxHeartbeats 8000000 in
theorem on_any (sent : Int) (A : Option Addr) (m c : Nat) (ps : List PC) (x : Int) (D : FuncId) (cap : Array Value) (E s : Int) (l : List PC) (K : World → Prop) (Z : World → List El → Prop) (w : World) (h : LP.rd w AllB A m ps) (hc : chkB sent ps = true)
    (hent : ∀ (args : Array Value) (w : World), (callFunc D args).run Try.prog w = .ok (.enter D args) w)
    (hK : ∀ w1 w2 r, w.heap.size ≤ r → r < w.heap.size + 6 → K w1 → w1.grownBy w2 (some r) → K w2)
    (hKZ : ∀ w1 w2 r es, w.heap.size ≤ r → r < w.heap.size + 6 → Z w1 es → w1.grownBy w2 (some r) → Z w2 es) (hz : E ≠ 0 → s = 0 ∧ l = []) (hno : hasB ps x = false → E = 4 ∧ ∀ w', Below w.heap.size w w' → K w')
    (hD : ∀ W i, Below w.heap.size w W → W.heap.size = w.heap.size + 4 → Blk W (w.heap.size + 3) 26 #[.int .u64 0, .slice none 0 0] → Low ps x i → hasB ps x = true → DoI D cap W W.heap.size (W.heap.size + 2) sent m ps i (fun er w' => er = E ∧ K w' ∧ Blk w' (w.heap.size + 3) 26 #[.int .u64 0, .slice none 0 0]) (fun w' s' l' => s' = s ∧ l'.map El.p = l ∧ Z w' l')) :
    Calls Try.prog 47 #[.agg #[.int .u64 sent, .slice A m c], .int .u64 x, .func (.func D) #[] cap] w fun e w' => ∃ A2 m2 c2, e = .returned (.tuple #[.agg #[.int .u64 s, .slice A2 m2 c2], .int .i64 E]) ∧ (∃ es, DO w' w.heap.size A2 m2 c2 es ∧ es.map El.p = l ∧ (E = 0 → Z w' es)) ∧ K w' := by
  obtain ⟨r1, r2⟩ := chk_rng hc
  have hlen := h.1
  have bb := Below.refl w.heap.size w
  have bN := Blk.new w 26 #[.int .u64 sent, .slice A m c]
  replace bb := bl_al bb (.cells #[.int .u64 sent, .slice A m c] 26)
  replace bN := bN.ca (bl_al (Below.refl _ _) (.cells #[.int .u64 x] 23))
  have bX : Blk ((w.alloc (.cells #[.int .u64 sent, .slice A m c] 26)).alloc (.cells #[.int .u64 x] 23)) (w.heap.size + 1) 23 #[.int .u64 x] := Blk.mk' (by simp only [World.size_alloc])
  replace bb := bl_al bb (.cells #[.int .u64 x] 23)
  replace bN := bN.ca (bl_al (Below.refl _ _) (.cells #[.func (.func D) #[] cap] 83))
  replace bX := bX.ca (bl_al (Below.refl _ _) (.cells #[.func (.func D) #[] cap] 83))
  have bD : Blk (((w.alloc (.cells #[.int .u64 sent, .slice A m c] 26)).alloc (.cells #[.int .u64 x] 23)).alloc (.cells #[.func (.func D) #[] cap] 83)) (w.heap.size + 2) 83 #[.func (.func D) #[] cap] := Blk.mk' (by simp only [World.size_alloc])
  replace bb := bl_al bb (.cells #[.func (.func D) #[] cap] 83)
  replace bN := bN.ca (bl_al (Below.refl _ _) (.cells #[.int .u64 0, .slice none 0 0] 26))
  replace bX := bX.ca (bl_al (Below.refl _ _) (.cells #[.int .u64 0, .slice none 0 0] 26))
  replace bD := bD.ca (bl_al (Below.refl _ _) (.cells #[.int .u64 0, .slice none 0 0] 26))
  have bR : Blk ((((w.alloc (.cells #[.int .u64 sent, .slice A m c] 26)).alloc (.cells #[.int .u64 x] 23)).alloc (.cells #[.func (.func D) #[] cap] 83)).alloc (.cells #[.int .u64 0, .slice none 0 0] 26)) (w.heap.size + 3) 26 #[.int .u64 0, .slice none 0 0] := Blk.mk' (by simp only [World.size_alloc])
  replace bb := bl_al bb (.cells #[.int .u64 0, .slice none 0 0] 26)
  have hsz : w.heap.size + 4 ≤ ((((w.alloc (.cells #[.int .u64 sent, .slice A m c] 26)).alloc (.cells #[.int .u64 x] 23)).alloc (.cells #[.func (.func D) #[] cap] 83)).alloc (.cells #[.int .u64 0, .slice none 0 0] 26)).heap.size := by simp only [World.size_alloc]; omega
  have hWsz : ((((w.alloc (.cells #[.int .u64 sent, .slice A m c] 26)).alloc (.cells #[.int .u64 x] 23)).alloc (.cells #[.func (.func D) #[] cap] 83)).alloc (.cells #[.int .u64 0, .slice none 0 0] 26)).heap.size = w.heap.size + 4 := by simp only [World.size_alloc]
  have HW := Lib.hid (fun W (q : Below w.heap.size w W) (hsz : W.heap.size = w.heap.size + 4) (b1 : Blk W (w.heap.size + 1) 23 #[.int .u64 x]) (b2 : Blk W (w.heap.size + 2) 83 #[.func (.func D) #[] cap]) (b3 : Blk W (w.heap.size + 3) 26 #[.int .u64 0, .slice none 0 0]) =>
    with_any sent A m c ps _ _ (fun er w' => er = E ∧ K w' ∧ Blk w' (w.heap.size + 3) 26 #[.int .u64 0, .slice none 0 0]) (fun w' s' l' => s' = s ∧ l'.map El.p = l ∧ Z w' l') W (Lay.rd_below h q) (by omega) hc (Go.Proofs.enters_of Try.func65 (by kernel_rfl) rfl)
      (on1_doc sent m ps x D cap W (w.heap.size + 1) (w.heap.size + 2) _ _ (chk_rise hc) (by omega) hent b1 b2 (fun hh w' q' => ⟨(hno hh).1.symm, (hno hh).2 w' (q.trans (q'.mono (by omega))), b3.ca q'⟩) (fun i hi hh => hD W i q hsz b3 hi hh))
      (fun er w1 w2 hj hg => ⟨hj.1, hK w1 w2 _ (by omega) (by omega) hj.2.1 hg, hj.2.2.apart hg (by omega)⟩) (fun s es w1 w2 hy hg => ⟨hy.1, hy.2.1, hKZ w1 w2 _ es (by omega) (by omega) hy.2.2 hg⟩))
  have HZ := Lib.hid hz
  have HK := Lib.hid hK
  have HKZ := Lib.hid hKZ
  clear hc hent hK hKZ hz hno hD h hlen
  go_enter Try.func47, Try.ntmps47
  go_wp2_with fail
  generalize ((((w.alloc (.cells #[.int .u64 sent, .slice A m c] 26)).alloc (.cells #[.int .u64 x] 23)).alloc (.cells #[.func (.func D) #[] cap] 83)).alloc (.cells #[.int .u64 0, .slice none 0 0] 26)) = w1 at *
  refine (HW.out w1 bb hWsz bX bD bR).mono ?_
  rintro e w2 ⟨er, ⟨rfl, hk, hb3⟩, hs2, ⟨hne, rfl⟩ | ⟨hE, s', A2, m2, c2, es2, rfl, hd, rfl, rfl, hzz⟩⟩
  · obtain ⟨rfl, rfl⟩ := HZ.out hne
    have KR := Lib.hid hb3
    have HKK := Lib.hid hk
    have HNE := Lib.hid hne
    clear hb3 hk hne
    go_wp2_with (refine wpList_store_blk rfl 26 (.tmp 6) (.tmp 11) rfl (w.heap.size + 3) 26 _ _ rfl rfl KR.out rfl netI (by simp [Value.oneCell']) ?_; intro wz hZ gz)
    exact bodyPost_ret (res2 Try.results47 rfl rfl hZ Try.underlying26 rfl netI) rfl ⟨none, 0, 0, rfl, ⟨[], DO.nil _ _, rfl, fun h => absurd h HNE.out⟩, HK.out _ _ _ (by omega) (by omega) HKK.out gz⟩
  · subst hE
    have KR := Lib.hid hb3
    have HKK := Lib.hid hk
    have HD := Lib.hid hd
    have HZZ := Lib.hid hzz
    clear hb3 hk hd hzz
    go_wp2_with (refine wpList_store_blk rfl 26 (.tmp 6) (.tmp 11) rfl (w.heap.size + 3) 26 _ _ rfl rfl KR.out rfl netI (by simp [Value.oneCell']) ?_; intro wz hZ gz)
    exact bodyPost_ret (res2 Try.results47 rfl rfl hZ Try.underlying26 rfl netI) rfl ⟨A2, m2, c2, rfl, ⟨es2, (HD.out.kept gz (by omega)).less (by omega), rfl, HKZ.out _ _ _ _ (by omega) (by omega) HZZ.out gz⟩, HK.out _ _ _ (by omega) (by omega) HKK.out gz⟩
end Go.Proofs.Ytnbcffnhgijmcaa
/- net.Twin. Conditions: the slice reads as these parcels. -/
namespace Go.Proofs.Ytnbcffnhgijmcaa
open Go.RowKit
set_option maxRecDepth 100000 in
set_option maxHeartbeats 4000000 in
theorem on_no (sent : Int) (A : Option Addr) (m c : Nat) (ps : List PC) (x : Int) (D : Fn) (cap : Array Value) (w : World) (h : LP.rd w AllB A m ps) (hm : m ≤ 9223372036854775807) (hok : chkB sent ps = false) :
    Calls Try.prog 47 #[.agg #[.int .u64 sent, .slice A m c], .int .u64 x, .func D #[] cap] w fun e w' => e = .returned (.tuple #[.agg #[.int .u64 0, .slice none 0 0], .int .i64 340]) ∧ Below w.heap.size w w' := by
  have bb := Below.refl w.heap.size w
  have bN := Blk.new w 26 #[.int .u64 sent, .slice A m c]
  replace bb := bl_al bb (.cells #[.int .u64 sent, .slice A m c] 26)
  replace bN := bN.ca (bl_al (Below.refl _ _) (.cells #[.int .u64 x] 23))
  have bX : Blk ((w.alloc (.cells #[.int .u64 sent, .slice A m c] 26)).alloc (.cells #[.int .u64 x] 23)) (w.heap.size + 1) 23 #[.int .u64 x] := Blk.mk' (by simp only [World.size_alloc])
  replace bb := bl_al bb (.cells #[.int .u64 x] 23)
  replace bN := bN.ca (bl_al (Below.refl _ _) (.cells #[.func D #[] cap] 83))
  replace bX := bX.ca (bl_al (Below.refl _ _) (.cells #[.func D #[] cap] 83))
  have bD : Blk (((w.alloc (.cells #[.int .u64 sent, .slice A m c] 26)).alloc (.cells #[.int .u64 x] 23)).alloc (.cells #[.func D #[] cap] 83)) (w.heap.size + 2) 83 #[.func D #[] cap] := Blk.mk' (by simp only [World.size_alloc])
  replace bb := bl_al bb (.cells #[.func D #[] cap] 83)
  replace bN := bN.ca (bl_al (Below.refl _ _) (.cells #[.int .u64 0, .slice none 0 0] 26))
  replace bX := bX.ca (bl_al (Below.refl _ _) (.cells #[.int .u64 0, .slice none 0 0] 26))
  replace bD := bD.ca (bl_al (Below.refl _ _) (.cells #[.int .u64 0, .slice none 0 0] 26))
  have bR : Blk ((((w.alloc (.cells #[.int .u64 sent, .slice A m c] 26)).alloc (.cells #[.int .u64 x] 23)).alloc (.cells #[.func D #[] cap] 83)).alloc (.cells #[.int .u64 0, .slice none 0 0] 26)) (w.heap.size + 3) 26 #[.int .u64 0, .slice none 0 0] := Blk.mk' (by simp only [World.size_alloc])
  replace bb := bl_al bb (.cells #[.int .u64 0, .slice none 0 0] 26)
  have hsz : w.heap.size + 4 ≤ ((((w.alloc (.cells #[.int .u64 sent, .slice A m c] 26)).alloc (.cells #[.int .u64 x] 23)).alloc (.cells #[.func D #[] cap] 83)).alloc (.cells #[.int .u64 0, .slice none 0 0] 26)).heap.size := by simp only [World.size_alloc]; omega
  have HC := Lib.hid (fun W f h => with_no AllB sent A m c ps f W h hm hok)
  have hrd := Lib.hid (Lay.rd_below h bb)
  clear hok h
  go_enter Try.func47, Try.ntmps47
  go_wp2_with fail
  generalize ((((w.alloc (.cells #[.int .u64 sent, .slice A m c] 26)).alloc (.cells #[.int .u64 x] 23)).alloc (.cells #[.func D #[] cap] 83)).alloc (.cells #[.int .u64 0, .slice none 0 0] 26)) = w1 at *
  refine (HC.out _ _ hrd.out).mono ?_
  rintro e w2 ⟨rfl, q2⟩
  have KR := Lib.hid (bR.ca q2)
  have HB := Lib.hid (bl_ca bb q2)
  clear q2 bR bb
  go_wp2_with (refine wpList_store_blk rfl 26 (.tmp 6) (.tmp 11) rfl (w.heap.size + 3) 26 _ _ rfl rfl KR.out rfl netI (by simp [Value.oneCell']) ?_; intro wz hZ gz)
  exact bodyPost_ret (res2 Try.results47 rfl rfl hZ Try.underlying26 rfl netI) rfl ⟨rfl, bl_gr HB.out gz (by omega)⟩
/-- where the parcel of a number is -/
def ixP (ps : List PC) (x : Int) : Nat := ps.findIdx fun p => decide (p.num = x)
theorem low_ix {ps : List PC} {x : Int} {i : Nat} (hr : Rise ps) (h : Low ps x i) (hh : hasB ps x = true) : i = ixP ps x ∧ ∃ p, ps[i]? = some p ∧ p.num = x := by
  have hf := found_has hr h
  rw [hh] at hf
  unfold foundB at hf
  cases hi : ps[i]? with
  | none => rw [hi] at hf; cases hf
  | some p =>
    rw [hi] at hf
    have hx : p.num = x := by simpa using hf
    refine ⟨?_, p, rfl, hx⟩
    obtain ⟨hl, he⟩ := List.getElem?_eq_some_iff.1 hi
    refine ((List.findIdx_eq (p := fun p : PC => decide (p.num = x)) hl).2 ⟨by rw [he]; simpa using hx, fun j hj => ?_⟩).symm
    have := h.lt j ps[j] (List.getElem?_eq_getElem (by omega)) hj
    simp
    omega
def getP (ps : List PC) (x : Int) : PC := (ps[ixP ps x]?).getD ⟨0, 0, 0, [], false⟩
theorem getP_at {ps : List PC} {x : Int} {i : Nat} (hr : Rise ps) (h : Low ps x i) (hh : hasB ps x = true) : ps[i]? = some (getP ps x) ∧ (getP ps x).num = x ∧ i = ixP ps x := by
  obtain ⟨h1, p, h2, h3⟩ := low_ix hr h hh
  have e : getP ps x = p := by unfold getP; rw [← h1, h2]; rfl
  rw [e]
  exact ⟨h2, h3, h1⟩
def twinE (sent : Int) (ps : List PC) (x : Int) : Int := if chkB sent ps then (if hasB ps x then addE sent ps else 4) else 340
def twinR (sent : Int) (ps : List PC) (x : Int) : Int × List PC := if twinE sent ps x = 0 then (sent + 1, ps ++ [added sent (getP ps x)]) else (0, [])
theorem el_at {es : List El} {i : Nat} {p : PC} (h : (es.map El.p)[i]? = some p) : ∃ e, es[i]? = some e ∧ e.p = p := by
  rw [List.getElem?_map] at h
  exact Option.map_eq_some_iff.1 h
set_option maxRecDepth 100000 in
set_option maxHeartbeats 4000000 in
theorem twin1_doc (sent : Int) (m : Nat) (ps : List PC) (x : Int) (W : World) (i : Nat) (K : World → Prop) (hs0 : 0 ≤ sent) (hchk : chkB sent ps = true) (hm : ps.length = m) (hlow : Low ps x i) (hh : hasB ps x = true) (hK : ∀ w', Below W.heap.size W w' → K w') :
    DoI 48 #[] W W.heap.size (W.heap.size + 2) sent m ps i (fun er w' => er = twinE sent ps x ∧ K w') (fun _ s l => s = (twinR sent ps x).1 ∧ l.map El.p = (twinR sent ps x).2 ∧ True) := by
  intro w A c es hbel hbB hB hN hD hes
  obtain ⟨hp, hpx, hix⟩ := getP_at (chk_rise hchk) hlow hh
  clear hix
  have hp' : (es.map El.p)[i]? = some (getP ps x) := by rw [hes]; exact hp
  obtain ⟨e, hei, hep⟩ := el_at hp'
  have him : i < m := by rw [← hm]; exact (List.getElem?_eq_some_iff.1 hp).1
  have him1 : (i : Int) < (m : Int) := by omega
  obtain ⟨gr, hA, hg1, hg2⟩ := hD.row.form (by omega)
  subst hA
  obtain ⟨c0, c1, c2, c3, c4⟩ := hD.row.cell hei
  have n1 : w.cell? ⟨W.heap.size, 1, none⟩ = some (.slice (some ⟨gr, 0, none⟩) m c) := hN.cell 1
  have hE : twinE sent ps x = addE sent ps := by unfold twinE; rw [hchk, if_pos rfl, hh, if_pos rfl]
  rw [hE]
  have hlen := chk_len hchk (getP ps x) (List.mem_of_getElem? hp)
  have heo := hD.own e (List.mem_of_getElem? hei)
  have hel := (OwnB.rd heo).len
  rw [hep] at c0 c1 c2 c4 heo hel
  obtain ⟨hr1, hr2⟩ := chk_rng hchk
  have HKK := Lib.hid hK
  rw [show (#[Value.pointer (some ⟨W.heap.size, 0, none⟩), .int .i64 i] ++ #[] : Array Value) = #[.pointer (some ⟨W.heap.size, 0, none⟩), .int .i64 i] from rfl]
  cases hf : fullB sent ps
  · have hfull : m < 20000 ∧ sent < 1099511627776 := by
      unfold fullB at hf
      simp only [Bool.or_eq_false_iff, decide_eq_false_iff_not] at hf
      omega
    have hrb : ∀ w', Kept w w' W.heap.size w.heap.size → RdB w' e.A e.n (getP ps x).bs := fun w' hk => (heo.at_ (fun k hk' => hk.block k (heo.base_ k hk').2 (by have := (heo.base_ k hk').1; omega))).rd
    have HA := Lib.hid (adds_any sent (some ⟨gr, 0, none⟩) m c W.heap.size (W.heap.size + 2) es (getP ps x) e.A e.n e.c w hN hD (by omega) hB hrb (by omega) hfull.1 hs0 hfull.2)
    have ha : addE sent ps = 0 := by unfold addE; rw [hf]; rfl
    have HR := Lib.hid (show twinR sent ps x = (sent + 1, ps ++ [added sent (getP ps x)]) from by unfold twinR; rw [hE, ha, if_pos rfl])
    rw [ha]
    have HES := Lib.hid hes
    clear hfull hf hrb hN hD hes hp hp' hei hep heo hel hK hE ha hchk hlow hh hpx hlen
    generalize getP ps x = gp at *
    go_enter Try.func48, Try.ntmps48
    go_wp2_with fail
    refine HA.out.mono ?_
    rintro e w2 ⟨rfl, hk, A2, c2', e2, hN2, hD2, he2⟩
    have hw2 : Below W.heap.size W w2 := hk.below hbel (Nat.le_refl _) (by omega)
    have hs2 := hk.size
    have hbl2 : ∀ k, W.heap.size < k → k < W.heap.size + 2 → w2.heap[k]? = w.heap[k]? := fun k h1 h2 => hk.block k (by omega) (by omega)
    have HEND := Lib.hid (show ∃ s A2 m2 c2 es2, Blk w2 W.heap.size 26 #[.int .u64 s, .slice A2 m2 c2] ∧ DO w2 (W.heap.size + 2) A2 m2 c2 es2 ∧ s = (twinR sent ps x).1 ∧ es2.map El.p = (twinR sent ps x).2 ∧ True from ⟨_, A2, _, c2', _, hN2, hD2, by rw [HR.out], by rw [HR.out, List.map_append, HES.out, List.map_cons, List.map_nil, he2], trivial⟩)
    clear c0 c1 c2 c3 c4 n1 hN2 hD2 he2
    go_wp2
    go_ret
    exact ⟨0, rfl, ⟨rfl, HKK.out _ hw2⟩, hs2, hbl2, fun _ => HEND.out⟩
  · have hfull : 20000 ≤ m ∨ sent = 1099511627776 := by
      unfold fullB at hf
      simp only [Bool.or_eq_true, decide_eq_true_eq] at hf
      omega
    have HA := Lib.hid (adds_full sent (some ⟨gr, 0, none⟩) m c W.heap.size (getP ps x) e.A e.n e.c w hN hfull)
    have ha : addE sent ps = 6 := by unfold addE; rw [hf]; rfl
    rw [ha]
    clear hfull hf hN hD hes hp hp' hei hep heo hel hK hE ha hchk hlow hh hpx hlen
    generalize getP ps x = gp at *
    go_enter Try.func48, Try.ntmps48
    go_wp2_with fail
    refine HA.out.mono ?_
    rintro e w2 ⟨rfl, hk⟩
    have hw2 : Below W.heap.size W w2 := hbel.trans (hk.mono hbel.size)
    have hs2 := hk.size
    have hbl2 : ∀ k, W.heap.size < k → k < W.heap.size + 2 → w2.heap[k]? = w.heap[k]? := fun k h1 h2 => hk.block k (by omega)
    clear c0 c1 c2 c3 c4 n1
    go_wp2
    go_ret
    exact ⟨6, rfl, ⟨rfl, HKK.out _ hw2⟩, hs2, hbl2, fun h => by cases h⟩
theorem twinR_z {sent : Int} {ps : List PC} {x : Int} (h : twinE sent ps x ≠ 0) : (twinR sent ps x).1 = 0 ∧ (twinR sent ps x).2 = [] := by unfold twinR; rw [if_neg h]; exact ⟨rfl, rfl⟩
theorem twin_on (sent : Int) (A : Option Addr) (m c : Nat) (ps : List PC) (x : Int) (w : World) (h : LP.rd w AllB A m ps) (hm : m ≤ 9223372036854775807) (hs0 : 0 ≤ sent) :
    Calls Try.prog 47 #[.agg #[.int .u64 sent, .slice A m c], .int .u64 x, .func (.func 48) #[] #[]] w fun e w' => ∃ A2 m2 c2, e = .returned (.tuple #[.agg #[.int .u64 (twinR sent ps x).1, .slice A2 m2 c2], .int .i64 (twinE sent ps x)]) ∧ OutN w' w.heap.size A2 m2 c2 (twinR sent ps x).2 ∧ Below w.heap.size w w' := by
  cases hc : chkB sent ps
  · have e1 : twinE sent ps x = 340 := by unfold twinE; rw [hc]; rfl
    have e2 : twinR sent ps x = (0, []) := by unfold twinR; rw [e1]; rfl
    rw [e1, e2]
    exact (on_no sent A m c ps x _ _ w h hm hc).mono fun _ _ ⟨a, b⟩ => ⟨none, 0, 0, a, OutN.nil _ _, b⟩
  · refine (on_any sent A m c ps x _ _ _ _ _ (fun w' => Below w.heap.size w w') (fun _ _ => True) w h hc (Go.Proofs.enters_of Try.func48 (by kernel_rfl) rfl) (fun w1 w2 r hr _ hk hg => bl_gr hk hg hr) (fun _ _ _ _ _ _ h _ => h) (fun hne => twinR_z hne) (fun hh => ⟨by unfold twinE; rw [hc, if_pos rfl, hh]; rfl, fun _ q => q⟩) ?_).mono fun _ _ ⟨A2, m2, c2, h1, ⟨es, h2, h3, _⟩, h4⟩ => ⟨A2, m2, c2, h1, ⟨es, h2, h3⟩, h4⟩
    intro W i q hsz hb hlow hh
    exact twin1_doc sent m ps x W i (fun w' => Below w.heap.size w w' ∧ Blk w' (w.heap.size + 3) 26 #[.int .u64 0, .slice none 0 0]) hs0 hc h.1 hlow hh (fun w' q' => ⟨q.trans (q'.mono (by omega)), hb.ca q'⟩)
set_option maxRecDepth 100000 in
set_option maxHeartbeats 8000000 in
theorem twin_any (sent : Int) (A : Option Addr) (m c : Nat) (ps : List PC) (x : Int) (w : World) (h : LP.rd w AllB A m ps) (hm : m ≤ 9223372036854775807) (hs0 : 0 ≤ sent) :
    Calls Try.prog 13 #[.agg #[.int .u64 sent, .slice A m c], .int .u64 x] w fun e w' => ∃ A2 m2 c2, e = .returned (.tuple #[.agg #[.int .u64 (twinR sent ps x).1, .slice A2 m2 c2], .int .u64 (twinR sent ps x).1, .int .i64 (twinE sent ps x)]) ∧ OutN w' w.heap.size A2 m2 c2 (twinR sent ps x).2 ∧ Below w.heap.size w w' := by
  have HW := Lib.hid (fun W h => twin_on sent A m c ps x W h hm hs0)
  generalize twinR sent ps x = R at *
  generalize twinE sent ps x = E at *
  obtain ⟨s, l⟩ := R
  have HH := Lib.hid h
  clear h
  have bb := Below.refl w.heap.size w
  have bN := Blk.new w 26 #[.int .u64 sent, .slice A m c]
  replace bb := bl_al bb (.cells #[.int .u64 sent, .slice A m c] 26)
  replace bN := bN.ca (bl_al (Below.refl _ _) (.cells #[.int .u64 0, .slice none 0 0] 26))
  have bR : Blk ((w.alloc (.cells #[.int .u64 sent, .slice A m c] 26)).alloc (.cells #[.int .u64 0, .slice none 0 0] 26)) (w.heap.size + 1) 26 #[.int .u64 0, .slice none 0 0] := Blk.mk' (by simp only [World.size_alloc])
  replace bb := bl_al bb (.cells #[.int .u64 0, .slice none 0 0] 26)
  have hsz : w.heap.size + 2 ≤ ((w.alloc (.cells #[.int .u64 sent, .slice A m c] 26)).alloc (.cells #[.int .u64 0, .slice none 0 0] 26)).heap.size := by simp only [World.size_alloc]; omega
  go_enter Try.func13, Try.ntmps13
  go_wp2_with fail
  generalize ((w.alloc (.cells #[.int .u64 sent, .slice A m c] 26)).alloc (.cells #[.int .u64 0, .slice none 0 0] 26)) = w1 at *
  refine (HW.out w1 (Lay.rd_below HH.out bb)).mono ?_
  rintro e w2 ⟨A2, m2, c2, rfl, ho, hb2⟩
  have KR := Lib.hid ((bR.ca hb2).ca (bl_al (Below.refl _ _) (.cells #[.int .u64 s, .slice A2 m2 c2] 26)))
  have HM := Lib.hid (Blk.new w2 26 #[.int .u64 s, .slice A2 m2 c2])
  have HO := Lib.hid (ho.below (bl_al (Below.refl _ _) (.cells #[.int .u64 s, .slice A2 m2 c2] 26)))
  have hz2 := hb2.size
  have HBB := Lib.hid (bl_al (bl_ca bb hb2) (.cells #[.int .u64 s, .slice A2 m2 c2] 26))
  clear ho hb2
  go_wp2_with fail
  obtain ⟨g11, hg11⟩ : ∃ g, g = w2.heap.size := ⟨_, rfl⟩
  have hg12 : w.heap.size + 2 ≤ g11 := by omega
  rw [← hg11] at HM
  generalize w2.heap.size = G2 at *
  subst hg11
  generalize w2.alloc (.cells #[.int .u64 s, .slice A2 m2 c2] 26) = w5 at *
  refine wp_region_ps (S := Seq1 4 (fun _ w' => Below w5.heap.size w5 w') (fun _ w' => ∃ w6, Below w5.heap.size w5 w6 ∧ Blk w' (w.heap.size + 1) 26 #[.int .u64 s, .slice A2 m2 c2] ∧ w6.grownBy w' (some (w.heap.size + 1)))) (by kernel_rfl) ?spswq ?ppswq
  case spswq =>
    exact Seq1.start (by decide) (Below.refl _ _).drew
  refine Ps.step (i := 0) (d := some 15) (u := ?uwq_1) rfl rfl (by kernel_rfl) (by kernel_rfl) (by kernel_rfl) (by kernel_rfl) ?ywq_1 ?rwq_1
  case ywq_1 =>
    refine StepS.read [] (by kernel_rfl) (Seq1.pass (by decide)) (by rfl) (fun L9 m9 w9 hSh hAt hDn hS => ?_)
    have hT : Blk w9 g11 26 #[.int .u64 s, .slice A2 m2 c2] := Seq1.any (T := fun w9 => Blk w9 g11 26 #[.int .u64 s, .slice A2 m2 c2]) (fun _ _ h => HM.out.ca h) (fun _ _ ⟨_, h1, _, h3⟩ => (HM.out.ca h1).apart h3 (by omega)) hS
    have x0 : w9.cell? ⟨g11, 0, none⟩ = some (.int .u64 s) := hT.cell 0
    have x1 : w9.cell? ⟨g11, 1, none⟩ = some (.slice A2 m2 c2) := hT.cell 1
    clear hT hS
    go_simp
    try rfl
  try simp only [Act.put, List.setIfInBounds_toArray, List.set_cons_zero, List.set_cons_succ]
  refine Ps.step (i := 1) (d := some 16) (u := ?uwq_2) rfl rfl (by kernel_rfl) (by kernel_rfl) (by kernel_rfl) (by kernel_rfl) ?ywq_2 ?rwq_2
  case ywq_2 =>
    refine StepS.pure (Seq1.pass (by decide)) (by rfl) (fun w9 => ?_)
    go_simp
    try rfl
  try simp only [Act.put, List.setIfInBounds_toArray, List.set_cons_zero, List.set_cons_succ]
  refine Ps.step (i := 2) (d := some 17) (u := ?uwq_3) rfl rfl (by kernel_rfl) (by kernel_rfl) (by kernel_rfl) (by kernel_rfl) ?ywq_3 ?rwq_3
  case ywq_3 =>
    refine StepS.read [] (by kernel_rfl) (Seq1.pass (by decide)) (by rfl) (fun L9 m9 w9 hSh hAt hDn hS => ?_)
    have hT : Blk w9 g11 26 #[.int .u64 s, .slice A2 m2 c2] := Seq1.any (T := fun w9 => Blk w9 g11 26 #[.int .u64 s, .slice A2 m2 c2]) (fun _ _ h => HM.out.ca h) (fun _ _ ⟨_, h1, _, h3⟩ => (HM.out.ca h1).apart h3 (by omega)) hS
    have x0 : w9.cell? ⟨g11, 0, none⟩ = some (.int .u64 s) := hT.cell 0
    clear hT hS
    go_simp
    try rfl
  try simp only [Act.put, List.setIfInBounds_toArray, List.set_cons_zero, List.set_cons_succ]
  refine Ps.step (i := 3) (d := some 18) (u := ?uwq_4) rfl rfl (by kernel_rfl) (by kernel_rfl) (by kernel_rfl) (by kernel_rfl) ?ywq_4 ?rwq_4
  case ywq_4 =>
    refine StepS.pure (Seq1.pass (by decide)) (by rfl) (fun w9 => ?_)
    go_simp
    try rfl
  try simp only [Act.put, List.setIfInBounds_toArray, List.set_cons_zero, List.set_cons_succ]
  refine Ps.step (i := 4) (d := none) (u := undef) rfl rfl (by kernel_rfl) (by kernel_rfl) (by kernel_rfl) (by kernel_rfl) ?ywq_5 ?rwq_5
  case ywq_5 =>
    refine StepS.store [] (by kernel_rfl) (by rfl) (fun L9 m9 w9 hSh hAt hDn hS => ?_)
    have hT := Seq1.at1 hDn hS
    refine (exec_store_blk (w := w9) 26 (.tmp 4) (.tmp 15) (by rfl) (w.heap.size + 1) 26 #[.int .u64 0, .slice none 0 0] #[.int .u64 s, .slice A2 m2 c2] (by rfl) (by rfl) (KR.out.ca hT) rfl netI (by simp [Value.oneCell'])).imp fun w7 hx => ⟨hx.1, Seq1.set1 ⟨w9, hT, hx.2.1, hx.2.2⟩⟩
  try simp only [Act.put]
  refine Ps.step (i := 5) (d := some 5) (u := ?uwq_6) rfl rfl (by kernel_rfl) (by kernel_rfl) (by kernel_rfl) (by kernel_rfl) ?ywq_6 ?rwq_6
  case ywq_6 =>
    refine StepS.pure (Seq1.pass (by decide)) (by rfl) (fun w9 => ?_)
    go_simp
    try rfl
  try simp only [Act.put, List.setIfInBounds_toArray, List.set_cons_zero, List.set_cons_succ]
  refine Ps.step (i := 6) (d := some 6) (u := ?uwq_7) rfl rfl (by kernel_rfl) (by kernel_rfl) (by kernel_rfl) (by kernel_rfl) ?ywq_7 ?rwq_7
  case ywq_7 =>
    refine StepS.pure (Seq1.pass (by decide)) (by rfl) (fun w9 => ?_)
    go_simp
    try rfl
  try simp only [Act.put, List.setIfInBounds_toArray, List.set_cons_zero, List.set_cons_succ]
  refine Ps.done (by kernel_rfl) (fun wq hS => ?_) _
  obtain ⟨w6, hT, hZ, gz⟩ := Seq1.fin (by rfl) hS
  clear hS
  go_wp2
  exact bodyPost_ret (res3 Try.results13 rfl rfl rfl hZ Try.underlying26 rfl netI) rfl ⟨A2, m2, c2, rfl, ((HO.out.below hT).kept gz (by omega)).less (by omega), bl_gr (bl_ca HBB.out hT) gz (by omega)⟩
end Go.Proofs.Ytnbcffnhgijmcaa
