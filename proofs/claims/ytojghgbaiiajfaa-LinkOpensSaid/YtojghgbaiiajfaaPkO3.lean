/- slices.IndexFunc and ContainsFunc over values and rows. Conditions: the slice reads as these; what is handed over answers for each and turns no memory that was there. -/
import Derived.Test.YtojghgbaiiajfaaPkO2
import Derived.Deep.LoopGhost
import Derived.Shelf.Abstract
import Derived.BigQuiet
import Derived.Deep.QuietTactic
import Derived.Laws.AppendOwn
namespace Go.Proofs.Ytojghgbaiiajfaa
open Go.RowKit
/-- what is handed over: a test of a value -/
def TestV (D : FuncId) (cap : Array Value) (f : VV → Bool) (G : World → Prop) : Prop :=
  ∀ (q : VV)  (W : World), G W → Calls Try.prog D (#[.agg #[.int .i64 q.k, .int .i64 q.n, .int .u64 q.u, .string q.s]] ++ cap) W fun e w' => e = .returned (.bool (f q)) ∧ Below W.heap.size W w'
set_option maxRecDepth 100000 in
set_option maxHeartbeats 4000000 in
theorem indexV (F : Nat → Prop) (A : Option Addr) (m c : Nat) (xs : List VV) (D : FuncId) (cap : Array Value) (f : VV → Bool) (w : World) (h : LV.rd w F A m xs) (hm : m ≤ 9223372036854775807)
    (hent : ∀ (args : Array Value) (w : World), (callFunc D args).run Try.prog w = .ok (.enter D args) w) (hD : TestV D cap f (fun W => Below w.heap.size w W)) :
    Calls Try.prog 133 #[.slice A m c, .func (.func D) #[] cap] w fun e w' => e = .returned (.int .i64 (idxL f xs)) ∧ Below w.heap.size w w' := by
  have HL := Lib.hid h.1
  have HEN := hent
  have HD := Lib.hid hD
  clear hent hD
  go_enter Try.func133, Try.ntmps133
  go_wp2_with fail
  go_loopg [8] m (fun g a wr => ∃ i : Nat, i + g = m ∧ a = .int .i64 i ∧ (∀ (k : Nat) (q : VV), k < i → xs[k]? = some q → f q = false) ∧ Below w.heap.size w wr)
  case atStart => exact ⟨0, by omega, rfl, fun k q hk => by omega, Below.refl _ _⟩
  case round =>
    obtain ⟨i, hig, rfl, hlo, bb⟩ := hrel
    have HLO := Lib.hid hlo
    have HBB := Lib.hid bb
    clear hlo
    by_cases hlt : i < m
    · have hi1 : (i : Int) < (m : Int) := by omega
      obtain ⟨p, q, rfl, hx, s1⟩ := LV_at (Lay.rd_below h bb) hlt
      have e0 := s1.c0
      have e1 := s1.c1
      have e2 := s1.c2
      have e3 := s1.c3
      have HX := Lib.hid hx
      have HC := Lib.hid (HD.out q  wr bb )
      clear hx s1 bb
      cases hq : f q
      · rw [hq] at HC
        have HF := Lib.hid (show ∀ (k : Nat) (r : VV), k < i + 1 → xs[k]? = some r → f r = false from fun k r hk hr => by
          rcases Nat.lt_or_ge k i with h1 | h1
          · exact HLO.out k r h1 hr
          · obtain rfl : k = i := by omega
            have h2 := HX.out
            rw [hr] at h2
            injection h2 with h2
            subst h2
            exact hq)
        clear hq
        go_wp2_with fail
        refine HC.out.mono ?_
        rintro e w2 ⟨rfl, q2⟩
        have b2 := bl_ca HBB.out q2
        clear q2
        go_wp2
        go_roundg (gk - 1)
        · exact ⟨i + 1, by omega, by go_num, HF.out, b2⟩
        · omega
      · rw [hq] at HC
        have HF := Lib.hid (idxL_at HX.out hq HLO.out)
        clear hq
        go_wp2_with fail
        refine HC.out.mono ?_
        rintro e w2 ⟨rfl, q2⟩
        have b2 := bl_ca HBB.out q2
        clear q2
        go_wp2
        go_ret
        exact ⟨ret_int (by rw [HF.out]), b2⟩
    · obtain rfl : i = m := by omega
      have hi1 : (i : Int) ≤ (i : Int) := by omega
      have HF := Lib.hid (idxL_no (fun k q hk => HLO.out k q (by rw [← HL.out]; exact hk)))
      clear bb
      go_wp2
      go_ret
      exact ⟨ret_int (by rw [HF.out]), HBB.out⟩
set_option maxRecDepth 100000 in
theorem containsV (F : Nat → Prop) (A : Option Addr) (m c : Nat) (xs : List VV) (D : FuncId) (cap : Array Value) (f : VV → Bool) (w : World) (h : LV.rd w F A m xs) (hm : m ≤ 9223372036854775807)
    (hent : ∀ (args : Array Value) (w : World), (callFunc D args).run Try.prog w = .ok (.enter D args) w) (hD : TestV D cap f (fun W => Below w.heap.size w W)) :
    Calls Try.prog 131 #[.slice A m c, .func (.func D) #[] cap] w fun e w' => e = .returned (.bool (xs.any f)) ∧ Below w.heap.size w w' := by
  have HI := Lib.hid (indexV F A m c xs D cap f w h hm hent hD)
  have HE := Lib.hid (idxL_has f xs)
  clear h hent hD
  generalize idxL f xs = z at *
  go_enter Try.func131, Try.ntmps131
  go_wp2_with fail
  refine HI.out.mono ?_
  rintro e w2 ⟨rfl, q2⟩
  have HQ := Lib.hid q2
  clear q2
  go_wp2
  go_ret
  exact ⟨ret_bool (by rw [← HE.out]), HQ.out⟩
/-- what is handed over: a test of a row -/
def TestR (F0 : Nat → Prop) (D : FuncId) (cap : Array Value) (f : (List VV) → Bool) (G : World → Prop) : Prop :=
  ∀ (q : (List VV)) (B : Option Addr) (k d : Nat) (W : World), G W → LV.rd W F0 B k q → k ≤ 9223372036854775807 → Calls Try.prog D (#[.slice B k d] ++ cap) W fun e w' => e = .returned (.bool (f q)) ∧ Below W.heap.size W w'
set_option maxRecDepth 100000 in
set_option maxHeartbeats 4000000 in
theorem indexR (F : Nat → Prop) (A : Option Addr) (m c : Nat) (xs : List (List VV)) (D : FuncId) (cap : Array Value) (f : (List VV) → Bool) (w : World) (h : LR.rd w F A m xs) (hm : m ≤ 9223372036854775807)
    (hent : ∀ (args : Array Value) (w : World), (callFunc D args).run Try.prog w = .ok (.enter D args) w) (hD : TestR F D cap f (fun W => Below w.heap.size w W)) :
    Calls Try.prog 125 #[.slice A m c, .func (.func D) #[] cap] w fun e w' => e = .returned (.int .i64 (idxL f xs)) ∧ Below w.heap.size w w' := by
  have HL := Lib.hid h.1
  have HEN := hent
  have HD := Lib.hid hD
  clear hent hD
  go_enter Try.func125, Try.ntmps125
  go_wp2_with fail
  go_loopg [8] m (fun g a wr => ∃ i : Nat, i + g = m ∧ a = .int .i64 i ∧ (∀ (k : Nat) (q : (List VV)), k < i → xs[k]? = some q → f q = false) ∧ Below w.heap.size w wr)
  case atStart => exact ⟨0, by omega, rfl, fun k q hk => by omega, Below.refl _ _⟩
  case round =>
    obtain ⟨i, hig, rfl, hlo, bb⟩ := hrel
    have HLO := Lib.hid hlo
    have HBB := Lib.hid bb
    clear hlo
    by_cases hlt : i < m
    · have hi1 : (i : Int) < (m : Int) := by omega
      obtain ⟨p, q, B, k, d, rfl, hx, e0, hk1, hk2, hr⟩ := LR_at (Lay.rd_below h bb) hlt

      have HX := Lib.hid hx
      have HC := Lib.hid (HD.out q B k d wr bb hr (Nat.le_trans hk1 hk2))
      clear hx hr hk1 hk2 bb
      cases hq : f q
      · rw [hq] at HC
        have HF := Lib.hid (show ∀ (k : Nat) (r : (List VV)), k < i + 1 → xs[k]? = some r → f r = false from fun k r hk hr => by
          rcases Nat.lt_or_ge k i with h1 | h1
          · exact HLO.out k r h1 hr
          · obtain rfl : k = i := by omega
            have h2 := HX.out
            rw [hr] at h2
            injection h2 with h2
            subst h2
            exact hq)
        clear hq
        go_wp2_with fail
        refine HC.out.mono ?_
        rintro e w2 ⟨rfl, q2⟩
        have b2 := bl_ca HBB.out q2
        clear q2
        go_wp2
        go_roundg (gk - 1)
        · exact ⟨i + 1, by omega, by go_num, HF.out, b2⟩
        · omega
      · rw [hq] at HC
        have HF := Lib.hid (idxL_at HX.out hq HLO.out)
        clear hq
        go_wp2_with fail
        refine HC.out.mono ?_
        rintro e w2 ⟨rfl, q2⟩
        have b2 := bl_ca HBB.out q2
        clear q2
        go_wp2
        go_ret
        exact ⟨ret_int (by rw [HF.out]), b2⟩
    · obtain rfl : i = m := by omega
      have hi1 : (i : Int) ≤ (i : Int) := by omega
      have HF := Lib.hid (idxL_no (fun k q hk => HLO.out k q (by rw [← HL.out]; exact hk)))
      clear bb
      go_wp2
      go_ret
      exact ⟨ret_int (by rw [HF.out]), HBB.out⟩
set_option maxRecDepth 100000 in
theorem containsR (F : Nat → Prop) (A : Option Addr) (m c : Nat) (xs : List (List VV)) (D : FuncId) (cap : Array Value) (f : (List VV) → Bool) (w : World) (h : LR.rd w F A m xs) (hm : m ≤ 9223372036854775807)
    (hent : ∀ (args : Array Value) (w : World), (callFunc D args).run Try.prog w = .ok (.enter D args) w) (hD : TestR F D cap f (fun W => Below w.heap.size w W)) :
    Calls Try.prog 116 #[.slice A m c, .func (.func D) #[] cap] w fun e w' => e = .returned (.bool (xs.any f)) ∧ Below w.heap.size w w' := by
  have HI := Lib.hid (indexR F A m c xs D cap f w h hm hent hD)
  have HE := Lib.hid (idxL_has f xs)
  clear h hent hD
  generalize idxL f xs = z at *
  go_enter Try.func116, Try.ntmps116
  go_wp2_with fail
  refine HI.out.mono ?_
  rintro e w2 ⟨rfl, q2⟩
  have HQ := Lib.hid q2
  clear q2
  go_wp2
  go_ret
  exact ⟨ret_bool (by rw [← HE.out]), HQ.out⟩
end Go.Proofs.Ytojghgbaiiajfaa
/- Which rows and batches may be: row.Check, link.rows, link.batch, link.inRow, link.ends. Conditions: the slices read so. -/
namespace Go.Proofs.Ytojghgbaiiajfaa
open Go.RowKit
def rowOk (r : List VV) : Bool := decide ((r.length : Int) ≤ 16) && !(r.any fun v => !v.ok)
theorem not_any {α : Type} (f : α → Bool) (l : List α) : (!(l.any fun x => !f x)) = l.all f := by
  induction l with
  | nil => rfl
  | cons x l ih => rw [List.any_cons, List.all_cons, ← ih]; cases f x <;> rfl
set_option maxRecDepth 100000 in
theorem wrong_any (w0 : World) : TestV 129 #[] (fun v => !v.ok) (fun W => Below w0.heap.size w0 W) := by
  intro q W _
  show Calls Try.prog 129 #[.agg #[.int .i64 q.k, .int .i64 q.n, .int .u64 q.u, .string q.s]] W fun e w' => e = .returned (.bool (!q.ok)) ∧ Below W.heap.size W w'
  have b1 := bl_al (Below.refl W.heap.size W) (.cells #[.int .i64 q.k, .int .i64 q.n, .int .u64 q.u, .string q.s] 142)
  have HC := Lib.hid (fun W => check_any q.k q.n q.u q.s W)
  have hok : q.ok = rightB q.k q.n q.u q.s := rfl
  rw [hok]
  clear hok
  generalize rightB q.k q.n q.u q.s = b at *
  cases b
  all_goals
    go_enter Try.func129, Try.ntmps129
    go_wp2_with fail
    refine (HC.out _).mono ?_
    rintro e w1 ⟨rfl, q1⟩
    have HB := Lib.hid (bl_ca b1 q1)
    clear q1
    go_wp2
    go_ret
    exact ⟨rfl, HB.out⟩
set_option maxRecDepth 100000 in
theorem rright_any (F : Nat → Prop) (A : Option Addr) (m c : Nat) (r : List VV) (w : World) (h : LV.rd w F A m r) (hm : m ≤ 9223372036854775807) :
    Calls Try.prog 126 #[.slice A m c] w fun e w' => e = .returned (.bool (rowOk r)) ∧ Below w.heap.size w w' := by
  have HC := Lib.hid (containsV F A m c r 129 #[] (fun v => !v.ok) w h hm (Go.Proofs.enters_of Try.func129 (by kernel_rfl) rfl) (wrong_any w))
  have HR := Lib.hid (show rowOk r = (decide ((m : Int) ≤ 16) && !(r.any fun v => !v.ok)) from by unfold rowOk; rw [Lay.rd_len h])
  clear h
  generalize (r.any fun v => !v.ok) = b at *
  by_cases hl : m ≤ 16
  · have h1 : (m : Int) ≤ 16 := by omega
    rw [show decide ((m : Int) ≤ 16) = true from by simpa using h1] at HR
    go_enter Try.func126, Try.ntmps126
    go_wp2_with fail
    refine HC.out.mono ?_
    rintro e w1 ⟨rfl, q1⟩
    have HB := Lib.hid q1
    clear q1
    go_wp2
    go_ret
    exact ⟨ret_bool (by rw [HR.out]; rfl), HB.out⟩
  · have h1 : (16 : Int) < (m : Int) := by omega
    rw [show decide ((m : Int) ≤ 16) = false from by simp; omega] at HR
    go_enter Try.func126, Try.ntmps126
    go_wp2
    go_ret
    exact ⟨ret_bool (by rw [HR.out]; rfl), Below.refl _ _⟩
set_option maxRecDepth 100000 in
theorem rcheck_any (F : Nat → Prop) (A : Option Addr) (m c : Nat) (r : List VV) (w : World) (h : LV.rd w F A m r) (hm : m ≤ 9223372036854775807) :
    Calls Try.prog 118 #[.slice A m c] w fun e w' => e = .returned (.int .i64 (if rowOk r then 0 else 150)) ∧ Below w.heap.size w w' := by
  have HC := Lib.hid (rright_any F A m c r w h hm)
  clear h
  generalize rowOk r = b at *
  cases b
  all_goals
    go_enter Try.func118, Try.ntmps118
    go_wp2_with fail
    refine HC.out.mono ?_
    rintro e w1 ⟨rfl, q1⟩
    have HB := Lib.hid q1
    clear q1
    go_wp2
    go_ret
    exact ⟨rfl, HB.out⟩
set_option maxRecDepth 100000 in
theorem wrongR_any (F : Nat → Prop) (w0 : World) : TestR F 117 #[] (fun r => !rowOk r) (fun W => Below w0.heap.size w0 W) := by
  intro q B k d W _ hr hk
  show Calls Try.prog 117 #[.slice B k d] W fun e w' => e = .returned (.bool (!rowOk q)) ∧ Below W.heap.size W w'
  have HC := Lib.hid (rcheck_any F B k d q W hr hk)
  clear hr
  generalize rowOk q = b at *
  cases b
  all_goals
    go_enter Try.func117, Try.ntmps117
    go_wp2_with fail
    refine HC.out.mono ?_
    rintro e w1 ⟨rfl, q1⟩
    have HB := Lib.hid q1
    clear q1
    go_wp2
    go_ret
    exact ⟨rfl, HB.out⟩
def rowsOk (l : List (List VV)) : Bool := decide (0 < (l.length : Int)) && decide ((l.length : Int) ≤ 4) && !(l.any fun r => !rowOk r)
set_option maxRecDepth 100000 in
theorem rows_any (F : Nat → Prop) (A : Option Addr) (m c : Nat) (l : List (List VV)) (w : World) (h : LR.rd w F A m l) (hm : m ≤ 9223372036854775807) :
    Calls Try.prog 98 #[.slice A m c] w fun e w' => e = .returned (.bool (rowsOk l)) ∧ Below w.heap.size w w' := by
  have HC := Lib.hid (containsR F A m c l 117 #[] (fun r => !rowOk r) w h hm (Go.Proofs.enters_of Try.func117 (by kernel_rfl) rfl) (wrongR_any F w))
  have HR := Lib.hid (show rowsOk l = (decide (0 < (m : Int)) && decide ((m : Int) ≤ 4) && !(l.any fun r => !rowOk r)) from by unfold rowsOk; rw [Lay.rd_len h])
  clear h
  generalize (l.any fun r => !rowOk r) = b at *
  by_cases h0 : 0 < m
  · have h1 : (0 : Int) < (m : Int) := by omega
    rw [show decide (0 < (m : Int)) = true from by simpa using h0] at HR
    by_cases hl : m ≤ 4
    · have h2 : (m : Int) ≤ 4 := by omega
      rw [show decide ((m : Int) ≤ 4) = true from by simpa using h2] at HR
      go_enter Try.func98, Try.ntmps98
      go_wp2_with fail
      refine HC.out.mono ?_
      rintro e w1 ⟨rfl, q1⟩
      have HB := Lib.hid q1
      clear q1
      go_wp2
      go_ret
      exact ⟨ret_bool (by rw [HR.out]; rfl), HB.out⟩
    · have h2 : (4 : Int) < (m : Int) := by omega
      rw [show decide ((m : Int) ≤ 4) = false from by simp; omega] at HR
      go_enter Try.func98, Try.ntmps98
      go_wp2
      go_ret
      exact ⟨ret_bool (by rw [HR.out]; rfl), Below.refl _ _⟩
  · obtain rfl : m = 0 := by omega
    go_enter Try.func98, Try.ntmps98
    go_wp2
    go_ret
    exact ⟨ret_bool (by rw [HR.out]; rfl), Below.refl _ _⟩
def sesB (n : Int) : Bool := decide (1 ≤ n) && decide (n ≤ 2147483647)
set_option maxRecDepth 100000 in
theorem session_any (n : Int) (w : World) : Calls Try.prog 49 #[.int .u32 n] w fun e w' => e = .returned (.bool (sesB n)) ∧ w = w' := by
  have HR := Lib.hid (show sesB n = (decide (1 ≤ n) && decide (n ≤ 2147483647)) from rfl)
  generalize sesB n = r at *
  go_enter Try.func49, Try.ntmps49
  go_wp2
  all_goals
    go_ret
    exact ⟨ret_bool (by rw [HR.out]; simp [*] <;> omega), rfl⟩
def batchB (b : BC) (seq : Int) : Bool :=
  decide (1 ≤ seq) && decide (seq ≤ 1099511627776) && (if b.fin then decide ((b.rows.length : Int) = 0) && (b.cnt == seq - 1) else (b.cnt == 0) && rowsOk b.rows)
set_option maxRecDepth 100000 in
set_option maxHeartbeats 4000000 in
theorem batch_any (F : Nat → Prop) (b : BC) (A : Option Addr) (n c : Nat) (seq : Int) (w : World) (h : LR.rd w F A n b.rows) (hn : n ≤ 9223372036854775807) :
    Calls Try.prog 71 #[.agg (b.cells A n c), .int .u64 seq] w fun e w' => e = .returned (.bool (batchB b seq)) ∧ Below w.heap.size w w' := by
  have b1 := bl_al (Below.refl w.heap.size w) (.cells (b.cells A n c) 45)
  have HL := Lib.hid (Lay.rd_len h)
  have HRW := Lib.hid (rows_any F A n c b.rows _ (Lay.rd_below h b1) hn)
  have HB := Lib.hid b1
  have HR := Lib.hid (show batchB b seq = _ from rfl)
  clear h b1
  by_cases h1 : 1 ≤ seq
  · by_cases h2 : seq ≤ 1099511627776
    · have d1 : decide (seq < 1) = false := by simp; omega
      have d2 : decide ((1099511627776 : Int) < seq) = false := by simp; omega
      unfold batchB at HR ⊢
      obtain ⟨rows, fin, cnt⟩ := b
      dsimp only at *
      rw [show decide (1 ≤ seq) = true from by simpa using h1, show decide (seq ≤ 1099511627776) = true from by simpa using h2]
      rw [HL.out]
      clear HR
      cases fin
      · generalize rowsOk rows = ok at *
        clear h1 h2
        by_cases hc : cnt = 0
        · subst hc
          go_enter Try.func71, Try.ntmps71
          go_wp2_with fail
          refine HRW.out.mono ?_
          rintro e w2 ⟨rfl, q2⟩
          have HB2 := Lib.hid (bl_ca HB.out q2)
          clear q2
          go_wp2
          go_ret
          exact ⟨ret_bool (by simp), HB2.out⟩
        · have d3 : (cnt == 0) = false := by simpa using hc
          clear hc
          go_enter Try.func71, Try.ntmps71
          go_wp2
          go_ret
          exact ⟨ret_bool rfl, HB.out⟩
      · rcases Nat.eq_zero_or_pos n with h0 | h0
        · subst h0
          have hsq : IntKind.u64.wrap (seq - 1) = seq - 1 := by simp [IntKind.wrap, IntKind.signed, IntKind.bits]; omega
          generalize hz : seq - 1 = z at *
          go_enter Try.func71, Try.ntmps71
          go_wp2
          go_ret
          exact ⟨ret_bool (by simp), HB.out⟩
        · have d3 : ((n : Int) == 0) = false := by simp; omega
          clear h1 h2
          go_enter Try.func71, Try.ntmps71
          go_wp2
          go_ret
          exact ⟨ret_bool (by simp; omega), HB.out⟩
    · have d1 : decide (seq < 1) = false := by simp; omega
      have d2 : decide ((1099511627776 : Int) < seq) = true := by simp; omega
      have HF := Lib.hid (show batchB b seq = false from by unfold batchB; rw [show decide (seq ≤ 1099511627776) = false from by simpa using h2]; simp)
      clear HR h1 h2
      go_enter Try.func71, Try.ntmps71
      go_wp2
      go_ret
      exact ⟨ret_bool HF.out.symm, HB.out⟩
  · have d1 : decide (seq < 1) = true := by simp; omega
    have HF := Lib.hid (show batchB b seq = false from by unfold batchB; rw [show decide (1 ≤ seq) = false from by simpa using h1]; simp)
    clear HR h1
    go_enter Try.func71, Try.ntmps71
    go_wp2
    go_ret
    exact ⟨ret_bool HF.out.symm, HB.out⟩
end Go.Proofs.Ytojghgbaiiajfaa
/- When rows and batches are one: slices.Equal, row.Same, link.same. Conditions: the slices read so. -/
namespace Go.Proofs.Ytojghgbaiiajfaa
open Go.RowKit
/-- are two values one? -/
def eqVV (v u : VV) : Bool := v.k == u.k && (v.n == u.n && (v.u == u.u && v.s.toList == u.s.toList))
theorem eqVV_iff (v u : VV) : eqVV v u = true ↔ v = u := by
  rcases v with ⟨k, n, x, ⟨⟨s⟩⟩⟩
  rcases u with ⟨k', n', x', ⟨⟨s'⟩⟩⟩
  simp [eqVV, ByteArray.toList_eq]
theorem run_eqVV (v u : VV) : ∀ W, (Op.equalIn 10000 142 (.agg #[.int .i64 v.k, .int .i64 v.n, .int .u64 v.u, .string v.s]) (.agg #[.int .i64 u.k, .int .i64 u.n, .int .u64 u.u, .string u.s])).run Try.prog W = .ok (eqVV v u) W := by
  intro W
  unfold eqVV
  rw [run_equalIn_agg W 9999 _ _ _ (by kernel_rfl) (by kernel_rfl)]
  go_simp
  by_cases h1 : v.k = u.k <;> by_cases h2 : v.n = u.n <;> by_cases h3 : v.u = u.u <;> by_cases h4 : v.s.toList = u.s.toList <;> simp [h1, h2, h3, h4]
instance : DecidableEq VV := fun a b => decidable_of_iff (eqVV a b = true) (eqVV_iff a b)
set_option maxRecDepth 100000 in
set_option maxHeartbeats 8000000 in
theorem equalV (F G : Nat → Prop) (A B : Option Addr) (m c n d : Nat) (xs ys : List VV) (w : World) (hx : LV.rd w F A m xs) (hy : LV.rd w G B n ys) (hm : m ≤ 9223372036854775807) :
    Calls Try.prog 124 #[.slice A m c, .slice B n d] w fun e w' => e = .returned (.bool (decide (xs = ys))) ∧ Below w.heap.size w w' := by
  have hxl := Lay.rd_len hx
  have hyl := Lay.rd_len hy
  by_cases hmn : m = n
  · subst hmn
    obtain ⟨r, hr⟩ : ∃ r, r = decide (xs = ys) := ⟨_, rfl⟩
    rw [← hr]
    have HR := Lib.hid hr
    have HXL := Lib.hid hxl
    have HYL := Lib.hid hyl
    skip
    clear hr hxl hyl
    go_enter Try.func124, Try.ntmps124
    go_wp2_with fail
    go_loopg [13] m (fun g s wr => ∃ i : Nat, i + g ≤ m ∧ m ≤ i + g ∧ s = .int .i64 i ∧ xs.take i = ys.take i ∧ Below w.heap.size w wr)
    case atStart => exact ⟨0, by omega, by omega, rfl, rfl, Below.refl _ _⟩
    case round =>
      obtain ⟨i, hi1, hi2, rfl, hp, bb⟩ := hrel
      have HBB := Lib.hid bb
      have HP := Lib.hid hp
      clear hp
      by_cases hi : i < m
      · have hil : (i : Int) < (m : Int) := by omega
        obtain ⟨p1, v, rfl, hv, s1⟩ := LV_at (Lay.rd_below hx bb) hi
        obtain ⟨p2, u, rfl, hu, s2⟩ := LV_at (Lay.rd_below hy bb) hi
        have e0 := s1.c0
        have e1 := s1.c1
        have e2 := s1.c2
        have e3 := s1.c3
        have f0 := s2.c0
        have f1 := s2.c1
        have f2 := s2.c2
        have f3 := s2.c3
        clear s1 s2
        have HVI := Lib.hid hv
        have HUI := Lib.hid hu
        clear hv hu hx hy bb
        by_cases hvu : v = u
        · have HP2 := Lib.hid (show xs.take (i + 1) = ys.take (i + 1) from by rw [List.take_add_one, List.take_add_one, HP.out, HVI.out, HUI.out, hvu])
          have HVU := Lib.hid hvu
          clear hvu
          have HQ : ∀ W, (Op.equalIn 10000 142 (.agg #[.int .i64 v.k, .int .i64 v.n, .int .u64 v.u, .string v.s]) (.agg #[.int .i64 u.k, .int .i64 u.n, .int .u64 u.u, .string u.s])).run Try.prog W = .ok true W := fun W => by rw [run_eqVV, show eqVV v u = true from (eqVV_iff v u).2 HVU.out]
          go_wp2_with fail
          go_quiet (fail)
          go_wp2
          go_roundg (gk - 1)
          · exact ⟨i + 1, by omega, by omega, by go_num, HP2.out, bl_dr HBB.out _⟩
          · omega
        · have HF := Lib.hid (show r = false from by
            rw [HR.out]
            refine decide_eq_false fun e => hvu ?_
            have h1 := HVI.out
            rw [e, HUI.out] at h1
            injection h1 with h1
            exact h1.symm)
          have HVU := Lib.hid hvu
          clear hvu
          have HQ : ∀ W, (Op.equalIn 10000 142 (.agg #[.int .i64 v.k, .int .i64 v.n, .int .u64 v.u, .string v.s]) (.agg #[.int .i64 u.k, .int .i64 u.n, .int .u64 u.u, .string u.s])).run Try.prog W = .ok false W := fun W => by rw [run_eqVV, show eqVV v u = false from by cases he : eqVV v u; rfl; exact absurd ((eqVV_iff v u).1 he) HVU.out]
          go_wp2_with fail
          go_quiet (fail)
          go_wp2
          go_ret
          exact ⟨ret_bool (by rw [HF.out]), bl_dr HBB.out _⟩
      · obtain rfl : i = m := by omega
        have hil : (i : Int) ≤ (i : Int) := by omega
        have HT := Lib.hid (show r = true from by
          have hp := HP.out
          rw [List.take_of_length_le (by rw [HXL.out]; omega), List.take_of_length_le (by rw [HYL.out]; omega)] at hp
          rw [HR.out]
          exact decide_eq_true hp)
        clear hx hy bb
        go_wp2
        go_ret
        exact ⟨ret_bool (by rw [HT.out]), HBB.out⟩
  · have e : decide (xs = ys) = false := decide_eq_false fun e => hmn (by rw [← hxl, ← hyl, e])
    rw [e]
    clear e hx hy hxl hyl
    go_enter Try.func124, Try.ntmps124
    go_wp2
    go_ret
    exact ⟨rfl, Below.refl _ _⟩
set_option maxRecDepth 100000 in
theorem rowEq_any (F G : Nat → Prop) (A B : Option Addr) (m c n d : Nat) (xs ys : List VV) (w : World) (hx : LV.rd w F A m xs) (hy : LV.rd w G B n ys) (hm : m ≤ 9223372036854775807) :
    Calls Try.prog 115 #[.slice A m c, .slice B n d] w fun e w' => e = .returned (.bool (decide (xs = ys))) ∧ Below w.heap.size w w' := by
  have HE := Lib.hid (equalV F G A B m c n d xs ys w hx hy hm)
  clear hx hy
  generalize decide (xs = ys) = r at *
  go_enter Try.func115, Try.ntmps115
  go_wp2_with fail
  refine HE.out.mono ?_
  rintro e w2 ⟨rfl, q2⟩
  have HQ := Lib.hid q2
  clear q2
  go_wp2
  go_ret
  exact ⟨rfl, HQ.out⟩
set_option maxRecDepth 100000 in
set_option maxHeartbeats 8000000 in
theorem eqfR (F G : Nat → Prop) (A B : Option Addr) (m c n d : Nat) (xs ys : List (List VV)) (w : World) (hx : LR.rd w F A m xs) (hy : LR.rd w G B n ys) (hm : m ≤ 9223372036854775807) :
    Calls Try.prog 114 #[.slice A m c, .slice B n d, .func (.func 115) #[] #[]] w fun e w' => e = .returned (.bool (decide (xs = ys))) ∧ Below w.heap.size w w' := by
  have hxl := Lay.rd_len hx
  have hyl := Lay.rd_len hy
  by_cases hmn : m = n
  · subst hmn
    obtain ⟨r, hr⟩ : ∃ r, r = decide (xs = ys) := ⟨_, rfl⟩
    rw [← hr]
    have HR := Lib.hid hr
    have HXL := Lib.hid hxl
    have HYL := Lib.hid hyl
    have HEN : ∀ (args : Array Value) (w : World), (callFunc 115 args).run Try.prog w = .ok (.enter 115 args) w := Go.Proofs.enters_of Try.func115 (by kernel_rfl) rfl
    clear hr hxl hyl
    go_enter Try.func114, Try.ntmps114
    go_wp2_with fail
    go_loopg [17] m (fun g s wr => ∃ i : Nat, i + g ≤ m ∧ m ≤ i + g ∧ s = .int .i64 i ∧ xs.take i = ys.take i ∧ Below w.heap.size w wr)
    case atStart => exact ⟨0, by omega, by omega, rfl, rfl, Below.refl _ _⟩
    case round =>
      obtain ⟨i, hi1, hi2, rfl, hp, bb⟩ := hrel
      have HBB := Lib.hid bb
      have HP := Lib.hid hp
      clear hp
      by_cases hi : i < m
      · have hil : (i : Int) < (m : Int) := by omega
        obtain ⟨p1, v, B1, k1, c1, rfl, hv, e0, _, hk1, hr1⟩ := LR_at (Lay.rd_below hx bb) hi
        obtain ⟨p2, u, B2, k2, c2, rfl, hu, f0, _, _, hr2⟩ := LR_at (Lay.rd_below hy bb) hi
        have HC := Lib.hid (rowEq_any F G B1 B2 k1 c1 k2 c2 v u wr hr1 hr2 (by omega))
        clear hr1 hr2
        have HVI := Lib.hid hv
        have HUI := Lib.hid hu
        clear hv hu hx hy bb
        by_cases hvu : v = u
        · have HP2 := Lib.hid (show xs.take (i + 1) = ys.take (i + 1) from by rw [List.take_add_one, List.take_add_one, HP.out, HVI.out, HUI.out, hvu])
          have HVU := Lib.hid hvu
          clear hvu
          rw [show decide (v = u) = true from decide_eq_true HVU.out] at HC
          go_wp2_with fail
          refine HC.out.mono ?_
          rintro e w2 ⟨rfl, q2⟩
          have HBN := Lib.hid (bl_ca HBB.out q2)
          clear q2 e0 f0
          go_wp2
          go_roundg (gk - 1)
          · exact ⟨i + 1, by omega, by omega, by go_num, HP2.out, HBN.out⟩
          · omega
        · have HF := Lib.hid (show r = false from by
            rw [HR.out]
            refine decide_eq_false fun e => hvu ?_
            have h1 := HVI.out
            rw [e, HUI.out] at h1
            injection h1 with h1
            exact h1.symm)
          have HVU := Lib.hid hvu
          clear hvu
          rw [show decide (v = u) = false from decide_eq_false HVU.out] at HC
          go_wp2_with fail
          refine HC.out.mono ?_
          rintro e w2 ⟨rfl, q2⟩
          have HBN := Lib.hid (bl_ca HBB.out q2)
          clear q2 e0 f0
          go_wp2
          go_ret
          exact ⟨ret_bool (by rw [HF.out]), HBN.out⟩
      · obtain rfl : i = m := by omega
        have hil : (i : Int) ≤ (i : Int) := by omega
        have HT := Lib.hid (show r = true from by
          have hp := HP.out
          rw [List.take_of_length_le (by rw [HXL.out]; omega), List.take_of_length_le (by rw [HYL.out]; omega)] at hp
          rw [HR.out]
          exact decide_eq_true hp)
        clear hx hy bb
        go_wp2
        go_ret
        exact ⟨ret_bool (by rw [HT.out]), HBB.out⟩
  · have e : decide (xs = ys) = false := decide_eq_false fun e => hmn (by rw [← hxl, ← hyl, e])
    rw [e]
    clear e hx hy hxl hyl
    go_enter Try.func114, Try.ntmps114
    go_wp2
    go_ret
    exact ⟨rfl, Below.refl _ _⟩
set_option maxRecDepth 100000 in
theorem rowSame_any (F G : Nat → Prop) (A B : Option Addr) (m c n d : Nat) (xs ys : List (List VV)) (w : World) (hx : LR.rd w F A m xs) (hy : LR.rd w G B n ys) (hm : m ≤ 9223372036854775807) :
    Calls Try.prog 96 #[.slice A m c, .slice B n d] w fun e w' => e = .returned (.bool (decide (xs = ys))) ∧ Below w.heap.size w w' := by
  have HE := Lib.hid (eqfR F G A B m c n d xs ys w hx hy hm)
  clear hx hy
  generalize decide (xs = ys) = r at *
  go_enter Try.func96, Try.ntmps96
  go_wp2_with fail
  refine HE.out.mono ?_
  rintro e w2 ⟨rfl, q2⟩
  have HQ := Lib.hid q2
  clear q2
  go_wp2
  go_ret
  exact ⟨rfl, HQ.out⟩
/-- are two batches one? -/
def eqBC (a b : BC) : Bool := a.fin == b.fin && (a.cnt == b.cnt && decide (a.rows = b.rows))
theorem eqBC_iff (a b : BC) : eqBC a b = true ↔ a = b := by
  rcases a with ⟨r, f, n⟩
  rcases b with ⟨r', f', n'⟩
  simp [eqBC]
  exact ⟨fun ⟨x, y, z⟩ => ⟨z, x, y⟩, fun ⟨x, y, z⟩ => ⟨y, z, x⟩⟩
instance : DecidableEq BC := fun a b => decidable_of_iff (eqBC a b = true) (eqBC_iff a b)
set_option maxRecDepth 100000 in
set_option maxHeartbeats 4000000 in
theorem lsame_any (F G : Nat → Prop) (a b : BC) (A B : Option Addr) (m c n d : Nat) (w : World) (hx : LR.rd w F A m a.rows) (hy : LR.rd w G B n b.rows) (hm : m ≤ 9223372036854775807) :
    Calls Try.prog 65 #[.agg (a.cells A m c), .agg (b.cells B n d)] w fun e w' => e = .returned (.bool (eqBC a b)) ∧ Below w.heap.size w w' := by
  have b1 := bl_al (bl_al (Below.refl w.heap.size w) (.cells (a.cells A m c) 45)) (.cells (b.cells B n d) 45)
  have HE := Lib.hid (rowSame_any F G A B m c n d a.rows b.rows _ (Lay.rd_below hx b1) (Lay.rd_below hy b1) hm)
  have HB := Lib.hid b1
  have HR := Lib.hid (show eqBC a b = (a.fin == b.fin && (a.cnt == b.cnt && decide (a.rows = b.rows))) from rfl)
  generalize eqBC a b = r at *
  clear hx hy b1
  obtain ⟨ra, fa, na⟩ := a
  obtain ⟨rb, fb, nb⟩ := b
  dsimp only at *
  generalize decide (ra = rb) = z at *
  by_cases hf : fa = fb
  · subst hf
    by_cases hn : na = nb
    · subst hn
      go_enter Try.func65, Try.ntmps65
      go_wp2_with fail
      refine HE.out.mono ?_
      rintro e w2 ⟨rfl, q2⟩
      have HQ := Lib.hid (bl_ca HB.out q2)
      clear q2
      go_wp2
      go_ret
      exact ⟨ret_bool (by rw [HR.out]; simp), HQ.out⟩
    · have d1 : (na == nb) = false := by simpa using hn
      clear hn
      go_enter Try.func65, Try.ntmps65
      go_wp2
      go_ret
      exact ⟨ret_bool (by rw [HR.out, d1]; simp), HB.out⟩
  · have d1 : (fa == fb) = false := by simpa using hf
    clear hf
    go_enter Try.func65, Try.ntmps65
    go_wp2
    go_ret
    exact ⟨ret_bool (by rw [HR.out, d1]; simp), HB.out⟩
end Go.Proofs.Ytojghgbaiiajfaa
/- EqualFunc of batches; senders that are one. Conditions: the slices read so. -/
namespace Go.Proofs.Ytojghgbaiiajfaa
open Go.RowKit
set_option maxRecDepth 100000 in
set_option maxHeartbeats 8000000 in
theorem eqfB (F G : Nat → Prop) (A B : Option Addr) (m c n d : Nat) (xs ys : List BC) (w : World) (hx : LB3.rd w F A m xs) (hy : LB3.rd w G B n ys) (hm : m ≤ 9223372036854775807) :
    Calls Try.prog 45 #[.slice A m c, .slice B n d, .func (.func 65) #[] #[]] w fun e w' => e = .returned (.bool (decide (xs = ys))) ∧ Below w.heap.size w w' := by
  have hxl := Lay.rd_len hx
  have hyl := Lay.rd_len hy
  by_cases hmn : m = n
  · subst hmn
    obtain ⟨r, hr⟩ : ∃ r, r = decide (xs = ys) := ⟨_, rfl⟩
    rw [← hr]
    have HR := Lib.hid hr
    have HXL := Lib.hid hxl
    have HYL := Lib.hid hyl
    have HEN : ∀ (args : Array Value) (w : World), (callFunc 65 args).run Try.prog w = .ok (.enter 65 args) w := Go.Proofs.enters_of Try.func65 (by kernel_rfl) rfl
    clear hr hxl hyl
    go_enter Try.func45, Try.ntmps45
    go_wp2_with fail
    go_loopg [17] m (fun g s wr => ∃ i : Nat, i + g ≤ m ∧ m ≤ i + g ∧ s = .int .i64 i ∧ xs.take i = ys.take i ∧ Below w.heap.size w wr)
    case atStart => exact ⟨0, by omega, by omega, rfl, rfl, Below.refl _ _⟩
    case round =>
      obtain ⟨i, hi1, hi2, rfl, hp, bb⟩ := hrel
      have HBB := Lib.hid bb
      have HP := Lib.hid hp
      clear hp
      by_cases hi : i < m
      · have hil : (i : Int) < (m : Int) := by omega
        obtain ⟨p1, v, B1, k1, c1, rfl, hv, s1⟩ := LB3_at (Lay.rd_below hx bb) hi
        have q1 := bl_al (Below.refl wr.heap.size wr) (.cells (v.cells B1 k1 c1) 45)
        obtain ⟨p2, u, B2, k2, c2, rfl, hu, s2⟩ := LB3_at (Lay.rd_below hy (bl_ca bb q1)) hi
        have e0 := s1.c0
        have e1 := s1.c1
        have e2 := s1.c2
        have f0 := s2.c0
        have f1 := s2.c1
        have f2 := s2.c2
        have q2 := bl_al (Below.refl (wr.alloc (.cells (v.cells B1 k1 c1) 45)).heap.size (wr.alloc (.cells (v.cells B1 k1 c1) 45))) (.cells (u.cells B2 k2 c2) 45)
        have HC := Lib.hid (lsame_any F G v u B1 B2 k1 c1 k2 c2 _ (Lay.rd_below (Lay.rd_below s1.rd q1) q2) (Lay.rd_below s2.rd q2) (Nat.le_trans s1.nc s1.cm))
        have HB2 := Lib.hid (bl_ca (bl_ca bb q1) q2)
        clear s1 s2 q1 q2
        have HVI := Lib.hid hv
        have HUI := Lib.hid hu
        clear hv hu hx hy bb
        by_cases hvu : v = u
        · have HP2 := Lib.hid (show xs.take (i + 1) = ys.take (i + 1) from by rw [List.take_add_one, List.take_add_one, HP.out, HVI.out, HUI.out, hvu])
          have HVU := Lib.hid hvu
          clear hvu
          rw [show eqBC v u = true from (eqBC_iff v u).2 HVU.out] at HC
          clear HVU
          obtain ⟨rv, fv, nv⟩ := v
          obtain ⟨ru, fu, nu⟩ := u
          dsimp only at e0 e1 e2 f0 f1 f2 HC HB2
          go_wp2_with fail
          refine HC.out.mono ?_
          rintro e w2 ⟨rfl, q2⟩
          have HBN := Lib.hid (bl_ca HB2.out q2)
          clear q2 e0 e1 e2 f0 f1 f2
          go_wp2
          go_roundg (gk - 1)
          · exact ⟨i + 1, by omega, by omega, by go_num, HP2.out, HBN.out⟩
          · omega
        · have HF := Lib.hid (show r = false from by
            rw [HR.out]
            refine decide_eq_false fun e => hvu ?_
            have h1 := HVI.out
            rw [e, HUI.out] at h1
            injection h1 with h1
            exact h1.symm)
          have HVU := Lib.hid hvu
          clear hvu
          rw [show eqBC v u = false from by cases he : eqBC v u; rfl; exact absurd ((eqBC_iff v u).1 he) HVU.out] at HC
          clear HVU
          obtain ⟨rv, fv, nv⟩ := v
          obtain ⟨ru, fu, nu⟩ := u
          dsimp only at e0 e1 e2 f0 f1 f2 HC HB2
          go_wp2_with fail
          refine HC.out.mono ?_
          rintro e w2 ⟨rfl, q2⟩
          have HBN := Lib.hid (bl_ca HB2.out q2)
          clear q2 e0 e1 e2 f0 f1 f2
          go_wp2
          go_ret
          exact ⟨ret_bool (by rw [HF.out]), HBN.out⟩
      · obtain rfl : i = m := by omega
        have hil : (i : Int) ≤ (i : Int) := by omega
        have HT := Lib.hid (show r = true from by
          have hp := HP.out
          rw [List.take_of_length_le (by rw [HXL.out]; omega), List.take_of_length_le (by rw [HYL.out]; omega)] at hp
          rw [HR.out]
          exact decide_eq_true hp)
        clear hx hy bb
        go_wp2
        go_ret
        exact ⟨ret_bool (by rw [HT.out]), HBB.out⟩
  · have e : decide (xs = ys) = false := decide_eq_false fun e => hmn (by rw [← hxl, ← hyl, e])
    rw [e]
    clear e hx hy hxl hyl
    go_enter Try.func45, Try.ntmps45
    go_wp2
    go_ret
    exact ⟨rfl, Below.refl _ _⟩
def flatSC (a b : SC) : Bool := a.ses == b.ses && (a.base == b.base && (a.sent == b.sent && (a.lim == b.lim && (a.timer == b.timer && a.ended == b.ended))))
def eqSC (a b : SC) : Bool := flatSC a b && decide (a.q = b.q)
theorem eqSC_iff (a b : SC) : eqSC a b = true ↔ a = b := by
  rcases a with ⟨a0, a1, a2, a3, a4, a5, a6⟩
  rcases b with ⟨b0, b1, b2, b3, b4, b5, b6⟩
  simp [eqSC, flatSC]
  exact ⟨fun ⟨⟨x0, x1, x3, x4, x5, x6⟩, x2⟩ => ⟨x0, x1, x2, x3, x4, x5, x6⟩, fun ⟨x0, x1, x2, x3, x4, x5, x6⟩ => ⟨⟨x0, x1, x3, x4, x5, x6⟩, x2⟩⟩
set_option maxRecDepth 100000 in
set_option maxHeartbeats 8000000 in
theorem sameS_any (F G : Nat → Prop) (a b : SC) (A B : Option Addr) (m c n d : Nat) (w : World) (hx : LB3.rd w F A m a.q) (hy : LB3.rd w G B n b.q) (hm : m ≤ 9223372036854775807) :
    Calls Try.prog 21 #[.agg (a.cells A m c), .agg (b.cells B n d)] w fun e w' => e = .returned (.bool (eqSC a b)) ∧ Below w.heap.size w w' := by
  have b1 := bl_al (bl_al (Below.refl w.heap.size w) (.cells (a.cells A m c) 29)) (.cells (b.cells B n d) 29)
  have HE := Lib.hid (eqfB F G A B m c n d a.q b.q _ (Lay.rd_below hx b1) (Lay.rd_below hy b1) hm)
  have HB := Lib.hid b1
  have HR := Lib.hid (show eqSC a b = (flatSC a b && decide (a.q = b.q)) from rfl)
  generalize eqSC a b = r at *
  clear hx hy b1
  obtain ⟨a0, a1, qa, a3, a4, a5, a6⟩ := a
  obtain ⟨b0, b1, qb, b3, b4, b5, b6⟩ := b
  unfold flatSC at HR
  dsimp only at *
  generalize decide (qa = qb) = z at *
  by_cases h0 : a0 = b0
  · subst h0
    by_cases h1 : a1 = b1
    · subst h1
      by_cases h2 : a3 = b3
      · subst h2
        by_cases h3 : a4 = b4
        · subst h3
          by_cases h4 : a5 = b5
          · subst h4
            by_cases h5 : a6 = b6
            · subst h5
              go_enter Try.func21, Try.ntmps21
              go_wp2_with fail
              refine HE.out.mono ?_
              rintro e w2 ⟨rfl, q2⟩
              have HQ := Lib.hid (bl_ca HB.out q2)
              clear q2
              go_wp2
              go_ret
              exact ⟨ret_bool (by rw [HR.out]; simp), HQ.out⟩
            · have d1 : (a6 == b6) = false := by simpa using h5
              clear h5
              go_enter Try.func21, Try.ntmps21
              go_wp2
              go_ret
              exact ⟨ret_bool (by rw [HR.out, d1]; simp), HB.out⟩
          · have d1 : (a5 == b5) = false := by simpa using h4
            clear h4
            go_enter Try.func21, Try.ntmps21
            go_wp2
            go_ret
            exact ⟨ret_bool (by rw [HR.out, d1]; simp), HB.out⟩
        · have d1 : (a4 == b4) = false := by simpa using h3
          clear h3
          go_enter Try.func21, Try.ntmps21
          go_wp2
          go_ret
          exact ⟨ret_bool (by rw [HR.out, d1]; simp), HB.out⟩
      · have d1 : (a3 == b3) = false := by simpa using h2
        clear h2
        go_enter Try.func21, Try.ntmps21
        go_wp2
        go_ret
        exact ⟨ret_bool (by rw [HR.out, d1]; simp), HB.out⟩
    · have d1 : (a1 == b1) = false := by simpa using h1
      clear h1
      go_enter Try.func21, Try.ntmps21
      go_wp2
      go_ret
      exact ⟨ret_bool (by rw [HR.out, d1]; simp), HB.out⟩
  · have d1 : (a0 == b0) = false := by simpa using h0
    clear h0
    go_enter Try.func21, Try.ntmps21
    go_wp2
    go_ret
    exact ⟨ret_bool (by rw [HR.out, d1]; simp), HB.out⟩
end Go.Proofs.Ytojghgbaiiajfaa
/- link.Open, link.Listen. Conditions: none. -/
namespace Go.Proofs.Ytojghgbaiiajfaa
open Go.RowKit
theorem senderI : (Try.prog.info? 29).map (·.size) = some 7 := by kernel_rfl
theorem receiverI : (Try.prog.info? 36).map (·.size) = some 6 := by kernel_rfl
def zeroS : SC := ⟨0, 0, [], 0, 0, 0, false⟩
def zeroR : RC := ⟨0, 0, [], [], 0, false⟩
def openS (n : Int) : SC := if sesB n then ⟨n, 1, [], 0, 0, 0, false⟩ else zeroS
def openE (n : Int) : Int := if sesB n then 0 else 2
set_option maxRecDepth 100000 in
theorem open_any (n : Int) (w : World) : Calls Try.prog 11 #[.int .u32 n] w fun e w' => e = .returned (.tuple #[.agg ((openS n).cells none 0 0), .int .i64 (openE n)]) ∧ Below w.heap.size w w' := by
  have HS := Lib.hid (fun W => session_any n W)
  obtain ⟨s, hs⟩ : ∃ s, s = openS n := ⟨_, rfl⟩
  obtain ⟨E, hE⟩ : ∃ E, E = openE n := ⟨_, rfl⟩
  rw [← hs, ← hE]
  unfold openS at hs
  unfold openE at hE
  have b1 := bl_al (Below.refl w.heap.size w) (.cells (zeroS.cells none 0 0) 29)
  generalize sesB n = b at *
  cases b
  · obtain rfl : s = zeroS := hs
    obtain rfl : E = 2 := hE
    go_enter Try.func11, Try.ntmps11
    go_wp2_with fail
    refine (HS.out _).mono ?_
    rintro e w2 ⟨rfl, rfl⟩
    go_wp2_with (refine wpList_store_blk rfl 29 (.tmp 2) (.tmp 7) rfl w.heap.size 29 _ (zeroS.cells none 0 0) rfl rfl (Blk.new _ _ _) rfl senderI (by simp [Value.oneCell']) ?_; intro wz hZ gz)
    exact bodyPost_ret (res2 Try.results11 rfl rfl hZ Try.underlying29 rfl senderI) rfl ⟨rfl, bl_gr b1 gz (Nat.le_refl _)⟩
  · obtain rfl : s = ⟨n, 1, [], 0, 0, 0, false⟩ := hs
    obtain rfl : E = 0 := hE
    go_enter Try.func11, Try.ntmps11
    go_wp2_with fail
    refine (HS.out _).mono ?_
    rintro e w2 ⟨rfl, rfl⟩
    go_wp2_with (refine wpList_store_blk rfl 29 (.tmp 2) (.tmp 9) rfl w.heap.size 29 _ (SC.cells ⟨n, 1, [], 0, 0, 0, false⟩ none 0 0) rfl rfl (Blk.new _ _ _) rfl senderI (by simp [Value.oneCell']) ?_; intro wz hZ gz)
    exact bodyPost_ret (res2 Try.results11 rfl rfl hZ Try.underlying29 rfl senderI) rfl ⟨rfl, bl_gr b1 gz (Nat.le_refl _)⟩
def roomB (n room : Int) : Bool := sesB n && (decide (1 ≤ room) && decide (room ≤ 8))
def listenR (n room : Int) : RC := if roomB n room then ⟨n, 1, [], [], room, false⟩ else zeroR
def listenE (n room : Int) : Int := if roomB n room then 0 else 2
set_option maxRecDepth 100000 in
set_option maxHeartbeats 4000000 in
theorem listen_any (n room : Int) (w : World) : Calls Try.prog 13 #[.int .u32 n, .int .i64 room] w fun e w' => e = .returned (.tuple #[.agg ((listenR n room).cells none 0 0 none 0 0), .int .i64 (listenE n room)]) ∧ Below w.heap.size w w' := by
  have HS := Lib.hid (fun W => session_any n W)
  have b1 := bl_al (Below.refl w.heap.size w) (.cells (zeroR.cells none 0 0 none 0 0) 36)
  have HX := Lib.hid (show roomB n room = (sesB n && (decide (1 ≤ room) && decide (room ≤ 8))) from rfl)
  by_cases hr : roomB n room = true
  · have hr2 := hr
    rw [HX.out] at hr2
    simp only [Bool.and_eq_true, decide_eq_true_eq] at hr2
    obtain ⟨h0, h1, h2⟩ := hr2
    rw [show listenR n room = ⟨n, 1, [], [], room, false⟩ from by unfold listenR; rw [hr]; rfl, show listenE n room = 0 from by unfold listenE; rw [hr]; rfl]
    rw [h0] at HS
    clear h0 hr HX
    go_enter Try.func13, Try.ntmps13
    go_wp2_with fail
    refine (HS.out _).mono ?_
    rintro e w2 ⟨rfl, rfl⟩
    go_wp2_with (refine wpList_store_blk rfl 36 (.tmp 4) (.tmp 20) rfl w.heap.size 36 _ (RC.cells ⟨n, 1, [], [], room, false⟩ none 0 0 none 0 0) rfl rfl (Blk.new _ _ _) rfl receiverI (by simp [Value.oneCell']) ?_; intro wz hZ gz)
    exact bodyPost_ret (res2 Try.results13 rfl rfl hZ Try.underlying36 rfl receiverI) rfl ⟨rfl, bl_gr b1 gz (Nat.le_refl _)⟩
  · have hf : roomB n room = false := by simpa using hr
    rw [show listenR n room = zeroR from by unfold listenR; rw [hf]; rfl, show listenE n room = 2 from by unfold listenE; rw [hf]; rfl]
    rw [hf] at HX
    clear hr hf
    generalize sesB n = b at *
    cases b
    · go_enter Try.func13, Try.ntmps13
      go_wp2_with fail
      refine (HS.out _).mono ?_
      rintro e w2 ⟨rfl, rfl⟩
      go_wp2_with (refine wpList_store_blk rfl 36 (.tmp 4) (.tmp 17) rfl w.heap.size 36 _ (zeroR.cells none 0 0 none 0 0) rfl rfl (Blk.new _ _ _) rfl receiverI (by simp [Value.oneCell']) ?_; intro wz hZ gz)
      exact bodyPost_ret (res2 Try.results13 rfl rfl hZ Try.underlying36 rfl receiverI) rfl ⟨rfl, bl_gr b1 gz (Nat.le_refl _)⟩
    · have hx := HX.out
      have h3 : room < 1 ∨ (1 ≤ room ∧ 8 < room) := by
        simp at hx
        by_cases h1 : 1 ≤ room
        · exact .inr ⟨h1, hx h1⟩
        · exact .inl (by omega)
      clear hx HX
      rcases h3 with h3 | ⟨h3, h4⟩
      all_goals
        go_enter Try.func13, Try.ntmps13
        go_wp2_with fail
        refine (HS.out _).mono ?_
        rintro e w2 ⟨rfl, rfl⟩
        go_wp2_with (refine wpList_store_blk rfl 36 (.tmp 4) (.tmp 17) rfl w.heap.size 36 _ (zeroR.cells none 0 0 none 0 0) rfl rfl (Blk.new _ _ _) rfl receiverI (by simp [Value.oneCell']) ?_; intro wz hZ gz)
        exact bodyPost_ret (res2 Try.results13 rfl rfl hZ Try.underlying36 rfl receiverI) rfl ⟨rfl, bl_gr b1 gz (Nat.le_refl _)⟩
end Go.Proofs.Ytojghgbaiiajfaa
/- append(out, src...) of whatever data; slices.Clone of rows, batches, held batches, packets. Conditions: the slice reads so. -/
namespace Go.Proofs.Ytojghgbaiiajfaa
open Go.RowKit
theorem Lay.reads {α : Type} {L : Lay α} {w : World} {F : Nat → Prop} {A : Option Addr} {m : Nat} {ys : List α} (h : L.rd w F A m ys) : ∃ cs, L.reps w F ys cs ∧ Reads w w.heap.size L.size A m cs := by
  obtain ⟨hl, cs, hr, hc⟩ := h
  refine ⟨cs, hr, by rw [Lay.reps_len hr, hl], fun hn => ?_⟩
  obtain ⟨ad, e, hb, _, hh⟩ := hc hn
  exact ⟨ad, e, hb, hh⟩
/-- append(out, src...): out the call's own, src whatever can be read -/
theorem wpList_appLs {α : Type} {L : Lay α} {e : TypeId} {P : Program} {ops : Array Oper} {rest : List Oper} {o : Oper} {a : Act} {w : World} {Q : Exit → Act → World → Prop} (hgd : o.guard = none) (s x : Operand) (t : TypeId)
    (ho : o.op = .call { callee := .builtin .append, args := #[s, x], argTypes := #[t, t] })
    (z : Value) (k bytes : Nat) (ht : P.underlying t = some (.slice e)) (hi : (P.info? e).map (fun i => (i.zero, i.size, i.bytes)) = some (some z, k, bytes)) (hk : L.size = k) (hzs : z.cells.size = k) (hk0 : 0 < k)
    (B : Nat) (G F : Nat → Prop) (A : Option Addr) (n c : Nat) (xs : List α) (A2 : Option Addr) (m c2 : Nat) (ys : List α) (k2 : Nat) (hk2 : k2 = n + m)
    (hs : a.eval s = .slice A n c) (hx : a.eval x = .slice A2 m c2) (hown : L.own e w B G A n c xs) (hr : L.rd w F A2 m ys)
    (hFG : ∀ b, F b → b < w.heap.size → G b ∧ (Value.slice A n c).ownBlock ≠ some b) (hG : ∀ b, G b → b < w.heap.size) (hb : (n + m) * bytes ≤ 140737488355328) (hn : n + m ≤ maxLen) (hB : B ≤ w.heap.size)
    (h : ∀ A' c' w', L.own e w' B G A' k2 c' (xs ++ ys) → w.grownBy w' (Value.slice A n c).ownBlock → ((Value.slice A' k2 c').ownBlock = (Value.slice A n c).ownBlock ∨ (Value.slice A' k2 c').ownBlock = some w.heap.size) → wpList P ops Q rest (a.put o.dst (.slice A' k2 c')) w') : wpList P ops Q (o :: rest) a w := by
  subst hk2
  obtain ⟨hl, cs, hreps, hrow⟩ := hown
  obtain ⟨ds, hys, hrd⟩ := Lay.reads hr
  obtain ⟨i0, hi0, hz0, hz1, hz2⟩ := info_parts hi
  subst hk
  have hyl := Lay.rd_len hr
  refine wpList_append_any w hgd s x t ho B e i0 _ L.size bytes ht hi0 hz0 hz1 hz2 hzs hk0 (.slice A n c) n cs hs hrow w.heap.size A2 m c2 ds hx hrd (Lay.reps_one hys) hn hb hB ?_
  intro v' w' hown' hg hat
  obtain ⟨A', c', rfl⟩ := own_form' hown'
  have hne : ∀ b, G b → (Value.slice A n c).ownBlock ≠ some b → (Value.slice A' (n + m) c').ownBlock ≠ some b := fun b hb hne => by
    rcases hat with hat | hat
    · rw [hat]; exact hne
    · rw [hat]; intro e; injection e with e; have := hG b hb; omega
  have hkeep : ∀ b, (G b ∧ (Value.slice A n c).ownBlock ≠ some b) → b < w.heap.size → w'.heap[b]? = w.heap[b]? := fun b hb hlt => hg.block b hlt (fun e => hb.2 e.symm)
  have hys2 := Lay.reps_keep hkeep (Lay.reps_weak hFG hys)
  exact h A' c' w' ⟨by rw [List.length_append, hl, hyl], cs ++ ds, Lay.reps_append (Lay.reps_weak (fun b hb _ => ⟨hb.1, hne b hb.1 hb.2⟩) (Lay.reps_keep hkeep hreps)) (Lay.reps_weak (fun b hb _ => ⟨hb.1, hne b hb.1 hb.2⟩) hys2), hown'⟩ hg hat
/-- a literal without elements -/
theorem Lay.own_empty {α : Type} (L : Lay α) (w : World) (e : TypeId) (G : Nat → Prop) (hz : 0 < L.size) : L.own e (w.alloc (.cells #[] e)) w.heap.size G (some ⟨w.heap.size, 0, none⟩) 0 0 [] :=
  ⟨rfl, [], rfl, by simp, .inr ⟨w.heap.size, 0, #[], rfl, Nat.le_refl _, heap_alloc_new w _, Nat.le_refl _, by decide, by simp, by simp⟩⟩
theorem infoB : (Try.prog.info? 45).map (fun i => (i.zero, i.size, i.bytes)) = some (some (.agg #[.slice none 0 0, .bool false, .int .u64 0]), 3, 40) := by kernel_rfl
set_option maxRecDepth 100000 in
set_option maxHeartbeats 4000000 in
theorem cloneB (F : Nat → Prop) (A : Option Addr) (m c : Nat) (xs : List BC) (w : World) (h : LB3.rd w F A m xs) (hm : m ≤ 100000) :
    Calls Try.prog 83 #[.slice A m c] w fun e w' => ∃ A' c', e = .returned (.slice A' m c') ∧ LB3.own 45 w' w.heap.size (fun b => F b ∧ b < w.heap.size) A' m c' xs ∧ Below w.heap.size w w' := by
  cases A with
  | none =>
    have hm0 : m = 0 := by
      rcases Nat.eq_zero_or_pos m with h0 | h0
      · exact h0
      · obtain ⟨ad, x, cs, e, _⟩ := Lay.rd_at h h0; cases e
    subst hm0
    obtain rfl : xs = [] := List.eq_nil_of_length_eq_zero (Lay.rd_len h)
    clear h
    have HQ : ∀ W, (binOp .eql 27 (.slice none 0 c) (.slice none 0 0)).run Try.prog W = .ok (.bool true) W := fun W => Lib.run_eql_slice_nil W _ _ _ _ _ _ _ Try.underlying27
    go_enter Try.func83, Try.ntmps83
    go_wp2
    go_ret
    exact ⟨none, 0, rfl, Lay.own_nil _ _, Below.refl _ _⟩
  | some a =>
    have oe := Lay.own_empty LB3 w 45 (fun b => F b ∧ b < w.heap.size) (by decide)
    have b1 := bl_al (Below.refl w.heap.size w) (.cells #[] 45)
    have h1 := Lay.rd_below h b1
    have h2 : LB3.rd (w.alloc (.cells #[] 45)) (fun b => F b ∧ b < w.heap.size) (some a) m xs := Lay.rd_below (Lay.rd_weak (fun b hb hl => ⟨hb, hl⟩) h) b1
    have hz := b1.size
    have HOE := Lib.hid oe
    have HH2 := Lib.hid h2
    have HB := Lib.hid b1
    have HQ : ∀ W, (binOp .eql 27 (.slice (some a) m c) (.slice none 0 0)).run Try.prog W = .ok (.bool false) W := fun W => Lib.run_eql_slice_nil W _ _ _ _ _ _ _ Try.underlying27
    clear h h1 h2 oe b1
    go_enter Try.func83, Try.ntmps83
    go_wp2_with (at_builtin; refine wpList_appLs (L := LB3) (e := 45) rfl (.tmp 5) (.tmp 6) 27 rfl (.agg #[.slice none 0 0, .bool false, .int .u64 0]) 3 40 Try.underlying27 infoB rfl rfl (by decide) w.heap.size (fun b => F b ∧ b < w.heap.size) (fun b => F b ∧ b < w.heap.size) (some ⟨w.heap.size, 0, none⟩) 0 0 [] (some a) m c xs m (by omega) rfl rfl HOE.out HH2.out (fun b hb _ => ⟨hb, fun e => by simp [Value.ownBlock] at e; have := hb.2; omega⟩) (fun b hb => Nat.lt_of_lt_of_le hb.2 hz) (by omega) (by unfold maxLen; omega) hz ?_; intro A4 c4 w4 o4 g4 _; rw [List.nil_append] at o4; have HO4 := Lib.hid o4; have HG4 := Lib.hid g4; clear o4 g4)
    go_ret
    exact ⟨A4, c4, rfl, HO4.out, HB.out.grown HG4.out hz (fun k e => by simp [Value.ownBlock] at e; omega)⟩
theorem infoR : (Try.prog.info? 89).map (fun i => (i.zero, i.size, i.bytes)) = some (some (.slice none 0 0), 1, 24) := by kernel_rfl
set_option maxRecDepth 100000 in
set_option maxHeartbeats 4000000 in
theorem cloneR (F : Nat → Prop) (A : Option Addr) (m c : Nat) (xs : List (List VV)) (w : World) (h : LR.rd w F A m xs) (hm : m ≤ 100000) :
    Calls Try.prog 99 #[.slice A m c] w fun e w' => ∃ A' c', e = .returned (.slice A' m c') ∧ LR.own 89 w' w.heap.size (fun b => F b ∧ b < w.heap.size) A' m c' xs ∧ Below w.heap.size w w' := by
  cases A with
  | none =>
    have hm0 : m = 0 := by
      rcases Nat.eq_zero_or_pos m with h0 | h0
      · exact h0
      · obtain ⟨ad, x, cs, e, _⟩ := Lay.rd_at h h0; cases e
    subst hm0
    obtain rfl : xs = [] := List.eq_nil_of_length_eq_zero (Lay.rd_len h)
    clear h
    have HQ : ∀ W, (binOp .eql 43 (.slice none 0 c) (.slice none 0 0)).run Try.prog W = .ok (.bool true) W := fun W => Lib.run_eql_slice_nil W _ _ _ _ _ _ _ Try.underlying43
    go_enter Try.func99, Try.ntmps99
    go_wp2
    go_ret
    exact ⟨none, 0, rfl, Lay.own_nil _ _, Below.refl _ _⟩
  | some a =>
    have oe := Lay.own_empty LR w 89 (fun b => F b ∧ b < w.heap.size) (by decide)
    have b1 := bl_al (Below.refl w.heap.size w) (.cells #[] 89)
    have h1 := Lay.rd_below h b1
    have h2 : LR.rd (w.alloc (.cells #[] 89)) (fun b => F b ∧ b < w.heap.size) (some a) m xs := Lay.rd_below (Lay.rd_weak (fun b hb hl => ⟨hb, hl⟩) h) b1
    have hz := b1.size
    have HOE := Lib.hid oe
    have HH2 := Lib.hid h2
    have HB := Lib.hid b1
    have HQ : ∀ W, (binOp .eql 43 (.slice (some a) m c) (.slice none 0 0)).run Try.prog W = .ok (.bool false) W := fun W => Lib.run_eql_slice_nil W _ _ _ _ _ _ _ Try.underlying43
    clear h h1 h2 oe b1
    go_enter Try.func99, Try.ntmps99
    go_wp2_with (at_builtin; refine wpList_appLs (L := LR) (e := 89) rfl (.tmp 5) (.tmp 6) 43 rfl (.slice none 0 0) 1 24 Try.underlying43 infoR rfl rfl (by decide) w.heap.size (fun b => F b ∧ b < w.heap.size) (fun b => F b ∧ b < w.heap.size) (some ⟨w.heap.size, 0, none⟩) 0 0 [] (some a) m c xs m (by omega) rfl rfl HOE.out HH2.out (fun b hb _ => ⟨hb, fun e => by simp [Value.ownBlock] at e; have := hb.2; omega⟩) (fun b hb => Nat.lt_of_lt_of_le hb.2 hz) (by omega) (by unfold maxLen; omega) hz ?_; intro A4 c4 w4 o4 g4 _; rw [List.nil_append] at o4; have HO4 := Lib.hid o4; have HG4 := Lib.hid g4; clear o4 g4)
    go_ret
    exact ⟨A4, c4, rfl, HO4.out, HB.out.grown HG4.out hz (fun k e => by simp [Value.ownBlock] at e; omega)⟩
theorem infoH : (Try.prog.info? 81).map (fun i => (i.zero, i.size, i.bytes)) = some (some (.agg #[.int .u64 0, .slice none 0 0, .bool false, .int .u64 0]), 4, 48) := by kernel_rfl
set_option maxRecDepth 100000 in
set_option maxHeartbeats 4000000 in
theorem cloneH (F : Nat → Prop) (A : Option Addr) (m c : Nat) (xs : List HC) (w : World) (h : LH4.rd w F A m xs) (hm : m ≤ 100000) :
    Calls Try.prog 106 #[.slice A m c] w fun e w' => ∃ A' c', e = .returned (.slice A' m c') ∧ LH4.own 81 w' w.heap.size (fun b => F b ∧ b < w.heap.size) A' m c' xs ∧ Below w.heap.size w w' := by
  cases A with
  | none =>
    have hm0 : m = 0 := by
      rcases Nat.eq_zero_or_pos m with h0 | h0
      · exact h0
      · obtain ⟨ad, x, cs, e, _⟩ := Lay.rd_at h h0; cases e
    subst hm0
    obtain rfl : xs = [] := List.eq_nil_of_length_eq_zero (Lay.rd_len h)
    clear h
    have HQ : ∀ W, (binOp .eql 34 (.slice none 0 c) (.slice none 0 0)).run Try.prog W = .ok (.bool true) W := fun W => Lib.run_eql_slice_nil W _ _ _ _ _ _ _ Try.underlying34
    go_enter Try.func106, Try.ntmps106
    go_wp2
    go_ret
    exact ⟨none, 0, rfl, Lay.own_nil _ _, Below.refl _ _⟩
  | some a =>
    have oe := Lay.own_empty LH4 w 81 (fun b => F b ∧ b < w.heap.size) (by decide)
    have b1 := bl_al (Below.refl w.heap.size w) (.cells #[] 81)
    have h1 := Lay.rd_below h b1
    have h2 : LH4.rd (w.alloc (.cells #[] 81)) (fun b => F b ∧ b < w.heap.size) (some a) m xs := Lay.rd_below (Lay.rd_weak (fun b hb hl => ⟨hb, hl⟩) h) b1
    have hz := b1.size
    have HOE := Lib.hid oe
    have HH2 := Lib.hid h2
    have HB := Lib.hid b1
    have HQ : ∀ W, (binOp .eql 34 (.slice (some a) m c) (.slice none 0 0)).run Try.prog W = .ok (.bool false) W := fun W => Lib.run_eql_slice_nil W _ _ _ _ _ _ _ Try.underlying34
    clear h h1 h2 oe b1
    go_enter Try.func106, Try.ntmps106
    go_wp2_with (at_builtin; refine wpList_appLs (L := LH4) (e := 81) rfl (.tmp 5) (.tmp 6) 34 rfl (.agg #[.int .u64 0, .slice none 0 0, .bool false, .int .u64 0]) 4 48 Try.underlying34 infoH rfl rfl (by decide) w.heap.size (fun b => F b ∧ b < w.heap.size) (fun b => F b ∧ b < w.heap.size) (some ⟨w.heap.size, 0, none⟩) 0 0 [] (some a) m c xs m (by omega) rfl rfl HOE.out HH2.out (fun b hb _ => ⟨hb, fun e => by simp [Value.ownBlock] at e; have := hb.2; omega⟩) (fun b hb => Nat.lt_of_lt_of_le hb.2 hz) (by omega) (by unfold maxLen; omega) hz ?_; intro A4 c4 w4 o4 g4 _; rw [List.nil_append] at o4; have HO4 := Lib.hid o4; have HG4 := Lib.hid g4; clear o4 g4)
    go_ret
    exact ⟨A4, c4, rfl, HO4.out, HB.out.grown HG4.out hz (fun k e => by simp [Value.ownBlock] at e; omega)⟩
theorem infoP : (Try.prog.info? 47).map (fun i => (i.zero, i.size, i.bytes)) = some (some (.agg #[.int .i64 0, .int .u32 0, .int .u64 0, .int .u64 0, .slice none 0 0, .bool false, .int .u64 0]), 7, 72) := by kernel_rfl
set_option maxRecDepth 100000 in
set_option maxHeartbeats 4000000 in
theorem cloneP (F : Nat → Prop) (A : Option Addr) (m c : Nat) (xs : List PK) (w : World) (h : LP7.rd w F A m xs) (hm : m ≤ 100000) :
    Calls Try.prog 89 #[.slice A m c] w fun e w' => ∃ A' c', e = .returned (.slice A' m c') ∧ LP7.own 47 w' w.heap.size (fun b => F b ∧ b < w.heap.size) A' m c' xs ∧ Below w.heap.size w w' := by
  cases A with
  | none =>
    have hm0 : m = 0 := by
      rcases Nat.eq_zero_or_pos m with h0 | h0
      · exact h0
      · obtain ⟨ad, x, cs, e, _⟩ := Lay.rd_at h h0; cases e
    subst hm0
    obtain rfl : xs = [] := List.eq_nil_of_length_eq_zero (Lay.rd_len h)
    clear h
    have HQ : ∀ W, (binOp .eql 50 (.slice none 0 c) (.slice none 0 0)).run Try.prog W = .ok (.bool true) W := fun W => Lib.run_eql_slice_nil W _ _ _ _ _ _ _ Try.underlying50
    go_enter Try.func89, Try.ntmps89
    go_wp2
    go_ret
    exact ⟨none, 0, rfl, Lay.own_nil _ _, Below.refl _ _⟩
  | some a =>
    have oe := Lay.own_empty LP7 w 47 (fun b => F b ∧ b < w.heap.size) (by decide)
    have b1 := bl_al (Below.refl w.heap.size w) (.cells #[] 47)
    have h1 := Lay.rd_below h b1
    have h2 : LP7.rd (w.alloc (.cells #[] 47)) (fun b => F b ∧ b < w.heap.size) (some a) m xs := Lay.rd_below (Lay.rd_weak (fun b hb hl => ⟨hb, hl⟩) h) b1
    have hz := b1.size
    have HOE := Lib.hid oe
    have HH2 := Lib.hid h2
    have HB := Lib.hid b1
    have HQ : ∀ W, (binOp .eql 50 (.slice (some a) m c) (.slice none 0 0)).run Try.prog W = .ok (.bool false) W := fun W => Lib.run_eql_slice_nil W _ _ _ _ _ _ _ Try.underlying50
    clear h h1 h2 oe b1
    go_enter Try.func89, Try.ntmps89
    go_wp2_with (at_builtin; refine wpList_appLs (L := LP7) (e := 47) rfl (.tmp 5) (.tmp 6) 50 rfl (.agg #[.int .i64 0, .int .u32 0, .int .u64 0, .int .u64 0, .slice none 0 0, .bool false, .int .u64 0]) 7 72 Try.underlying50 infoP rfl rfl (by decide) w.heap.size (fun b => F b ∧ b < w.heap.size) (fun b => F b ∧ b < w.heap.size) (some ⟨w.heap.size, 0, none⟩) 0 0 [] (some a) m c xs m (by omega) rfl rfl HOE.out HH2.out (fun b hb _ => ⟨hb, fun e => by simp [Value.ownBlock] at e; have := hb.2; omega⟩) (fun b hb => Nat.lt_of_lt_of_le hb.2 hz) (by omega) (by unfold maxLen; omega) hz ?_; intro A4 c4 w4 o4 g4 _; rw [List.nil_append] at o4; have HO4 := Lib.hid o4; have HG4 := Lib.hid g4; clear o4 g4)
    go_ret
    exact ⟨A4, c4, rfl, HO4.out, HB.out.grown HG4.out hz (fun k e => by simp [Value.ownBlock] at e; omega)⟩
end Go.Proofs.Ytojghgbaiiajfaa
