/- The reference's SameTable, Same. Conditions: the slices read so. -/
import Derived.Test.YthgcdilkkldgjaaDoorCRight2
import Derived.Test.YthgcdilkkldgjaaDoorApp
namespace Go.Proofs.YthgcdilkkldgjaaDoor
open Go.RowKit
def eqCO (a b : CO) : Bool := a.name.toList == b.name.toList && a.kind == b.kind
theorem eqCO_dec (a b : CO) : eqCO a b = decide (a = b) := by
  rw [Bool.eq_iff_iff, decide_eq_true_eq]
  unfold eqCO
  rw [seq_iff, Bool.and_eq_true, decide_eq_true_eq, beq_iff_eq]
  cases a; cases b; simp
theorem run_eqCO (a b : CO) : ∀ W, (Op.equalIn 10000 59 (.agg #[.string a.name, .int .i64 a.kind]) (.agg #[.string b.name, .int .i64 b.kind])).run Tryd.prog W = .ok (decide (a = b)) W := by
  intro W
  rw [← eqCO_dec]
  unfold eqCO
  rw [run_equalIn_agg W 9999 _ _ _ (by kernel_rfl) (by kernel_rfl)]
  go_simp
  by_cases h1 : a.kind = b.kind <;> by_cases h4 : a.name.toList = b.name.toList <;> simp [h1, h4]
theorem list_ext_lt {α : Type} {a b : List α} {n : Nat} (ha : a.length = n) (hb : b.length = n) (h : ∀ (k : Nat) (x y : α), k < n → a[k]? = some x → b[k]? = some y → x = y) : a = b := by
  refine List.ext_getElem (by omega) fun k h1 h2 => h k _ _ (by omega) (List.getElem?_eq_getElem h1) (List.getElem?_eq_getElem h2)
set_option maxRecDepth 100000 in
set_option maxHeartbeats 4000000 in
theorem rsamet_any (F G : Nat → Prop) (s t : TC) (A : Option Addr) (m c : Nat) (B : Option Addr) (n d : Nat) (A2 : Option Addr) (m2 c2 : Nat) (B2 : Option Addr) (n2 d2 : Nat) (w : World) (h : LCO.rd w F A m s.cols) (k : LK.rd w F B n s.keys) (h2 : LCO.rd w G A2 m2 t.cols) (k2 : LK.rd w G B2 n2 t.keys) (hm : m ≤ 9223372036854775807) (hn : n ≤ 9223372036854775807) :
    Calls Tryd.prog 33 #[.agg (s.cells A m c B n d), .agg (t.cells A2 m2 c2 B2 n2 d2)] w fun e w' => e = .returned (.bool (decide (s = t))) ∧ Below w.heap.size w w' := by
  have HL := Lib.hid (And.intro (Lay.rd_len h) (Lay.rd_len k))
  have HL2 := Lib.hid (And.intro (Lay.rd_len h2) (Lay.rd_len k2))
  have HR := Lib.hid (show decide (s = t) = true ↔ (s.name = t.name ∧ s.cols = t.cols ∧ s.keys = t.keys) from by rw [decide_eq_true_eq]; cases s; cases t; simp)
  generalize decide (s = t) = r at *
  have HNO := Lib.hid (show ¬ (s.name = t.name ∧ s.cols = t.cols ∧ s.keys = t.keys) → r = false from fun h => by cases r; rfl; exact absurd (HR.out.1 rfl) h)
  have q1 := bl_al (Below.refl w.heap.size w) (.cells (s.cells A m c B n d) 28)
  have q2 := Lib.hid (bl_al q1 (.cells (t.cells A2 m2 c2 B2 n2 d2) 28))
  have h3 := Lay.rd_below h q2.out
  have k3 := Lay.rd_below k q2.out
  have h4 := Lay.rd_below h2 q2.out
  have k4 := Lay.rd_below k2 q2.out
  have HB := Lib.hid ((Blk.new w 28 (s.cells A m c B n d)).alloc (.cells (t.cells A2 m2 c2 B2 n2 d2) 28))
  have HC := Lib.hid (Blk.new (w.alloc (.cells (s.cells A m c B n d) 28)) 28 (t.cells A2 m2 c2 B2 n2 d2))
  rw [World.size_alloc] at HC
  clear h k h2 k2 q1
  have y0 := HB.out.cell 0
  have y1 := HB.out.cell 1
  have y2 := HB.out.cell 2
  have z0 := HC.out.cell 0
  have z1 := HC.out.cell 1
  have z2 := HC.out.cell 2
  go_enter Tryd.func33, Tryd.ntmps33
  by_cases c1 : s.name = t.name
  case neg =>
    have e1 := eqf c1
    have HQ := Lib.hid (HNO.out (fun h => c1 h.1))
    clear c1
    go_wp2
    go_ret
    exact ⟨ret_bool HQ.out.symm, q2.out⟩
  have e1 := eqt c1
  have HE1 := Lib.hid c1
  clear c1
  by_cases c4 : m = m2
  case neg =>
    have e2 : ((m : Int) == (m2 : Int)) = false := by simp; omega
    have e3 : (m == m2) = false := by simpa using c4
    have HQ := Lib.hid (HNO.out (fun h => c4 (by rw [← HL.out.1, ← HL2.out.1, h.2.1])))
    clear c4
    go_wp2
    go_ret
    exact ⟨ret_bool HQ.out.symm, q2.out⟩
  subst c4
  by_cases c4 : n = n2
  case neg =>
    have e2 : ((n : Int) == (n2 : Int)) = false := by simp; omega
    have e3 : (n == n2) = false := by simpa using c4
    have HQ := Lib.hid (HNO.out (fun h => c4 (by rw [← HL.out.2, ← HL2.out.2, h.2.2])))
    clear c4
    go_wp2
    go_ret
    exact ⟨ret_bool HQ.out.symm, q2.out⟩
  subst c4
  go_wp2_with fail
  generalize (w.alloc (.cells (s.cells A m c B n d) 28)).alloc (.cells (t.cells A2 m c2 B2 n d2) 28) = w1 at *
  clear y0 y1 y2 z0 z1 z2 e1
  go_loopg [5] m (fun g a wr => ∃ i : Nat, i + g = m ∧ a = .int .i64 i ∧ (∀ (k : Nat) (x y : CO), k < i → s.cols[k]? = some x → t.cols[k]? = some y → x = y) ∧ Below w1.heap.size w1 wr)
  case atStart => exact ⟨0, by omega, rfl, fun k x y hk => by omega, Below.refl _ _⟩
  case round =>
    obtain ⟨i, hig, rfl, heq, b1⟩ := hrel
    have HEQ := Lib.hid heq
    have HB1 := Lib.hid b1
    have HBB := Lib.hid (bl_ca q2.out b1)
    have HB3 := Lib.hid (HB.out.ca b1)
    have HC3 := Lib.hid (HC.out.ca b1)
    have h5 := Lay.rd_below h3 b1
    have h6 := Lay.rd_below h4 b1
    have k5 := Lay.rd_below k3 b1
    have k6 := Lay.rd_below k4 b1
    clear heq b1
    have y1 := HB3.out.cell 1
    have z1 := HC3.out.cell 1
    by_cases hlt : i < m
    · have hi1 : (i : Int) < (m : Int) := by omega
      obtain ⟨p, x, hAe, hx, s1⟩ := LCO_at h5 hlt
      obtain ⟨p2, y, hAe2, hy, s2⟩ := LCO_at h6 hlt
      obtain rfl : A = some p := hAe
      obtain rfl : A2 = some p2 := hAe2
      have e0 := s1.c0
      have e1 := s1.c1
      have f0 := s2.c0
      have f1 := s2.c1
      have HX := Lib.hid hx
      have HY := Lib.hid hy
      clear hx hy s1 s2
      go_wp2_with fail
      by_cases hq : x = y
      · have HQE : ∀ W, (Op.equalIn 10000 59 (.agg #[.string x.name, .int .i64 x.kind]) (.agg #[.string y.name, .int .i64 y.kind])).run Tryd.prog W = .ok true W := fun W => by rw [run_eqCO, decide_eq_true hq]
        have HN := Lib.hid (show ∀ (k : Nat) (x y : CO), k < i + 1 → s.cols[k]? = some x → t.cols[k]? = some y → x = y from fun k x' y' hk h8 h9 => by
          rcases Nat.lt_or_ge k i with h7 | h7
          · exact HEQ.out k x' y' h7 h8 h9
          · obtain rfl : k = i := by omega
            rw [← at_eq HX.out h8, ← at_eq HY.out h9]
            exact hq)
        clear hq
        go_quiet (fail)
        go_wp2
        go_roundg (gk - 1)
        · exact ⟨i + 1, by omega, by go_num, HN.out, bl_dr HB1.out _⟩
        · omega
      · have HQE : ∀ W, (Op.equalIn 10000 59 (.agg #[.string x.name, .int .i64 x.kind]) (.agg #[.string y.name, .int .i64 y.kind])).run Tryd.prog W = .ok false W := fun W => by rw [run_eqCO, decide_eq_false hq]
        have HQ := Lib.hid (HNO.out (fun h => hq (by have h8 := HX.out; rw [h.2.1] at h8; exact at_eq h8 HY.out)))
        clear hq
        go_quiet (fail)
        go_wp2
        go_ret
        exact ⟨ret_bool HQ.out.symm, bl_dr HBB.out _⟩
    · obtain rfl : i = m := by omega
      have hi1 : (i : Int) ≤ (i : Int) := by omega
      have HCE := Lib.hid (list_ext_lt HL.out.1 HL2.out.1 HEQ.out)
      go_wp2_with fail
      clear y1 z1 hi1 hig hlt h5 h6 HEQ
      obtain ⟨w7, rfl⟩ : ∃ x, x = wr := ⟨_, rfl⟩
      go_loopg [6] n (fun g a wr => ∃ j : Nat, j + g = n ∧ a = .int .i64 j ∧ (∀ (k : Nat) (x y : Int), k < j → s.keys[k]? = some x → t.keys[k]? = some y → x = y) ∧ Below w7.heap.size w7 wr)
      case atStart => exact ⟨0, by omega, rfl, fun k x y hk => by omega, Below.refl _ _⟩
      case round =>
        obtain ⟨j, hig, rfl, heq, b1⟩ := hrel
        have HEQ := Lib.hid heq
        have HB7 := Lib.hid b1
        have HBB7 := Lib.hid (bl_ca HBB.out b1)
        have HB8 := Lib.hid (HB3.out.ca b1)
        have HC8 := Lib.hid (HC3.out.ca b1)
        have k7 := Lay.rd_below k5 b1
        have k8 := Lay.rd_below k6 b1
        clear heq b1
        have y1 := HB8.out.cell 2
        have z1 := HC8.out.cell 2
        by_cases hlt : j < n
        · have hi1 : (j : Int) < (n : Int) := by omega
          obtain ⟨p, x, hAe, hx, e0⟩ := LK_at k7 hlt
          obtain ⟨p2, y, hAe2, hy, f0⟩ := LK_at k8 hlt
          obtain rfl : B = some p := hAe
          obtain rfl : B2 = some p2 := hAe2
          have HX := Lib.hid hx
          have HY := Lib.hid hy
          clear hx hy
          go_wp2_with fail
          by_cases hq : x = y
          · have e9 : (x == y) = true := by simpa using hq
            have HN := Lib.hid (show ∀ (k : Nat) (x y : Int), k < j + 1 → s.keys[k]? = some x → t.keys[k]? = some y → x = y from fun k x' y' hk h8 h9 => by
              rcases Nat.lt_or_ge k j with h7 | h7
              · exact HEQ.out k x' y' h7 h8 h9
              · obtain rfl : k = j := by omega
                rw [← at_eq HX.out h8, ← at_eq HY.out h9]
                exact hq)
            clear hq
            go_quiet (fail)
            go_wp2
            go_roundg (gk - 1)
            · exact ⟨j + 1, by omega, by go_num, HN.out, bl_dr HB7.out _⟩
            · omega
          · have e9 : (x == y) = false := by simpa using hq
            have HQ := Lib.hid (HNO.out (fun h => hq (by have h8 := HX.out; rw [h.2.2] at h8; exact at_eq h8 HY.out)))
            clear hq
            go_quiet (fail)
            go_wp2
            go_ret
            exact ⟨ret_bool HQ.out.symm, bl_dr HBB7.out _⟩
        · obtain rfl : j = n := by omega
          have hi1 : (j : Int) ≤ (j : Int) := by omega
          have HQ := Lib.hid (HR.out.2 ⟨HE1.out, HCE.out, list_ext_lt HL.out.2 HL2.out.2 HEQ.out⟩)
          go_wp2
          go_ret
          exact ⟨ret_bool HQ.out.symm, HBB7.out⟩
set_option maxRecDepth 100000 in
set_option maxHeartbeats 4000000 in
theorem rsame_any (F G : Nat → Prop) (xs ys : List TC) (A : Option Addr) (m c : Nat) (B : Option Addr) (n d : Nat) (w : World) (h : LT3.rd w F A m xs) (k : LT3.rd w G B n ys) (hm : m ≤ 9223372036854775807) :
    Calls Tryd.prog 14 #[.agg #[.slice A m c], .agg #[.slice B n d]] w fun e w' => e = .returned (.bool (decide (xs = ys))) ∧ Below w.heap.size w w' := by
  have HL := Lib.hid (And.intro (Lay.rd_len h) (Lay.rd_len k))
  have HR := Lib.hid (show decide (xs = ys) = true ↔ xs = ys from decide_eq_true_iff)
  generalize decide (xs = ys) = r at *
  have HNO := Lib.hid (show ¬ xs = ys → r = false from fun h => by cases r; rfl; exact absurd (HR.out.1 rfl) h)
  have q1 := bl_al (Below.refl w.heap.size w) (.cells #[.slice A m c] 24)
  have q2 := Lib.hid (bl_al q1 (.cells #[.slice B n d] 24))
  have h3 := Lay.rd_below h q2.out
  have h4 := Lay.rd_below k q2.out
  have HB := Lib.hid ((Blk.new w 24 #[.slice A m c]).alloc (.cells #[.slice B n d] 24))
  have HC := Lib.hid (Blk.new (w.alloc (.cells #[.slice A m c] 24)) 24 #[.slice B n d])
  rw [World.size_alloc] at HC
  clear h k q1
  have y0 := HB.out.cell 0
  have z0 := HC.out.cell 0
  go_enter Tryd.func14, Tryd.ntmps14
  by_cases c4 : m = n
  case neg =>
    have e2 : ((m : Int) == (n : Int)) = false := by simp; omega
    have e3 : (m == n) = false := by simpa using c4
    have HQ := Lib.hid (HNO.out (fun h => c4 (by rw [← HL.out.1, ← HL.out.2, h])))
    clear c4
    go_wp2
    go_ret
    exact ⟨ret_bool HQ.out.symm, q2.out⟩
  subst c4
  go_wp2_with fail
  generalize (w.alloc (.cells #[.slice A m c] 24)).alloc (.cells #[.slice B m d] 24) = w1 at *
  clear y0 z0
  go_loopg [5] m (fun g a wr => ∃ i : Nat, i + g = m ∧ a = .int .i64 i ∧ (∀ (k : Nat) (x y : TC), k < i → xs[k]? = some x → ys[k]? = some y → x = y) ∧ Below w1.heap.size w1 wr)
  case atStart => exact ⟨0, by omega, rfl, fun k x y hk => by omega, Below.refl _ _⟩
  case round =>
    obtain ⟨i, hig, rfl, heq, b1⟩ := hrel
    have HEQ := Lib.hid heq
    have HB1 := Lib.hid b1
    have HBB := Lib.hid (bl_ca q2.out b1)
    have HB3 := Lib.hid (HB.out.ca b1)
    have HC3 := Lib.hid (HC.out.ca b1)
    have h5 := Lay.rd_below h3 b1
    have h6 := Lay.rd_below h4 b1
    clear heq b1
    have y1 := HB3.out.cell 0
    have z1 := HC3.out.cell 0
    by_cases hlt : i < m
    · have hi1 : (i : Int) < (m : Int) := by omega
      obtain ⟨p, x, A1, n1, c1, B1, m1, d1, hAe, hx, s1⟩ := LT3_at h5 hlt
      obtain ⟨p2, y, A2, n2, c2, B2, m2, d2, hAe2, hy, s2⟩ := LT3_at h6 hlt
      obtain rfl : A = some p := hAe
      obtain rfl : B = some p2 := hAe2
      have e0 := s1.c0
      have e1 := s1.c1
      have e2 := s1.c2
      have f0 := s2.c0
      have f1 := s2.c1
      have f2 := s2.c2
      have HX := Lib.hid hx
      have HY := Lib.hid hy
      have HCT := Lib.hid (fun (W : World) (b : Below wr.heap.size wr W) => rsamet_any F G x y A1 n1 c1 B1 m1 d1 A2 n2 c2 B2 m2 d2 W (Lay.rd_below s1.rd b) (Lay.rd_below s1.rk b) (Lay.rd_below s2.rd b) (Lay.rd_below s2.rk b) (Nat.le_trans s1.nc s1.cm) (Nat.le_trans s1.md s1.dm))
      clear hx hy s1 s2
      go_wp2_with fail
      obtain ⟨q, hq⟩ : ∃ q, q = decide (x = y) := ⟨_, rfl⟩
      rw [← hq] at HCT
      refine wp_region_ps (S := fun _ _ w' => Below wr.heap.size wr w') (by kernel_rfl) ?spswg1 ?ppswg1
      case spswg1 =>
        exact (Below.refl wr.heap.size wr).drew
      refine Ps.st (i := 0) (d := some 20) (u := (.pointer (some ⟨w.heap.size, 0, none⟩))) rfl rfl (by exact StepS.pure nP rfl fun _ => rfl) ?_
      try simp only [Act.put, sA, sZ, sS]
      refine Ps.st (i := 1) (d := some 21) (u := (.slice (some p) m c)) rfl rfl ?ywg1_3 ?rwg1_3
      case ywg1_3 =>
        refine StepS.read [] (by kernel_rfl) nP (by rfl) (fun L9 m9 w9 hSh hAt hDn hS => ?_)
        have hT : Below _ _ w9 := hS
        have x0 : w9.cell? ⟨w.heap.size, 0, none⟩ = some (.slice (some p) m c) := (HB3.out.ca hT).cell 0
        clear hT hS
        go_simp
        try rfl
      try simp only [Act.put, sA, sZ, sS]
      refine Ps.st (i := 2) (d := some 22) (u := (.int .i64 ((i : Int)))) rfl rfl (by exact StepS.pure nP rfl fun _ => rfl) ?_
      try simp only [Act.put, sA, sZ, sS]
      refine Ps.st (i := 3) (d := some 23) (u := (.pointer (some (p.add (i * 3))))) rfl rfl (by exact StepS.pure nP rfl fun _ => by first | rfl | (go_simp; done) | (go_simp; rfl)) ?_
      try simp only [Act.put, sA, sZ, sS]
      refine Ps.st (i := 4) (d := some 24) (u := (.agg #[.string x.name, .slice A1 n1 c1, .slice B1 m1 d1])) rfl rfl ?ywg1_6 ?rwg1_6
      case ywg1_6 =>
        refine StepS.read [] (by kernel_rfl) nP (by rfl) (fun L9 m9 w9 hSh hAt hDn hS => ?_)
        have hT : Below _ _ w9 := hS
        have x0 : w9.cell? (p.add (i * 3)) = some (.string x.name) := ce e0 hT
        have x1 : w9.cell? ⟨(p.add (i * 3)).block, (p.add (i * 3)).off + 1, none⟩ = some (.slice A1 n1 c1) := ce e1 hT
        have x2 : w9.cell? ⟨(p.add (i * 3)).block, (p.add (i * 3)).off + 2, none⟩ = some (.slice B1 m1 d1) := ce e2 hT
        clear hT hS
        go_simp
        try rfl
      try simp only [Act.put, sA, sZ, sS]
      refine Ps.st (i := 5) (d := some 25) (u := (.pointer (some ⟨w.heap.size + 1, 0, none⟩))) rfl rfl (by exact StepS.pure nP rfl fun _ => rfl) ?_
      try simp only [Act.put, sA, sZ, sS]
      refine Ps.st (i := 6) (d := some 26) (u := (.slice (some p2) m d)) rfl rfl ?ywg1_8 ?rwg1_8
      case ywg1_8 =>
        refine StepS.read [] (by kernel_rfl) nP (by rfl) (fun L9 m9 w9 hSh hAt hDn hS => ?_)
        have hT : Below _ _ w9 := hS
        have x0 : w9.cell? ⟨w.heap.size + 1, 0, none⟩ = some (.slice (some p2) m d) := (HC3.out.ca hT).cell 0
        clear hT hS
        go_simp
        try rfl
      try simp only [Act.put, sA, sZ, sS]
      refine Ps.st (i := 7) (d := some 27) (u := (.int .i64 ((i : Int)))) rfl rfl (by exact StepS.pure nP rfl fun _ => rfl) ?_
      try simp only [Act.put, sA, sZ, sS]
      refine Ps.st (i := 8) (d := some 28) (u := (.pointer (some (p2.add (i * 3))))) rfl rfl (by exact StepS.pure nP rfl fun _ => by first | rfl | (go_simp; done) | (go_simp; rfl)) ?_
      try simp only [Act.put, sA, sZ, sS]
      refine Ps.st (i := 9) (d := some 29) (u := (.agg #[.string y.name, .slice A2 n2 c2, .slice B2 m2 d2])) rfl rfl ?ywg1_11 ?rwg1_11
      case ywg1_11 =>
        refine StepS.read [] (by kernel_rfl) nP (by rfl) (fun L9 m9 w9 hSh hAt hDn hS => ?_)
        have hT : Below _ _ w9 := hS
        have x0 : w9.cell? (p2.add (i * 3)) = some (.string y.name) := ce f0 hT
        have x1 : w9.cell? ⟨(p2.add (i * 3)).block, (p2.add (i * 3)).off + 1, none⟩ = some (.slice A2 n2 c2) := ce f1 hT
        have x2 : w9.cell? ⟨(p2.add (i * 3)).block, (p2.add (i * 3)).off + 2, none⟩ = some (.slice B2 m2 d2) := ce f2 hT
        clear hT hS
        go_simp
        try rfl
      try simp only [Act.put, sA, sZ, sS]
      refine Ps.st (i := 10) (d := some 30) (u := (.bool (q))) rfl rfl ?ywg1_12 ?rwg1_12
      case ywg1_12 =>
        refine StepS.call ?fwg1_12 ?awg1_12 [] (by kernel_rfl) (by rfl) (fun w9 => ?hwg1_12) (fun L9 m9 w9 hSh hAt hDn hS => ?cwg1_12)
        case hwg1_12 => go_simp; refine ⟨?_, ?_⟩ <;> rfl
        case cwg1_12 =>
          have hT : Below _ _ w9 := hS
          refine (HCT.out w9 hT).mono ?_
          rintro e w8 ⟨rfl, q8⟩
          exact ⟨rfl, bl_ca hT q8⟩
      try simp only [Act.put, sA, sZ, sS]
      refine Ps.st (i := 11) (d := some 31) (u := (.bool (!q))) rfl rfl (by exact StepS.pure nP rfl fun _ => rfl) ?_
      try simp only [Act.put, sA, sZ, sS]
      refine Ps.done (by kernel_rfl) (fun wg1 hS => ?_) _
      have HT6 := Lib.hid (show Below wr.heap.size wr wg1 from hS)
      clear hS
      obtain ⟨w6, rfl⟩ : ∃ x, x = wg1 := ⟨_, rfl⟩
      have HQ9 := Lib.hid hq
      clear hq y1 z1 e0 e1 e2 f0 f1 f2 HCT
      cases q
      · have HQ := Lib.hid (HNO.out (fun h => by have h8 := HX.out; rw [h] at h8; have h9 := HQ9.out; rw [decide_eq_true (at_eq h8 HY.out)] at h9; cases h9))
        go_wp2_with fail
        go_ret
        exact ⟨ret_bool HQ.out.symm, bl_ca HBB.out HT6.out⟩
      · have HN := Lib.hid (show ∀ (k : Nat) (x y : TC), k < i + 1 → xs[k]? = some x → ys[k]? = some y → x = y from fun k x' y' hk h8 h9 => by
          rcases Nat.lt_or_ge k i with h7 | h7
          · exact HEQ.out k x' y' h7 h8 h9
          · obtain rfl : k = i := by omega
            rw [← at_eq HX.out h8, ← at_eq HY.out h9]
            exact of_decide_eq_true HQ9.out.symm)
        go_wp2_with fail
        go_roundg (gk - 1)
        · exact ⟨i + 1, by omega, by go_num, HN.out, bl_ca HB1.out HT6.out⟩
        · omega
    · obtain rfl : i = m := by omega
      have hi1 : (i : Int) ≤ (i : Int) := by omega
      have HQ := Lib.hid (HR.out.2 (list_ext_lt HL.out.1 HL.out.2 HEQ.out))
      go_wp2
      go_ret
      exact ⟨ret_bool HQ.out.symm, HBB.out⟩
end Go.Proofs.YthgcdilkkldgjaaDoor
