/- The reference's Word, Find, Column; the law's large, over. Conditions: the slices read so. -/
import Derived.Test.YthgcdilkkldgjaaDoorCRef7b
namespace Go.Proofs.YthgcdilkkldgjaaDoor
open Go.RowKit
def wordS (k : Int) : ByteArray := if k = 1 then sBool else if k = 2 then sInt else if k = 3 then sText else ⟨#[]⟩
instance : DecidableEq CO := fun a b => decidable_of_iff (a.name = b.name ∧ a.kind = b.kind) (by cases a; cases b; simp)
instance : DecidableEq TC := fun a b => decidable_of_iff (a.name = b.name ∧ a.cols = b.cols ∧ a.keys = b.keys) (by cases a; cases b; simp)
theorem idxL_hit {α : Type} {f : α → Bool} {l : List α} {i : Nat} {x : α} (h : l[i]? = some x) (hf : f x = true) (hlo : ∀ (k : Nat) (q : α), k < i → l[k]? = some q → f q = false) : idxL f l = (i : Int) := by
  have hi : i < l.length := by
    rcases Nat.lt_or_ge i l.length with h1 | h1
    · exact h1
    · rw [List.getElem?_eq_none h1] at h; cases h
  rw [List.getElem?_eq_getElem hi] at h
  injection h with h
  have e : l.findIdx f = i := by
    rw [List.findIdx_eq hi]
    exact ⟨by rw [h]; exact hf, fun j hj => hlo j _ hj (List.getElem?_eq_getElem (by omega))⟩
  unfold idxL
  rw [e, if_pos hi]
theorem idxL_miss {α : Type} {f : α → Bool} {l : List α} (hlo : ∀ (k : Nat) (q : α), k < l.length → l[k]? = some q → f q = false) : idxL f l = -1 := by
  have e : ¬ l.findIdx f < l.length := by
    rw [List.findIdx_lt_length]
    rintro ⟨x, hx, hf⟩
    obtain ⟨k, hk, rfl⟩ := List.getElem_of_mem hx
    rw [hlo k _ hk (List.getElem?_eq_getElem hk)] at hf
    cases hf
  unfold idxL
  rw [if_neg e]
theorem lo_next {α : Type} {f : α → Bool} {l : List α} {i : Nat} {x : α} (hx : l[i]? = some x) (hf : f x = false) (hlo : ∀ (k : Nat) (q : α), k < i → l[k]? = some q → f q = false) : ∀ (k : Nat) (q : α), k < i + 1 → l[k]? = some q → f q = false := fun k r hk hr => by
  rcases Nat.lt_or_ge k i with h1 | h1
  · exact hlo k r h1 hr
  · obtain rfl : k = i := by omega
    rw [hr] at hx
    injection hx with hx
    subst hx
    exact hf
set_option maxRecDepth 100000 in
theorem rword_any (k : Int) (w : World) : Calls Tryd.prog 35 #[.int .i64 k] w fun e w' => e = .returned (.string (wordS k)) ∧ w = w' := by
  have HR := Lib.hid (show wordS k = if k = 1 then sBool else if k = 2 then sInt else if k = 3 then sText else ⟨#[]⟩ from rfl)
  generalize wordS k = r at *
  go_enter Tryd.func35, Tryd.ntmps35
  by_cases h1 : k = 1
  · have e1 : (k == 1) = true := by simpa using h1
    have HQ := Lib.hid (show r = sBool from by rw [HR.out, if_pos h1])
    clear h1 HR
    go_wp2
    go_ret
    exact ⟨by rw [HQ.out]; rfl, rfl⟩
  have e1 : (k == 1) = false := by simpa using h1
  by_cases h2 : k = 2
  · have e2 : (k == 2) = true := by simpa using h2
    have HQ := Lib.hid (show r = sInt from by rw [HR.out, if_neg h1, if_pos h2])
    clear h1 h2 HR
    go_wp2
    go_ret
    exact ⟨by rw [HQ.out]; rfl, rfl⟩
  have e2 : (k == 2) = false := by simpa using h2
  by_cases h3 : k = 3
  · have e3 : (k == 3) = true := by simpa using h3
    have HQ := Lib.hid (show r = sText from by rw [HR.out, if_neg h1, if_neg h2, if_pos h3])
    clear h1 h2 h3 HR
    go_wp2
    go_ret
    exact ⟨by rw [HQ.out]; rfl, rfl⟩
  have e3 : (k == 3) = false := by simpa using h3
  have HQ := Lib.hid (show r = ⟨#[]⟩ from by rw [HR.out, if_neg h1, if_neg h2, if_neg h3])
  clear h1 h2 h3 HR
  go_wp2
  go_ret
  exact ⟨by rw [HQ.out]; rfl, rfl⟩
theorem eqt {a b : ByteArray} (h : a = b) : (a.toList == b.toList) = true := by rw [seq_iff]; simpa using h
theorem eqf {a b : ByteArray} (h : a ≠ b) : (a.toList == b.toList) = false := by rw [seq_iff]; simpa using h
set_option maxRecDepth 100000 in
theorem rfind_any (F : Nat → Prop) (A : Option Addr) (m c : Nat) (l : List TC) (s : ByteArray) (w : World) (h : LT3.rd w F A m l) (hm : m ≤ 9223372036854775807) :
    Calls Tryd.prog 17 #[.agg #[.slice A m c], .string s] w fun e w' => e = .returned (.int .i64 (idxL (fun t => decide (t.name = s)) l)) ∧ Below w.heap.size w w' := by
  have HL := Lib.hid (Lay.rd_len h)
  obtain ⟨r, hr⟩ : ∃ r, r = idxL (fun t : TC => decide (t.name = s)) l := ⟨_, rfl⟩
  rw [← hr]
  have HR := Lib.hid hr
  clear hr
  have q1 := bl_al (Below.refl w.heap.size w) (.cells #[.slice A m c] 24)
  have h1 := Lay.rd_below h q1
  have y0 := (Blk.new w 24 #[.slice A m c]).cell 0
  go_enter Tryd.func17, Tryd.ntmps17
  go_wp2_with fail
  generalize w.alloc (.cells #[.slice A m c] 24) = w1 at *
  go_loopg [5] m (fun g a wr => ∃ i : Nat, i + g = m ∧ a = .int .i64 i ∧ (∀ (k : Nat) (q : TC), k < i → l[k]? = some q → decide (q.name = s) = false) ∧ w1 = wr)
  case atStart => exact ⟨0, by omega, rfl, fun k q hk => by omega, rfl⟩
  case round =>
    obtain ⟨i, hig, rfl, hlo, rfl⟩ := hrel
    have HLO := Lib.hid hlo
    clear hlo
    by_cases hlt : i < m
    · have hi1 : (i : Int) < (m : Int) := by omega
      obtain ⟨p, t, A1, n1, c1, B1, m1, d1, rfl, hx, s1⟩ := LT3_at h1 hlt
      have e0 := s1.c0
      have HX := Lib.hid hx
      clear hx s1
      by_cases hq : t.name = s
      · have e1 := eqt hq
        have HQ := Lib.hid (show r = (i : Int) from by rw [HR.out]; exact idxL_hit HX.out (by simpa using hq) HLO.out)
        clear hq
        go_wp2
        go_ret
        exact ⟨by rw [HQ.out]; rfl, q1⟩
      · have e1 := eqf hq
        have HF := Lib.hid (lo_next HX.out (by simpa using hq) HLO.out)
        clear hq
        go_wp2
        go_roundg (gk - 1)
        · exact ⟨i + 1, by omega, by go_num, HF.out, rfl⟩
        · omega
    · obtain rfl : i = m := by omega
      have hi1 : (i : Int) ≤ (i : Int) := by omega
      have HQ := Lib.hid (show r = -1 from by rw [HR.out]; exact idxL_miss (by rw [HL.out]; exact HLO.out))
      clear HR
      go_wp2
      go_ret
      exact ⟨by rw [HQ.out]; rfl, q1⟩
set_option maxRecDepth 100000 in
theorem rcolumn_any (F : Nat → Prop) (t : TC) (A : Option Addr) (m c : Nat) (B : Option Addr) (n d : Nat) (s : ByteArray) (w : World) (h : LCO.rd w F A m t.cols) (hm : m ≤ 9223372036854775807) :
    Calls Tryd.prog 25 #[.agg (t.cells A m c B n d), .string s] w fun e w' => e = .returned (.int .i64 (idxL (fun x => decide (x.name = s)) t.cols)) ∧ Below w.heap.size w w' := by
  obtain ⟨l, hl⟩ : ∃ l, l = t.cols := ⟨_, rfl⟩
  rw [← hl] at h ⊢
  clear hl
  have HL := Lib.hid (Lay.rd_len h)
  obtain ⟨r, hr⟩ : ∃ r, r = idxL (fun t : CO => decide (t.name = s)) l := ⟨_, rfl⟩
  rw [← hr]
  have HR := Lib.hid hr
  clear hr
  have q1 := bl_al (Below.refl w.heap.size w) (.cells (t.cells A m c B n d) 28)
  have h1 := Lay.rd_below h q1
  have y0 := (Blk.new w 28 (t.cells A m c B n d)).cell 1
  go_enter Tryd.func25, Tryd.ntmps25
  go_wp2_with fail
  generalize w.alloc (.cells (t.cells A m c B n d) 28) = w1 at *
  go_loopg [5] m (fun g a wr => ∃ i : Nat, i + g = m ∧ a = .int .i64 i ∧ (∀ (k : Nat) (q : CO), k < i → l[k]? = some q → decide (q.name = s) = false) ∧ w1 = wr)
  case atStart => exact ⟨0, by omega, rfl, fun k q hk => by omega, rfl⟩
  case round =>
    obtain ⟨i, hig, rfl, hlo, rfl⟩ := hrel
    have HLO := Lib.hid hlo
    clear hlo
    by_cases hlt : i < m
    · have hi1 : (i : Int) < (m : Int) := by omega
      obtain ⟨p, t, rfl, hx, s1⟩ := LCO_at h1 hlt
      have e0 := s1.c0
      have HX := Lib.hid hx
      clear hx s1
      by_cases hq : t.name = s
      · have e1 := eqt hq
        have HQ := Lib.hid (show r = (i : Int) from by rw [HR.out]; exact idxL_hit HX.out (by simpa using hq) HLO.out)
        clear hq
        go_wp2
        go_ret
        exact ⟨by rw [HQ.out]; rfl, q1⟩
      · have e1 := eqf hq
        have HF := Lib.hid (lo_next HX.out (by simpa using hq) HLO.out)
        clear hq
        go_wp2
        go_roundg (gk - 1)
        · exact ⟨i + 1, by omega, by go_num, HF.out, rfl⟩
        · omega
    · obtain rfl : i = m := by omega
      have hi1 : (i : Int) ≤ (i : Int) := by omega
      have HQ := Lib.hid (show r = -1 from by rw [HR.out]; exact idxL_miss (by rw [HL.out]; exact HLO.out))
      clear HR
      go_wp2
      go_ret
      exact ⟨by rw [HQ.out]; rfl, q1⟩
/-- a table, a catalog that is not gone through -/
def largeB (t : TC) : Bool := decide (100 < t.name.size) || (decide (20 < t.cols.length) || (decide (20 < t.keys.length) || t.cols.any fun c => decide (100 < c.name.size)))
def overB (l : List TC) : Bool := decide (20 < l.length) || l.any largeB
theorem any_drop {α : Type} {f : α → Bool} {l : List α} {i : Nat} {x : α} (h : l[i]? = some x) : (l.drop i).any f = (f x || (l.drop (i + 1)).any f) := by
  have hi : i < l.length := by
    rcases Nat.lt_or_ge i l.length with h1 | h1
    · exact h1
    · rw [List.getElem?_eq_none h1] at h; cases h
  rw [List.getElem?_eq_getElem hi] at h
  injection h with h
  rw [List.drop_eq_getElem_cons hi, h, List.any_cons]
theorem all_drop {α : Type} {f : α → Bool} {l : List α} {i : Nat} {x : α} (h : l[i]? = some x) : (l.drop i).all f = (f x && (l.drop (i + 1)).all f) := by
  have hi : i < l.length := by
    rcases Nat.lt_or_ge i l.length with h1 | h1
    · exact h1
    · rw [List.getElem?_eq_none h1] at h; cases h
  rw [List.getElem?_eq_getElem hi] at h
  injection h with h
  rw [List.drop_eq_getElem_cons hi, h, List.all_cons]
set_option maxRecDepth 100000 in
set_option maxHeartbeats 1000000 in
theorem large_any (F F2 : Nat → Prop) (t : TC) (A : Option Addr) (m c : Nat) (B : Option Addr) (n d : Nat) (w : World) (h : LCO.rd w F A m t.cols) (h2 : LK.rd w F2 B n t.keys) (hm : m ≤ 9223372036854775807) :
    Calls Tryd.prog 10 #[.agg (t.cells A m c B n d)] w fun e w' => e = .returned (.bool (largeB t)) ∧ Below w.heap.size w w' := by
  have HL := Lib.hid (Lay.rd_len h)
  have HL2 := Lib.hid (Lay.rd_len h2)
  have HR := Lib.hid (show largeB t = (decide (100 < t.name.size) || (decide (20 < t.cols.length) || (decide (20 < t.keys.length) || t.cols.any fun c => decide (100 < c.name.size)))) from rfl)
  rw [HL.out, HL2.out] at HR
  generalize largeB t = r at *
  clear h2 HL2
  have q1 := bl_al (Below.refl w.heap.size w) (.cells (t.cells A m c B n d) 28)
  have h1 := Lay.rd_below h q1
  have y0 := (Blk.new w 28 (t.cells A m c B n d)).cell 0
  have y1 := (Blk.new w 28 (t.cells A m c B n d)).cell 1
  have y2 := (Blk.new w 28 (t.cells A m c B n d)).cell 2
  obtain ⟨l, hl⟩ : ∃ l, l = t.cols := ⟨_, rfl⟩
  rw [← hl] at h1 HR HL
  clear hl h
  obtain ⟨nm, hnm⟩ : ∃ nm, nm = t.name := ⟨_, rfl⟩
  have y0' : (w.alloc (.cells (t.cells A m c B n d) 28)).cell? ⟨w.heap.size, 0, none⟩ = some (.string nm) := by rw [hnm]; exact y0
  rw [← hnm] at HR
  clear hnm y0
  go_enter Tryd.func10, Tryd.ntmps10
  by_cases c1 : 100 < nm.size
  · have k1 : (100 : Int) < (nm.size : Int) := by omega
    go_wp2
    go_ret
    exact ⟨ret_bool (by rw [HR.out]; simp [c1]), q1⟩
  have k1 : (nm.size : Int) ≤ 100 := by omega
  by_cases c2 : 20 < m
  · have k2 : (20 : Int) < (m : Int) := by omega
    go_wp2
    go_ret
    exact ⟨ret_bool (by rw [HR.out]; simp [c2]), q1⟩
  have k2 : (m : Int) ≤ 20 := by omega
  by_cases c3 : 20 < n
  · have k3 : (20 : Int) < (n : Int) := by omega
    go_wp2
    go_ret
    exact ⟨ret_bool (by rw [HR.out]; simp [c3]), q1⟩
  have k3 : (n : Int) ≤ 20 := by omega
  have HR2 := Lib.hid (show r = l.any fun c => decide (100 < c.name.size) from by rw [HR.out]; simp [c1, c2, c3])
  clear HR c1 c2 c3
  go_wp2_with fail
  generalize w.alloc (.cells (t.cells A m c B n d) 28) = w1 at *
  clear y0' y1 y2
  go_loopg [24] m (fun g a wr => ∃ i : Nat, i + g = m ∧ a = .int .i64 i ∧ r = (l.drop i).any (fun c => decide (100 < c.name.size)) ∧ Below w.heap.size w wr ∧ Below w1.heap.size w1 wr)
  case atStart => exact ⟨0, by omega, rfl, by rw [HR2.out]; simp, q1, Below.refl _ _⟩
  case round =>
    obtain ⟨i, hig, rfl, hri, bb, b1⟩ := hrel
    have HRI := Lib.hid hri
    have HBB := Lib.hid bb
    have HB1 := Lib.hid b1
    have h3 := Lay.rd_below h1 b1
    clear hri bb b1
    by_cases hlt : i < m
    · have hi1 : (i : Int) < (m : Int) := by omega
      obtain ⟨p, x, rfl, hx, s1⟩ := LCO_at h3 hlt
      have e0 := s1.c0
      have e1 := s1.c1
      have HA := Lib.hid (any_drop (f := fun c : CO => decide (100 < c.name.size)) hx)
      obtain ⟨xn, xk⟩ := x
      dsimp only at e0 e1 HA
      clear hx s1 h3
      by_cases c1 : 100 < xn.size
      · have k9 : (100 : Int) < (xn.size : Int) := by omega
        have HQ := Lib.hid (show r = true from by rw [HRI.out, HA.out]; simp [c1])
        clear c1
        go_wp2
        go_ret
        exact ⟨ret_bool (by rw [HQ.out]), bl_al HBB.out _⟩
      · have k9 : (xn.size : Int) ≤ 100 := by omega
        have HQ := Lib.hid (show r = (l.drop (i + 1)).any (fun c => decide (100 < c.name.size)) from by rw [HRI.out, HA.out]; simp [c1])
        clear c1
        go_wp2
        go_roundg (gk - 1)
        · exact ⟨i + 1, by omega, by go_num, HQ.out, bl_al HBB.out _, bl_al HB1.out _⟩
        · omega
    · obtain rfl : i = m := by omega
      have hi1 : (i : Int) ≤ (i : Int) := by omega
      have HQ := Lib.hid (show r = false from by rw [HRI.out, List.drop_of_length_le (by rw [HL.out]; exact Nat.le_refl _)]; rfl)
      go_wp2
      go_ret
      exact ⟨ret_bool (by rw [HQ.out]), HBB.out⟩
end Go.Proofs.YthgcdilkkldgjaaDoor
