/- The reference's Signs, One. Conditions: texts of at most 100000 bytes, a place within. -/
import Derived.Test.YtnpicnddcoaboaaDoorLxR2
import Derived.Test.YtnpicnddcoaboaaDoorGs
import Derived.Test.YtnpicnddcoaboaaDoorPsN
namespace Go.Proofs.YtnpicnddcoaboaaDoor
open Go.RowKit
theorem tokI : (Tryd.prog.info? 26).map (·.size) = some 4 := by kernel_rfl
section
variable {P : Program}
theorem res3 {fn : Func} {p q r : Tmp} {ty : TypeId} (h : fn.results = #[.cell p ty, .tmp q, .tmp r]) {tmps : Array Value} {w : World} {g : Nat} {t : TypeId} {cs : Array Value} {d : TypeDesc} {v u : Value}
    (hp : tmps.getD p undef = .pointer (some ⟨g, 0, none⟩)) (hq : tmps.getD q undef = v) (hr : tmps.getD r undef = u) (hg : Blk w g t cs) (hu : P.underlying ty = some d) (hd : (match d with | .struct _ | .array _ _ => true | _ => false) = true) (hi : (P.info? ty).map (·.size) = some cs.size) :
    (results fn tmps).run P w = .ok (.tuple #[.agg cs, v, u]) w := by
  have hp' : tmps[p]?.getD undef = .pointer (some ⟨g, 0, none⟩) := by simpa using hp
  have hq' : tmps[q]?.getD undef = v := by simpa using hq
  have hr' : tmps[r]?.getD undef = u := by simpa using hr
  simp [results, h, hp', hq', hr', asAddr, run_loadVar_row w g t ty cs (0, 0) d hg hu hd hi]
end
/-- the reference's signs -/
def rsignsL : List ByteArray := [⟨#[40]⟩, ⟨#[41]⟩, ⟨#[44]⟩, ⟨#[46]⟩, ⟨#[42]⟩, ⟨#[43]⟩, ⟨#[45]⟩, ⟨#[47]⟩, ⟨#[61]⟩, ⟨#[60, 62]⟩, ⟨#[60]⟩, ⟨#[60, 61]⟩, ⟨#[62]⟩, ⟨#[62, 61]⟩]
theorem sg_two {b c : UInt8} (r : List UInt8) (h : Lib.containsS rsignsL (bS [b, c]) = true) : sgU (b :: c :: r) = some [b, c] := by
  have h1 := (Lib.containsS_iff _ _).1 h
  simp only [rsignsL, List.mem_cons, List.not_mem_nil, or_false, ByteArray.mk.injEq, ← Array.toList_inj, List.cons.injEq, and_true, reduceCtorEq, and_false, false_or] at h1
  rcases h1 with ⟨rfl, rfl⟩ | ⟨rfl, rfl⟩ | ⟨rfl, rfl⟩ <;> rfl
theorem sg_one {b : UInt8} {r : List UInt8} (h : Lib.containsS rsignsL (bS [b]) = true) (h2 : ∀ c x, r = c :: x → Lib.containsS rsignsL (bS [b, c]) = false) : sgU (b :: r) = some [b] := by
  have h1 := (Lib.containsS_iff _ _).1 h
  simp only [rsignsL, List.mem_cons, List.not_mem_nil, or_false, ByteArray.mk.injEq, ← Array.toList_inj, List.cons.injEq, and_true, reduceCtorEq, and_false, false_or] at h1
  have e : ∀ x y : UInt8, Lib.containsS rsignsL (bS [x, y]) = true → ∀ c z, r = c :: z → b = x → c ≠ y := by
    intro x y hxy c z hr hb hc
    have := h2 c z hr
    rw [hb, hc, hxy] at this
    cases this
  have e1 := e 60 62 (by decide)
  have e2 := e 60 61 (by decide)
  have e3 := e 62 61 (by decide)
  unfold sgU
  cases r with
  | nil => rcases h1 with rfl | rfl | rfl | rfl | rfl | rfl | rfl | rfl | rfl | rfl | rfl <;> rfl
  | cons c z =>
    have k1 := e1 c z rfl
    have k2 := e2 c z rfl
    have k3 := e3 c z rfl
    rcases h1 with rfl | rfl | rfl | rfl | rfl | rfl | rfl | rfl | rfl | rfl | rfl <;> first | rfl | (simp [signsU, List.isPrefixOf, Ne.symm (k1 rfl), Ne.symm (k2 rfl)]; done) | (simp [signsU, List.isPrefixOf, Ne.symm (k3 rfl)]; done)
theorem sg_none {b : UInt8} (r : List UInt8) (h : Lib.containsS rsignsL (bS [b]) = false) : sgU (b :: r) = none := by
  unfold sgU
  rw [List.find?_eq_none]
  intro s hs hp
  have key : ∀ s ∈ signsU, Lib.containsS rsignsL (bS (s.take 1)) = true := by decide
  have hne := signs_pos s hs
  cases s with
  | nil => simp at hne
  | cons x y =>
    have h1 := key _ hs
    have h2 := List.isPrefixOf_iff_prefix.1 hp
    obtain ⟨t, ht⟩ := h2
    rw [List.cons_append] at ht
    injection ht with ht _
    rw [List.take_succ_cons, List.take_zero, ht, h] at h1
    cases h1
/-- what One returns of what stands at a place -/
def OneE (l : List UInt8) (p : Nat) (e : Ending) : Prop := ∃ (t : Tk) (n : Int), e = .returned (.tuple #[.agg t.cells, .int .i64 n, .bool (firstU l).2.2]) ∧ ((firstU l).2.2 = true → t = { (firstU l).1 with at_ := (p : Int) } ∧ n = ((p + (firstU l).2.1 : Nat) : Int))
theorem OneE.mk {l : List UInt8} {p : Nat} {t : Tk} {n : Int} {o : Bool} {cs : Array Value} (hc : cs = t.cells) (ho : o = (firstU l).2.2) (h : (firstU l).2.2 = true → t = { (firstU l).1 with at_ := (p : Int) } ∧ n = ((p + (firstU l).2.1 : Nat) : Int)) : OneE l p (.returned (.tuple #[.agg cs, .int .i64 n, .bool o])) := ⟨t, n, by rw [hc, ho], h⟩
theorem first_quo {b : UInt8} {r : List UInt8} (h : b = 39) : firstU (b :: r) = quoT r := by rw [firstU, if_pos h]
theorem first_par {b : UInt8} {r : List UInt8} (h : b ≠ 39) (h2 : paU b = true) : firstU (b :: r) = rowT ((b :: r).takeWhile paU) := by rw [firstU, if_neg h, if_pos h2]
theorem first_sgn {b : UInt8} {r : List UInt8} (h : b ≠ 39) (h2 : paU b = false) : firstU (b :: r) = sgnT (b :: r) := by rw [firstU, if_neg h, if_neg (by rw [h2]; simp)]
theorem bS_eta (s : ByteArray) : bS s.data.toList = s := rfl
theorem bS_of {s : ByteArray} {l : List UInt8} (h : s.data.toList = l) : s = bS l := by rw [← h]
theorem take_all {p : UInt8 → Bool} : ∀ (l : List UInt8) (i : Nat) (b : UInt8), i < (l.takeWhile p).length → l[i]? = some b → p b = true
  | [], i, b, h, _ => by simp at h
  | c :: l, i, b, h, hb => by
    rw [List.takeWhile_cons] at h
    split at h
    · rename_i hc
      cases i with
      | zero => rw [List.getElem?_cons_zero] at hb; injection hb with hb; rw [← hb]; exact hc
      | succ i => exact take_all l i b (by simpa using h) (by simpa using hb)
    · simp at h
theorem take_stop {p : UInt8 → Bool} : ∀ (l : List UInt8) (b : UInt8), l[(l.takeWhile p).length]? = some b → p b = false
  | [], b, hb => by simp at hb
  | c :: l, b, hb => by
    rw [List.takeWhile_cons] at hb
    split at hb
    · exact take_stop l b (by simpa using hb)
    · rename_i hc
      simp only [List.length_nil, List.getElem?_cons_zero, Option.some.injEq] at hb
      rw [← hb]
      simpa using hc
theorem take_pre {p : UInt8 → Bool} : ∀ (l : List UInt8), l.take (l.takeWhile p).length = l.takeWhile p
  | [] => rfl
  | c :: l => by
    rw [List.takeWhile_cons]
    split
    · rw [List.length_cons, List.take_succ_cons, take_pre l]
    · rfl
theorem row_num {row : List UInt8} {k : Nat} (h : numU row = some k) : rowT row = (⟨3, 0, [], k⟩, row.length, true) := by unfold rowT; rw [h]
theorem row_word {row : List UInt8} (h : numU row = none) (h2 : isWordB (bS (upL row)) = true) : rowT row = (⟨1, 0, upL row, 0⟩, row.length, true) := by unfold rowT; rw [h]; exact if_pos h2
theorem row_name {row : List UInt8} (h : numU row = none) (h2 : isWordB (bS (upL row)) = false) : rowT row = (⟨2, 0, row, 0⟩, row.length, nameB (bS row)) := by unfold rowT; rw [h]; exact if_neg (by rw [h2]; simp)
end Go.Proofs.YtnpicnddcoaboaaDoor
