/- An argument that is a slice of values, or of numbers. Conditions: none. -/
import Derived.Test.YtabbiepafibmmaaDoorAre
import Derived.Test.YtabbiepafibmmaaDoorWakes2
import Derived.ProofKit
import Derived.OpenShut
import Derived.ShutString
import Derived.ChangeOld
import Derived.Deep.Slices
import Derived.Deep.Fields
import Derived.ChangeSame
namespace Go.Proofs.YtabbiepafibmmaaDoor
open Go.ChangeShapes Go.WideShapes Go.ChangeAt Go.RowKit Go.Deep
def I64 (n : Int) : Prop := -9223372036854775808 ≤ n ∧ n < 9223372036854775808
def U64 (n : Int) : Prop := 0 ≤ n ∧ n < 18446744073709551616
def VV.rng (v : VV) : Prop := I64 v.n ∧ U64 v.u
theorem Tryd.own : ownKnob Tryd.prog.godebug = none := by kernel_rfl
theorem Tryd.laidOut : laidOutB Tryd.prog = true := by kernel_rfl
theorem wf_int {x : Int} (h : (Lit.int .i64 x).wf = true) : -9223372036854775808 ≤ x ∧ x ≤ 9223372036854775807 := by
  simp [Lit.wf, IntKind.min, IntKind.max, IntKind.signed, IntKind.bits] at h
  exact ⟨by omega, by omega⟩
theorem wf_u8 {x : Int} (h : (Lit.int .u8 x).wf = true) : 0 ≤ x ∧ x < 256 := by
  simp [Lit.wf, IntKind.min, IntKind.max, IntKind.signed, IntKind.bits] at h
  exact ⟨by omega, by omega⟩
theorem wf_u64 {x : Int} (h : (Lit.int .u64 x).wf = true) : 0 ≤ x ∧ x < 18446744073709551616 := by
  simp [Lit.wf, IntKind.min, IntKind.max, IntKind.signed, IntKind.bits] at h
  exact ⟨by omega, by omega⟩
section
variable {H : Type} {enc : TypeId × Value → H} {P : Program} {w : World} {base : Nat} {spare : Nat → Bool} {held : Bool}
theorem open_slice_fields {t e : TypeId} {fs : Array Field} {fuel : Nat} {cs : List Value} {x : DataW H × List MemPlace} (ht : P.underlying t = some (.slice e)) (he : P.underlying e = some (.struct fs))
    (hone : oneCellFields P fs = true) (hC : P.cellsOf e = fs.size) (h : DataW.trod enc P w base spare held fuel t cs = some x) :
    (cs = [.slice none 0 0] ∧ x = (.nil, [])) ∨
    ∃ (a : Addr) (len cap m : Nat) (D : Nat → DataW H) (Pl : Nat → List MemPlace), cs = [.slice (some a) len cap] ∧ base ≤ a.block ∧ len ≤ cap ∧ cap ≤ maxLen ∧ m = (if spare a.block then cap else len) ∧
      x = (.slice ((List.range len).map D) ((List.range (m - len)).map fun j => D (len + j)), MemPlace.row a (m * fs.size) ++ (List.range m).flatMap Pl) ∧
      ∀ i, i < m → ∃ (ys : List (DataW H × List MemPlace)) (n : Nat), D i = .agg (ys.map (·.1)) ∧ Pl i = ys.flatMap (·.2) ∧ ys.length = fs.size ∧
        ∀ (j : Nat) (f : Field), fs[j]? = some f → ∃ (v : Value) (y : DataW H × List MemPlace), w.cell? (a.add (i * fs.size + j)) = some v ∧ ys[j]? = some y ∧ DataW.trod enc P w base spare held n f.type [v] = some y := by
  rcases open_slice ht h with h0 | ⟨a, len, cap, m, n, D, Pl, hcs, hb, hl, hm, hmm, hx, hi⟩
  · exact .inl h0
  · refine .inr ⟨a, len, cap, m, D, Pl, hcs, hb, hl, hm, hmm, by rw [hC] at hx; exact hx, fun i him => ?_⟩
    obtain ⟨cs', hc, ht'⟩ := hi i him
    rw [hC] at hc
    obtain ⟨ys, n', hn', hy, hlen, hyl, hf⟩ := DataW.trod_struct he ht'
    obtain ⟨_, hcl, hat⟩ := World.cells?_some hc
    simp only [Prod.mk.injEq] at hy
    refine ⟨ys, n', hy.1, hy.2, hyl, fun j f hj => ?_⟩
    obtain ⟨ho, hk⟩ := hone_of hone j f hj
    have hjl : j < fs.size := (Array.getElem?_eq_some_iff.1 hj).1
    have hcell := hat j hjl
    have hv : cs'[j]? = some (cs'[j]'(by omega)) := List.getElem?_eq_getElem (by omega)
    have h1 := hf j f hj
    rw [ho, hk] at h1
    have hone' : (cs'.drop j).take 1 = [cs'[j]'(by omega)] := by
      rw [List.drop_eq_getElem_cons (by omega)]
      rfl
    rw [hone'] at h1
    have hys : ys[j]? = some (ys[j]'(by omega)) := List.getElem?_eq_getElem (by omega)
    refine ⟨_, _, ?_, hys, h1.trans hys⟩
    rw [← Go.Deep.add_add, hcell, hv]
end
theorem listOf {α : Type} {n : Nat} {P : Nat → α → Prop} (h : ∀ i, i < n → ∃ v, P i v) : ∃ vs : List α, vs.length = n ∧ ∀ i, i < n → ∃ v, vs[i]? = some v ∧ P i v := by
  induction n with
  | zero => exact ⟨[], rfl, fun i hi => absurd hi (by omega)⟩
  | succ n ih =>
    obtain ⟨vs, hl, hv⟩ := ih (fun i hi => h i (by omega))
    obtain ⟨v, hvn⟩ := h n (by omega)
    refine ⟨vs ++ [v], by simp [hl], fun i hi => ?_⟩
    by_cases hin : i < n
    · obtain ⟨x, hx, hp⟩ := hv i hin
      exact ⟨x, by rw [List.getElem?_append_left (by omega)]; exact hx, hp⟩
    · obtain rfl : i = n := by omega
      exact ⟨v, by rw [List.getElem?_append_right (by omega), hl]; simp, hvn⟩
theorem open_vals {H : Type} {enc : TypeId × Value → H} {W : World} {A : Option Addr} {n c : Nat} {d : DataW H} {p : List MemPlace}
    (h : DataW.Trod enc Tryd.prog W 0 (fun _ => true) true 22 (.slice A n c) d p) : ∃ vs : List VV, RdV W A n vs ∧ (∀ v ∈ vs, v.rng) ∧ n ≤ c ∧ c ≤ 9223372036854775807 := by
  obtain ⟨fuel, hf⟩ := h
  rcases open_slice_fields Tryd.underlying22 Tryd.underlying28 (by kernel_rfl) (by kernel_rfl) hf with ⟨hcs, _⟩ | ⟨a, len, cap, m, D, Pl, hcs, _, hl, hm, hmm, _, hi⟩
  · simp [Value.cells] at hcs
    obtain ⟨rfl, rfl, rfl⟩ := hcs
    exact ⟨[], ⟨rfl, fun i hi => absurd hi (by omega)⟩, by simp, Nat.le_refl _, by decide⟩
  · simp [Value.cells] at hcs
    obtain ⟨rfl, rfl, rfl⟩ := hcs
    simp only [if_true] at hmm
    have key : ∀ i, i < n → ∃ v : VV, v.rng ∧ W.cell? (a.add (i * 4)) = some (.int .i64 v.k) ∧ W.cell? (a.add (i * 4 + 1)) = some (.int .i64 v.n) ∧ W.cell? (a.add (i * 4 + 2)) = some (.int .u64 v.u) ∧ W.cell? (a.add (i * 4 + 3)) = some (.string v.s) := by
      intro i hin
      obtain ⟨ys, n', _, _, _, hF⟩ := hi i (by omega)
      obtain ⟨v0, y0, hc0, _, ht0⟩ := hF 0 _ rfl
      obtain ⟨v1, y1, hc1, _, ht1⟩ := hF 1 _ rfl
      obtain ⟨v2, y2, hc2, _, ht2⟩ := hF 2 _ rfl
      obtain ⟨v3, y3, hc3, _, ht3⟩ := hF 3 _ rfl
      obtain ⟨x0, e0, _, w0⟩ := DataW.trod_int Tryd.underlying3 ht0
      obtain ⟨x1, e1, _, w1⟩ := DataW.trod_int Tryd.underlying2 ht1
      obtain ⟨x2, e2, _, w2⟩ := DataW.trod_int Tryd.underlying26 ht2
      obtain ⟨s, e3, _⟩ := DataW.trod_string Tryd.underlying9 ht3
      injection e0 with e0; injection e1 with e1; injection e2 with e2; injection e3 with e3
      subst e0 e1 e2 e3
      have b1 := wf_int w1
      have b2 := wf_u64 w2
      exact ⟨⟨x0, x1, x2, s⟩, ⟨⟨b1.1, by have := b1.2; show x1 < _; omega⟩, b2⟩, hc0, hc1, hc2, hc3⟩
    obtain ⟨vs, hvl, hvs⟩ := listOf key
    refine ⟨vs, ⟨hvl, fun i hin => ?_⟩, fun v hv => ?_, hl, hm⟩
    · obtain ⟨v, hv, hr, h0, h1, h2, h3⟩ := hvs i hin
      have hadd : ∀ j, a.add (i * 4 + j) = ⟨(a.add (i * 4)).block, (a.add (i * 4)).off + j, none⟩ ∨ j = 0 := fun j => by
        unfold Addr.add
        split <;> split <;> simp_all <;> omega
      refine ⟨a, v, rfl, hv, ?_, h0, ?_, ?_, ?_⟩
      · unfold World.cell? at h0
        rcases Nat.lt_or_ge a.block W.heap.size with h | h
        · exact h
        · rw [show (a.add (i * 4)).block = a.block from by unfold Addr.add; split <;> rfl, Array.getElem?_eq_none h] at h0
          cases h0
      · rw [(hadd 1).resolve_right (by omega)] at h1; exact h1
      · rw [(hadd 2).resolve_right (by omega)] at h2; exact h2
      · rw [(hadd 3).resolve_right (by omega)] at h3; exact h3
    · obtain ⟨i, hi⟩ := List.mem_iff_getElem?.1 hv
      obtain ⟨v', hv', hr, _⟩ := hvs i (by rw [← hvl]; exact (List.getElem?_eq_some_iff.1 hi).1)
      rw [hi] at hv'
      injection hv' with e
      subst e
      exact hr
end Go.Proofs.YtabbiepafibmmaaDoor
