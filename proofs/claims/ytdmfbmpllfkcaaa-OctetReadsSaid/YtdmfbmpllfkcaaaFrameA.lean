/- An argument that is a slice of Ask. Conditions: none. -/
import Derived.Test.YtdmfbmpllfkcaaaFrame
import Derived.Test.YtdmfbmpllfkcaaaReadsL
import Derived.Deep.Slices
import Derived.Deep.Fields
import Derived.ChangeSame
namespace Go.Proofs.Ytdmfbmpllfkcaaa
open Go.ChangeShapes Go.WideShapes Go.ChangeAt Go.RowKit Go.Deep
section
variable {H : Type} {enc : TypeId × Value → H} {P : Program} {w : World} {base : Nat} {spare : Nat → Bool} {held : Bool}
theorem open_slice_fields {t e : TypeId} {fs : Array Field} {fuel : Nat} {cs : List Value} {x : DataW H × List MemPlace} (ht : P.underlying t = some (.slice e)) (he : P.underlying e = some (.struct fs))
    (hone : oneCellFields P fs = true) (hC : P.cellsOf e = fs.size) (h : DataW.trod enc P w base spare held fuel t cs = some x) :
    (cs = [.slice none 0 0] ∧ x = (.nil, [])) ∨
    ∃ (a : Addr) (len cap m : Nat) (D : Nat → DataW H) (Pl : Nat → List MemPlace), cs = [.slice (some a) len cap] ∧ base ≤ a.block ∧ len ≤ cap ∧ cap ≤ maxLen ∧ m = (if spare a.block then cap else len) ∧
      x = (.slice ((List.range len).map D) ((List.range (m - len)).map fun j => D (len + j)), MemPlace.row a (m * fs.size) ++ (List.range m).flatMap Pl) ∧
      ∀ i, i < m → ∃ (ys : List (DataW H × List MemPlace)) (n : Nat), D i = .agg (ys.map (·.1)) ∧ Pl i = ys.flatMap (·.2) ∧ ys.length = fs.size ∧
        ∀ (j : Nat) (f : Field), fs[j]? = some f → ∃ (v : Value) (y : DataW H × List MemPlace), w.cell? (a.add (i * fs.size + j)) = some v ∧ ys[j]? = some y ∧ DataW.trod enc P w base spare held n f.type [v] = some y := by
  rcases open_slice ht h with h0 | ⟨a, len, cap, m, n, D, Pl, hcs, hb, hl, hm, hmm, hx, hi⟩
  · exact .inl h0
  · refine .inr ⟨a, len, cap, m, D, Pl, hcs, hb, hl, hm, hmm, by rw [hC] at hx; exact hx, fun i him => ?_⟩
    obtain ⟨cs', hc, ht'⟩ := hi i him
    rw [hC] at hc
    obtain ⟨ys, n', hn', hy, hlen, hyl, hf⟩ := DataW.trod_struct he ht'
    obtain ⟨_, hcl, hat⟩ := World.cells?_some hc
    simp only [Prod.mk.injEq] at hy
    refine ⟨ys, n', hy.1, hy.2, hyl, fun j f hj => ?_⟩
    obtain ⟨ho, hk⟩ := hone_of hone j f hj
    have hjl : j < fs.size := (Array.getElem?_eq_some_iff.1 hj).1
    have hcell := hat j hjl
    have hv : cs'[j]? = some (cs'[j]'(by omega)) := List.getElem?_eq_getElem (by omega)
    have h1 := hf j f hj
    rw [ho, hk] at h1
    have hone' : (cs'.drop j).take 1 = [cs'[j]'(by omega)] := by
      rw [List.drop_eq_getElem_cons (by omega)]
      rfl
    rw [hone'] at h1
    have hys : ys[j]? = some (ys[j]'(by omega)) := List.getElem?_eq_getElem (by omega)
    refine ⟨_, _, ?_, hys, h1.trans hys⟩
    rw [← Go.Deep.add_add, hcell, hv]
end
theorem open_asks {H : Type} {enc : TypeId × Value → H} {W : World} {A : Option Addr} {n c : Nat} {d : DataW H} {p : List MemPlace}
    (h : DataW.Trod enc Try.prog W 0 (fun _ => true) true 56 (.slice A n c) d p) : ∃ K N : Nat → Int, RdA W A n K N ∧ n ≤ c ∧ c ≤ 9223372036854775807 := by
  obtain ⟨fuel, hf⟩ := h
  rcases open_slice_fields Try.underlying56 Try.underlying61 (by kernel_rfl) (by kernel_rfl) hf with ⟨hcs, _⟩ | ⟨a, len, cap, m, D, Pl, hcs, _, hl, hm, hmm, _, hi⟩
  · simp [Value.cells] at hcs
    obtain ⟨rfl, rfl, rfl⟩ := hcs
    exact ⟨fun _ => 0, fun _ => 0, fun i hi => absurd hi (by omega), Nat.le_refl _, by decide⟩
  · simp [Value.cells] at hcs
    obtain ⟨rfl, rfl, rfl⟩ := hcs
    simp only [if_true] at hmm
    have key : ∀ i, i < n → ∃ k x : Int, W.cell? (a.add (i * 2)) = some (.int .i64 k) ∧ W.cell? (a.add (i * 2 + 1)) = some (.int .i64 x) ∧ (Lit.int .i64 k).wf = true ∧ (Lit.int .i64 x).wf = true := by
      intro i hin
      obtain ⟨ys, n', _, _, _, hF⟩ := hi i (by omega)
      obtain ⟨v0, y0, hc0, _, ht0⟩ := hF 0 _ rfl
      obtain ⟨v1, y1, hc1, _, ht1⟩ := hF 1 _ rfl
      obtain ⟨k, e0, _, w0⟩ := DataW.trod_int Try.underlying3 ht0
      obtain ⟨x, e1, _, w1⟩ := DataW.trod_int Try.underlying3 ht1
      injection e0 with e0; injection e1 with e1
      subst e0 e1
      exact ⟨k, x, hc0, hc1, w0, w1⟩
    refine ⟨fun i => if hin : i < n then (key i hin).choose else 0, fun i => if hin : i < n then (key i hin).choose_spec.choose else 0, fun i hin => ?_, hl, hm⟩
    obtain ⟨h1, h2, h3, h4⟩ := (key i hin).choose_spec.choose_spec
    simp only [dif_pos hin]
    generalize (key i hin).choose_spec.choose = x at *
    generalize (key i hin).choose = k at *
    refine ⟨a, rfl, ?_, h1, ?_, wf_int h3, wf_int h4⟩
    · unfold World.cell? at h1
      rcases Nat.lt_or_ge a.block W.heap.size with h | h
      · exact h
      · rw [show (a.add (i * 2)).block = a.block from by unfold Addr.add; split <;> rfl, Array.getElem?_eq_none h] at h1
        cases h1
    · rw [← h2]
      congr 1
      unfold Addr.add
      split <;> simp <;> omega
end Go.Proofs.Ytdmfbmpllfkcaaa
