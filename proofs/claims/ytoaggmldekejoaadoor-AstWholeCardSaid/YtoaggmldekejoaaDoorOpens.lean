/- Arguments, by what they are made of: what an argument's cells hold. Conditions: none. -/
import Derived.Test.YtoaggmldekejoaaDoorAsD
import Derived.ProofKit
import Derived.OpenShut
import Derived.ShutString
import Derived.ChangeOld
import Derived.Deep.Slices
import Derived.ChangeSame
namespace Go.Proofs.YtoaggmldekejoaaDoor
open Go.ChangeShapes Go.WideShapes Go.ChangeAt Go.RowKit Go.Deep
/-- whatever is laid of type t reads as such data -/
def Opens (P : Program) {α : Type} (t : TypeId) (L : Lay α) (G : α → Prop) : Prop :=
  P.cellsOf t = L.size ∧ ∀ {H : Type} (enc : TypeId × Value → H) (w : World) (fuel : Nat) (cs : List Value) (x : DataW H × List MemPlace),
    DataW.trod enc P w 0 (fun _ => true) true fuel t cs = some x → ∃ a, L.rep w AllB a cs ∧ G a
section
variable {P : Program} {t : TypeId}
theorem opens_int {k : IntKind} (ht : P.underlying t = some (.int k)) (hc : P.cellsOf t = 1) : Opens P t (Lay.cell (Value.int k) (fun _ => rfl)) (fun n => (Lit.int k n).wf = true) :=
  ⟨hc, fun enc w fuel cs x h => by obtain ⟨n, e, _, wf⟩ := DataW.trod_int ht h; exact ⟨n, e, wf⟩⟩
theorem opens_bool (ht : P.underlying t = some .bool) (hc : P.cellsOf t = 1) : Opens P t (Lay.cell Value.bool (fun _ => rfl)) (fun _ => True) :=
  ⟨hc, fun enc w fuel cs x h => by obtain ⟨n, e, _⟩ := DataW.trod_bool ht h; exact ⟨n, e, trivial⟩⟩
theorem opens_str (ht : P.underlying t = some .string) (hc : P.cellsOf t = 1) : Opens P t (Lay.cell Value.string (fun _ => rfl)) (fun s => s.size ≤ maxLen) :=
  ⟨hc, fun enc w fuel cs x h => by obtain ⟨n, e, _, wf⟩ := DataW.trod_string ht h; exact ⟨n, e, wf⟩⟩
theorem lays_of {α : Type} {L : Lay α} {w : World} {F : Nat → Prop} {G : α → Prop} {a : Addr} : ∀ (n : Nat), (∀ i, i < n → ∃ x cs, L.rep w F x cs ∧ G x ∧ ∀ j u, cs[j]? = some u → w.cell? (a.add (i * L.size + j)) = some u) →
    ∃ xs cs, xs.length = n ∧ L.reps w F xs cs ∧ (∀ x ∈ xs, G x) ∧ ∀ j u, cs[j]? = some u → w.cell? (a.add j) = some u
  | 0, _ => ⟨[], [], rfl, rfl, by simp, by simp⟩
  | n + 1, h => by
    obtain ⟨xs, cs, hl, hr, hg, hc⟩ := lays_of n (fun i hi => h i (by omega))
    obtain ⟨x, ds, hx, gx, hd⟩ := h n (by omega)
    refine ⟨xs ++ [x], cs ++ ds, by simp [hl], Lay.reps_append hr (Lay.reps_single hx), ?_, fun j u hu => ?_⟩
    · intro y hy
      rcases List.mem_append.1 hy with hy | hy
      · exact hg y hy
      · rw [List.mem_singleton.1 hy]; exact gx
    · have hcl := Lay.reps_len hr
      rw [hl] at hcl
      rcases Nat.lt_or_ge j cs.length with hj | hj
      · rw [List.getElem?_append_left hj] at hu; exact hc j u hu
      · rw [List.getElem?_append_right hj] at hu
        have := hd _ u hu
        rwa [show n * L.size + (j - cs.length) = j from by rw [hcl] at hj ⊢; omega] at this
theorem cells_block {w : World} {p : Addr} {v : Value} (h : w.cell? p = some v) : p.block < w.heap.size := by
  unfold World.cell? at h
  rcases Nat.lt_or_ge p.block w.heap.size with h' | h'
  · exact h'
  · rw [Array.getElem?_eq_none h'] at h; cases h
theorem opens_slice {α : Type} {L : Lay α} {G : α → Prop} {e : TypeId} (ht : P.underlying t = some (.slice e)) (hc : P.cellsOf t = 1) (hp : 0 < L.size) (ho : Opens P e L G) :
    Opens P t L.slice (fun xs => ∀ x ∈ xs, G x) := by
  refine ⟨hc, fun enc w fuel cs x h => ?_⟩
  obtain ⟨hs, ho⟩ := ho
  rcases open_slice ht h with ⟨hcs, _⟩ | ⟨a, len, cap, m, n, D, Pl, hcs, _, hl, hm, hmm, _, hi⟩
  · exact ⟨[], ⟨none, 0, 0, hcs, Nat.le_refl _, by omega, Lay.rd_nil _⟩, by simp⟩
  · simp only [if_true] at hmm
    obtain ⟨xs, cs', hxl, hr, hg, hcc⟩ := lays_of (L := L) (w := w) (F := AllB) (G := G) (a := a) len (fun i hil => by
      obtain ⟨cs', h1, h2⟩ := hi i (by omega)
      obtain ⟨y, hy, gy⟩ := ho enc w n cs' _ h2
      obtain ⟨_, hlen, hat⟩ := World.cells?_some h1
      refine ⟨y, cs', hy, gy, fun j u hu => ?_⟩
      have hj : j < cs'.length := (List.getElem?_eq_some_iff.1 hu).1
      rw [← hs, ← Go.Deep.add_add, hat j (by omega), hu])
    refine ⟨xs, ⟨some a, len, cap, hcs, hl, hm, hxl, cs', hr, fun hn => ⟨a, rfl, ?_, trivial, hcc⟩⟩, hg⟩
    have hcl := Lay.reps_len hr
    have h0 : cs'[0]? = some (cs'[0]'(by rw [hcl, hxl]; exact Nat.mul_pos hn hp)) := List.getElem?_eq_getElem _
    have := cells_block (hcc 0 _ h0)
    rwa [show (a.add 0).block = a.block from by unfold Addr.add; split <;> rfl] at this
/-- the fields from one on -/
def OpensAt (P : Program) {α : Type} (fs : Array Field) (off : Nat) (L : Lay α) (G : α → Prop) : Prop :=
  ∀ {H : Type} (enc : TypeId × Value → H) (w : World) (fuel : Nat) (cs : List Value), cs.length = off + L.size →
    (∀ (j : Nat) (f : Field), fs[j]? = some f → ∃ x, DataW.trod enc P w 0 (fun _ => true) true fuel f.type ((cs.drop f.offset).take (P.cellsOf f.type)) = some x) → ∃ a, L.rep w AllB a (cs.drop off) ∧ G a
theorem opensAt_last {α : Type} {L : Lay α} {G : α → Prop} {fs : Array Field} {off : Nat} (i : Nat) (ft : TypeId) (hf : (fs[i]?).map (fun f => (f.type, f.offset)) = some (ft, off)) (ho : Opens P ft L G) : OpensAt P fs off L G := by
  intro H enc w fuel cs hl h
  obtain ⟨f, hfi, hfe⟩ := Option.map_eq_some_iff.1 hf
  injection hfe with e1 e2
  obtain ⟨x, hx⟩ := h i f hfi
  rw [e1, e2, ho.1, List.take_of_length_le (by rw [List.length_drop]; omega)] at hx
  exact ho.2 enc w fuel _ x hx
theorem opensAt_cons {α β : Type} {L : Lay α} {G : α → Prop} {M : Lay β} {G' : β → Prop} {fs : Array Field} {off : Nat} (i : Nat) (ft : TypeId) (hf : (fs[i]?).map (fun f => (f.type, f.offset)) = some (ft, off)) (ho : Opens P ft L G) (h2 : OpensAt P fs (off + L.size) M G') :
    OpensAt P fs off (L.pair M) (fun p => G p.1 ∧ G' p.2) := by
  intro H enc w fuel cs hl h
  obtain ⟨f, hfi, hfe⟩ := Option.map_eq_some_iff.1 hf
  injection hfe with e1 e2
  obtain ⟨x, hx⟩ := h i f hfi
  rw [e1, e2, ho.1] at hx
  obtain ⟨a, ra, ga⟩ := ho.2 enc w fuel _ x hx
  obtain ⟨b, rb, gb⟩ := h2 enc w fuel cs (by rw [hl]; exact (Nat.add_assoc _ _ _).symm) h
  refine ⟨(a, b), ⟨_, _, ?_, ra, rb⟩, ga, gb⟩
  rw [← List.drop_drop]
  exact (List.take_append_drop _ _).symm
theorem opens_struct {α : Type} {L : Lay α} {G : α → Prop} {fs : Array Field} (ht : P.underlying t = some (.struct fs)) (hc : P.cellsOf t = L.size) (h : OpensAt P fs 0 L G) : Opens P t L G := by
  refine ⟨hc, fun enc w fuel cs x hx => ?_⟩
  obtain ⟨xs, n, _, _, hl, hxl, hf⟩ := DataW.trod_struct ht hx
  have := h enc w n cs (by rw [hl, hc, Nat.zero_add]) (fun j f hj => by
    have hjl : j < fs.size := (Array.getElem?_eq_some_iff.1 hj).1
    exact ⟨xs[j]'(by omega), (hf j f hj).trans (List.getElem?_eq_getElem _)⟩)
  simpa using this
theorem opens_as {α β : Type} {L : Lay α} {G : α → Prop} {M : Lay β} {G' : β → Prop} (h : Opens P t L G) (hs : L.size = M.size) (hm : ∀ w a cs, L.rep w AllB a cs → G a → ∃ b, M.rep w AllB b cs ∧ G' b) : Opens P t M G' :=
  ⟨h.1.trans hs, fun enc w fuel cs x hx => by obtain ⟨a, ra, ga⟩ := h.2 enc w fuel cs x hx; exact hm w a cs ra ga⟩
/-- an argument that is a slice -/
theorem open_arg {α : Type} {L : Lay α} {G : List α → Prop} (ho : Opens P t L.slice G) {H : Type} {enc : TypeId × Value → H} {W : World} {A : Option Addr} {n c : Nat} {d : DataW H} {p : List MemPlace}
    (h : DataW.Trod enc P W 0 (fun _ => true) true t (.slice A n c) d p) : ∃ xs, L.rd W AllB A n xs ∧ G xs ∧ n ≤ c ∧ c ≤ 9223372036854775807 := by
  obtain ⟨fuel, hf⟩ := h
  obtain ⟨xs, ⟨A', n', c', e, h1, h2, h3⟩, g⟩ := ho.2 enc W fuel _ _ hf
  simp [Value.cells] at e
  obtain ⟨rfl, rfl, rfl⟩ := e
  exact ⟨xs, h3, g, h1, h2⟩
end
end Go.Proofs.YtoaggmldekejoaaDoor
