/- The frame: a node, two trees as arguments. Conditions: none. -/
import Derived.Test.YtoaggmldekejoaaDoorPkM18
import Derived.Test.YtoaggmldekejoaaDoorZFrameTi
import Derived.Test.YtoaggmldekejoaaDoorZAsMakes
namespace Go.Proofs.YtoaggmldekejoaaDoor
open Go.ChangeShapes Go.WideShapes Go.ChangeAt Go.RowKit Go.Deep
variable {H : Type} {enc : TypeId × Value → H}
set_option maxRecDepth 100000 in
theorem open_node {W : World} {r : Reach} {base : Nat} {v : Value} {d : DataW H} {p : List MemPlace} (hv : Value.okWide Tryd.prog W r base 27 v) (h : DataW.Trod enc Tryd.prog W 0 (fun _ => true) true 27 v d p) :
    ∃ y : Nd, v = .agg (Nd.cells y) ∧ SmP y.p ∧ RgP y.p := by
  obtain ⟨y, cs, rfl, hr, g⟩ := open_agg Tryd.underlying27 opens_node hv h
  refine ⟨y, ?_, g⟩
  rw [show cs = Nd.cells y from by apply Array.ext'; exact hr]
set_option maxRecDepth 100000 in
theorem open_pair {W : World} {r : Reach} {base : Nat} {v : Value} {d : DataW H} {p : List MemPlace} (hv : Value.okWide Tryd.prog W r base 31 v) (h : DataW.Trod enc Tryd.prog W 0 (fun _ => true) true 31 v d p) :
    ∃ (xa : List Nd) (Aa : Option Addr) (na ca : Nat) (xb : List Nd) (Ab : Option Addr) (nb cb : Nat), v = .agg #[.slice Aa na ca, .slice Ab nb cb] ∧ LN.rd W AllB Aa na xa ∧ na ≤ 9223372036854775807 ∧ (∀ z ∈ xa, SmP z.p ∧ RgP z.p) ∧ LN.rd W AllB Ab nb xb ∧ nb ≤ 9223372036854775807 ∧ ∀ z ∈ xb, SmP z.p ∧ RgP z.p := by
  simp only [Value.okWide, Tryd.underlying31] at hv
  obtain ⟨cs, rfl, hsz, _⟩ := hv
  rw [show Tryd.prog.cellsOf 31 = 2 from by kernel_rfl] at hsz
  obtain ⟨c0, c1, hcs⟩ : ∃ c0 c1, cs = #[c0, c1] := by
    obtain ⟨l⟩ := cs
    match l, hsz with
    | [a, b], _ => exact ⟨a, b, rfl⟩
  subst hcs
  obtain ⟨fuel, hf⟩ := h
  obtain ⟨xs, m, _, hx, _, hlen, hg⟩ := DataW.trod_array Tryd.underlying31 hf
  have hc : Tryd.prog.cellsOf 30 = 1 := by kernel_rfl
  rw [hc] at hg
  have one : ∀ i c, i < 2 → ((Value.agg #[c0, c1]).cells.toList.drop (i * 1)).take 1 = [c] → ∃ (xs : List Nd) (A : Option Addr) (n k : Nat), c = .slice A n k ∧ LN.rd W AllB A n xs ∧ n ≤ 9223372036854775807 ∧ ∀ z ∈ xs, SmP z.p ∧ RgP z.p := by
    intro i c hi he
    have h1 := hg i hi
    rw [he] at h1
    have hil : i < xs.length := by omega
    rw [List.getElem?_eq_getElem hil] at h1
    obtain ⟨a, ⟨A, n, k, e, h2, h3, hr⟩, g⟩ := opens_tree.2 enc W m _ _ h1
    injection e with e
    exact ⟨a, A, n, k, e, hr, Nat.le_trans h2 h3, g⟩
  obtain ⟨xa, Aa, na, ca, rfl, ra, ha, sa⟩ := one 0 c0 (by omega) rfl
  obtain ⟨xb, Ab, nb, cb, rfl, rb, hb, sb⟩ := one 1 c1 (by omega) rfl
  exact ⟨xa, Aa, na, ca, xb, Ab, nb, cb, rfl, ra, ha, sa, rb, hb, sb⟩
end Go.Proofs.YtoaggmldekejoaaDoor
