/- Arguments: two numbers, a slice of deeds. Conditions: none. -/
import Derived.Test.YtojghgbaiiajfaaPkE25
namespace Go.Proofs.Ytojghgbaiiajfaa
open Go.ChangeShapes Go.WideShapes Go.ChangeAt Go.RowKit Go.Deep
set_option maxRecDepth 100000 in
theorem opens_deed : Opens Try.prog 91 LD4 (fun _ => True) :=
 opens_as (opens_struct Try.underlying91 (by kernel_rfl)
  (opensAt_cons 0 3 (by kernel_rfl) (opens_int Try.underlying3 (by kernel_rfl))
  (opensAt_cons 1 3 (by kernel_rfl) (opens_int Try.underlying3 (by kernel_rfl))
  (opensAt_cons 2 4 (by kernel_rfl) (opens_bool Try.underlying4 (by kernel_rfl))
   (opensAt_last 3 89 (by kernel_rfl) (opens_slice Try.underlying89 (by kernel_rfl) (by decide) opens_val)))))) rfl
  (fun w a cs h g => by
   obtain ⟨kind, pick, stays, row⟩ := a
   obtain ⟨_, _, rfl, rfl, _, _, rfl, rfl, _, _, rfl, rfl, ⟨R, rn, rc, rfl, g1, g2, gr⟩⟩ := h
   exact ⟨⟨kind, pick, stays, row⟩, ⟨R, rn, rc, rfl, g1, g2, gr⟩, trivial⟩)
theorem opens_deeds : Opens Try.prog 84 LD4.slice (fun xs => ∀ x ∈ xs, True) := opens_slice Try.underlying84 (by kernel_rfl) (by decide) opens_deed
theorem open_deeds {H : Type} {enc : TypeId × Value → H} {W : World} {A : Option Addr} {n c : Nat} {d : DataW H} {p : List MemPlace} (h : DataW.Trod enc Try.prog W 0 (fun _ => true) true 84 (.slice A n c) d p) :
 ∃ xs, LD4.rd W AllB A n xs ∧ (∀ x ∈ xs, True) ∧ n ≤ c ∧ c ≤ 9223372036854775807 := open_arg opens_deeds h
set_option maxRecDepth 100000 in
theorem open_int2 {H : Type} {enc : TypeId × Value → H} {W : World} {base : Nat} {r : Reach} {v : Value} {d : DataW H} {p : List MemPlace} (hv : Value.okWide Try.prog W r base 83 v)
 (h : DataW.Trod enc Try.prog W 0 (fun _ => true) true 83 v d p) : ∃ a b : Int, v = .agg #[.int .i64 a, .int .i64 b] := by
 simp only [Value.okWide, Try.underlying83] at hv
 obtain ⟨cs, rfl, hsz, _⟩ := hv
 rw [show Try.prog.cellsOf 83 = 2 from by kernel_rfl] at hsz
 obtain ⟨c0, c1, hcs⟩ : ∃ c0 c1, cs = #[c0, c1] := by
  obtain ⟨l⟩ := cs
  match l, hsz with
  | [a, b], _ => exact ⟨a, b, rfl⟩
 subst hcs
 obtain ⟨fuel, hf⟩ := h
 obtain ⟨xs, m, _, hx, _, hlen, hg⟩ := DataW.trod_array Try.underlying83 hf
 have hc : Try.prog.cellsOf 3 = 1 := by kernel_rfl
 rw [hc] at hg
 have one : ∀ i c, i < 2 → ((Value.agg #[c0, c1]).cells.toList.drop (i * 1)).take 1 = [c] → ∃ t : Int, c = .int .i64 t := by
  intro i c hi he
  have h1 := hg i hi
  rw [he] at h1
  have hil : i < xs.length := by omega
  rw [List.getElem?_eq_getElem hil] at h1
  obtain ⟨a, e0, _, wa⟩ := DataW.trod_int Try.underlying3 h1
  injection e0 with e0
  exact ⟨a, e0⟩
 obtain ⟨a, rfl⟩ := one 0 c0 (by omega) rfl
 obtain ⟨b, rfl⟩ := one 1 c1 (by omega) rfl
 exact ⟨a, b, rfl⟩
end Go.Proofs.Ytojghgbaiiajfaa
