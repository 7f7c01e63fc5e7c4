/- Rows of numbers that came in. Conditions: none. -/
import Derived.Test.YtemakmgppafccaaSumMath
import Derived.Test.YtemakmgppafccaaOwnV
namespace Go.Proofs.Ytemakmgppafccaa
open Go.RowKit
def RdI (w : World) (A : Option Addr) (n : Nat) (zs : List Int) : Prop := Reads w w.heap.size 1 A n (zs.map (Value.int .i64))
theorem RdI.at_ {w : World} {A : Option Addr} {n k : Nat} {zs : List Int} (h : RdI w A n zs) (hk : k < n) : ∃ ad z, A = some ad ∧ zs[k]? = some z ∧ w.cell? (ad.add k) = some (.int .i64 z) := by
  obtain ⟨ad, u, e, _, hu, hc⟩ := Reads.at_ h hk
  rw [List.getElem?_map] at hu
  cases hz : zs[k]? with
  | none => rw [hz] at hu; cases hu
  | some z =>
    rw [hz] at hu
    injection hu with hu
    subst hu
    exact ⟨ad, z, e, rfl, hc⟩
theorem RdI.below {w w' : World} {A : Option Addr} {n : Nat} {zs : List Int} (h : RdI w A n zs) (hb : Below w.heap.size w w') : RdI w' A n zs := (Reads.below h hb).more hb.size
theorem RdI.len {w : World} {A : Option Addr} {n : Nat} {zs : List Int} (h : RdI w A n zs) : zs.length = n := by have := h.1; simpa using this
theorem take_min {α : Type} (l : List α) (i m : Nat) : (l.take m).take i = l.take (min i m) := by rw [List.take_take]
theorem umod (c : Int) (m : Nat) (hm : m ≤ 1000) : ∃ q : Nat, q ≤ m ∧ wrap64 ((IntKind.u64.wrap c).tmod ((m : Int) + 1)) = (q : Int) := by
  have h0 : 0 ≤ IntKind.u64.wrap c := by rw [wrap_u]; omega
  have h1 : ((m : Int) + 1) = ((m + 1 : Nat) : Int) := by omega
  obtain ⟨x, hx⟩ := Int.eq_ofNat_of_zero_le h0
  rw [hx, h1]
  refine ⟨x % (m + 1), by have := Nat.mod_lt x (show 0 < m + 1 by omega); omega, ?_⟩
  have h2 : x % (m + 1) < m + 1 := Nat.mod_lt x (by omega)
  rw [show ((x : Int).tmod ((m + 1 : Nat) : Int)) = ((x % (m + 1) : Nat) : Int) from rfl]
  generalize x % (m + 1) = y at *
  unfold wrap64
  omega
end Go.Proofs.Ytemakmgppafccaa
