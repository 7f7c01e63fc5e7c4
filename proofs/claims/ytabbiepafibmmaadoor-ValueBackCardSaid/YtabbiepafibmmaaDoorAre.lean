/- arith.are: why values are not all null, or of a kind. Conditions: the slice reads as these values. -/
import Derived.Test.YtabbiepafibmmaaDoorRight
import Derived.Deep.RegionHeld3
namespace Go.Proofs.YtabbiepafibmmaaDoor
open Go.RowKit
/-- a value's four fields -/
structure VV where
  k : Int
  n : Int
  u : Int
  s : ByteArray
def VV.ok (v : VV) : Bool := rightB v.k v.n v.u v.s
/-- the slice reads as these values. -/
def RdV (w : World) (A : Option Addr) (n : Nat) (vs : List VV) : Prop :=
  vs.length = n ∧ ∀ i, i < n → ∃ (a : Addr) (v : VV), A = some a ∧ vs[i]? = some v ∧ a.block < w.heap.size ∧ w.cell? (a.add (i * 4)) = some (.int .i64 v.k) ∧
    w.cell? ⟨(a.add (i * 4)).block, (a.add (i * 4)).off + 1, none⟩ = some (.int .i64 v.n) ∧
    w.cell? ⟨(a.add (i * 4)).block, (a.add (i * 4)).off + 2, none⟩ = some (.int .u64 v.u) ∧
    w.cell? ⟨(a.add (i * 4)).block, (a.add (i * 4)).off + 3, none⟩ = some (.string v.s)
theorem RdV.below {w w' : World} {A : Option Addr} {n : Nat} {vs : List VV} (h : RdV w A n vs) (hb : Below w.heap.size w w') : RdV w' A n vs := by
  refine ⟨h.1, fun i hi => ?_⟩
  obtain ⟨a, v, e, e2, h0, h1, h2, h3, h4⟩ := h.2 i hi
  have hbl : (a.add (i * 4)).block = a.block := by unfold Addr.add; split <;> rfl
  exact ⟨a, v, e, e2, Nat.lt_of_lt_of_le h0 hb.size, (hb.cell (by rw [hbl]; exact h0)).trans h1, (hb.cell (by simp only [hbl]; exact h0)).trans h2, (hb.cell (by simp only [hbl]; exact h0)).trans h3, (hb.cell (by simp only [hbl]; exact h0)).trans h4⟩
def misB (kind : Int) (v : VV) : Bool := decide (v.k ≠ 0 ∧ v.k ≠ kind)
def areE (kind : Int) (vs : List VV) : Int := if vs.all VV.ok then (if vs.any (misB kind) then 2 else 0) else 120
end Go.Proofs.YtabbiepafibmmaaDoor
