/- An argument that is a row of bytes, as data in memory. Conditions: none. -/
import Derived.Test.YtnbcffnhgijmcaaOpens
import Derived.Test.YtnbcffnhgijmcaaBytes
namespace Go.Proofs.Ytnbcffnhgijmcaa
open Go.ChangeShapes Go.WideShapes Go.ChangeAt Go.RowKit Go.Deep
def LB : Lay UInt8 := Lay.cell vb (fun _ => rfl)
theorem LB_reps {w : World} {F : Nat → Prop} : ∀ {bs : List UInt8} {cs : List Value}, LB.reps w F bs cs → cs = bs.map vb
  | [], _, h => h
  | b :: l, _, h => by
    obtain ⟨x, y, rfl, hx, hy⟩ := h
    rw [LB_reps hy, show x = [vb b] from hx]
    rfl
theorem LB_rd {w : World} {F : Nat → Prop} {A : Option Addr} {n : Nat} {bs : List UInt8} (h : LB.rd w F A n bs) : RdB w A n bs := by
  obtain ⟨hl, cs, hr, hc⟩ := h
  rw [LB_reps hr] at hc
  refine ⟨by simp [hl], fun hn => ?_⟩
  obtain ⟨ad, e, hb, _, hh⟩ := hc hn
  exact ⟨ad, e, hb, hh⟩
theorem opens_byte : Opens Try.prog 5 LB (fun _ => True) :=
  opens_as (opens_int Try.underlying5 (by kernel_rfl)) rfl (fun w n cs h g => by
    have hw : 0 ≤ n ∧ n < 256 := by
      simp [Lit.wf, IntKind.min, IntKind.max, IntKind.signed, IntKind.bits] at g
      exact ⟨by omega, by omega⟩
    refine ⟨UInt8.ofNat n.toNat, ?_, trivial⟩
    rw [show cs = [.int .u8 n] from h]
    show _ = [vb _]
    have : (((UInt8.ofNat n.toNat).toNat : Nat) : Int) = n := by simp; omega
    rw [vb, this])
theorem opens_bytes : Opens Try.prog 27 LB.slice (fun xs => ∀ x ∈ xs, True) := opens_slice Try.underlying27 (by kernel_rfl) (by decide) opens_byte
theorem open_bytes {H : Type} {enc : TypeId × Value → H} {W : World} {A : Option Addr} {n c : Nat} {d : DataW H} {p : List MemPlace}
    (h : DataW.Trod enc Try.prog W 0 (fun _ => true) true 27 (.slice A n c) d p) : ∃ bs, RdB W A n bs ∧ n ≤ c ∧ c ≤ 9223372036854775807 := by
  obtain ⟨bs, h1, _, h2, h3⟩ := open_arg opens_bytes h
  exact ⟨bs, LB_rd h1, h2, h3⟩
end Go.Proofs.Ytnbcffnhgijmcaa
