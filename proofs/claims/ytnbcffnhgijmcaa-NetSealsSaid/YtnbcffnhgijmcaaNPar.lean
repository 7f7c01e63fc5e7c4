/- Parcels in memory. Conditions: none. -/
import Derived.Test.YtnbcffnhgijmcaaOpensB
import Derived.Test.YtnbcffnhgijmcaaLinP
import Derived.Lib.MinMax
namespace Go.Proofs.Ytnbcffnhgijmcaa
open Go.ChangeShapes Go.WideShapes Go.ChangeAt Go.RowKit Go.Deep
/-- a parcel -/
structure PC where
  num : Int
  frm : Int
  to : Int
  bs : List UInt8
  sp : Bool
def LP : Lay PC where
  size := 5
  rep := fun w F p cs => ∃ A n c, cs = [.int .u64 p.num, .int .i64 p.frm, .int .i64 p.to, .slice A n c, .bool p.sp] ∧ n ≤ c ∧ c ≤ 9223372036854775807 ∧ LB.rd w F A n p.bs
  len := fun h => by obtain ⟨A, n, c, rfl, _⟩ := h; rfl
  one := fun h u hu => by obtain ⟨A, n, c, rfl, _⟩ := h; simp at hu; rcases hu with rfl | rfl | rfl | rfl | rfl <;> rfl
  keep := fun hk h => by obtain ⟨A, n, c, e, h1, h2, hr⟩ := h; exact ⟨A, n, c, e, h1, h2, Lay.rd_keep hk hr⟩
  weak := fun hk h => by obtain ⟨A, n, c, e, h1, h2, hr⟩ := h; exact ⟨A, n, c, e, h1, h2, Lay.rd_weak hk hr⟩
/-- a number of Go's -/
def I64 (x : Int) : Prop := -9223372036854775808 ≤ x ∧ x ≤ 9223372036854775807
def U64r (x : Int) : Prop := 0 ≤ x ∧ x < 18446744073709551616
def PC.rng (p : PC) : Prop := U64r p.num ∧ I64 p.frm ∧ I64 p.to
theorem wf_i64 {x : Int} (h : (Lit.int .i64 x).wf = true) : I64 x := by
  simp [Lit.wf, IntKind.min, IntKind.max, IntKind.signed, IntKind.bits] at h
  exact ⟨by omega, by omega⟩
theorem wf_u64 {x : Int} (h : (Lit.int .u64 x).wf = true) : U64r x := by
  simp [Lit.wf, IntKind.min, IntKind.max, IntKind.signed, IntKind.bits] at h
  exact ⟨by omega, by omega⟩
theorem opens_parcel : Opens Try.prog 29 LP PC.rng :=
  opens_as (opens_struct Try.underlying29 (by kernel_rfl)
    (opensAt_cons 0 23 (by kernel_rfl) (opens_int Try.underlying23 (by kernel_rfl))
      (opensAt_cons 1 3 (by kernel_rfl) (opens_int Try.underlying3 (by kernel_rfl))
        (opensAt_cons 2 3 (by kernel_rfl) (opens_int Try.underlying3 (by kernel_rfl))
          (opensAt_cons 3 27 (by kernel_rfl) opens_bytes
            (opensAt_last 4 4 (by kernel_rfl) (opens_bool Try.underlying4 (by kernel_rfl)))))))) rfl
    (fun w a cs h g => by
      obtain ⟨num, frm, to, bs, sp⟩ := a
      obtain ⟨_, _, rfl, rfl, _, _, rfl, rfl, _, _, rfl, rfl, _, _, rfl, ⟨A, n, c, rfl, h1, h2, hr⟩, rfl⟩ := h
      exact ⟨⟨num, frm, to, bs, sp⟩, ⟨A, n, c, rfl, h1, h2, hr⟩, wf_u64 g.1, wf_i64 g.2.1, wf_i64 g.2.2.1⟩)
theorem opens_parcels : Opens Try.prog 24 LP.slice (fun ps => ∀ p ∈ ps, p.rng) :=
  opens_slice Try.underlying24 (by kernel_rfl) (by decide) opens_parcel
/-- a parcel lies at this place -/
structure SP (w : World) (F : Nat → Prop) (p : Addr) (x : PC) (B : Option Addr) (n c : Nat) : Prop where
  lt : p.block < w.heap.size
  c0 : w.cell? p = some (.int .u64 x.num)
  c1 : w.cell? ⟨p.block, p.off + 1, none⟩ = some (.int .i64 x.frm)
  c2 : w.cell? ⟨p.block, p.off + 2, none⟩ = some (.int .i64 x.to)
  c3 : w.cell? ⟨p.block, p.off + 3, none⟩ = some (.slice B n c)
  c4 : w.cell? ⟨p.block, p.off + 4, none⟩ = some (.bool x.sp)
  nc : n ≤ c
  cm : c ≤ 9223372036854775807
  bs : LB.rd w F B n x.bs
theorem addr_more (a : Addr) (i j : Nat) (hj : 0 < j) : a.add (i + j) = ⟨(a.add i).block, (a.add i).off + j, none⟩ := by
  unfold Addr.add
  by_cases h : i = 0
  · subst h; simp; omega
  · simp [h]; omega
theorem LP_at {w : World} {F : Nat → Prop} {A : Option Addr} {m i : Nat} {ps : List PC} (h : LP.rd w F A m ps) (hi : i < m) :
    ∃ p x B n c, A = some p ∧ ps[i]? = some x ∧ SP w F (p.add (i * 5)) x B n c := by
  obtain ⟨ad, x, cs, e, hx, hb, _, hrep, hc⟩ := Lay.rd_at h hi
  obtain ⟨B, n, c, rfl, h1, h2, hr⟩ := hrep
  refine ⟨ad, x, B, n, c, e, hx, ⟨by rw [block_of_add]; exact hb, hc 0 _ rfl, ?_, ?_, ?_, ?_, h1, h2, hr⟩⟩
  · rw [← addr_more _ _ 1 (by omega)]; exact hc 1 _ rfl
  · rw [← addr_more _ _ 2 (by omega)]; exact hc 2 _ rfl
  · rw [← addr_more _ _ 3 (by omega)]; exact hc 3 _ rfl
  · rw [← addr_more _ _ 4 (by omega)]; exact hc 4 _ rfl
theorem SP.rb {w : World} {F : Nat → Prop} {p : Addr} {x : PC} {B : Option Addr} {n c : Nat} (h : SP w F p x B n c) : RdB w B n x.bs := LB_rd h.bs
theorem SP.len {w : World} {F : Nat → Prop} {p : Addr} {x : PC} {B : Option Addr} {n c : Nat} (h : SP w F p x B n c) : x.bs.length = n := h.bs.1
theorem Try.parcelInfo : (Try.prog.info? 29).map (fun i => (i.zero, i.size, i.bytes)) = some (some (.agg #[.int .u64 0, .int .i64 0, .int .i64 0, .slice none 0 0, .bool false]), 5, 56) := by kernel_rfl
theorem parcelI : (Try.prog.info? 29).map (·.size) = some 5 := by kernel_rfl
theorem netI : (Try.prog.info? 26).map (·.size) = some 2 := by kernel_rfl
end Go.Proofs.Ytnbcffnhgijmcaa
