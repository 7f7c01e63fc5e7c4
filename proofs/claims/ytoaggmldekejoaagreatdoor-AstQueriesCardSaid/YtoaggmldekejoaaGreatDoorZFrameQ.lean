/- The frame: a query as an argument. Conditions: none. -/
import Derived.Test.YtoaggmldekejoaaGreatDoorPkQ26
import Derived.Test.YtoaggmldekejoaaGreatDoorZFrameTs
namespace Go.Proofs.YtoaggmldekejoaaGreatDoor
open Go.ChangeShapes Go.WideShapes Go.ChangeAt Go.RowKit Go.Deep
variable {H : Type} {enc : TypeId × Value → H}
theorem sz_of {s : ByteArray} (h : s.size ≤ maxLen) : Sz s := by unfold maxLen at h; unfold Sz; omega
def NdP (t : List Nd) : Prop := ∀ x ∈ t, SmP x.p ∧ RgP x.p
theorem opens_string : Opens Tryz.prog 9 (Lay.cell Value.string (fun _ => rfl)) (fun s => s.size ≤ maxLen) := opens_str Tryz.underlying9 (by kernel_rfl)
theorem opens_boolean : Opens Tryz.prog 4 (Lay.cell Value.bool (fun _ => rfl)) (fun _ => True) := opens_bool Tryz.underlying4 (by kernel_rfl)
theorem opens_source : Opens Tryz.prog 72 (Lay.pair (Lay.cell Value.string (fun _ => rfl)) (Lay.cell Value.string (fun _ => rfl))) (fun p => p.1.size ≤ maxLen ∧ p.2.size ≤ maxLen) := opens_struct Tryz.underlying72 (by kernel_rfl)
 (opensAt_cons 0 9 (by kernel_rfl) opens_string (opensAt_last 1 9 (by kernel_rfl) opens_string))
theorem opens_item : Opens Tryz.prog 82 LQI (fun x => NdP x.t ∧ Sz x.as_) :=
 opens_as (opens_struct Tryz.underlying82 (by kernel_rfl) (opensAt_cons 0 26 (by kernel_rfl) opens_tree (opensAt_last 1 9 (by kernel_rfl) opens_string))) rfl
  (fun w a cs h g => by
   obtain ⟨t, s⟩ := a
   obtain ⟨_, _, rfl, ⟨A, n, c, rfl, h1, h2, hr⟩, rfl⟩ := h
   exact ⟨⟨t, s⟩, ⟨A, n, c, rfl, h1, h2, hr⟩, g.1, sz_of g.2⟩)
theorem opens_join : Opens Tryz.prog 85 LQJ (fun x => NdP x.on ∧ Sz x.tb ∧ Sz x.as_) :=
 opens_as (opens_struct Tryz.underlying85 (by kernel_rfl) (opensAt_cons 0 4 (by kernel_rfl) opens_boolean (opensAt_cons 1 72 (by kernel_rfl) opens_source (opensAt_last 2 26 (by kernel_rfl) opens_tree)))) rfl
  (fun w a cs h g => by
   obtain ⟨b, ⟨s, u⟩, t⟩ := a
   obtain ⟨_, _, rfl, rfl, _, _, rfl, ⟨_, _, rfl, rfl, rfl⟩, ⟨A, n, c, rfl, h1, h2, hr⟩⟩ := h
   exact ⟨⟨b, s, u, t⟩, ⟨A, n, c, rfl, h1, h2, hr⟩, g.2.2, sz_of g.2.1.1, sz_of g.2.1.2⟩)
theorem opens_name : Opens Tryz.prog 88 LQN (fun x => Sz x.tb ∧ Sz x.nm) :=
 opens_as (opens_struct Tryz.underlying88 (by kernel_rfl) (opensAt_cons 0 9 (by kernel_rfl) opens_string (opensAt_last 1 9 (by kernel_rfl) opens_string))) rfl
  (fun w a cs h g => by
   obtain ⟨s, u⟩ := a
   obtain ⟨_, _, rfl, rfl, rfl⟩ := h
   exact ⟨⟨s, u⟩, rfl, sz_of g.1, sz_of g.2⟩)
theorem opens_key : Opens Tryz.prog 79 LQK (fun x => Sz x.nm) :=
 opens_as (opens_struct Tryz.underlying79 (by kernel_rfl) (opensAt_cons 0 9 (by kernel_rfl) opens_string (opensAt_cons 1 3 (by kernel_rfl) (opens_int Tryz.underlying3 (by kernel_rfl)) (opensAt_last 2 4 (by kernel_rfl) opens_boolean)))) rfl
  (fun w a cs h g => by
   obtain ⟨s, n, b⟩ := a
   obtain ⟨_, _, rfl, rfl, _, _, rfl, rfl, rfl⟩ := h
   exact ⟨⟨s, n, b⟩, rfl, sz_of g.1⟩)
set_option maxRecDepth 100000 in
theorem opens_select : Opens Tryz.prog 76 LQS (fun s => SmS s ∧ RgS s ∧ ZS s) :=
 opens_as (opens_struct Tryz.underlying76 (by kernel_rfl)
  (opensAt_cons 0 4 (by kernel_rfl) opens_boolean
  (opensAt_cons 1 4 (by kernel_rfl) opens_boolean
  (opensAt_cons 2 70 (by kernel_rfl) (opens_slice Tryz.underlying70 (by kernel_rfl) (by decide) opens_item)
  (opensAt_cons 3 72 (by kernel_rfl) opens_source
  (opensAt_cons 4 73 (by kernel_rfl) (opens_slice Tryz.underlying73 (by kernel_rfl) (by decide) opens_join)
  (opensAt_cons 5 26 (by kernel_rfl) opens_tree
  (opensAt_cons 6 26 (by kernel_rfl) opens_tree
   (opensAt_last 7 74 (by kernel_rfl) (opens_slice Tryz.underlying74 (by kernel_rfl) (by decide) opens_name)))))))))) rfl
  (fun w a cs h g => by
   obtain ⟨b, z, is, ⟨s, u⟩, js, tw, th, ns⟩ := a
   obtain ⟨_, _, rfl, rfl, _, _, rfl, rfl, _, _, rfl, ⟨A0, n0, c0, rfl, a0, b0, r0⟩, _, _, rfl, ⟨_, _, rfl, rfl, rfl⟩, _, _, rfl, ⟨A1, n1, c1, rfl, a1, b1, r1⟩, _, _, rfl, ⟨A2, n2, c2, rfl, a2, b2, r2⟩, _, _, rfl, ⟨A3, n3, c3, rfl, a3, b3, r3⟩, ⟨A4, n4, c4, rfl, a4, b4, r4⟩⟩ := h
   obtain ⟨_, _, gi, ⟨gs, gu⟩, gj, gw, gh, gn⟩ := g
   exact ⟨⟨b, z, is, s, u, js, tw, th, ns⟩, ⟨A0, n0, c0, A1, n1, c1, A2, n2, c2, A3, n3, c3, A4, n4, c4, rfl, ⟨a0, b0, r0⟩, ⟨a1, b1, r1⟩, ⟨a2, b2, r2⟩, ⟨a3, b3, r3⟩, ⟨a4, b4, r4⟩⟩,
    ⟨fun x hx y hy => ((gi x hx).1 y hy).1, fun x hx y hy => ((gj x hx).1 y hy).1, fun y hy => (gw y hy).1, fun y hy => (gh y hy).1⟩,
    ⟨fun x hx y hy => ((gi x hx).1 y hy).2, fun x hx y hy => ((gj x hx).1 y hy).2, fun y hy => (gw y hy).2, fun y hy => (gh y hy).2⟩,
    ⟨fun x hx => (gi x hx).2, fun x hx => (gj x hx).2, gn, sz_of gs, sz_of gu⟩⟩)
set_option maxRecDepth 100000 in
theorem opens_query : Opens Tryz.prog 43 LQC AQ :=
 opens_as (opens_struct Tryz.underlying43 (by kernel_rfl)
  (opensAt_cons 0 40 (by kernel_rfl) (opens_slice Tryz.underlying40 (by kernel_rfl) (by decide) opens_select)
  (opensAt_cons 1 41 (by kernel_rfl) (opens_slice Tryz.underlying41 (by kernel_rfl) (by decide) opens_key)
   (opensAt_last 2 3 (by kernel_rfl) (opens_int Tryz.underlying3 (by kernel_rfl)))))) rfl
  (fun w a cs h g => by
   obtain ⟨ss, ks, n⟩ := a
   obtain ⟨_, _, rfl, ⟨A0, n0, c0, rfl, a0, b0, r0⟩, _, _, rfl, ⟨A1, n1, c1, rfl, a1, b1, r1⟩, rfl⟩ := h
   exact ⟨⟨ss, ks, n⟩, ⟨A0, n0, c0, A1, n1, c1, rfl, ⟨a0, b0, r0⟩, ⟨a1, b1, r1⟩⟩, g.1, g.2.1⟩)
set_option maxRecDepth 100000 in
theorem open_queries {W : World} {A : Option Addr} {n c : Nat} {d : DataW H} {p : List MemPlace} (h : DataW.Trod enc Tryz.prog W 0 (fun _ => true) true 39 (.slice A n c) d p) :
 ∃ xs, LQC.rd W AllB A n xs ∧ (∀ x ∈ xs, AQ x) ∧ n ≤ c ∧ c ≤ 9223372036854775807 := open_arg (opens_slice Tryz.underlying39 (by kernel_rfl) (by decide) opens_query) h
end Go.Proofs.YtoaggmldekejoaaGreatDoor
