/- Arguments: a sender, a receiver, packets. Conditions: none. -/
import Derived.Test.YtojghgbaiiajfaaPkO19
namespace Go.Proofs.Ytojghgbaiiajfaa
open Go.ChangeShapes Go.WideShapes Go.ChangeAt Go.RowKit Go.Deep
theorem wfU {x : Int} (h : (Lit.int .u64 x).wf = true) : 0 ≤ x ∧ x ≤ 18446744073709551615 := by
  simp [Lit.wf, IntKind.min, IntKind.max, IntKind.signed, IntKind.bits] at h
  omega
theorem opens_val : Opens Try.prog 142 LV (fun _ => True) :=
  opens_as (opens_struct Try.underlying142 (by kernel_rfl)
    (opensAt_cons 0 3 (by kernel_rfl) (opens_int Try.underlying3 (by kernel_rfl))
      (opensAt_cons 1 2 (by kernel_rfl) (opens_int Try.underlying2 (by kernel_rfl))
        (opensAt_cons 2 26 (by kernel_rfl) (opens_int Try.underlying26 (by kernel_rfl))
          (opensAt_last 3 9 (by kernel_rfl) (opens_str Try.underlying9 (by kernel_rfl))))))) rfl
    (fun w a cs h g => by
      obtain ⟨k, n, u, s⟩ := a
      obtain ⟨_, _, rfl, rfl, _, _, rfl, rfl, _, _, rfl, rfl, rfl⟩ := h
      exact ⟨⟨k, n, u, s⟩, rfl, trivial⟩)
theorem opens_rows : Opens Try.prog 43 LR.slice (fun rows => ∀ r ∈ rows, ∀ v ∈ r, True) :=
  opens_slice Try.underlying43 (by kernel_rfl) (by decide) (opens_slice Try.underlying89 (by kernel_rfl) (by decide) opens_val)
theorem opens_batch : Opens Try.prog 45 LB3 (fun _ => True) :=
  opens_as (opens_struct Try.underlying45 (by kernel_rfl)
    (opensAt_cons 0 43 (by kernel_rfl) opens_rows
      (opensAt_cons 1 4 (by kernel_rfl) (opens_bool Try.underlying4 (by kernel_rfl))
        (opensAt_last 2 26 (by kernel_rfl) (opens_int Try.underlying26 (by kernel_rfl)))))) rfl
    (fun w a cs h g => by
      obtain ⟨rows, fin, cnt⟩ := a
      obtain ⟨_, _, rfl, ⟨A, n, c, rfl, h1, h2, hr⟩, _, _, rfl, rfl, rfl⟩ := h
      exact ⟨⟨rows, fin, cnt⟩, ⟨A, n, c, rfl, h1, h2, hr⟩, trivial⟩)
theorem opens_bats : Opens Try.prog 27 LB3.slice (fun xs => ∀ x ∈ xs, True) :=
  opens_slice Try.underlying27 (by kernel_rfl) (by decide) opens_batch
set_option maxRecDepth 100000 in
theorem opens_sender : Opens Try.prog 29 LSN SC.rng :=
  opens_as (opens_struct Try.underlying29 (by kernel_rfl)
    (opensAt_cons 0 25 (by kernel_rfl) (opens_int Try.underlying25 (by kernel_rfl))
    (opensAt_cons 1 26 (by kernel_rfl) (opens_int Try.underlying26 (by kernel_rfl))
    (opensAt_cons 2 27 (by kernel_rfl) opens_bats
    (opensAt_cons 3 26 (by kernel_rfl) (opens_int Try.underlying26 (by kernel_rfl))
    (opensAt_cons 4 26 (by kernel_rfl) (opens_int Try.underlying26 (by kernel_rfl))
    (opensAt_cons 5 3 (by kernel_rfl) (opens_int Try.underlying3 (by kernel_rfl))
      (opensAt_last 6 4 (by kernel_rfl) (opens_bool Try.underlying4 (by kernel_rfl)))))))))) rfl
    (fun w a cs h g => by
      obtain ⟨ses, base, q, sent, lim, timer, ended⟩ := a
      obtain ⟨_, _, rfl, rfl, _, _, rfl, rfl, _, _, rfl, ⟨A, n, c, rfl, h1, h2, hr⟩, _, _, rfl, rfl, _, _, rfl, rfl, _, _, rfl, rfl, rfl⟩ := h
      obtain ⟨_, g1, _, g3, g4, _, _⟩ := g
      exact ⟨⟨ses, base, q, sent, lim, timer, ended⟩, ⟨A, n, c, rfl, h1, h2, hr⟩, (wfU g1).1, (wfU g3).1, (wfU g4).1, (wfU g4).2, (wfU g1).2⟩)
set_option maxRecDepth 100000 in
theorem opens_packet : Opens Try.prog 47 LP7 PK.rng :=
  opens_as (opens_struct Try.underlying47 (by kernel_rfl)
    (opensAt_cons 0 3 (by kernel_rfl) (opens_int Try.underlying3 (by kernel_rfl))
    (opensAt_cons 1 25 (by kernel_rfl) (opens_int Try.underlying25 (by kernel_rfl))
    (opensAt_cons 2 26 (by kernel_rfl) (opens_int Try.underlying26 (by kernel_rfl))
    (opensAt_cons 3 26 (by kernel_rfl) (opens_int Try.underlying26 (by kernel_rfl))
      (opensAt_last 4 45 (by kernel_rfl) opens_batch)))))) rfl
    (fun w a cs h g => by
      obtain ⟨kind, ses, seq, lim, b⟩ := a
      obtain ⟨_, _, rfl, rfl, _, _, rfl, rfl, _, _, rfl, rfl, _, _, rfl, rfl, A, n, c, rfl, h1, h2, hr⟩ := h
      obtain ⟨_, _, g2, g3, _⟩ := g
      exact ⟨⟨kind, ses, seq, lim, b⟩, ⟨A, n, c, rfl, h1, h2, hr⟩, (wfU g2).1, (wfU g2).2, (wfU g3).1, (wfU g3).2⟩)
theorem opens_held : Opens Try.prog 81 LH4 (fun _ => True) :=
  opens_as (opens_struct Try.underlying81 (by kernel_rfl)
    (opensAt_cons 0 26 (by kernel_rfl) (opens_int Try.underlying26 (by kernel_rfl))
      (opensAt_last 1 45 (by kernel_rfl) opens_batch))) rfl
    (fun w a cs h g => by
      obtain ⟨seq, b⟩ := a
      obtain ⟨_, _, rfl, rfl, A, n, c, rfl, h1, h2, hr⟩ := h
      exact ⟨⟨seq, b⟩, ⟨A, n, c, rfl, h1, h2, hr⟩, trivial⟩)
theorem opens_helds : Opens Try.prog 34 LH4.slice (fun xs => ∀ x ∈ xs, True) :=
  opens_slice Try.underlying34 (by kernel_rfl) (by decide) opens_held
set_option maxRecDepth 100000 in
theorem opens_recv : Opens Try.prog 36 LRV RC.rng :=
  opens_as (opens_struct Try.underlying36 (by kernel_rfl)
    (opensAt_cons 0 25 (by kernel_rfl) (opens_int Try.underlying25 (by kernel_rfl))
    (opensAt_cons 1 26 (by kernel_rfl) (opens_int Try.underlying26 (by kernel_rfl))
    (opensAt_cons 2 34 (by kernel_rfl) opens_helds
    (opensAt_cons 3 27 (by kernel_rfl) opens_bats
    (opensAt_cons 4 3 (by kernel_rfl) (opens_int Try.underlying3 (by kernel_rfl))
      (opensAt_last 5 4 (by kernel_rfl) (opens_bool Try.underlying4 (by kernel_rfl))))))))) rfl
    (fun w a cs h g => by
      obtain ⟨ses, next, ahead, buf, room, over⟩ := a
      obtain ⟨_, _, rfl, rfl, _, _, rfl, rfl, _, _, rfl, ⟨A, n, c, rfl, h1, h2, hr⟩, _, _, rfl, ⟨B, m, d, rfl, h3, h4, hr2⟩, _, _, rfl, rfl, rfl⟩ := h
      obtain ⟨_, g1, _⟩ := g
      exact ⟨⟨ses, next, ahead, buf, room, over⟩, ⟨A, n, c, B, m, d, rfl, h1, h2, h3, h4, hr, hr2⟩, (wfU g1).1, (wfU g1).2⟩)
/-- an argument that is a struct -/
theorem open_agg {P : Program} {t : TypeId} {fs : Array Field} (ht : P.underlying t = some (.struct fs)) {α : Type} {L : Lay α} {G : α → Prop} (ho : Opens P t L G) {H : Type} {enc : TypeId × Value → H} {W : World} {r : Reach} {base : Nat} {v : Value} {d : DataW H} {p : List MemPlace}
    (hv : Value.okWide P W r base t v) (h : DataW.Trod enc P W 0 (fun _ => true) true t v d p) : ∃ a cs, v = .agg cs ∧ L.rep W AllB a cs.toList ∧ G a := by
  obtain ⟨cs, rfl, _⟩ := okWide_struct ht hv
  obtain ⟨fuel, hf⟩ := h
  obtain ⟨a, ha, g⟩ := ho.2 enc W fuel _ _ hf
  exact ⟨a, cs, rfl, by simpa [Value.cells] using ha, g⟩
theorem opens_packets : Opens Try.prog 50 LP7.slice (fun xs => ∀ x ∈ xs, PK.rng x) := opens_slice Try.underlying50 (by kernel_rfl) (by decide) opens_packet
theorem open_packets {H : Type} {enc : TypeId × Value → H} {W : World} {A : Option Addr} {n c : Nat} {d : DataW H} {p : List MemPlace} (h : DataW.Trod enc Try.prog W 0 (fun _ => true) true 50 (.slice A n c) d p) :
    ∃ xs, LP7.rd W AllB A n xs ∧ (∀ x ∈ xs, PK.rng x) ∧ n ≤ c ∧ c ≤ 9223372036854775807 := open_arg opens_packets h
set_option maxRecDepth 100000 in
theorem open_sender {H : Type} {enc : TypeId × Value → H} {W : World} {r : Reach} {base : Nat} {v : Value} {d : DataW H} {p : List MemPlace} (hv : Value.okWide Try.prog W r base 29 v) (h : DataW.Trod enc Try.prog W 0 (fun _ => true) true 29 v d p) :
    ∃ (x : SC) (A : Option Addr) (n c : Nat), v = .agg (x.cells A n c) ∧ LB3.rd W AllB A n x.q ∧ n ≤ c ∧ c ≤ 9223372036854775807 ∧ SC.rng x := by
  obtain ⟨x, cs, rfl, ⟨A, n, c, e, h1, h2, hr⟩, g⟩ := open_agg Try.underlying29 opens_sender hv h
  exact ⟨x, A, n, c, by rw [show cs = x.cells A n c from by apply Array.ext'; exact e], hr, h1, h2, g⟩
set_option maxRecDepth 100000 in
theorem open_recv {H : Type} {enc : TypeId × Value → H} {W : World} {r : Reach} {base : Nat} {v : Value} {d : DataW H} {p : List MemPlace} (hv : Value.okWide Try.prog W r base 36 v) (h : DataW.Trod enc Try.prog W 0 (fun _ => true) true 36 v d p) :
    ∃ (x : RC) (A : Option Addr) (n c : Nat) (B : Option Addr) (m k : Nat), v = .agg (x.cells A n c B m k) ∧ LH4.rd W AllB A n x.ahead ∧ n ≤ c ∧ c ≤ 9223372036854775807 ∧ LB3.rd W AllB B m x.buf ∧ m ≤ k ∧ k ≤ 9223372036854775807 ∧ RC.rng x := by
  obtain ⟨x, cs, rfl, ⟨A, n, c, B, m, k, e, h1, h2, h3, h4, hr, hr2⟩, g⟩ := open_agg Try.underlying36 opens_recv hv h
  exact ⟨x, A, n, c, B, m, k, by rw [show cs = x.cells A n c B m k from by apply Array.ext'; exact e], hr, h1, h2, hr2, h3, h4, g⟩
end Go.Proofs.Ytojghgbaiiajfaa
