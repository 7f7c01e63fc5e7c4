/- A row of parcels that a call owns whole. Conditions: none. -/
import Derived.Test.YtnbcffnhgijmcaaNClone
namespace Go.Proofs.Ytnbcffnhgijmcaa
open Go.RowKit
def El.bk (e : El) : Option Nat := (Value.slice e.A e.n e.c).ownBlock
def Apart (a b : El) : Prop := ∀ k, a.bk = some k → b.bk ≠ some k
/-- the parcels' bytes, too, each in memory of its own -/
structure DO (w : World) (B : Nat) (A : Option Addr) (n c : Nat) (es : List El) : Prop where
  row : Ro w B A n c es
  own : ∀ e ∈ es, OwnB w B e.A e.n e.c e.p.bs
  apart : es.Pairwise Apart
theorem OwnB.kept {w w' : World} {B : Nat} {A : Option Addr} {n c r : Nat} {bs : List UInt8} (h : OwnB w B A n c bs) (hg : w.grownBy w' (some r)) (hne : (Value.slice A n c).ownBlock ≠ some r) : OwnB w' B A n c bs := World.ownsRow.kept h hg (.inr hne)
theorem OwnB.base_ {w : World} {B : Nat} {A : Option Addr} {n c : Nat} {bs : List UInt8} (h : OwnB w B A n c bs) : ∀ k, (Value.slice A n c).ownBlock = some k → B ≤ k ∧ k < w.heap.size := own_base' h
theorem Ro.kept {w w' : World} {B : Nat} {A : Option Addr} {n c r : Nat} {es : List El} (h : Ro w B A n c es) (hg : w.grownBy w' (some r)) (hne : (Value.slice A n c).ownBlock ≠ some r) : Ro w' B A n c es := World.ownsRow.kept h hg (.inr hne)
theorem DO.below {w w' : World} {B : Nat} {A : Option Addr} {n c : Nat} {es : List El} (h : DO w B A n c es) (q : Below w.heap.size w w') : DO w' B A n c es :=
  ⟨h.row.below q, fun e he => (h.own e he).below q, h.apart⟩
theorem DO.kept {w w' : World} {B : Nat} {A : Option Addr} {n c r : Nat} {es : List El} (h : DO w B A n c es) (hg : w.grownBy w' (some r)) (hr : r < B) : DO w' B A n c es :=
  ⟨h.row.kept hg (fun e => by have := (own_base' h.row r e).1; omega), fun e he => (h.own e he).kept hg (fun e' => by have := ((h.own e he).base_ r e').1; omega), h.apart⟩
theorem DO.nil (w : World) (B : Nat) : DO w B none 0 0 [] := ⟨Ro.nil w B, by simp, .nil⟩
theorem DO.len {w : World} {B : Nat} {A : Option Addr} {n c : Nat} {es : List El} (h : DO w B A n c es) : es.length = n := h.row.len
theorem reads_of_LB {w : World} {F : Nat → Prop} {B : Nat} {A : Option Addr} {n c : Nat} {bs : List UInt8} (h : OwnB w B A n c bs) (hF : ∀ b, B ≤ b → F b) : LB.rd w F A n bs := by
  refine ⟨(OwnB.rd h).len, bs.map vb, ?_, fun hn => ?_⟩
  · clear h
    induction bs with
    | nil => rfl
    | cons b l ih => exact ⟨[vb b], l.map vb, rfl, rfl, ih⟩
  · obtain ⟨ad, e, hb, hc⟩ := (OwnB.rd h).2 hn
    refine ⟨ad, e, hb, hF _ ?_, hc⟩
    subst e
    exact (h.base_ _ rfl).1
theorem El.ok_of {w : World} {F : Nat → Prop} {B : Nat} {e : El} (h : OwnB w B e.A e.n e.c e.p.bs) (hF : ∀ b, B ≤ b → F b) : e.ok w F := by
  have hc := h.cap
  exact ⟨reads_of_LB h hF, hc.1, hc.2⟩
theorem reps_of_els {w : World} {F : Nat → Prop} : ∀ {es : List El}, (∀ e ∈ es, e.ok w F) → LP.reps w F (es.map El.p) (ecells es)
  | [], _ => rfl
  | e :: l, h => ⟨e.cells, ecells l, rfl, ⟨e.A, e.n, e.c, rfl, (h e (by simp)).2.1, (h e (by simp)).2.2, (h e (by simp)).1⟩, reps_of_els fun x hx => h x (by simp [hx])⟩
theorem Ro.rd {w : World} {F : Nat → Prop} {B : Nat} {A : Option Addr} {n c : Nat} {es : List El} (h : Ro w B A n c es) (he : ∀ e ∈ es, e.ok w F) (hF : ∀ b, B ≤ b → F b) : LP.rd w F A n (es.map El.p) := by
  refine ⟨by rw [List.length_map]; exact h.len, ecells es, reps_of_els he, fun hn => ?_⟩
  obtain ⟨ad, e, hb, hc⟩ := (Reads.of_own h).2 hn
  refine ⟨ad, e, hb, hF _ ?_, hc⟩
  subst e
  exact (own_base' h _ rfl).1
theorem DO.rd {w : World} {F : Nat → Prop} {B : Nat} {A : Option Addr} {n c : Nat} {es : List El} (h : DO w B A n c es) (hF : ∀ b, B ≤ b → F b) : LP.rd w F A n (es.map El.p) :=
  h.row.rd (fun e he => El.ok_of (h.own e he) hF) hF
/-- where the row lies -/
theorem Ro.form {w : World} {B : Nat} {A : Option Addr} {n c : Nat} {es : List El} (h : Ro w B A n c es) (hn : 0 < n) : ∃ g, A = some ⟨g, 0, none⟩ ∧ B ≤ g ∧ g < w.heap.size := by
  obtain ⟨g, cap, hv, _, hlt⟩ := World.ownsRow.form h hn
  injection hv with e
  subst e
  exact ⟨g, rfl, (own_base' h g (by simp [Value.ownBlock])).1, hlt⟩
/-- a cell of a parcel in the row -/
theorem Ro.cell {w : World} {B g n c : Nat} {es : List El} (h : Ro w B (some ⟨g, 0, none⟩) n c es) {i : Nat} {e : El} (he : es[i]? = some e) :
    w.cell? ⟨g, i * 5, none⟩ = some (.int .u64 e.p.num) ∧ w.cell? ⟨g, i * 5 + 1, none⟩ = some (.int .i64 e.p.frm) ∧ w.cell? ⟨g, i * 5 + 2, none⟩ = some (.int .i64 e.p.to) ∧ w.cell? ⟨g, i * 5 + 3, none⟩ = some (.slice e.A e.n e.c) ∧ w.cell? ⟨g, i * 5 + 4, none⟩ = some (.bool e.p.sp) := by
  have hi : i < n := by rw [← h.len]; exact (List.getElem?_eq_some_iff.1 he).1
  have key : ∀ j, j < 5 → (ecells es)[i * 5 + j]? = e.cells[j]? := by
    intro j hj
    clear h hi
    induction es generalizing i with
    | nil => simp at he
    | cons x l ih =>
      cases i with
      | zero =>
        simp at he
        subst he
        show (x.cells ++ ecells l)[0 * 5 + j]? = _
        rw [List.getElem?_append_left (by simp [El.cells]; omega)]
        simp
      | succ i =>
        show (x.cells ++ ecells l)[(i + 1) * 5 + j]? = _
        rw [List.getElem?_append_right (by simp [El.cells]; omega), show (i + 1) * 5 + j - x.cells.length = i * 5 + j from by simp [El.cells]; omega]
        exact ih (by simpa using he)
  have cl : ∀ j, j < 5 → w.cell? ⟨g, i * 5 + j, none⟩ = e.cells[j]? := fun j hj => (World.ownsRow.cellAt h (i * 5 + j) (by omega)).trans (key j hj)
  exact ⟨cl 0 (by omega), cl 1 (by omega), cl 2 (by omega), cl 3 (by omega), cl 4 (by omega)⟩
theorem ecells_set3 (done rest : List El) (e : El) (A : Option Addr) (n c : Nat) : (ecells (done ++ e :: rest)).set (done.length * 5 + 3) (.slice A n c) = ecells (done ++ ⟨e.p, A, n, c⟩ :: rest) := by
  rw [ecells_append, ecells_append, List.set_append_right _ _ (by rw [ecells_len]; omega), ecells_len]
  rw [show done.length * 5 + 3 - done.length * 5 = 3 from by omega]
  rfl
/-- a parcel's bytes are laid anew -/
theorem Ro.set3 {w : World} {B g n c : Nat} {done rest : List El} {e : El} (h : Ro w B (some ⟨g, 0, none⟩) n c (done ++ e :: rest)) (A : Option Addr) (k d : Nat) :
    Ro (w.setCell ⟨g, done.length * 5 + 3, none⟩ (.slice A k d)) B (some ⟨g, 0, none⟩) n c (done ++ ⟨e.p, A, k, d⟩ :: rest) ∧ w.grownBy (w.setCell ⟨g, done.length * 5 + 3, none⟩ (.slice A k d)) (some g) := by
  have := World.ownsRow.stored h (done.length * 5 + 3) (.slice A k d)
  rw [ecells_set3] at this
  exact this
end Go.Proofs.Ytnbcffnhgijmcaa
