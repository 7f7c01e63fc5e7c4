/- Rows of values and lists of rows in memory. Conditions: none. -/
import Derived.Test.YtfpodalnnchnoaaCJoin
import Derived.Test.YtfpodalnnchnoaaLay
namespace Go.Proofs.Ytfpodalnnchnoaa
open Go.RowKit
def LV : Lay VV where
  size := 4
  rep := fun _ _ v cs => cs = [.int .i64 v.k, .int .i64 v.n, .int .u64 v.u, .string v.s]
  len := fun h => by subst h; rfl
  one := fun h u hu => by subst h; simp at hu; rcases hu with rfl | rfl | rfl | rfl <;> rfl
  keep := fun _ h => h
  weak := fun _ h => h
theorem Lay.slice_at {α : Type} {L : Lay α} {w : World} {F : Nat → Prop} {A : Option Addr} {n i : Nat} {xs : List (List α)} (h : L.slice.rd w F A n xs) (hi : i < n) :
    ∃ ad r A' n' c', A = some ad ∧ xs[i]? = some r ∧ ad.block < w.heap.size ∧ w.cell? (ad.add i) = some (.slice A' n' c') ∧ n' ≤ c' ∧ c' ≤ 9223372036854775807 ∧ L.rd w F A' n' r := by
  obtain ⟨ad, r, cs, e, hr, hb, _, hrep, hc⟩ := Lay.rd_at h hi
  obtain ⟨A', n', c', rfl, h1, h2, h3⟩ := hrep
  refine ⟨ad, r, A', n', c', e, hr, hb, ?_, h1, h2, h3⟩
  have := hc 0 _ rfl
  rwa [show i * L.slice.size + 0 = i from by show i * 1 + 0 = i; omega] at this
theorem addr_more (a : Addr) (i j : Nat) (hj : 0 < j) : a.add (i + j) = ⟨(a.add i).block, (a.add i).off + j, none⟩ := by
  unfold Addr.add
  by_cases h : i = 0
  · subst h; simp; omega
  · simp [h]; omega
theorem LV_rd {w : World} {F : Nat → Prop} {A : Option Addr} {n : Nat} {vs : List VV} (h : LV.rd w F A n vs) : RdV w A n vs := by
  refine ⟨h.1, fun i hi => ?_⟩
  obtain ⟨ad, v, cs, rfl, hv, hb, _, rfl, hc⟩ := Lay.rd_at h hi
  refine ⟨ad, v, rfl, hv, hb, ?_, ?_, ?_, ?_⟩
  · exact hc 0 _ rfl
  · rw [← addr_more _ _ 1 (by omega)]; exact hc 1 _ rfl
  · rw [← addr_more _ _ 2 (by omega)]; exact hc 2 _ rfl
  · rw [← addr_more _ _ 3 (by omega)]; exact hc 3 _ rfl
/-- lists of rows -/
abbrev LR : Lay (List VV) := LV.slice
def rowsU (rows : List (List VV)) : Prop := ∀ r ∈ rows, ∀ v ∈ r, uOk v
def listX : List (List VV) → Nat → Option (Nat × Int)
  | [], _ => none
  | r :: l, i => if rowE r = 0 then listX l (i + 1) else some (i, rowE r)
theorem listX_at {rows : List (List VV)} {i k : Nat} {r : List VV} (h : rows[i]? = some r) : listX (rows.drop i) k = if rowE r = 0 then listX (rows.drop (i + 1)) (k + 1) else some (k, rowE r) := by
  obtain ⟨hi, rfl⟩ := List.getElem?_eq_some_iff.1 h
  rw [List.drop_eq_getElem_cons hi]
  rfl
def listE (rows : List (List VV)) : Int := if 400 < rows.length then 3 else match listX rows 0 with | none => 0 | some (_, e) => e
def listAt (rows : List (List VV)) : Nat := if 400 < rows.length then 0 else match listX rows 0 with | none => 0 | some (i, _) => i
def listB (rows : List (List VV)) : List UInt8 := if listE rows = 0 then beB 2 rows.length ++ rows.flatMap rowB else []
theorem joinB_len : ∀ {vs : List VV}, (∀ v ∈ vs, v.ok = true) → (joinB vs).length ≤ 42 * vs.length
  | [], _ => by simp [joinB]
  | v :: l, h => by
    have h1 := valB_len (h v (by simp))
    have h2 := joinB_len (vs := l) (fun x hx => h x (by simp [hx]))
    simp only [joinB, List.flatMap_cons, List.length_append, List.length_cons] at *
    omega
theorem rowB_len (r : List VV) : (rowB r).length ≤ 673 := by
  unfold rowB
  split
  · rename_i h
    unfold rowE at h
    split at h
    · omega
    · split at h
      · rename_i h1 h2
        have := joinB_len (List.all_eq_true.1 h2)
        simp only [List.length_cons]
        omega
      · omega
  · simp
theorem rowE_cases (r : List VV) : rowE r = 0 ∨ rowE r = 3 ∨ rowE r = 120 := by
  unfold rowE
  split
  · simp
  · split <;> simp
theorem row_y {A : Option Addr} {m c : Nat} {vs : List VV} {w : World} (hv : RdV w A m vs) (hu : ∀ v ∈ vs, uOk v) (h : rowE vs = 0) : Calls Try.prog 16 #[.slice A m c] w (retB w (rowB vs) 0) := retB_eq (row_any A m c vs w hv hu) rfl h
theorem row_n {A : Option Addr} {m c : Nat} {vs : List VV} {w : World} (hv : RdV w A m vs) (hu : ∀ v ∈ vs, uOk v) (h : rowE vs ≠ 0) : Calls Try.prog 16 #[.slice A m c] w (retB w [] (rowE vs)) := retB_eq (row_any A m c vs w hv hu) (by unfold rowB; rw [if_neg h]) rfl
/-- bytes of its own, a place and an error -/
def retL (w : World) (bs : List UInt8) (at_ : Nat) (e : Int) (x : Ending) (w' : World) : Prop := ∃ A c, x = .returned (.tuple #[.slice A bs.length c, .int .i64 (at_ : Int), .int .i64 e]) ∧ OwnB w' w.heap.size A bs.length c bs ∧ Below w.heap.size w w'
end Go.Proofs.Ytfpodalnnchnoaa
