/- The reference's numbers: rows of eight digits. Conditions: as each states. -/
import Derived.Test.YtemakmgppafccaaAre
import Derived.Test.YtemakmgppafccaaBigMath
namespace Go.Proofs.Ytemakmgppafccaa
open Go.RowKit Go.Proofs.Big
theorem ret_b {a b : Bool} (h : a = b) : Ending.returned (.bool a) = .returned (.bool b) := by rw [h]
theorem ret_i {k : IntKind} {a b : Int} (h : a = b) : Ending.returned (.int k a) = .returned (.int k b) := by rw [h]
theorem ibne_t {a b : Int} (h : a ≠ b) : (a != b) = true := by simpa using h
theorem ibne_f {a b : Int} (h : a = b) : (a != b) = false := by simpa using h
theorem ibeq_t {a b : Int} (h : a = b) : (a == b) = true := by simpa using h
theorem ibeq_f {a b : Int} (h : a ≠ b) : (a == b) = false := by simpa using h
/-- a number's cells: eight digits, and whether it is below 0 -/
def bigC (D : List Nat) (b : Bool) : Array Value := (D.map (fun (d : Nat) => Value.int .u64 (d : Int)) ++ [Value.bool b]).toArray
theorem bigC_at (D : List Nat) (b : Bool) (i : Nat) (hi : i < D.length) : (bigC D b)[i]? = some (.int .u64 (D.getD i 0 : Nat)) := by
  simp [bigC, hi, List.getD, List.getElem?_append]
theorem bigC_sign (D : List Nat) (b : Bool) (hl : D.length = 8) : (bigC D b)[8]? = some (.bool b) := by
  simp [bigC, hl]
theorem Blk.dig {w : World} {g : Nat} {t : TypeId} {D : List Nat} {b : Bool} (h : Blk w g t (bigC D b)) (i : Nat) (hi : i < D.length) : w.cell? ⟨g, i, none⟩ = some (.int .u64 (D.getD i 0 : Nat)) := (h.cell i).trans (bigC_at D b i hi)
theorem Blk.sign {w : World} {g : Nat} {t : TypeId} {D : List Nat} {b : Bool} (h : Blk w g t (bigC D b)) (hl : D.length = 8) : w.cell? ⟨g, 8, none⟩ = some (.bool b) := (h.cell 8).trans (bigC_sign D b hl)
set_option maxHeartbeats 1000000 in
theorem less_any (A B : List Nat) (x y : Bool) (w : World) (hA : A.length = 8) (hB : B.length = 8) (sA : Small A) (sB : Small B) :
    Calls Try.prog 53 #[.agg (bigC A x), .agg (bigC B y)] w fun e w' => e = .returned (.bool (decide (val A < val B))) ∧ Below w.heap.size w w' := by
  have hl := Lib.hid hA
  have hl' := Lib.hid hB
  clear hA hB
  go_enter Try.func53, Try.ntmps53
  go_wp2
  have hbA := (Blk.new w 51 (bigC A x)).alloc (.cells (bigC B y) 51)
  have hbB := Blk.new (w.alloc (.cells (bigC A x) 51)) 51 (bigC B y)
  have b0 := ((Below.refl w.heap.size w).alloc (Nat.le_refl _) (.cells (bigC A x) 51)).alloc (by simp) (.cells (bigC B y) 51)
  simp only [World.size_alloc] at hbB
  generalize (w.alloc (.cells (bigC A x) 51)).alloc (.cells (bigC B y) 51) = w1 at *
  go_loopg [5] 8 (fun g s wr => ∃ (k : Nat) (z : Int), k ≤ 8 ∧ k ≤ g ∧ g ≤ k ∧ s = .int .i64 z ∧ z ≤ k - 1 ∧ k - 1 ≤ z ∧ A.drop k = B.drop k ∧ Blk wr w.heap.size 51 (bigC A x) ∧ Blk wr (w.heap.size + 1) 51 (bigC B y) ∧ Below w.heap.size w wr)
  case atStart => exact ⟨8, 7, by omega, by omega, by omega, rfl, by omega, by omega, by rw [List.drop_of_length_le (by rw [hl.out]; omega), List.drop_of_length_le (by rw [hl'.out]; omega)], hbA, hbB, b0⟩
  case round =>
    clear hbA hbB b0
    obtain ⟨k, z, hk, hk1, hk2, rfl, hz1, hz2, hd, hbA, hbB, bw⟩ := hrel
    have hD := Lib.hid hd
    clear hd
    by_cases h0 : k = 0
    · subst h0
      obtain rfl : z = -1 := by omega
      go_wp2
      go_ret
      have : A = B := by simpa using hD.out
      subst this
      exact ⟨by simp, bw⟩
    · obtain ⟨j, rfl⟩ : ∃ j, k = j + 1 := ⟨k - 1, by omega⟩
      obtain rfl : z = (j : Int) := by omega
      have cA := hbA.dig j (by rw [hl.out]; omega)
      have cB := hbB.dig j (by rw [hl'.out]; omega)
      have i0 : (0 : Int) ≤ (j : Int) := by omega
      have i1 : (j : Int) < 8 := by omega
      by_cases hne : A.getD j 0 = B.getD j 0
      · have h1 : (((A.getD j 0 : Nat) : Int) != ((B.getD j 0 : Nat) : Int)) = false := ibne_f (by omega)
        have hD2 := Lib.hid (drop_eq (by rw [hl.out]; omega) (by rw [hl'.out]; omega) hD.out hne)
        clear hne
        generalize A.getD j 0 = a at *
        generalize B.getD j 0 = b at *
        go_wp2
        go_quiet (fail)
        go_wp2
        go_roundg (gk - 1)
        · exact ⟨j, (j : Int) - 1, by omega, by omega, by omega, rfl, by omega, by omega, hD2.out, hbA, hbB, below_drewN bw _⟩
        · omega
      · have h1 : (((A.getD j 0 : Nat) : Int) != ((B.getD j 0 : Nat) : Int)) = true := ibne_t (by omega)
        have hV := Lib.hid (val_less A B j sA sB (by rw [hl.out]; omega) (by rw [hl'.out]; omega) hD.out hne)
        clear hne
        generalize A.getD j 0 = a at *
        generalize B.getD j 0 = b at *
        go_wp2
        go_quiet (fail)
        go_wp2
        go_quiet (fail)
        go_wp2
        go_ret
        exact ⟨ret_b (by simp [hV.out]), below_drewN (below_drewN bw _) _⟩
theorem eight {D : List Nat} (h : D.length = 8) : ∃ d0 d1 d2 d3 d4 d5 d6 d7, D = [d0, d1, d2, d3, d4, d5, d6, d7] := by
  match D, h with
  | [d0, d1, d2, d3, d4, d5, d6, d7], _ => exact ⟨d0, d1, d2, d3, d4, d5, d6, d7, rfl⟩
def B8 (d0 d1 d2 d3 d4 d5 d6 d7 : Nat) (b : Bool) : Array Value := #[.int .u64 d0, .int .u64 d1, .int .u64 d2, .int .u64 d3, .int .u64 d4, .int .u64 d5, .int .u64 d6, .int .u64 d7, .bool b]
theorem b8 (d0 d1 d2 d3 d4 d5 d6 d7 : Nat) (b : Bool) : bigC [d0, d1, d2, d3, d4, d5, d6, d7] b = #[.int .u64 d0, .int .u64 d1, .int .u64 d2, .int .u64 d3, .int .u64 d4, .int .u64 d5, .int .u64 d6, .int .u64 d7, .bool b] := rfl
theorem eq8 (a0 a1 a2 a3 a4 a5 a6 a7 b0 b1 b2 b3 b4 b5 b6 b7 : Int) (w : World) (d : Nat) :
    (Op.equalIn (d + 2) 49 (.agg #[.int .u64 a0, .int .u64 a1, .int .u64 a2, .int .u64 a3, .int .u64 a4, .int .u64 a5, .int .u64 a6, .int .u64 a7]) (.agg #[.int .u64 b0, .int .u64 b1, .int .u64 b2, .int .u64 b3, .int .u64 b4, .int .u64 b5, .int .u64 b6, .int .u64 b7])).run Try.prog w =
      .ok (a0 == b0 && (a1 == b1 && (a2 == b2 && (a3 == b3 && (a4 == b4 && (a5 == b5 && (a6 == b6 && a7 == b7))))))) w := by
  obtain ⟨i0, hi, _⟩ := info_parts (show (Try.prog.info? 25).map (fun i => (i.zero, i.size, i.bytes)) = some (some (.int .u64 0), 1, 8) by kernel_rfl)
  have hp : Try.prog.plainKey 25 = true := by kernel_rfl
  have hc : Try.prog.cellsOf 25 = 1 := by kernel_rfl
  have hpart : ∀ (xs : Array Value) (off : Nat) (h : off < xs.size), (part 25 xs off).run Try.prog w = .ok xs[off] w := fun xs off h => run_part_plain w hp (Array.getElem?_eq_getElem h)
  rw [run_equalIn_array w (d + 1) _ _ Try.underlying49 hi, hc]
  simp only [show List.range 8 = [0, 1, 2, 3, 4, 5, 6, 7] from rfl, Op.eqItems, Sem.run_bind, Nat.mul_one]
  have he := fun a b : Int => run_equalIn_int (P := Try.prog) w d 25 .u64 .u64 a b Try.underlying25
  simp [hpart, Result.andThen_ok, he]
  by_cases h0 : a0 = b0 <;> by_cases h1 : a1 = b1 <;> by_cases h2 : a2 = b2 <;> by_cases h3 : a3 = b3 <;> by_cases h4 : a4 = b4 <;> by_cases h5 : a5 = b5 <;> by_cases h6 : a6 = b6 <;> by_cases h7 : a7 = b7 <;> simp [h0, h1, h2, h3, h4, h5, h6, h7]
set_option maxHeartbeats 1000000 in
theorem zero_any (D : List Nat) (x : Bool) (w : World) (hD : D.length = 8) :
    Calls Try.prog 54 #[.agg (bigC D x)] w fun e w' => e = .returned (.bool (decide (val D = 0))) ∧ Below w.heap.size w w' := by
  obtain ⟨d0, d1, d2, d3, d4, d5, d6, d7, rfl⟩ := eight hD
  clear hD
  rw [b8]
  have h8 := fun (w : World) => eq8 d0 d1 d2 d3 d4 d5 d6 d7 0 0 0 0 0 0 0 0 w 9998
  have hv : ((d0 : Int) == 0 && ((d1 : Int) == 0 && ((d2 : Int) == 0 && ((d3 : Int) == 0 && ((d4 : Int) == 0 && ((d5 : Int) == 0 && ((d6 : Int) == 0 && (d7 : Int) == 0))))))) = decide (val [d0, d1, d2, d3, d4, d5, d6, d7] = 0) := by
    rw [Bool.eq_iff_iff]
    simp [val_zero]
  generalize ((d0 : Int) == 0 && ((d1 : Int) == 0 && ((d2 : Int) == 0 && ((d3 : Int) == 0 && ((d4 : Int) == 0 && ((d5 : Int) == 0 && ((d6 : Int) == 0 && (d7 : Int) == 0))))))) = q at *
  have HV := Lib.hid hv
  clear hv
  go_enter Try.func54, Try.ntmps54
  go_wp2
  go_ret
  exact ⟨ret_b HV.out, (Below.refl _ _).alloc (Nat.le_refl _) _⟩
end Go.Proofs.Ytemakmgppafccaa
