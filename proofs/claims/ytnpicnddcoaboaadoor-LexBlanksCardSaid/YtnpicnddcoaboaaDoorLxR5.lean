/- The reference's Tokens. Conditions: none on texts of more than 600 bytes, else none. -/
import Derived.Test.YtnpicnddcoaboaaDoorLxR4
namespace Go.Proofs.YtnpicnddcoaboaaDoor
open Go.RowKit
theorem tokInfo : (Tryd.prog.info? 26).map (fun i => (i.zero, i.size, i.bytes)) = some (some (.agg #[.int .i64 0, .int .i64 0, .string ⟨#[]⟩, .int .u64 0]), 4, 40) := by kernel_rfl
abbrev NoB : Nat → Prop := fun _ => False
/-- a row of tokens that the call owns -/
abbrev OwnT (w : World) (B : Nat) (A : Option Addr) (n c : Nat) (ts : List Tk) : Prop := LT.own 26 w B NoB A n c ts
/-- what Tokens tells: the tokens, the place, the error -/
def tokM (l : List UInt8) : List Tk × Int × Int := if 600 < l.length then ([], 0, 3) else match (lexF l 0).2 with | some q => ([], (q : Int), 170) | none => ((lexF l 0).1, 0, 0)
def TkE (B : Nat) (R : List Tk × Int × Int) (e : Ending) (w' : World) : Prop := ∃ A n c, e = .returned (.tuple #[.slice A n c, .int .i64 R.2.1, .int .i64 R.2.2]) ∧ OwnT w' B A n c R.1
theorem TkE.none {B : Nat} {R : List Tk × Int × Int} {w' : World} {q er : Int} (h : R = ([], q, er)) : TkE B R (.returned (.tuple #[.slice none 0 0, .int .i64 q, .int .i64 er])) w' := ⟨_, 0, 0, by rw [h], by rw [h]; exact Lay.own_nil _ _⟩
theorem TkE.mk {B : Nat} {R : List Tk × Int × Int} {w' : World} {ts : List Tk} {A : Option Addr} {n c : Nat} (h : R = (ts, 0, 0)) (ho : OwnT w' B A n c ts) : TkE B R (.returned (.tuple #[.slice A n c, .int .i64 0, .int .i64 0])) w' := ⟨A, n, c, by rw [h], by rw [h]; exact ho⟩
theorem tokM_long {l : List UInt8} (h : 600 < l.length) : tokM l = ([], 0, 3) := if_pos h
theorem tokM_bad {l : List UInt8} {q : Nat} (h : l.length ≤ 600) (h2 : (lexF l 0).2 = some q) : tokM l = ([], (q : Int), 170) := by unfold tokM; rw [if_neg (by omega), h2]
theorem tokM_ok {l : List UInt8} (h : l.length ≤ 600) (h2 : (lexF l 0).2 = none) : tokM l = ((lexF l 0).1, 0, 0) := by unfold tokM; rw [if_neg (by omega), h2]
theorem LT_rep {w : World} {F : Nat → Prop} (t : Tk) : LT.rep w F t [.int .i64 t.kind, .int .i64 t.at_, .string (bS t.text), .int .u64 (t.n : Int)] := rfl
theorem bl_not {b : UInt8} {c : Int} (hc : c = (b.toNat : Int)) (h : blU b = false) : c ≠ 32 ∧ c ≠ 9 ∧ c ≠ 10 ∧ c ≠ 13 := by
  unfold blU blI at h
  rw [← hc] at h
  simp only [Bool.or_eq_false_iff, decide_eq_false_iff_not] at h
  exact h
theorem bl_yes {b : UInt8} {c : Int} (hc : c = (b.toNat : Int)) (h : blU b = true) : c = 32 ∨ c = 9 ∨ c = 10 ∨ c = 13 := by
  unfold blU blI at h
  rw [← hc] at h
  simp only [Bool.or_eq_true, decide_eq_true_eq] at h
  exact h
end Go.Proofs.YtnpicnddcoaboaaDoor
