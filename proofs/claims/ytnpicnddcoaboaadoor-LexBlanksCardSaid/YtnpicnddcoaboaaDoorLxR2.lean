/- The reference's Number and quoted. Conditions: texts of at most 100000 bytes. -/
import Derived.Test.YtnpicnddcoaboaaDoorLxR1
namespace Go.Proofs.YtnpicnddcoaboaaDoor
open Go.RowKit
theorem drop_end {l : List UInt8} {i : Nat} (h : l.length ≤ i) : l.drop i = [] := List.drop_of_length_le h
theorem len_data (s : ByteArray) : s.data.toList.length = s.size := by simp
theorem head_at {s : ByteArray} {b : UInt8} (h : s.data.toList[0]? = some b) : s.data.toList.head? = some b := by rw [List.head?_eq_getElem?]; exact h
theorem byte_inj {b : UInt8} {k : Nat} (hk : k < 256) (h : (b.toNat : Int) = (k : Int)) : b = UInt8.ofNat k := UInt8.toNat_inj.1 (by rw [UInt8.toNat_ofNat']; omega)
/-! ### quoted -/
theorem q_step {b : UInt8} (h : b ≠ 39) : ∀ r : List UInt8, qGo (b :: r) = (qGo r).map (fun p => (b :: p.1, p.2 + 1))
  | [] => by
    show (if b = 39 then _ else _) = _
    rw [if_neg h]
    rfl
  | c :: r => by rw [qGo, if_pos h]
theorem q_two (r : List UInt8) : qGo (39 :: 39 :: r) = (qGo r).map (fun p => (39 :: p.1, p.2 + 2)) := by rw [qGo, if_neg (by simp), if_pos rfl]
theorem q_end : ∀ r : List UInt8, (∀ c x, r = c :: x → c ≠ 39) → qGo (39 :: r) = some ([], 1)
  | [], _ => rfl
  | c :: r, h => by rw [qGo, if_neg (by simp), if_neg (h c r rfl)]
theorem ext_one {s : ByteArray} {i : Nat} {b : UInt8} (h : s.data.toList[i]? = some b) : (s.extract i (i + 1)).data.toList = [b] := by
  rw [Lib.extract_data, show i + 1 - i = 1 from by omega, List.take_one, List.head?_drop, h]
  rfl
/-- what quoted returns: the text, where it ends, whether it may be -/
def QuoE (l : List UInt8) (p : Nat) (e : Ending) : Prop :=
  match qGo l with
  | none => e = .returned (.tuple #[.string (bS []), .int .i64 0, .bool false])
  | some (t, k) => e = .returned (.tuple #[.string (bS t), .int .i64 ((p + k : Nat) : Int), .bool (plainU t)])
theorem QuoE.none {l : List UInt8} {p : Nat} (h : qGo l = none) : QuoE l p (.returned (.tuple #[.string ⟨#[]⟩, .int .i64 0, .bool false])) := by unfold QuoE; rw [h]
theorem QuoE.some {l t : List UInt8} {p k : Nat} {S : ByteArray} {x : Int} {b : Bool} (h : qGo l = some (t, k)) (hS : S.data.toList = t) (hx : x = ((p + k : Nat) : Int)) (hb : b = plainU t) : QuoE l p (.returned (.tuple #[.string S, .int .i64 x, .bool b])) := by
  unfold QuoE
  rw [h]
  simp only
  rw [hx, hb, ← hS]
end Go.Proofs.YtnpicnddcoaboaaDoor
