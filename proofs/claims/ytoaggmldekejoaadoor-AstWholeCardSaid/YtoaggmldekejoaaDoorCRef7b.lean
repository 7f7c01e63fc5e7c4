/- Names: the reference's Words, IsWord, Upper, IsName. Conditions: none. -/
import Derived.Test.YtoaggmldekejoaaDoorCRef7
import Derived.Test.YtoaggmldekejoaaDoorBytes
namespace Go.Proofs.YtoaggmldekejoaaDoor
open Go.RowKit
theorem run_bt {s : ByteArray} {i : Nat} {b : UInt8} (h : s.data.toList[i]? = some b) (W : World) : (Instr.index 9 (.string s) (.int .i64 (i : Int))).run Tryd.prog W = .ok (.int .u8 (b.toNat : Int)) W := by
  have hi : i < s.data.toList.length := by
    rcases Nat.lt_or_ge i s.data.toList.length with h1 | h1
    · exact h1
    · rw [List.getElem?_eq_none h1] at h; cases h
  have hs : i < s.size := by simpa using hi
  rw [run_index_string W 9 s .i64 (i : Int) Tryd.underlying9, dif_pos ⟨by omega, by omega⟩]
  rw [List.getElem?_eq_getElem hi] at h
  injection h with h
  have e : s[((i : Int)).toNat]'(by simpa using hs) = b := by
    rw [← h]
    simp only [Int.toNat_natCast]
    simp
    rfl
  rw [e]
theorem bt_of {s : ByteArray} {i : Nat} {b : UInt8} (h : s.data.toList[i]? = some b) : bt s i = (b.toNat : Int) := by unfold bt; rw [List.getD, h]; rfl
theorem byte_at {s : ByteArray} {i : Nat} (h : i < s.size) : ∃ b, s.data.toList[i]? = some b := ⟨s.data.toList[i]'(by simpa using h), List.getElem?_eq_getElem (by simpa using h)⟩
theorem allok_at {l : List Int} {i : Nat} {x : Int} (h : l[i]? = some x) : (l.drop i).all okI = (okI x && (l.drop (i + 1)).all okI) := by
  have hi : i < l.length := by
    rcases Nat.lt_or_ge i l.length with h1 | h1
    · exact h1
    · rw [List.getElem?_eq_none h1] at h; cases h
  rw [List.getElem?_eq_getElem hi] at h
  injection h with h
  rw [List.drop_eq_getElem_cons hi, h, List.all_cons]
theorem bts_at {s : ByteArray} {i : Nat} {b : UInt8} (h : s.data.toList[i]? = some b) : (bts s)[i]? = some (b.toNat : Int) := by unfold bts; rw [List.getElem?_map, h]; rfl
theorem bts_len (s : ByteArray) : (bts s).length = s.size := by unfold bts; simp
end Go.Proofs.YtoaggmldekejoaaDoor
