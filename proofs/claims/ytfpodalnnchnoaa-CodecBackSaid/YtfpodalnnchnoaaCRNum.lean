/- bowspritref06.number. Conditions: the number is a uint64. -/
import Derived.Test.YtfpodalnnchnoaaCVal
namespace Go.Proofs.Ytfpodalnnchnoaa
open Go.RowKit
set_option maxRecDepth 100000 in
set_option maxHeartbeats 2000000 in
theorem number_any (x : Nat) (w : World) (hx : x < 18446744073709551616) :
    Calls Try.prog 28 #[.int .u64 (x : Nat)] w fun e w' => ∃ A' c', e = .returned (.slice A' 8 c') ∧ OwnB w' w.heap.size A' 8 c' (beB 8 x) ∧ Below w.heap.size w w' := by
  have HX := Lib.hid hx
  clear hx
  go_enter Try.func28, Try.ntmps28
  go_wp2
  go_loopg [3, 4] 8 (fun g v s wr => ∃ (k : Nat) (A' : Option Addr) (c' : Nat), k + g ≤ 8 ∧ 8 ≤ k + g ∧ s = .int .i64 (7 - (k : Int)) ∧ v = .slice A' k c' ∧ OwnB wr w.heap.size A' k c' (beK 8 x k) ∧ Below w.heap.size w wr)
  case atStart => exact ⟨0, none, 0, by omega, by omega, rfl, rfl, OwnB.none_ _ _, Below.refl _ _⟩
  case round =>
    obtain ⟨k, A', c', h1, h2, rfl, rfl, ho, hb⟩ := hrel
    by_cases hk : k < 8
    · have HK := Lib.hid (beK_succ 8 x k)
      have hk0 : (0 : Int) ≤ 7 - (k : Int) := by omega
      have HV := Lib.hid (show Value.int .u8 ((x : Int) / 2 ^ (8 * (7 - k)) % 256) = vb (UInt8.ofNat (x / 256 ^ (8 - 1 - k))) from by
        have e : ((x : Int) / 2 ^ (8 * (7 - k)) % 256) = ((x / 256 ^ (8 - 1 - k) % 256 : Nat) : Int) := by
          rw [show (256 : Nat) = 2 ^ 8 from rfl, ← Nat.pow_mul]
          simp
        rw [e]
        unfold vb
        simp)
      go_wp2_with (at_builtin; refine wpList_appB rfl (.tmp 9) (.tmp 15) rfl w.heap.size A' k c' (beK 8 x k) (some ⟨wr.heap.size, 0, none⟩) 1 1 [UInt8.ofNat (x / 256 ^ (8 - 1 - k))] rfl rfl (OwnB.alloc ho _) (RdB.one wr _ _ HV.out _) (by omega) (by have := hb.size; simp; omega) ?_; intro A2 c2 w2 ho2 hb2)
      go_roundg (gk - 1)
      case measure => omega
      case rel => exact ⟨k + 1, A2, c2, by omega, by omega, by go_num, rfl, by rw [HK.out]; exact ho2, (hb.alloc hb.size _).trans hb2⟩
    · obtain rfl : k = 8 := by omega
      go_wp2
      go_ret
      exact ⟨A', c', rfl, ho, hb⟩
end Go.Proofs.Ytfpodalnnchnoaa
