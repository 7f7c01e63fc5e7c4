/- bowspritref01.Bytes answers the bytes of a number. Conditions: one to eight bytes, the number is a uint64. -/
import Derived.Test.YtdmfbmpllfkcaaaRefWeighs
namespace Go.Proofs.Ytdmfbmpllfkcaaa
open Go.RowKit
set_option maxRecDepth 100000 in
set_option maxHeartbeats 1000000 in
theorem refbytes_any (x n : Nat) (w : World) (hx : x < M64) (hn1 : 1 ≤ n) (hn : n ≤ 8) :
    Calls Try.prog 28 #[.int .u64 (x : Nat), .int .i64 (n : Nat)] w fun e w' => ∃ A' c', e = .returned (.slice A' n c') ∧ OwnB w' w.heap.size A' n c' (beB n x) ∧ Below w.heap.size w w' := by
  have HX := Lib.hid hx
  clear hx
  go_enter Try.func28, Try.ntmps28
  go_wp2
  go_loopg [5, 6] n (fun g v s wr => ∃ (k : Nat) (A' : Option Addr) (c' : Nat), k + g ≤ n ∧ n ≤ k + g ∧ s = .int .i64 k ∧ v = .slice A' k c' ∧ OwnB wr w.heap.size A' k c' (beK n x k) ∧ Below w.heap.size w wr)
  case atStart => exact ⟨0, none, 0, by omega, by omega, rfl, rfl, OwnB.none_ _ _, Below.refl _ _⟩
  case round =>
    obtain ⟨k, A', c', h1, h2, rfl, rfl, ho, hb⟩ := hrel
    obtain ⟨g1, rfl⟩ : ∃ g1, g1 = gk := ⟨_, rfl⟩
    obtain ⟨w1, rfl⟩ : ∃ w1, w1 = wr := ⟨_, rfl⟩
    by_cases hk : k < n
    · have HK := Lib.hid (beK_succ n x k)
      go_wp2
      go_loopg [7, 8] n (fun g y s wr => ∃ j : Nat, j ≤ n ∧ n ≤ j + g ∧ k + 1 ≤ j ∧ s = .int .i64 j ∧ y = .int .u64 (256 ^ (j - k - 1) : Nat) ∧ w1 = wr)
      case atStart => exact ⟨k + 1, by omega, by omega, by omega, by go_num, by rw [show k + 1 - k - 1 = 0 by omega]; rfl, rfl⟩
      case round =>
        obtain ⟨j, h3, h4, h5, rfl, rfl, rfl⟩ := hrel
        have hp : 256 ^ (j - k - 1) ≤ 256 ^ 7 := Nat.pow_le_pow_right (by decide) (by omega)
        have hp1 : 1 ≤ 256 ^ (j - k - 1) := Nat.one_le_pow _ _ (by decide)
        by_cases hj : j < n
        · have HJ := Lib.hid (show ((256 ^ (j - k - 1) : Nat) * 256 : Int) = ((256 ^ (j + 1 - k - 1) : Nat) : Int) from by
            rw [show j + 1 - k - 1 = (j - k - 1) + 1 by omega, Nat.pow_succ]; simp)
          have hp6 : 256 ^ (j - k - 1) ≤ 256 ^ 6 := Nat.pow_le_pow_right (by decide) (by omega)
          generalize 256 ^ (j - k - 1) = y at *
          have hy : y ≤ 281474976710656 := by omega
          clear hp hp6
          go_wp2
          go_roundg (gk - 1)
          case measure => omega
          case rel => exact ⟨j + 1, by omega, by omega, by omega, by go_num, by rw [← HJ.out], rfl⟩
        · obtain rfl : j = n := by omega
          have hq : IntKind.u64.wrap ((x : Int) / ((256 ^ (j - k - 1) : Nat) : Int)) = ((x / 256 ^ (j - k - 1) : Nat) : Int) := by
            rw [← Int.natCast_ediv, wrap_u64_nat, Nat.mod_eq_of_lt (Nat.lt_of_le_of_lt (Nat.div_le_self _ _) HX.out)]
          have HV := Lib.hid (show Value.int .u8 (((x / 256 ^ (j - k - 1) : Nat) : Int) % 256) = vb (UInt8.ofNat (x / 256 ^ (j - 1 - k))) from by
            rw [show j - 1 - k = j - k - 1 by omega]
            unfold vb; simp)
          generalize x / 256 ^ (j - k - 1) = q at *
          generalize 256 ^ (j - k - 1) = y at *
          clear hp
          go_wp2_with (at_builtin; refine wpList_appB rfl (.tmp 23) (.tmp 29) rfl w.heap.size A' k c' (beK j x k) (some ⟨w1.heap.size, 0, none⟩) 1 1 [UInt8.ofNat (x / 256 ^ (j - 1 - k))] rfl rfl (OwnB.alloc ho _) (RdB.one w1 _ _ HV.out _) (by omega) (by have := hb.size; simp; omega) ?_; intro A2 c2 w2 ho2 hb2)
          go_roundg (g1 - 1)
          case measure => omega
          case rel => exact ⟨k + 1, A2, c2, by omega, by omega, by go_num, rfl, by rw [HK.out]; exact ho2, (hb.alloc hb.size _).trans hb2⟩
    · obtain rfl : k = n := by omega
      go_wp2
      go_ret
      exact ⟨A', c', rfl, ho, hb⟩
end Go.Proofs.Ytdmfbmpllfkcaaa
