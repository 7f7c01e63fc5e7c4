/- bowspritref01.Weighs answers what the bytes weigh together. Conditions: the slice reads as these bytes, its length within what a row lets in. -/
import Derived.Test.YtdmfbmpllfkcaaaWakes1
namespace Go.Proofs.Ytdmfbmpllfkcaaa
open Go.RowKit
/-- the weight of the first k bytes of n, as they stand among them -/
def wK (bs : List UInt8) (k : Nat) : Nat := (val (bs.take k) * 256 ^ (bs.length - k)) % M64
theorem wK_zero (bs : List UInt8) : wK bs 0 = 0 := by simp [wK, val]
theorem wK_all (bs : List UInt8) : wK bs bs.length = wv bs := by simp [wK, wv]
theorem wK_succ (bs : List UInt8) (k : Nat) (h : k < bs.length) : wK bs (k + 1) = (wK bs k + ((bs.getD k 0).toNat * 256 ^ (bs.length - k - 1)) % M64) % M64 := by
  unfold wK
  rw [List.take_succ_eq_append_getElem h, val_snoc, show bs.length - k = (bs.length - (k + 1)) + 1 by omega, Nat.pow_succ, show bs.length - (k + 1) + 1 - 1 = bs.length - (k + 1) by omega]
  rw [← Nat.add_mod]
  congr 1
  simp only [List.getD, List.getElem?_eq_getElem h, Option.getD_some]
  rw [Nat.add_mul, Nat.mul_assoc, Nat.mul_comm (256 ^ (bs.length - (k + 1))) 256, Nat.mul_comm 256 (256 ^ (bs.length - (k + 1)))]
theorem ret_intO {k : IntKind} {a b : Int} (h : a = b) : Ending.returned (.int k a) = .returned (.int k b) := by rw [h]
set_option maxRecDepth 100000 in
set_option maxHeartbeats 1000000 in
theorem refweighs_any (A : Option Addr) (n c : Nat) (bs : List UInt8) (w : World) (h : RdB w A n bs) (hn : n ≤ 140737488351232) :
    Calls Try.prog 40 #[.slice A n c] w fun e w' => e = .returned (.int .u64 (wv bs : Nat)) ∧ w = w' := by
  have Hlen := Lib.hid h.len
  go_enter Try.func40, Try.ntmps40
  go_wp2
  go_loopg [3, 4] n (fun g r s wr => ∃ k : Nat, k + g ≤ n ∧ n ≤ k + g ∧ s = .int .i64 k ∧ r = .int .u64 (wK bs k : Nat) ∧ w = wr)
  case atStart => exact ⟨0, by omega, by omega, rfl, by rw [wK_zero]; rfl, rfl⟩
  case round =>
    obtain ⟨k, h1, h2, rfl, rfl, rfl⟩ := hrel
    obtain ⟨g1, rfl⟩ : ∃ g1, g1 = gk := ⟨_, rfl⟩
    by_cases hk : k < n
    · obtain ⟨ad, rfl, _, hc⟩ := h.cellAt k hk
      have HK := Lib.hid (wK_succ bs k (by rw [Hlen.out]; exact hk))
      generalize bs.getD k 0 = x at *
      generalize wK bs k = r0 at *
      have hc' : w.cell? (ad.add k) = some (.int .u8 (x.toNat : Int)) := hc
      have hxw : IntKind.u64.wrap (x.toNat : Int) = (x.toNat : Int) := by
        have := x.toNat_lt
        simp only [IntKind.wrap, IntKind.bits, IntKind.signed]; simp; omega
      clear h hc
      go_wp2
      go_loopg [5, 6] n (fun g y s wr => ∃ j : Nat, j ≤ n ∧ n ≤ j + g ∧ k + 1 ≤ j ∧ s = .int .i64 j ∧ y = .int .u64 ((x.toNat * 256 ^ (j - k - 1)) % M64 : Nat) ∧ w = wr)
      case atStart =>
        refine ⟨k + 1, by omega, by omega, by omega, by go_num, ?_, rfl⟩
        have := x.toNat_lt
        have e : (x.toNat * 256 ^ (k + 1 - k - 1)) % M64 = x.toNat := by
          rw [show k + 1 - k - 1 = 0 by omega, Nat.pow_zero, Nat.mul_one]
          exact Nat.mod_eq_of_lt (by unfold M64; omega)
        rw [e]
      case round =>
        obtain ⟨j, h3, h4, h5, rfl, rfl, rfl⟩ := hrel
        by_cases hj : j < n
        · have HJ := Lib.hid (show IntKind.u64.wrap (((x.toNat * 256 ^ (j - k - 1)) % M64 : Nat) * 256 : Int) = (((x.toNat * 256 ^ (j + 1 - k - 1)) % M64 : Nat) : Int) from by
            have e : ((((x.toNat * 256 ^ (j - k - 1)) % M64 : Nat) : Int) * 256) = ((((x.toNat * 256 ^ (j - k - 1)) % M64) * 256 : Nat) : Int) := by simp
            rw [e, wrap_u64_nat, Nat.mod_mul_mod, show j + 1 - k - 1 = (j - k - 1) + 1 by omega, Nat.pow_succ, Nat.mul_assoc])
          generalize (x.toNat * 256 ^ (j - k - 1)) % M64 = y at *
          go_wp2
          go_roundg (gk - 1)
          case measure => omega
          case rel => exact ⟨j + 1, by omega, by omega, by omega, by go_num, by rw [← HJ.out], rfl⟩
        · obtain rfl : j = n := by omega
          have HN := Lib.hid (show IntKind.u64.wrap ((r0 : Int) + (((x.toNat * 256 ^ (j - k - 1)) % M64 : Nat) : Int)) = ((wK bs (k + 1) : Nat) : Int) from by
            rw [HK.out, Hlen.out, ← Int.natCast_add, wrap_u64_nat])
          generalize (x.toNat * 256 ^ (j - k - 1)) % M64 = y at *
          go_wp2
          go_roundg (g1 - 1)
          case measure => omega
          case rel => exact ⟨k + 1, by omega, by omega, by go_num, by rw [← HN.out], rfl⟩
    · obtain rfl : k = n := by omega
      have HW := Lib.hid (wK_all bs)
      generalize hw : wK bs k = r at *
      have HWk := Lib.hid hw
      clear h hw
      go_wp2
      go_ret
      exact ⟨ret_intO (by rw [← HW.out, Hlen.out, HWk.out]), rfl⟩
end Go.Proofs.Ytdmfbmpllfkcaaa
