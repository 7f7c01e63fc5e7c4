/- bowspritref01.Same compares two rows of bytes. Conditions: the slices read as these bytes. -/
import Derived.Test.YtdmfbmpllfkcaaaBytes
namespace Go.Proofs.Ytdmfbmpllfkcaaa
open Go.RowKit
theorem vb_eq (a b : UInt8) : ((a.toNat : Int) != (b.toNat : Int)) = (a != b) := by
  rw [Bool.eq_iff_iff, bne_iff_ne, bne_iff_ne]
  constructor
  · intro h e; subst e; exact h rfl
  · intro h e; exact h (UInt8.toNat_inj.1 (by omega))
theorem same_step (xs ys : List UInt8) (h : xs.length = ys.length) (k : Nat) (hk : k < xs.length) (hp : xs.take k = ys.take k) :
    (xs.getD k 0 = ys.getD k 0 → xs.take (k + 1) = ys.take (k + 1)) ∧ (xs.getD k 0 ≠ ys.getD k 0 → (xs == ys) = false) := by
  have hk2 : k < ys.length := by omega
  constructor
  · intro e
    rw [List.take_succ_eq_append_getElem hk, List.take_succ_eq_append_getElem hk2, hp]
    simp only [List.getD, List.getElem?_eq_getElem hk, List.getElem?_eq_getElem hk2, Option.getD_some] at e
    rw [e]
  · intro e
    rw [beq_eq_false_iff_ne]
    rintro rfl
    exact e rfl
set_option maxHeartbeats 1000000 in
theorem same_any (A B : Option Addr) (n c m d : Nat) (xs ys : List UInt8) (w : World) (ha : RdB w A n xs) (hb : RdB w B m ys) (hn : n ≤ 140737488351232) :
    Calls Try.prog 18 #[.slice A n c, .slice B m d] w fun e w' => e = .returned (.bool (xs == ys)) ∧ ∃ q, w' = w.drewN q := by
  have hla := ha.len
  have hlb := hb.len
  by_cases hnm : n = m
  · subst hnm
    have hne : ((n : Int) != (n : Int)) = false := by simp
    have HL := Lib.hid (show xs.length = ys.length from by omega)
    have HA := Lib.hid hla
    clear hla hlb
    go_enter Try.func18, Try.ntmps18
    go_wp2
    go_loopg [5] n (fun g s wr => ∃ k q : Nat, k + g ≤ n ∧ n ≤ k + g ∧ s = .int .i64 k ∧ xs.take k = ys.take k ∧ wr = w.drewN q)
    case atStart => exact ⟨0, 0, by omega, by omega, rfl, rfl, rfl⟩
    case round =>
      obtain ⟨k, q, h1, h2, rfl, hp, rfl⟩ := hrel
      have HP := Lib.hid hp
      clear hp
      by_cases hk : k < n
      · obtain ⟨ad, rfl, _, hc1⟩ := ha.cellAt k hk
        obtain ⟨ad2, rfl, _, hc2⟩ := hb.cellAt k hk
        have hst := Lib.hid (same_step xs ys HL.out k (by rw [HA.out]; exact hk) HP.out)
        generalize xs.getD k 0 = x at *
        generalize ys.getD k 0 = y at *
        have hc1' : ∀ j, (w.drewN j).cell? (ad.add k) = some (.int .u8 (x.toNat : Int)) := fun _ => hc1
        have hc2' : ∀ j, (w.drewN j).cell? (ad2.add k) = some (.int .u8 (y.toNat : Int)) := fun _ => hc2
        clear ha hb hc1 hc2
        by_cases hxy : x = y
        · have hve : ((x.toNat : Int) != (y.toNat : Int)) = false := by rw [vb_eq, hxy]; simp
          have HXY := Lib.hid hxy
          clear hxy
          go_wp2
          go_quiet (fail)
          go_wp2
          go_roundg (gk - 1)
          case measure => omega
          case rel => exact ⟨k + 1, _, by omega, by omega, by go_num, hst.out.1 HXY.out, by first | rfl | exact World.drewN_drewN _ _ _⟩
        · have hve : ((x.toNat : Int) != (y.toNat : Int)) = true := by rw [vb_eq, bne_iff_ne]; exact hxy
          have HXY := Lib.hid hxy
          clear hxy
          go_wp2
          go_quiet (fail)
          go_wp2
          go_ret
          exact ⟨by rw [hst.out.2 HXY.out]; rfl, _, by first | rfl | exact World.drewN_drewN _ _ _⟩
      · obtain rfl : k = n := by omega
        have HE := Lib.hid (show (xs == ys) = true from by
          have := HP.out
          rw [List.take_of_length_le (by rw [HA.out]; exact Nat.le_refl _), List.take_of_length_le (by rw [← HL.out, HA.out]; exact Nat.le_refl _)] at this
          rw [this]; exact beq_self_eq_true _)
        clear ha hb
        go_wp2
        go_ret
        exact ⟨by rw [HE.out]; rfl, q, rfl⟩
  · have hne : ((n : Int) != (m : Int)) = true := by rw [bne_iff_ne]; omega
    have hf : (xs == ys) = false := by rw [beq_eq_false_iff_ne]; rintro rfl; omega
    have HF := Lib.hid hf
    clear hf hla hlb ha hb
    go_enter Try.func18, Try.ntmps18
    go_wp2
    go_ret
    exact ⟨by rw [HF.out]; rfl, 0, rfl⟩
end Go.Proofs.Ytdmfbmpllfkcaaa
