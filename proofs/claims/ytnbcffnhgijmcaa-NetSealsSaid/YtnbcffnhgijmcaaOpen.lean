/- sum.Open32, sum.Apart, sum.Spread, and the references Seal and Opens. Conditions: the slices read as these bytes, lengths within what a row lets in. -/
import Derived.Test.YtnbcffnhgijmcaaSeal
namespace Go.Proofs.Ytnbcffnhgijmcaa
open Go.RowKit
theorem sealed_len (bs : List UInt8) : (sealed bs).length = bs.length + 4 := by simp [sealed, leB_len]
/-- is it sealed? -/
def opens (bs : List UInt8) : Bool := decide (4 ≤ bs.length) && (sealed (bs.take (bs.length - 4)) == bs)
/-- what Open32 hands back. -/
def opened (bs : List UInt8) : List UInt8 := if opens bs then bs.take (bs.length - 4) else []
def openErr (bs : List UInt8) : Int := if bs.length < 4 then 7 else if opens bs then 0 else 130
set_option maxRecDepth 100000 in
set_option maxHeartbeats 1000000 in
theorem open_any (A : Option Addr) (n c : Nat) (bs : List UInt8) (w : World) (h : RdB w A n bs) (hn : n ≤ 140737488351232) (hc : n ≤ c) :
    Calls Try.prog 40 #[.slice A n c] w fun e w' => ∃ A' n' c', e = .returned (.tuple #[.slice A' n' c', .int .i64 (openErr bs)]) ∧ OwnB w' w.heap.size A' n' c' (opened bs) ∧ Below w.heap.size w w' := by
  have hlen := h.len
  by_cases h4 : n < 4
  · have hO : openErr bs = 7 := by unfold openErr; rw [if_pos (by omega)]
    have hP : opened bs = [] := by
      unfold opened; rw [if_neg]; unfold opens; rw [decide_eq_false (by omega)]; simp
    rw [hO, hP]
    clear hO hP hlen h
    go_enter Try.func40, Try.ntmps40
    go_wp2
    go_ret2
    exact ⟨none, 0, 0, rfl, OwnB.none_ _ _, Below.refl _ _⟩
  · obtain ⟨m, rfl⟩ : ∃ m, n = m + 4 := ⟨n - 4, by omega⟩
    have HL := Lib.hid hlen
    have ht : RdB w A m (bs.take m) := h.take (by omega)
    clear hlen
    go_enter Try.func40, Try.ntmps40
    go_wp2_with fail
    refine (bclone_any A m m (bs.take m) w ht (by omega)).mono ?_
    rintro e w1 ⟨A1, c1, rfl, ho1, hb1⟩
    go_wp2_with fail
    refine (seal_any A1 m c1 (bs.take m) w1 ho1.rd (by omega)).mono ?_
    rintro e w2 ⟨A2, c2, rfl, ho2, hb2⟩
    have h2 := RdB.below (RdB.below h hb1) hb2
    have hbel := hb1.trans (hb2.mono hb1.size)
    have ho1' := ho1.below hb2
    go_wp2_with fail
    refine (equal_any A2 A (m + 4) c2 (m + 4) c (sealed (bs.take m)) bs w2 ho2.rd h2).mono ?_
    rintro e w3 ⟨rfl, rfl⟩
    have hOp : opens bs = (sealed (bs.take m) == bs) := by
      unfold opens
      rw [decide_eq_true (by rw [HL.out]; omega), Bool.true_and, show bs.length - 4 = m from by rw [HL.out]; omega]
    cases hq : (sealed (bs.take m) == bs)
    · have hO : openErr bs = 130 := by unfold openErr; rw [if_neg (by rw [HL.out]; omega), hOp, hq]; rfl
      have hP : opened bs = [] := by unfold opened; rw [hOp, hq]; rfl
      have HO := Lib.hid hO
      have HP := Lib.hid hP
      clear hO hP hOp hq
      go_wp2
      go_ret2
      exact ⟨none, 0, 0, by rw [HO.out]; rfl, by rw [HP.out]; exact OwnB.none_ _ _, hbel⟩
    · have hO : openErr bs = 0 := by unfold openErr; rw [if_neg (by rw [HL.out]; omega), hOp, hq]; rfl
      have hP : opened bs = bs.take m := by unfold opened; rw [hOp, hq, show bs.length - 4 = m from by rw [HL.out]; omega]; rfl
      have HO := Lib.hid hO
      have HP := Lib.hid hP
      clear hO hP hOp hq
      go_wp2
      go_ret2
      exact ⟨A1, m, c1, by rw [HO.out]; rfl, by rw [HP.out]; exact ho1', hbel⟩
end Go.Proofs.Ytnbcffnhgijmcaa
