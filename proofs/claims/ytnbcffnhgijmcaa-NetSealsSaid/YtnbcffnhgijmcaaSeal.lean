/- sum.Seal32 lays the checksum behind the bytes, in new memory. Conditions: the slice reads as these bytes, its length within what a row lets in. -/
import Derived.Test.YtnbcffnhgijmcaaSum32
import Derived.Test.YtnbcffnhgijmcaaNClone
namespace Go.Proofs.Ytnbcffnhgijmcaa
open Go.RowKit
/-- the lowest j bytes of a number, the lowest first -/
def leB (j s : Nat) : List UInt8 := (List.range j).map fun i => UInt8.ofNat (s / 256 ^ i)
theorem leB_succ (j s : Nat) : leB (j + 1) s = leB j s ++ [UInt8.ofNat (s / 256 ^ j)] := by simp [leB, List.range_succ]
theorem leB_len (j s : Nat) : (leB j s).length = j := by simp [leB]
def sealed (bs : List UInt8) : List UInt8 := bs ++ leB 4 (Crc.sum bs)
theorem vb_wrap (m : Nat) : Value.int .u8 (IntKind.u8.wrap (m : Int)) = vb (UInt8.ofNat m) := by
  unfold vb
  simp [IntKind.wrap, IntKind.bits, IntKind.signed]
theorem vb_mod (m : Nat) : Value.int .u8 ((m : Int) % 256) = vb (UInt8.ofNat m) := by
  unfold vb
  simp
set_option maxRecDepth 100000 in
set_option maxHeartbeats 1000000 in
theorem seal_any (A : Option Addr) (n c : Nat) (bs : List UInt8) (w : World) (h : RdB w A n bs) (hn : n ≤ 140737488351232) :
    Calls Try.prog 38 #[.slice A n c] w fun e w' => ∃ A' c', e = .returned (.slice A' (n + 4) c') ∧ OwnB w' w.heap.size A' (n + 4) c' (sealed bs) ∧ Below w.heap.size w w' := by
  have hs := Crc.sum_lt bs
  go_enter Try.func38, Try.ntmps38
  go_wp2_with fail
  refine (sum32_any A n c bs w h hn).mono ?_
  rintro e w1 ⟨rfl, hb1⟩
  have h1 := RdB.below h hb1
  clear h
  go_wp2_with fail
  refine (bclone_any A n c bs w1 h1 hn).mono ?_
  rintro e w2 ⟨A2, c2, rfl, ho2, hb2⟩
  have ho3 := ho2.less hb1.size
  have hb3 := hb1.trans (hb2.mono hb1.size)
  clear ho2 hb2 h1 hb1
  obtain ⟨s, hs'⟩ : ∃ s, s = Crc.sum bs := ⟨_, rfl⟩
  rw [← hs'] at hs ⊢
  have HS := Lib.hid hs'
  clear hs'
  go_wp2
  go_loopg [3, 4, 9] 4 (fun g x v k wr => ∃ (j : Nat) (A' : Option Addr) (c' : Nat), j + g ≤ 4 ∧ 4 ≤ j + g ∧ k = .int .i64 j ∧ x = .int .u32 (s / 256 ^ j : Nat) ∧ v = .slice A' (n + j) c' ∧ OwnB wr w.heap.size A' (n + j) c' (bs ++ leB j s) ∧ Below w.heap.size w wr)
  case atStart => exact ⟨0, A2, c2, by omega, by omega, rfl, by simp, rfl, by simpa [leB] using ho3, hb3⟩
  case round =>
    clear ho3 hb3
    obtain ⟨j, A', c', h3, h4, rfl, rfl, rfl, ho, hb⟩ := hrel
    have hd : s / 256 ^ j ≤ s := Nat.div_le_self _ _
    by_cases hj : j < 4
    · have HD := Lib.hid (show s / 256 ^ (j + 1) = s / 256 ^ j / 256 from by rw [Nat.pow_succ, Nat.div_div_eq_div_mul])
      have HL := Lib.hid (leB_succ j s)
      generalize s / 256 ^ j = x at *
      go_wp2_with (at_builtin; refine wpList_appB rfl (.tmp 11) (.tmp 14) rfl w.heap.size A' (n + j) c' (bs ++ leB j s) (some ⟨wr.heap.size, 0, none⟩) 1 1 [UInt8.ofNat x] rfl rfl (OwnB.alloc ho _) (RdB.one wr _ _ (vb_wrap x) _) (by omega) (by have := hb.size; simp; omega) ?_; intro A1 c1 w1 ho1 hb1)
      go_roundg (gk - 1)
      case measure => omega
      case rel =>
        refine ⟨j + 1, A1, c1, by omega, by omega, by go_num, ?_, rfl, ?_, (hb.alloc hb.size _).trans hb1⟩
        · rw [HD.out]; go_num
        · rw [HL.out, ← List.append_assoc]; exact ho1
    · obtain rfl : j = 4 := by omega
      go_wp2
      go_ret
      exact ⟨A', c', rfl, by unfold sealed; rw [← HS.out]; exact ho, hb⟩
end Go.Proofs.Ytnbcffnhgijmcaa
