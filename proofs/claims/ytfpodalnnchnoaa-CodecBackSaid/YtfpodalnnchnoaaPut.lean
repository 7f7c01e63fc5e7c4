/- octet.put at three widths, and Put16, Put32, Put64: the bytes of a number behind bytes, in new memory. Conditions: the slice reads as these bytes, its length within what a row lets in; the number is within its kind. -/
import Derived.Test.YtfpodalnnchnoaaStore
namespace Go.Proofs.Ytfpodalnnchnoaa
open Go.RowKit
/-- the bytes of a number, the highest first -/
def beB (b x : Nat) : List UInt8 := (List.range b).map fun k => UInt8.ofNat (x / 256 ^ (b - 1 - k))
def beK (b x k : Nat) : List UInt8 := (List.range k).map fun k => UInt8.ofNat (x / 256 ^ (b - 1 - k))
theorem beK_succ (b x k : Nat) : beK b x (k + 1) = beK b x k ++ [UInt8.ofNat (x / 256 ^ (b - 1 - k))] := by simp [beK, List.range_succ]
theorem beB_len (b x : Nat) : (beB b x).length = b := by simp [beB]
theorem rep_bytes (k : Nat) : ((List.replicate k (0 : UInt8)).map vb).toArray = Array.replicate k (vb 0) := by simp
theorem made_bytes (k : Nat) : madeCells (Value.int .u8 0).cells (k * 1) = Array.replicate k (vb 0) := by
  rw [← rep_bytes]
  apply Array.ext'
  have : (Value.int .u8 0).cells = #[Value.int .u8 0] := rfl
  rw [this, Nat.mul_one, toList_madeCells_one]
  simp [vb]
/-- make([]byte, n, c) -/
theorem run_makeBc (n c : Nat) (hnc : n ≤ c) (hk : c ≤ 140737488355328) (W : World) : (Instr.makeSlice 29 (.int .i64 (n : Int)) (.int .i64 (c : Int))).run Try.prog W = .ok (.slice (some ⟨W.heap.size, 0, none⟩) n c) (W.alloc (.cells (Array.replicate c (vb 0)) 5)) := by
  obtain ⟨i0, hi0, hz0, hz1, hz2⟩ := info_parts Try.byteInfo
  have := run_make_rowN (P := Try.prog) 29 5 i0 _ Try.underlying29 hi0 hz0 .i64 .i64 n c hnc (by rw [hz2]; omega) (by omega) W
  rw [hz1, made_bytes] at this
  exact this
theorem OwnB.made (W : World) (n c : Nat) (hnc : n ≤ c) (hc : c ≤ 140737488355328) : OwnB (W.alloc (.cells (Array.replicate c (vb 0)) 5)) W.heap.size (some ⟨W.heap.size, 0, none⟩) n c (List.replicate n 0) := by
  refine ⟨by simp, .inr ⟨W.heap.size, c, Array.replicate c (vb 0), rfl, Nat.le_refl _, heap_alloc_new W _, hnc, by unfold maxLen; omega, by simp, ?_⟩⟩
  simp [List.take_replicate, Nat.min_eq_left hnc]
set_option maxRecDepth 100000 in
set_option maxHeartbeats 1000000 in
theorem put16_any (A : Option Addr) (n c : Nat) (bs : List UInt8) (x b : Nat) (w : World) (h : RdB w A n bs) (hn : n ≤ 140737488351232) (hx : x < 2 ^ 16) (hb0 : 1 ≤ b) (hb : b ≤ 8) :
    Calls Try.prog 41 #[.slice A n c, .int .u16 (x : Nat), .int .i64 (b : Nat)] w fun e w' => ∃ A' c', e = .returned (.slice A' (n + b) c') ∧ OwnB w' w.heap.size A' (n + b) c' (bs ++ beB b x) ∧ Below w.heap.size w w' := by
  have hmk : ∀ W, (Instr.makeSlice 29 (.int .i64 0) (.int .i64 ((n : Int) + (b : Int)))).run Try.prog W = .ok (.slice (some ⟨W.heap.size, 0, none⟩) 0 (n + b)) (W.alloc (.cells (Array.replicate (n + b) (vb 0)) 5)) := fun W => run_makeBc 0 (n + b) (by omega) (by omega) W
  have ho := OwnB.made w 0 (n + b) (by omega) (by omega)
  have h0 := RdB.alloc h (.cells (Array.replicate (n + b) (vb 0)) 5)
  have b0 : Below w.heap.size w (w.alloc (.cells (Array.replicate (n + b) (vb 0)) 5)) := (Below.refl _ _).alloc (Nat.le_refl _) _
  have hxw : IntKind.u64.wrap (x : Int) = (x : Int) := by
    have h1 : (x : Int) < 2 ^ 16 := by exact_mod_cast hx
    simp only [IntKind.wrap, IntKind.bits, IntKind.signed]
    simp
    omega
  clear h hx
  go_enter Try.func41, Try.ntmps41
  go_wp2_with (at_builtin; refine wpList_appB rfl (.tmp 14) (.tmp 15) rfl w.heap.size (some ⟨w.heap.size, 0, none⟩) 0 (n + b) [] A n c bs rfl rfl ho h0 (by omega) (by simp) ?_; intro A1 c1 w1 ho1 hb1; rw [Nat.zero_add, List.nil_append] at ho1)
  have b1 := b0.trans hb1
  clear b0 hb1 ho h0 hmk
  go_loopg [7, 18] b (fun g v s wr => ∃ (k : Nat) (A' : Option Addr) (c' : Nat), k + g ≤ b ∧ b ≤ k + g ∧ s = .int .i64 k ∧ v = .slice A' (n + k) c' ∧ OwnB wr w.heap.size A' (n + k) c' (bs ++ beK b x k) ∧ Below w.heap.size w wr)
  case atStart => exact ⟨0, A1, c1, by omega, by omega, rfl, by simp, by simpa [beK] using ho1, b1⟩
  case round =>
    clear ho1 b1
    obtain ⟨k, A', c', h1, h2, rfl, rfl, ho, hbl⟩ := hrel
    by_cases hk : k < b
    · have hs : ((8 * ((b : Int) - (k : Int))) - 8).toNat = 8 * (b - 1 - k) := by omega
      have HK := Lib.hid (beK_succ b x k)
      have HV := Lib.hid (show Value.int .u8 ((x : Int) / 2 ^ (8 * (b - 1 - k)) % 256) = vb (UInt8.ofNat (x / 256 ^ (b - 1 - k))) from by
        rw [show ((x : Int) / 2 ^ (8 * (b - 1 - k))) = ((x / 256 ^ (b - 1 - k) : Nat) : Int) from by
          rw [show (256 : Nat) = 2 ^ 8 by decide, ← Nat.pow_mul, Int.natCast_ediv]; simp]
        unfold vb; simp)
      have hs1 : 0 ≤ (8 * ((b : Int) - (k : Int))) - 8 := by omega
      have hs2 : (8 * ((b : Int) - (k : Int))) - 8 ≤ 64 := by omega
      go_wp2_with (at_builtin; refine wpList_appB rfl (.tmp 21) (.tmp 31) rfl w.heap.size A' (n + k) c' (bs ++ beK b x k) (some ⟨wr.heap.size, 0, none⟩) 1 1 [UInt8.ofNat (x / 256 ^ (b - 1 - k))] rfl rfl (OwnB.alloc ho _) (RdB.one wr _ _ HV.out _) (by omega) (by have := hbl.size; simp; omega) ?_; intro A2 c2 w2 ho2 hb2)
      go_roundg (gk - 1)
      case measure => omega
      case rel =>
        refine ⟨k + 1, A2, c2, by omega, by omega, by go_num, rfl, ?_, (hbl.alloc hbl.size _).trans hb2⟩
        rw [HK.out, ← List.append_assoc]; exact ho2
    · obtain rfl : k = b := by omega
      go_wp2
      go_ret
      exact ⟨A', c', rfl, ho, hbl⟩
set_option maxHeartbeats 1000000 in
theorem Put16_any (A : Option Addr) (n c : Nat) (bs : List UInt8) (x : Nat) (w : World) (h : RdB w A n bs) (hn : n ≤ 140737488351232) (hx : x < 2 ^ 16) :
    Calls Try.prog 30 #[.slice A n c, .int .u16 (x : Nat)] w fun e w' => ∃ A' c', e = .returned (.slice A' (n + 2) c') ∧ OwnB w' w.heap.size A' (n + 2) c' (bs ++ beB 2 x) ∧ Below w.heap.size w w' := by
  have Hx := Lib.hid hx
  clear hx
  go_enter Try.func30, Try.ntmps30
  go_wp2_with fail
  refine (put16_any A n c bs x 2 w h hn Hx.out (by omega) (by omega)).mono ?_
  rintro e w1 ⟨A1, c1, rfl, ho1, hb1⟩
  go_wp2
  go_ret
  exact ⟨A1, c1, rfl, ho1, hb1⟩
set_option maxRecDepth 100000 in
set_option maxHeartbeats 1000000 in
theorem put64_any (A : Option Addr) (n c : Nat) (bs : List UInt8) (x b : Nat) (w : World) (h : RdB w A n bs) (hn : n ≤ 140737488351232) (hx : x < 2 ^ 64) (hb0 : 1 ≤ b) (hb : b ≤ 8) :
    Calls Try.prog 40 #[.slice A n c, .int .u64 (x : Nat), .int .i64 (b : Nat)] w fun e w' => ∃ A' c', e = .returned (.slice A' (n + b) c') ∧ OwnB w' w.heap.size A' (n + b) c' (bs ++ beB b x) ∧ Below w.heap.size w w' := by
  have hmk : ∀ W, (Instr.makeSlice 29 (.int .i64 0) (.int .i64 ((n : Int) + (b : Int)))).run Try.prog W = .ok (.slice (some ⟨W.heap.size, 0, none⟩) 0 (n + b)) (W.alloc (.cells (Array.replicate (n + b) (vb 0)) 5)) := fun W => run_makeBc 0 (n + b) (by omega) (by omega) W
  have ho := OwnB.made w 0 (n + b) (by omega) (by omega)
  have h0 := RdB.alloc h (.cells (Array.replicate (n + b) (vb 0)) 5)
  have b0 : Below w.heap.size w (w.alloc (.cells (Array.replicate (n + b) (vb 0)) 5)) := (Below.refl _ _).alloc (Nat.le_refl _) _
  have hxw : IntKind.u64.wrap (x : Int) = (x : Int) := by
    have h1 : (x : Int) < 2 ^ 64 := by exact_mod_cast hx
    simp only [IntKind.wrap, IntKind.bits, IntKind.signed]
    simp
    omega
  clear h hx
  go_enter Try.func40, Try.ntmps40
  go_wp2_with (at_builtin; refine wpList_appB rfl (.tmp 14) (.tmp 15) rfl w.heap.size (some ⟨w.heap.size, 0, none⟩) 0 (n + b) [] A n c bs rfl rfl ho h0 (by omega) (by simp) ?_; intro A1 c1 w1 ho1 hb1; rw [Nat.zero_add, List.nil_append] at ho1)
  have b1 := b0.trans hb1
  clear b0 hb1 ho h0 hmk
  go_loopg [7, 18] b (fun g v s wr => ∃ (k : Nat) (A' : Option Addr) (c' : Nat), k + g ≤ b ∧ b ≤ k + g ∧ s = .int .i64 k ∧ v = .slice A' (n + k) c' ∧ OwnB wr w.heap.size A' (n + k) c' (bs ++ beK b x k) ∧ Below w.heap.size w wr)
  case atStart => exact ⟨0, A1, c1, by omega, by omega, rfl, by simp, by simpa [beK] using ho1, b1⟩
  case round =>
    clear ho1 b1
    obtain ⟨k, A', c', h1, h2, rfl, rfl, ho, hbl⟩ := hrel
    by_cases hk : k < b
    · have hs : ((8 * ((b : Int) - (k : Int))) - 8).toNat = 8 * (b - 1 - k) := by omega
      have HK := Lib.hid (beK_succ b x k)
      have HV := Lib.hid (show Value.int .u8 ((x : Int) / 2 ^ (8 * (b - 1 - k)) % 256) = vb (UInt8.ofNat (x / 256 ^ (b - 1 - k))) from by
        rw [show ((x : Int) / 2 ^ (8 * (b - 1 - k))) = ((x / 256 ^ (b - 1 - k) : Nat) : Int) from by
          rw [show (256 : Nat) = 2 ^ 8 by decide, ← Nat.pow_mul, Int.natCast_ediv]; simp]
        unfold vb; simp)
      have hs1 : 0 ≤ (8 * ((b : Int) - (k : Int))) - 8 := by omega
      have hs2 : (8 * ((b : Int) - (k : Int))) - 8 ≤ 64 := by omega
      go_wp2_with (at_builtin; refine wpList_appB rfl (.tmp 21) (.tmp 30) rfl w.heap.size A' (n + k) c' (bs ++ beK b x k) (some ⟨wr.heap.size, 0, none⟩) 1 1 [UInt8.ofNat (x / 256 ^ (b - 1 - k))] rfl rfl (OwnB.alloc ho _) (RdB.one wr _ _ HV.out _) (by omega) (by have := hbl.size; simp; omega) ?_; intro A2 c2 w2 ho2 hb2)
      go_roundg (gk - 1)
      case measure => omega
      case rel =>
        refine ⟨k + 1, A2, c2, by omega, by omega, by go_num, rfl, ?_, (hbl.alloc hbl.size _).trans hb2⟩
        rw [HK.out, ← List.append_assoc]; exact ho2
    · obtain rfl : k = b := by omega
      go_wp2
      go_ret
      exact ⟨A', c', rfl, ho, hbl⟩
set_option maxHeartbeats 1000000 in
theorem Put64_any (A : Option Addr) (n c : Nat) (bs : List UInt8) (x : Nat) (w : World) (h : RdB w A n bs) (hn : n ≤ 140737488351232) (hx : x < 2 ^ 64) :
    Calls Try.prog 27 #[.slice A n c, .int .u64 (x : Nat)] w fun e w' => ∃ A' c', e = .returned (.slice A' (n + 8) c') ∧ OwnB w' w.heap.size A' (n + 8) c' (bs ++ beB 8 x) ∧ Below w.heap.size w w' := by
  have Hx := Lib.hid hx
  clear hx
  go_enter Try.func27, Try.ntmps27
  go_wp2_with fail
  refine (put64_any A n c bs x 8 w h hn Hx.out (by omega) (by omega)).mono ?_
  rintro e w1 ⟨A1, c1, rfl, ho1, hb1⟩
  go_wp2
  go_ret
  exact ⟨A1, c1, rfl, ho1, hb1⟩
end Go.Proofs.Ytfpodalnnchnoaa
