/- (*Reader).U8, U16, U32, U64, Peek, and what they answer of no reader. Conditions: the reader lies at a block of its own. -/
import Derived.Test.YtfpodalnnchnoaaRaw
namespace Go.Proofs.Ytfpodalnnchnoaa
open Go.RowKit
theorem val_lt (l : List UInt8) : val l < 256 ^ l.length := by
  have : ∀ (l : List UInt8) (a : Nat), l.foldl (fun a c => a * 256 + c.toNat) a < (a + 1) * 256 ^ l.length := by
    intro l
    induction l with
    | nil => intro a; simp
    | cons x l ih =>
      intro a
      have hx := x.toNat_lt
      refine Nat.lt_of_lt_of_le (ih _) ?_
      rw [List.length_cons, Nat.pow_succ, Nat.mul_comm (256 ^ l.length) 256, ← Nat.mul_assoc]
      exact Nat.mul_le_mul_right _ (show (a * 256 + x.toNat) + 1 ≤ (a + 1) * 256 by omega)
  have := this l 0
  simpa [val] using this
theorem rdO_len (bs : List UInt8) (p : Nat) (why : Int) (k : Nat) : (rdO bs p why (k : Int)).length ≤ k := by
  unfold rdO
  split
  · exact List.length_take_le _ _
  · simp
theorem wv_bound (bs : List UInt8) (p : Nat) (why : Int) (k : Nat) (_hk : k ≤ 8) : wv (rdO bs p why (k : Int)) < 256 ^ k := by
  have h1 := val_lt (rdO bs p why (k : Int))
  have h2 : 256 ^ (rdO bs p why (k : Int)).length ≤ 256 ^ k := Nat.pow_le_pow_right (by decide) (rdO_len bs p why k)
  unfold wv
  exact Nat.lt_of_le_of_lt (Nat.mod_le _ _) (by omega)
set_option maxHeartbeats 1000000 in
theorem weighs_nil (m : Int) (w : World) : Calls Try.prog 53 #[.pointer none, .int .i64 m] w fun e w' => e = .returned (.int .u64 0) ∧ Below w.heap.size w w' := by
  have b0 : Below w.heap.size w (w.alloc (.cells #[.int .u64 0] 22)) := (Below.refl _ _).alloc (Nat.le_refl _) _
  have hX := Blk.new w 22 #[.int .u64 0]
  go_enter Try.func53, Try.ntmps53
  go_wp2_with fail
  refine (next_nil m _ _).mono ?_
  rintro e w1 ⟨rfl, rfl⟩
  go_wp2
  refine bodyPost_ret (v := .int .u64 0) (by simp [results, Try.results53, go_sem]) rfl ⟨rfl, ?_⟩
  first | exact b0 | exact b0.setCell (p := ⟨w.heap.size, 0, none⟩) (Nat.le_refl _) _
set_option maxHeartbeats 1000000 in
theorem raw_nil (m : Int) (w : World) : Calls Try.prog 52 #[.pointer none, .int .i64 m] w fun e w' => e = .returned (.slice none 0 0) ∧ Below w.heap.size w w' := by
  have b0 : Below w.heap.size w (w.alloc (.cells #[.slice none 0 0] 29)) := (Below.refl _ _).alloc (Nat.le_refl _) _
  go_enter Try.func52, Try.ntmps52
  go_wp2_with fail
  refine (next_nil m _ _).mono ?_
  rintro e w1 ⟨rfl, rfl⟩
  go_wp2
  refine bodyPost_ret (v := .slice none 0 0) (by simp [results, Try.results52, go_sem]) rfl ⟨rfl, ?_⟩
  first | exact b0 | exact b0.setCell (p := ⟨w.heap.size, 0, none⟩) (Nat.le_refl _) _
set_option maxHeartbeats 1000000 in
theorem u8_any (R : Nat) (O : Option Addr) (n c : Nat) (bs : List UInt8) (p : Nat) (why : Int) (w : World) (h : Rdr w R O n c bs p why) :
    Calls Try.prog 48 #[.pointer (some ⟨R, 0, none⟩)] w fun e w' => e = .returned (.int .u8 (wv (rdO bs p why 1) : Nat)) ∧ Rdr w' R O n c bs (rdP bs p why 1) (rdW bs p why 1) ∧ w.grownBy w' (some R) := by
  have hb : wv (rdO bs p why 1) < 256 := wv_bound bs p why 1 (by decide)
  have hz := Lib.hid hb
  go_enter Try.func48, Try.ntmps48
  go_wp2_with fail
  refine (weighs_any R O n c bs p why 1 w h (by decide)).mono ?_
  rintro e w1 ⟨rfl, hr, hg⟩
  generalize hv : wv (rdO bs p why 1) = v at *
  have HV := Lib.hid hv
  clear hv
  go_wp2
  go_ret
  exact ⟨by rw [HV.out]; rfl, hr, hg⟩
set_option maxHeartbeats 1000000 in
theorem u8_nil (w : World) : Calls Try.prog 48 #[.pointer none] w fun e w' => e = .returned (.int .u8 0) ∧ Below w.heap.size w w' := by
  go_enter Try.func48, Try.ntmps48
  go_wp2_with fail
  refine (weighs_nil 1 w).mono ?_
  rintro e w1 ⟨rfl, hg⟩
  go_wp2
  go_ret
  exact ⟨rfl, hg⟩
set_option maxHeartbeats 1000000 in
theorem u16_any (R : Nat) (O : Option Addr) (n c : Nat) (bs : List UInt8) (p : Nat) (why : Int) (w : World) (h : Rdr w R O n c bs p why) :
    Calls Try.prog 45 #[.pointer (some ⟨R, 0, none⟩)] w fun e w' => e = .returned (.int .u16 (wv (rdO bs p why 2) : Nat)) ∧ Rdr w' R O n c bs (rdP bs p why 2) (rdW bs p why 2) ∧ w.grownBy w' (some R) := by
  have hb : wv (rdO bs p why 2) < 65536 := wv_bound bs p why 2 (by decide)
  have hz := Lib.hid hb
  go_enter Try.func45, Try.ntmps45
  go_wp2_with fail
  refine (weighs_any R O n c bs p why 2 w h (by decide)).mono ?_
  rintro e w1 ⟨rfl, hr, hg⟩
  generalize hv : wv (rdO bs p why 2) = v at *
  have HV := Lib.hid hv
  clear hv
  go_wp2
  go_ret
  exact ⟨by rw [HV.out]; rfl, hr, hg⟩
set_option maxHeartbeats 1000000 in
theorem u16_nil (w : World) : Calls Try.prog 45 #[.pointer none] w fun e w' => e = .returned (.int .u16 0) ∧ Below w.heap.size w w' := by
  go_enter Try.func45, Try.ntmps45
  go_wp2_with fail
  refine (weighs_nil 2 w).mono ?_
  rintro e w1 ⟨rfl, hg⟩
  go_wp2
  go_ret
  exact ⟨rfl, hg⟩
set_option maxHeartbeats 1000000 in
theorem u64_any (R : Nat) (O : Option Addr) (n c : Nat) (bs : List UInt8) (p : Nat) (why : Int) (w : World) (h : Rdr w R O n c bs p why) :
    Calls Try.prog 51 #[.pointer (some ⟨R, 0, none⟩)] w fun e w' => e = .returned (.int .u64 (wv (rdO bs p why 8) : Nat)) ∧ Rdr w' R O n c bs (rdP bs p why 8) (rdW bs p why 8) ∧ w.grownBy w' (some R) := by
  have hb : wv (rdO bs p why 8) < 18446744073709551616 := wv_bound bs p why 8 (by decide)
  have hz := Lib.hid hb
  go_enter Try.func51, Try.ntmps51
  go_wp2_with fail
  refine (weighs_any R O n c bs p why 8 w h (by decide)).mono ?_
  rintro e w1 ⟨rfl, hr, hg⟩
  generalize hv : wv (rdO bs p why 8) = v at *
  have HV := Lib.hid hv
  clear hv hb
  go_wp2
  go_ret
  exact ⟨by rw [HV.out]; rfl, hr, hg⟩
set_option maxHeartbeats 1000000 in
theorem u64_nil (w : World) : Calls Try.prog 51 #[.pointer none] w fun e w' => e = .returned (.int .u64 0) ∧ Below w.heap.size w w' := by
  go_enter Try.func51, Try.ntmps51
  go_wp2_with fail
  refine (weighs_nil 8 w).mono ?_
  rintro e w1 ⟨rfl, hg⟩
  go_wp2
  go_ret
  exact ⟨rfl, hg⟩
/-- the byte k places ahead, and whether there is one -/
def pkB (bs : List UInt8) (p : Nat) (why k : Int) : UInt8 := if why = 0 ∧ 0 ≤ k ∧ k < (bs.length : Int) - p then bs.getD (p + k.toNat) 0 else 0
def pkO (bs : List UInt8) (p : Nat) (why k : Int) : Bool := decide (why = 0 ∧ 0 ≤ k ∧ k < (bs.length : Int) - p)
end Go.Proofs.Ytfpodalnnchnoaa
