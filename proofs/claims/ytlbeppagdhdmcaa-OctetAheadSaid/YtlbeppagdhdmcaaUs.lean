/- (*Reader).U8, U16, U32, U64, Peek, and what they answer of no reader. Conditions: the reader lies at a block of its own. -/
import Derived.Test.YtlbeppagdhdmcaaRaw
namespace Go.Proofs.Ytlbeppagdhdmcaa
open Go.RowKit
theorem val_lt (l : List UInt8) : val l < 256 ^ l.length := by
  have : ∀ (l : List UInt8) (a : Nat), l.foldl (fun a c => a * 256 + c.toNat) a < (a + 1) * 256 ^ l.length := by
    intro l
    induction l with
    | nil => intro a; simp
    | cons x l ih =>
      intro a
      have hx := x.toNat_lt
      refine Nat.lt_of_lt_of_le (ih _) ?_
      rw [List.length_cons, Nat.pow_succ, Nat.mul_comm (256 ^ l.length) 256, ← Nat.mul_assoc]
      exact Nat.mul_le_mul_right _ (show (a * 256 + x.toNat) + 1 ≤ (a + 1) * 256 by omega)
  have := this l 0
  simpa [val] using this
theorem rdO_len (bs : List UInt8) (p : Nat) (why : Int) (k : Nat) : (rdO bs p why (k : Int)).length ≤ k := by
  unfold rdO
  split
  · exact List.length_take_le _ _
  · simp
theorem wv_bound (bs : List UInt8) (p : Nat) (why : Int) (k : Nat) (_hk : k ≤ 8) : wv (rdO bs p why (k : Int)) < 256 ^ k := by
  have h1 := val_lt (rdO bs p why (k : Int))
  have h2 : 256 ^ (rdO bs p why (k : Int)).length ≤ 256 ^ k := Nat.pow_le_pow_right (by decide) (rdO_len bs p why k)
  unfold wv
  exact Nat.lt_of_le_of_lt (Nat.mod_le _ _) (by omega)
set_option maxHeartbeats 1000000 in
theorem weighs_nil (m : Int) (w : World) : Calls Try.prog 17 #[.pointer none, .int .i64 m] w fun e w' => e = .returned (.int .u64 0) ∧ Below w.heap.size w w' := by
  have b0 : Below w.heap.size w (w.alloc (.cells #[.int .u64 0] 22)) := (Below.refl _ _).alloc (Nat.le_refl _) _
  have hX := Blk.new w 22 #[.int .u64 0]
  go_enter Try.func17, Try.ntmps17
  go_wp2_with fail
  refine (next_nil m _ _).mono ?_
  rintro e w1 ⟨rfl, rfl⟩
  go_wp2
  refine bodyPost_ret (v := .int .u64 0) (by simp [results, Try.results17, go_sem]) rfl ⟨rfl, ?_⟩
  first | exact b0 | exact b0.setCell (p := ⟨w.heap.size, 0, none⟩) (Nat.le_refl _) _
set_option maxHeartbeats 1000000 in
theorem u16_any (R : Nat) (O : Option Addr) (n c : Nat) (bs : List UInt8) (p : Nat) (why : Int) (w : World) (h : Rdr w R O n c bs p why) :
    Calls Try.prog 10 #[.pointer (some ⟨R, 0, none⟩)] w fun e w' => e = .returned (.int .u16 (wv (rdO bs p why 2) : Nat)) ∧ Rdr w' R O n c bs (rdP bs p why 2) (rdW bs p why 2) ∧ w.grownBy w' (some R) := by
  have hb : wv (rdO bs p why 2) < 65536 := wv_bound bs p why 2 (by decide)
  have hz := Lib.hid hb
  go_enter Try.func10, Try.ntmps10
  go_wp2_with fail
  refine (weighs_any R O n c bs p why 2 w h (by decide)).mono ?_
  rintro e w1 ⟨rfl, hr, hg⟩
  generalize hv : wv (rdO bs p why 2) = v at *
  have HV := Lib.hid hv
  clear hv
  go_wp2
  go_ret
  exact ⟨by rw [HV.out]; rfl, hr, hg⟩
set_option maxHeartbeats 1000000 in
theorem u16_nil (w : World) : Calls Try.prog 10 #[.pointer none] w fun e w' => e = .returned (.int .u16 0) ∧ Below w.heap.size w w' := by
  go_enter Try.func10, Try.ntmps10
  go_wp2_with fail
  refine (weighs_nil 2 w).mono ?_
  rintro e w1 ⟨rfl, hg⟩
  go_wp2
  go_ret
  exact ⟨rfl, hg⟩
/-- the byte k places ahead, and whether there is one -/
def pkB (bs : List UInt8) (p : Nat) (why k : Int) : UInt8 := if why = 0 ∧ 0 ≤ k ∧ k < (bs.length : Int) - p then bs.getD (p + k.toNat) 0 else 0
def pkO (bs : List UInt8) (p : Nat) (why k : Int) : Bool := decide (why = 0 ∧ 0 ≤ k ∧ k < (bs.length : Int) - p)
set_option maxRecDepth 100000 in
set_option maxHeartbeats 2000000 in
theorem peek_any (R : Nat) (O : Option Addr) (n c : Nat) (bs : List UInt8) (p : Nat) (why k : Int) (w : World) (h : Rdr w R O n c bs p why) (hk0 : -9223372036854775808 ≤ k) (hk1 : k ≤ 9223372036854775807) :
    Calls Try.prog 9 #[.pointer (some ⟨R, 0, none⟩), .int .i64 k] w fun e w' => e = .returned (.tuple #[vb (pkB bs p why k), .bool (pkO bs p why k)]) ∧ ∃ q, w' = w.drewN q := by
  have hl := h.len
  have hlim := h.lim
  have hle := h.le
  by_cases hw : why = 0
  · subst hw
    by_cases hk : k < 0
    · have e1 : pkB bs p 0 k = 0 := by unfold pkB; rw [if_neg (by omega)]
      have e2 : pkO bs p 0 k = false := by unfold pkO; rw [decide_eq_false (by omega)]
      rw [e1, e2]
      clear e1 e2 hl
      go_enter Try.func9, Try.ntmps9
      go_wp2_with fail
      refine (err_any R O n c bs p 0 w h).mono ?_
      rintro e w1 ⟨rfl, rfl⟩
      clear h
      go_wp2
      go_ret2
      exact ⟨rfl, 0, rfl⟩
    · obtain ⟨k, rfl⟩ := Int.eq_ofNat_of_zero_le (show 0 ≤ k by omega)
      by_cases hkn : (k : Int) < (n : Int) - p
      · have e1 : pkB bs p 0 k = bs.getD (p + k) 0 := by unfold pkB; rw [if_pos (by omega)]; simp
        have e2 : pkO bs p 0 k = true := by unfold pkO; rw [decide_eq_true (by omega)]
        rw [e1, e2]
        clear e1 e2 hl
        obtain ⟨g, rfl, _, _, hcg, _⟩ := h.own.at_ (p + k) (by omega)
        generalize hx : bs.getD (p + k) 0 = x at *
        clear hx
        go_enter Try.func9, Try.ntmps9
        go_wp2_with fail
        refine (err_any R _ n c bs p 0 w h).mono ?_
        rintro e w1 ⟨rfl, rfl⟩
        go_wp2_with fail
        refine (left_any R _ n c bs p 0 w h).mono ?_
        rintro e w1 ⟨rfl, q, rfl⟩
        have d0 : w.cell? ⟨R, 0, none⟩ = some (.int .i64 (p : Int)) := h.blk.cell 0
        have d2 : w.cell? ⟨R, 2, none⟩ = some (.slice (some ⟨g, 0, none⟩) n c) := h.blk.cell 2
        have dg : w.cell? ⟨g, p + k, none⟩ = some (vb x) := hcg
        have i3 : IntKind.i64.wrap ((p : Int) + (k : Int)) = (p : Int) + (k : Int) := IntWalk.i64_in _ (by omega)
        have i0 : (0 : Int) ≤ (p : Int) + (k : Int) := by omega
        have i1 : (p : Int) + (k : Int) < (n : Int) := by omega
        have i2 : ((p : Int) + (k : Int)).toNat = p + k := by omega
        clear h hcg
        go_wp2
        go_quiet (fail)
        go_wp2
        go_ret2
        exact ⟨rfl, _, World.drewN_drewN _ _ _⟩
      · have e1 : pkB bs p 0 k = 0 := by unfold pkB; rw [if_neg (by omega)]
        have e2 : pkO bs p 0 k = false := by unfold pkO; rw [decide_eq_false (by omega)]
        rw [e1, e2]
        clear e1 e2 hl
        go_enter Try.func9, Try.ntmps9
        go_wp2_with fail
        refine (err_any R O n c bs p 0 w h).mono ?_
        rintro e w1 ⟨rfl, rfl⟩
        go_wp2_with fail
        refine (left_any R O n c bs p 0 w h).mono ?_
        rintro e w1 ⟨rfl, q, rfl⟩
        clear h
        go_wp2
        go_ret2
        exact ⟨rfl, q, rfl⟩
  · have e1 : pkB bs p why k = 0 := by unfold pkB; rw [if_neg (by omega)]
    have e2 : pkO bs p why k = false := by unfold pkO; rw [decide_eq_false (by omega)]
    rw [e1, e2]
    have hwn : (why != 0) = true := by rw [bne_iff_ne]; exact hw
    clear e1 e2 hl hw
    go_enter Try.func9, Try.ntmps9
    go_wp2_with fail
    refine (err_any R O n c bs p why w h).mono ?_
    rintro e w1 ⟨rfl, rfl⟩
    clear h
    go_wp2
    go_ret2
    exact ⟨rfl, 0, rfl⟩
set_option maxHeartbeats 1000000 in
theorem peek_nil (k : Int) (w : World) : Calls Try.prog 9 #[.pointer none, .int .i64 k] w fun e w' => e = .returned (.tuple #[.int .u8 0, .bool false]) ∧ w = w' := by
  go_enter Try.func9, Try.ntmps9
  go_wp2_with fail
  refine (err_nil w).mono ?_
  rintro e w1 ⟨rfl, rfl⟩
  go_wp2
  go_ret2
  exact ⟨rfl, rfl⟩
end Go.Proofs.Ytlbeppagdhdmcaa
