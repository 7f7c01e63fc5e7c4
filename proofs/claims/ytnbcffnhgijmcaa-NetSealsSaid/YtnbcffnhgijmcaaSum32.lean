/- sum.Sum32 answers the checksum of the bytes; it makes memory and turns none that was there. Conditions: the slice reads as these bytes, its length within what a row lets in. -/
import Derived.Test.YtnbcffnhgijmcaaSteps
import Derived.Test.YtnbcffnhgijmcaaBytes
namespace Go.Proofs.Ytnbcffnhgijmcaa
open Go.RowKit
theorem takes_any (c : UInt8) (reg : Nat) (hr1 : reg < 4294967296) (r t : Nat) (w : World)
   (hr : w.cell? ⟨r, 0, none⟩ = some (.int .u32 (reg : Nat))) (hf : w.frozen? ⟨r, 0, none⟩ = false)
   (ht : Blk w t 103 (tabCells Crc.step8)) :
    Calls Try.prog 74 #[vb c, .pointer (some ⟨r, 0, none⟩), .pointer (some ⟨t, 0, none⟩)] w fun e w' => e = .returned (.tuple #[]) ∧ w' = (w.setCell ⟨r, 0, none⟩ (.int .u32 ((Crc.step8 (reg ^^^ c.toNat) : Nat) : Int))).drew := by
  have hc := c.toNat_lt
  have hx : bits BinOp.xor IntKind.u8 (IntKind.u8.wrap (reg : Int)) (c.toNat : Int) = (((reg % 256) ^^^ c.toNat : Nat) : Int) := by
    have hz : (reg % 256) ^^^ c.toNat < 2 ^ 8 := Nat.xor_lt_two_pow (by omega) (by omega)
    have h0 : IntKind.u8.wrap (reg : Int) = ((reg % 256 : Nat) : Int) := by
      simp only [IntKind.wrap, IntKind.bits, IntKind.signed]; simp
    have h1 : (BitVec.ofInt 8 ((reg % 256 : Nat) : Int)).toNat = reg % 256 := by
      rw [BitVec.ofInt_natCast, BitVec.toNat_ofNat]; exact Nat.mod_eq_of_lt (by omega)
    have h2 : (BitVec.ofInt 8 (c.toNat : Int)).toNat = c.toNat := by
      rw [BitVec.ofInt_natCast, BitVec.toNat_ofNat]; exact Nat.mod_eq_of_lt (by omega)
    rw [h0]
    show IntKind.u8.wrap ((BitVec.ofInt 8 ((reg % 256 : Nat) : Int) ^^^ BitVec.ofInt 8 (c.toNat : Int)).toNat : Int) = _
    rw [BitVec.toNat_xor, h1, h2]
    simp only [IntKind.wrap, IntKind.bits, IntKind.signed]
    simp
    omega
  have hz : (reg % 256) ^^^ c.toNat < 256 := Nat.xor_lt_two_pow (n := 8) (by omega) (by omega)
  have hx0 : 0 ≤ bits BinOp.xor IntKind.u8 (IntKind.u8.wrap (reg : Int)) (c.toNat : Int) := by rw [hx]; omega
  have hx1 : bits BinOp.xor IntKind.u8 (IntKind.u8.wrap (reg : Int)) (c.toNat : Int) < 256 := by rw [hx]; omega
  have htc : w.cell? ⟨t, (bits BinOp.xor IntKind.u8 (IntKind.u8.wrap (reg : Int)) (c.toNat : Int)).toNat, none⟩ = some (.int .u32 ((Crc.step8 ((reg % 256) ^^^ c.toNat) : Nat) : Int)) := by
    rw [hx, Int.toNat_natCast]; exact (ht.cell _).trans (tabCells_get _ _ hz)
  have hv : bits BinOp.xor IntKind.u32 ((reg : Int) / 256) ((Crc.step8 ((reg % 256) ^^^ c.toNat) : Nat) : Int) = ((Crc.step8 (reg ^^^ c.toNat) : Nat) : Int) := by
    have := bits_xor32 (reg / 256) (Crc.step8 ((reg % 256) ^^^ c.toNat)) (by omega) (Crc.step8_lt (by omega))
    rw [Crc.step8_table reg, ← this]; rfl
  have HV := Lib.hid hv
  generalize Crc.step8 ((reg % 256) ^^^ c.toNat) = tv at *
  generalize Crc.step8 (reg ^^^ c.toNat) = tw at *
  clear hv hx ht
  unfold vb
  go_enter Try.func74, Try.ntmps74
  go_wp2
  go_region
  all_goals (go_end0; exact ⟨rfl, by rw [HV.out]⟩)

set_option maxRecDepth 100000 in
set_option maxHeartbeats 1000000 in
theorem sum32_any (A : Option Addr) (n c : Nat) (bs : List UInt8) (w : World) (h : Reads w w.heap.size 1 A n (bs.map vb)) (hn : n ≤ 140737488351232) :
    Calls Try.prog 61 #[.slice A n c] w fun e w' => e = .returned (.int .u32 (Crc.sum bs : Nat)) ∧ Below w.heap.size w w' := by
  go_enter Try.func61, Try.ntmps61
  go_wp2_with fail
  refine (steps_any w).mono ?_
  rintro e w1 ⟨rfl, hb1⟩
  have hz : Try.zeroCells103 = tabCells fun _ => 0 := by kernel_rfl
  have ht2 : Blk (w1.alloc (Obj.cells Try.zeroCells103 103)) w1.heap.size 103 (tabCells fun _ => 0) := by rw [hz]; exact Blk.new _ _ _
  have hb2 : Below w.heap.size w (w1.alloc (Obj.cells Try.zeroCells103 103)) := hb1.alloc hb1.size _
  have hTB : w.heap.size ≤ w1.heap.size := hb1.size
  have HI := Lib.hid (show (Try.prog.info? 103).map (·.size) = some (tabCells Crc.step8).size from by rw [tabCells_size]; exact (zero_of_info Try.tabInfo).2)
  have HZ := Lib.hid (show (tabCells fun _ => 0).size = (tabCells Crc.step8).size from by rw [tabCells_size, tabCells_size])
  clear hz
  go_wp2_with (first
    | (refine wpList_store_row rfl 103 (.tmp 3) (.tmp 8) rfl w1.heap.size (tabCells Crc.step8) rfl rfl 103 (tabCells fun _ => 0) ht2 HI.out HZ.out (tabCells_one _) ?_))
  have hzz : (w1.alloc (Obj.cells Try.zeroCells103 103)).heap.size = w1.heap.size + 1 := by simp
  clear hb1
  generalize (w1.alloc (Obj.cells Try.zeroCells103 103)) = w2 at *
  generalize w1.heap.size = T at *
  have ht3 : Blk (w2.setRow T (tabCells Crc.step8)) T 103 (tabCells Crc.step8) := setRow_heap _ _ _ _ _ _ ht2
  have hb3 : Below w.heap.size w (w2.setRow T (tabCells Crc.step8)) := hb2.trans (below_setRow _ _ _ hTB)
  have hz3 : (w2.setRow T (tabCells Crc.step8)).heap.size = w2.heap.size := by simp [World.setRow]
  have hR : w.heap.size ≤ w2.heap.size := hb2.size
  rw [← hzz]
  clear hzz
  rw [← hz3] at hR ⊢
  clear hz3
  obtain ⟨w3, hw3⟩ : ∃ w3, w3 = w2.setRow T (tabCells Crc.step8) := ⟨_, rfl⟩
  rw [← hw3] at ht3 hb3 hR ⊢
  clear hw3 ht2 hb2 HI HZ w2
  have hr4 : Blk (w3.alloc (.cells #[.int .u32 4294967295] 93)) w3.heap.size 93 #[.int .u32 4294967295] := Blk.new _ _ _
  have ht4 := ht3.alloc (.cells #[.int .u32 4294967295] 93)
  have hb4 : Below w.heap.size w (w3.alloc (.cells #[.int .u32 4294967295] 93)) := hb3.alloc hR _
  generalize w3.heap.size = R at *
  generalize w3.alloc (.cells #[.int .u32 4294967295] 93) = w4 at *
  clear ht3 hb3 w3
  have hlen : bs.length = n := by have := h.1; simpa using this
  have Hlen := Lib.hid hlen
  go_loopg [12] n (fun g s wr => ∃ k : Nat, k + g ≤ n ∧ n ≤ k + g ∧ s = .int .i64 k ∧ Blk wr R 93 #[.int .u32 (Crc.reg 4294967295 (bs.take k) : Nat)] ∧ Blk wr T 103 (tabCells Crc.step8) ∧ Below w.heap.size w wr)
  case atStart => exact ⟨0, by omega, by omega, rfl, hr4, ht4, hb4⟩
  case round =>
    clear hr4 ht4 hb4 hlen
    obtain ⟨k, hkg, hkg', rfl, hr, ht, hb⟩ := hrel
    have hcr : wr.cell? ⟨R, 0, none⟩ = some (.int .u32 (Crc.reg 4294967295 (bs.take k) : Nat)) := hr.cell 0
    by_cases hk : k < n
    · obtain ⟨ad, u, rfl, _, hu, hcell⟩ := (h.below hb).at_ hk
      have hkl : k < bs.length := by have := Hlen.out; omega
      have hu' : u = vb bs[k] := by simpa [hkl] using hu.symm
      subst hu'
      have HT := Lib.hid (show bs.take (k + 1) = bs.take k ++ [bs[k]] from List.take_succ_eq_append_getElem hkl)
      have hlt := Crc.reg_lt (bs.take k) 4294967295 (by decide)
      have hf : wr.frozen? ⟨R, 0, none⟩ = false := hr.frozen 0
      have HR := Lib.hid hr
      have HRB := Lib.hid hR
      generalize bs[k] = x at *
      clear hu hr hkl h
      go_wp2_with fail
      refine (takes_any x _ hlt R T wr hcr hf ht).mono ?_
      rintro e w' ⟨rfl, rfl⟩
      go_wp2
      go_roundg (gk - 1)
      case measure => omega
      case rel =>
        refine ⟨k + 1, by omega, by omega, by go_num, ?_, (ht.far (p := ⟨R, 0, none⟩) (ht.ne_ HR.out (by decide)) _).drew, (hb.setCell HRB.out _).drew⟩
        rw [HT.out, Crc.reg_snoc]
        exact (HR.out.set_ 0 _).drew
    · obtain rfl : k = n := by omega
      have HS : Hid (bs.take k = bs) := List.take_of_length_le (by rw [Hlen.out]; exact Nat.le_refl _)
      rw [HS.out] at hcr
      have hsg : IntKind.u32.signed = false := rfl
      go_wp2
      go_ret
      refine ⟨ret_int ?_, hb⟩
      have := bits_xor32 4294967295 (Crc.reg 4294967295 bs) (by decide) (Crc.reg_lt _ _ (by decide))
      exact this
end Go.Proofs.Ytnbcffnhgijmcaa
