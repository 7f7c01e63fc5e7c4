/- The walk of the statement SumOpened: the Go text answers true and turns no memory that was there. Conditions: the slice reads as these bytes. -/
import Derived.Test.YtdmfbmpllfkcaaaSealMath
namespace Go.Proofs.Ytdmfbmpllfkcaaa
open Go.RowKit
theorem vb_xor (x b : UInt8) : Value.int .u8 (bits BinOp.xor .u8 (x.toNat : Int) (b.toNat : Int)) = vb (x ^^^ b) := by
  have hx := x.toNat_lt
  have hb := b.toNat_lt
  have hz : x.toNat ^^^ b.toNat < 2 ^ 8 := Nat.xor_lt_two_pow (by omega) (by omega)
  have h1 : (BitVec.ofInt 8 (x.toNat : Int)).toNat = x.toNat := by
    rw [BitVec.ofInt_natCast, BitVec.toNat_ofNat]; exact Nat.mod_eq_of_lt (by omega)
  have h2 : (BitVec.ofInt 8 (b.toNat : Int)).toNat = b.toNat := by
    rw [BitVec.ofInt_natCast, BitVec.toNat_ofNat]; exact Nat.mod_eq_of_lt (by omega)
  have : bits BinOp.xor .u8 (x.toNat : Int) (b.toNat : Int) = ((x.toNat ^^^ b.toNat : Nat) : Int) := by
    show IntKind.u8.wrap ((BitVec.ofInt 8 (x.toNat : Int) ^^^ BitVec.ofInt 8 (b.toNat : Int)).toNat : Int) = _
    rw [BitVec.toNat_xor, h1, h2]
    simp only [IntKind.wrap, IntKind.bits, IntKind.signed]
    simp
    omega
  rw [this]
  unfold vb
  rw [UInt8.toNat_xor]
set_option maxRecDepth 100000 in
set_option maxHeartbeats 2000000 in
theorem sumOpened_walk (A : Option Addr) (n c : Nat) (xs : List UInt8) (i : Int) (b : Int) (w : World) (ha : RdB w A n xs) (hc1 : n ≤ c) (_hc2 : c ≤ 9223372036854775807) (_hi : (Lit.int .i64 i).wf = true) (hb : (Lit.int .u8 b).wf = true) :
    Calls Try.prog 5 #[.slice A n c, .int .i64 i, .int .u8 b] w fun e w' => e = .returned (.bool true) ∧ Below w.heap.size w w' := by
  obtain ⟨hb0, hb1⟩ : 0 ≤ b ∧ b < 256 := by
    simp [Lit.wf, IntKind.min, IntKind.max, IntKind.signed, IntKind.bits] at hb
    exact ⟨by omega, by omega⟩
  clear hb _hi
  obtain ⟨bb, rfl⟩ : ∃ bb : UInt8, b = (bb.toNat : Int) := ⟨UInt8.ofNat b.toNat, by simp; omega⟩
  by_cases h1 : n ≤ 1000
  · go_enter Try.func5, Try.ntmps5
    go_wp2_with fail
    refine (wakes3_any w).mono ?_
    rintro e w1 ⟨rfl, b1⟩
    have ha1 := ha.below b1
    clear ha
    go_wp2_with fail
    refine (seal_any A n c xs w1 ha1 (by omega)).mono ?_
    rintro e w2 ⟨A2, c2, rfl, ho2, q2⟩
    have b2 := b1.trans (q2.mono b1.size)
    have ha2 := ha1.below q2
    replace ho2 := ho2.rd
    clear ha1 q2 b1
    go_wp2_with fail
    refine (seal_any A2 (n + 4) c2 (sealed xs) w2 ho2 (by omega)).mono ?_
    rintro e w3 ⟨A3, c3, rfl, ho3, q3⟩
    have b3 := b2.trans (q3.mono b2.size)
    have ha3 := ha2.below q3
    have hp3 := ho3.cap
    have b2s := b2.size
    clear q3 ho2 ha2
    go_wp2_with fail
    refine (open_any A3 (n + 4 + 4) c3 (sealed (sealed xs)) w3 ho3.rd (by omega) hp3.1).mono ?_
    rintro e w4 ⟨A4, n4, c4, rfl, ho4, q4⟩
    rw [(opened_sealed _).1] at ho4
    rw [(opened_sealed _).2]
    have b4 := b3.trans (q4.mono b3.size)
    have ha4 := ha3.below q4
    have ho34 := ho3.below q4
    have hl := ho4.len
    rw [sealed_len, ha3.len] at hl
    obtain rfl : n4 = n + 4 := hl.symm
    have hp4 := ho4.cap
    clear q4 ha3 ho3 b3 hl b2
    go_wp2_with fail
    refine (open_any A4 (n + 4) c4 (sealed xs) w4 ho4.rd (by omega) hp4.1).mono ?_
    rintro e w5 ⟨A5, n5, c5, rfl, ho5, q5⟩
    rw [(opened_sealed _).1] at ho5
    rw [(opened_sealed _).2]
    have b5 := b4.trans (q5.mono b4.size)
    have ha5 := ha4.below q5
    have ho35 := ho34.below q5
    have hl := ho5.len
    rw [ha5.len] at hl
    obtain rfl : n5 = n := hl.symm
    clear q5 ha4 ho34 b4 hl ho4 hp4
    go_wp2_with fail
    refine (equal_any A5 A n5 c5 n5 c xs xs w5 ho5.rd ha5).mono ?_
    rintro e w6 ⟨rfl, rfl⟩
    rw [show (xs == xs) = true from beq_self_eq_true _]
    by_cases hbb : bb = 0
    · subst hbb
      go_wp2
      go_ret
      exact ⟨rfl, b5⟩
    · have hne : ((bb.toNat : Int) == 0) = false := by
        rw [beq_eq_false_iff_ne]; intro h; exact hbb (UInt8.toNat_inj.1 (by simp; omega))
      have HBB := Lib.hid hbb
      obtain ⟨u, hu⟩ : ∃ u : Nat, IntKind.u64.wrap i = (u : Int) := ⟨(IntKind.u64.wrap i).toNat, by
        simp only [IntKind.wrap, IntKind.bits, IntKind.signed]; simp; omega⟩
      have hlt : u % (n5 + 4 + 4) < n5 + 4 + 4 := Nat.mod_lt _ (by omega)
      have hi9 : (u : Int) % ((n5 : Int) + 4 + 4) = ((u % (n5 + 4 + 4) : Nat) : Int) := by rw [Int.natCast_emod]; rfl
      have hi0 : (0 : Int) ≤ (u : Int) % ((n5 : Int) + 4 + 4) := by rw [hi9]; omega
      have hi1 : (u : Int) % ((n5 : Int) + 4 + 4) < (n5 : Int) + 4 + 4 := by rw [hi9]; omega
      have hi2 : ((u : Int) % ((n5 : Int) + 4 + 4)).toNat = u % (n5 + 4 + 4) := by rw [hi9]; omega
      clear hi9
      obtain ⟨g, rfl, hgB, hgl, hcg, hfg, hst⟩ := ho35.at_ (u % (n5 + 4 + 4)) hlt
      have HNO := Lib.hid (not_opens (sealed xs) (u % (n5 + 4 + 4)) bb hbb (by rw [sealed_len, ha5.len]; exact hlt))
      generalize (sealed (sealed xs)).getD (u % (n5 + 4 + 4)) 0 = x at *
      have HST := Lib.hid (hst _ _ (vb_xor x bb))
      have hcg' : w5.cell? ⟨g, u % (n5 + 4 + 4), none⟩ = some (.int .u8 (x.toNat : Int)) := hcg
      have HL := Lib.hid (show ((sealed (sealed xs)).set (u % (n5 + 4 + 4)) (x ^^^ bb)).length = n5 + 4 + 4 from by rw [List.length_set, sealed_len, sealed_len, ha5.len])
      have hs5 := b5.size
      clear hbb ho5 hst hcg ho35 ha5
      go_wp2_with fail
      have hb6 := b5.setCell (p := ⟨g, u % (n5 + 4 + 4), none⟩) (by simp; omega) (.int .u8 (bits BinOp.xor .u8 (x.toNat : Int) (bb.toNat : Int)))
      refine (open_any _ (n5 + 4 + 4) c3 _ _ HST.out.rd (by omega) hp3.1).mono ?_
      rintro e w7 ⟨A7, n7, c7, rfl, ho7, q7⟩
      have hE : openErr ((sealed (sealed xs)).set (u % (n5 + 4 + 4)) (x ^^^ bb)) = 130 := by
        unfold openErr; rw [if_neg (by rw [HL.out]; omega), HNO.out]; rfl
      rw [hE]
      have hP : opened ((sealed (sealed xs)).set (u % (n5 + 4 + 4)) (x ^^^ bb)) = [] := by unfold opened; rw [HNO.out]; rfl
      have hn0 : n7 = 0 := by have := ho7.len; rw [hP] at this; simpa using this.symm
      subst hn0
      have b7 := hb6.trans (q7.mono hb6.size)
      clear hE hP ho7 q7 hb6
      go_wp2
      go_ret
      exact ⟨rfl, b7⟩
  · have h2' : 1000 < n := by omega
    clear h1
    go_enter Try.func5, Try.ntmps5
    go_wp2_with fail
    refine (wakes3_any w).mono ?_
    rintro e w1 ⟨rfl, b1⟩
    go_wp2
    go_ret
    exact ⟨rfl, b1⟩
end Go.Proofs.Ytdmfbmpllfkcaaa
