/- bowspritlaw24.NetSeals. Conditions: the slice reads as these bytes. -/
import Derived.Test.YtnbcffnhgijmcaaNFills
import Derived.Test.YtnbcffnhgijmcaaSealMath
namespace Go.Proofs.Ytnbcffnhgijmcaa
open Go.RowKit
section
variable {S : List UInt8} (h : S.length ≤ 60000)
include h
theorem sl_c1 : chkB 1 [⟨1, 0, 1, S, false⟩] = true := by
  have h' : (S.length : Int) ≤ 60000 := by omega
  simp [chkB, goB, parB, pairB, h']
theorem sl_c2 : chkB 2 [⟨1, 0, 1, S, false⟩, ⟨2, 0, 1, S, false⟩] = true := by
  have h' : (S.length : Int) ≤ 60000 := by omega
  simp [chkB, goB, parB, pairB, h']
theorem sl_c3 {q : Nat} {y : UInt8} (h0 : q < S.length) : chkB 2 [⟨1, 0, 1, S, false⟩, ⟨2, 0, 1, S.set q (S.getD q 0 ^^^ y), true⟩] = true := by
  have h' : (S.length : Int) ≤ 60000 := by omega
  have h'' : (0 : Int) < S.length := by omega
  simp [chkB, goB, parB, pairB, h']
  omega
theorem sl_c4 {q : Nat} {y : UInt8} (h0 : q < S.length) : chkB 2 [⟨2, 0, 1, S.set q (S.getD q 0 ^^^ y), true⟩] = true := by
  have h' : (S.length : Int) ≤ 60000 := by omega
  simp [chkB, goB, parB, pairB, h']
  omega
theorem sl_send : sendR 0 [] 0 1 S = (1, [⟨1, 0, 1, S, false⟩]) ∧ sendE 0 [] 0 1 S = 0 := by
  have hE : sendE 0 [] 0 1 S = 0 := by
    unfold sendE
    rw [show chkB 0 [] = true from by decide, show pairB 0 1 = true from by decide, if_pos rfl, if_pos rfl, if_neg (by omega)]
    decide
  refine ⟨?_, hE⟩
  unfold sendR
  rw [hE]
  rfl
theorem sl_twin : twinR 1 [⟨1, 0, 1, S, false⟩] 1 = (2, [⟨1, 0, 1, S, false⟩, ⟨2, 0, 1, S, false⟩]) ∧ twinE 1 [⟨1, 0, 1, S, false⟩] 1 = 0 := by
  have hE : twinE 1 [⟨1, 0, 1, S, false⟩] 1 = 0 := by
    unfold twinE
    rw [sl_c1 h]
    simp [hasB, addE, fullB]
  refine ⟨?_, hE⟩
  unfold twinR
  rw [hE]
  simp [getP, ixP, added]
theorem sl_spoil {q : Nat} {y : UInt8} (h0 : q < S.length) (hy : y ≠ 0) : spoilR 2 [⟨1, 0, 1, S, false⟩, ⟨2, 0, 1, S, false⟩] 2 (q : Int) y = (2, [⟨1, 0, 1, S, false⟩, ⟨2, 0, 1, S.set q (S.getD q 0 ^^^ y), true⟩]) ∧ spoilE 2 [⟨1, 0, 1, S, false⟩, ⟨2, 0, 1, S, false⟩] 2 (q : Int) y = 0 := by
  have hg : getP [⟨1, 0, 1, S, false⟩, ⟨2, 0, 1, S, false⟩] 2 = ⟨2, 0, 1, S, false⟩ := by simp [getP, ixP, List.findIdx_cons]
  have hx : ixP [⟨1, 0, 1, S, false⟩, ⟨2, 0, 1, S, false⟩] 2 = 1 := by simp [ixP, List.findIdx_cons]
  have hE : spoilE 2 [⟨1, 0, 1, S, false⟩, ⟨2, 0, 1, S, false⟩] 2 (q : Int) y = 0 := by
    unfold spoilE
    rw [sl_c2 h, hg, if_pos rfl, if_pos (by simp [hasB])]
    dsimp only
    rw [if_neg (by simp), if_neg (by intro h1; rcases h1 with h1 | h1 | h1 <;> first | omega | exact hy h1)]
  refine ⟨?_, hE⟩
  unfold spoilR
  rw [hE, if_pos rfl, hg, hx]
  rfl
theorem sl_spoil0 {q : Nat} : spoilR 2 [⟨1, 0, 1, S, false⟩, ⟨2, 0, 1, S, false⟩] 2 (q : Int) 0 = (0, []) ∧ spoilE 2 [⟨1, 0, 1, S, false⟩, ⟨2, 0, 1, S, false⟩] 2 (q : Int) 0 = 2 := by
  have hg : getP [⟨1, 0, 1, S, false⟩, ⟨2, 0, 1, S, false⟩] 2 = ⟨2, 0, 1, S, false⟩ := by simp [getP, ixP, List.findIdx_cons]
  have hE : spoilE 2 [⟨1, 0, 1, S, false⟩, ⟨2, 0, 1, S, false⟩] 2 (q : Int) 0 = 2 := by
    unfold spoilE
    rw [sl_c2 h, hg, if_pos rfl, if_pos (by simp [hasB])]
    dsimp only
    rw [if_neg (by simp), if_pos (.inr (.inr rfl))]
  refine ⟨?_, hE⟩
  unfold spoilR
  rw [hE]
  rfl
theorem sl_come1 {q : Nat} {y : UInt8} (h0 : q < S.length) : comeR 2 [⟨1, 0, 1, S, false⟩, ⟨2, 0, 1, S.set q (S.getD q 0 ^^^ y), true⟩] 1 = (2, [⟨2, 0, 1, S.set q (S.getD q 0 ^^^ y), true⟩]) ∧ comeE 2 [⟨1, 0, 1, S, false⟩, ⟨2, 0, 1, S.set q (S.getD q 0 ^^^ y), true⟩] 1 = 0 ∧ comeP 2 [⟨1, 0, 1, S, false⟩, ⟨2, 0, 1, S.set q (S.getD q 0 ^^^ y), true⟩] 1 = ⟨1, 0, 1, S, false⟩ := by
  have hE : comeE 2 [⟨1, 0, 1, S, false⟩, ⟨2, 0, 1, S.set q (S.getD q 0 ^^^ y), true⟩] 1 = 0 := by
    unfold comeE
    rw [sl_c3 h h0]
    simp [hasB]
  refine ⟨?_, hE, ?_⟩
  · unfold comeR; rw [hE]; simp [ixP, List.findIdx_cons]
  · unfold comeP; rw [hE]; simp [getP, ixP, List.findIdx_cons]
theorem sl_come2 {q : Nat} {y : UInt8} (h0 : q < S.length) : comeR 2 [⟨2, 0, 1, S.set q (S.getD q 0 ^^^ y), true⟩] 2 = (2, []) ∧ comeE 2 [⟨2, 0, 1, S.set q (S.getD q 0 ^^^ y), true⟩] 2 = 0 ∧ comeP 2 [⟨2, 0, 1, S.set q (S.getD q 0 ^^^ y), true⟩] 2 = ⟨2, 0, 1, S.set q (S.getD q 0 ^^^ y), true⟩ := by
  have hE : comeE 2 [⟨2, 0, 1, S.set q (S.getD q 0 ^^^ y), true⟩] 2 = 0 := by
    unfold comeE
    rw [sl_c4 h h0]
    simp [hasB]
  refine ⟨?_, hE, ?_⟩
  · unfold comeR; rw [hE]; simp [ixP, List.findIdx_cons]
  · unfold comeP; rw [hE]; simp [getP, ixP, List.findIdx_cons]
end
set_option maxRecDepth 100000 in
set_option maxHeartbeats 16000000 in
theorem seals_any (A : Option Addr) (n c : Nat) (xs : List UInt8) (i : Int) (b : Int) (w : World) (ha : RdB w A n xs) (hc1 : n ≤ c) (hc2 : c ≤ 9223372036854775807) (_hi : (Lit.int .i64 i).wf = true) (hb : (Lit.int .u8 b).wf = true) :
    Calls Try.prog 9 #[.slice A n c, .int .i64 i, .int .u8 b] w fun e w' => e = .returned (.bool true) ∧ Below w.heap.size w w' := by
  obtain ⟨hb0, hb1⟩ : 0 ≤ b ∧ b < 256 := by
    simp [Lit.wf, IntKind.min, IntKind.max, IntKind.signed, IntKind.bits] at hb
    exact ⟨by omega, by omega⟩
  clear hb _hi
  obtain ⟨y, rfl⟩ : ∃ y : UInt8, b = (y.toNat : Int) := ⟨UInt8.ofNat b.toNat, by simp; omega⟩
  obtain ⟨k, hk⟩ : ∃ k : Nat, k = min n 2000 := ⟨_, rfl⟩
  have hkn : k ≤ n := by omega
  have hk2 : k ≤ 2000 := by omega
  have hkm : min (n : Int) 2000 = (k : Int) := by omega
  have hkc : (k : Int) ≤ (c : Int) := by omega
  obtain ⟨ys, hys⟩ : ∃ ys, ys = xs.take k := ⟨_, rfl⟩
  have hB := ha.take hkn
  rw [← hys] at hB
  have HB0 := Lib.hid hB
  obtain ⟨L, hL⟩ : ∃ L : Nat, L = k + 4 := ⟨_, rfl⟩
  obtain ⟨S, hS⟩ : ∃ S, S = sealed ys := ⟨_, rfl⟩
  have HSL := Lib.hid (show S.length = L by rw [hS, sealed_len, hB.len, hL])
  have HS0 := Lib.hid hS
  have HYL := Lib.hid hB.len
  have HSE := Lib.hid (fun W (b : Below w.heap.size w W) => by have h1 := seal_any A k c ys W (hB.below b) (by omega); rw [← hL, ← hS] at h1; exact h1)
  have hL0 : ((L : Int) == 0) = false := by simp; omega
  have hL1 : (0 : Int) < (L : Int) := by omega
  have hL2 : (L : Int) ≤ 2004 := by omega
  have hL3 : L ≤ k + 4 := by omega
  have hL4 : 4 ≤ L := by omega
  obtain ⟨u, hu⟩ : ∃ u : Nat, IntKind.u64.wrap i = (u : Int) := ⟨(IntKind.u64.wrap i).toNat, by
    simp only [IntKind.wrap, IntKind.bits, IntKind.signed]; simp; omega⟩
  obtain ⟨q, hq⟩ : ∃ q : Nat, q = u % L := ⟨_, rfl⟩
  have hqL : q < L := by rw [hq]; exact Nat.mod_lt _ (by omega)
  have hq9 : (u : Int) % (L : Int) = (q : Int) := by rw [hq, Int.natCast_emod]
  have hq1 : (q : Int) < (L : Int) := by omega
  clear ha hB hys hk hL hS hq
  have hS6 : S.length ≤ 60000 := by have := HSL.out; omega
  have HS6 := Lib.hid hS6
  have HQ := Lib.hid (show q < S.length by rw [HSL.out]; exact hqL)
  clear hS6
  go_enter Try.func9, Try.ntmps9
  go_wp2_with fail
  refine (wakes_any w).mono ?_
  rintro e w1 ⟨rfl, b1⟩
  go_wp2_with fail
  refine (HSE.out w1 b1).mono ?_
  rintro e w2 ⟨A2, c2, rfl, ho2, q2⟩
  have b2 := bl_ca b1 q2
  clear b1 q2 HSE
  go_wp2_with fail
  have HW := Lib.hid (send_any 0 none 0 0 [] 0 1 A2 L c2 S w2 (Lay.rd_nil none) (by omega) (by omega) ho2.rd)
  rw [(sl_send HS6.out).1, (sl_send HS6.out).2] at HW
  dsimp only at HW
  refine HW.out.mono ?_
  clear HW ho2
  rintro e w3 ⟨A3, m3, c3, rfl, hO3, q3⟩
  have b3 := bl_ca b2 q3
  clear b2 q3
  have hb3 := b3.size
  have hm3 : m3 ≤ 9 := by have := hO3.len; simp at this; omega
  go_wp2_with (refine wpList_store_blk rfl 26 (.tmp 8) (.tmp 31) rfl w3.heap.size 26 _ _ rfl rfl (Blk.new _ _ _) rfl netI (by simp [Value.oneCell']) ?_; intro w4 hZ4 g4; have x0 : w4.cell? ⟨w3.heap.size, 0, none⟩ = some (.int .u64 1) := hZ4.cell 0; have x1 : w4.cell? ⟨w3.heap.size, 1, none⟩ = some (.slice A3 m3 c3) := hZ4.cell 1)
  have T4 := bl_gr (bl_al (Below.refl w3.heap.size w3) _) g4 (Nat.le_refl _)
  have b4 := bl_ca b3 T4
  have r4 : LP.rd w4 AllB A3 m3 [⟨1, 0, 1, S, false⟩] := Lay.rd_below (hO3.rd (fun _ _ => trivial)) T4
  have hg8 : w3.heap.size < w4.heap.size := hZ4.lt
  have HW := Lib.hid (twin_any 1 A3 m3 c3 [⟨1, 0, 1, S, false⟩] 1 w4 r4 (by omega) (by omega))
  rw [(sl_twin HS6.out).1, (sl_twin HS6.out).2] at HW
  dsimp only at HW
  clear r4 T4 g4 hO3 b3 hm3
  generalize w3.heap.size = g8 at *
  refine HW.out.mono ?_
  clear HW x0 x1
  rintro e w5 ⟨A5, m5, c5, rfl, hO5, q5⟩
  have b5 := bl_ca b4 q5
  have hZ5 := hZ4.ca q5
  have hm5 : m5 ≤ 9 := by have := hO5.len; simp at this; omega
  clear hZ4 b4
  go_wp2_with (refine wpList_store_blk rfl 26 (.tmp 8) (.tmp 52) rfl g8 26 _ _ rfl rfl hZ5 rfl netI (by simp [Value.oneCell']) ?_; intro w6 hZ6 g6; have x0 : w6.cell? ⟨g8, 0, none⟩ = some (.int .u64 2) := hZ6.cell 0; have x1 : w6.cell? ⟨g8, 1, none⟩ = some (.slice A5 m5 c5) := hZ6.cell 1)
  have b6 := bl_gr b5 g6 hb3
  have r6 : LP.rd w6 AllB A5 m5 [⟨1, 0, 1, S, false⟩, ⟨2, 0, 1, S, false⟩] := rd_all (rd_store (hO5.rd (fun _ h => h)) g6 hg8)
  have HW := Lib.hid (spoil_any 2 A5 m5 c5 [⟨1, 0, 1, S, false⟩, ⟨2, 0, 1, S, false⟩] 2 (q : Int) y w6 r6 (by omega))
  by_cases hy : y = 0
  · subst hy
    rw [(sl_spoil0 HS6.out).1, (sl_spoil0 HS6.out).2] at HW
    dsimp only at HW
    refine HW.out.mono ?_
    clear HW x0 x1
    rintro e w7 ⟨A7, m7, c7, rfl, hO7, q7⟩
    have b7 := bl_ca b6 q7
    clear b6 b5 q7 hO7 hO5 r6
    go_wp2_with (refine wpList_store_blk rfl 26 (.tmp 12) (.tmp 61) rfl w7.heap.size 26 _ _ rfl rfl (Blk.new _ _ _) rfl netI (by simp [Value.oneCell']) ?_; intro w8 hZ8 g9)
    go_ret
    exact ⟨rfl, bl_gr (bl_al b7 _) g9 b7.size⟩
  · rw [(sl_spoil HS6.out HQ.out hy).1, (sl_spoil HS6.out HQ.out hy).2] at HW
    dsimp only at HW
    have HNO := Lib.hid (not_opens ys q y hy (by rw [HYL.out]; omega))
    clear hy
    refine HW.out.mono ?_
    clear HW x0 x1
    rintro e w7 ⟨A7, m7, c7, rfl, hO7, q7⟩
    have b7 := bl_ca b6 q7
    have hb7 := b7.size
    have hm7 : m7 ≤ 9 := by have := hO7.len; simp at this; omega
    clear b6 b5 hO5 r6 hZ6 g6 hZ5 q7
    go_wp2_with (refine wpList_store_blk rfl 26 (.tmp 12) (.tmp 61) rfl w7.heap.size 26 _ _ rfl rfl (Blk.new _ _ _) rfl netI (by simp [Value.oneCell']) ?_; intro w8 hZ8 g9; have x0 : w8.cell? ⟨w7.heap.size, 0, none⟩ = some (.int .u64 2) := hZ8.cell 0; have x1 : w8.cell? ⟨w7.heap.size, 1, none⟩ = some (.slice A7 m7 c7) := hZ8.cell 1)
    have T8 := bl_gr (bl_al (Below.refl w7.heap.size w7) _) g9 (Nat.le_refl _)
    have b8 := bl_ca b7 T8
    have r8 : LP.rd w8 AllB A7 m7 [⟨1, 0, 1, S, false⟩, ⟨2, 0, 1, S.set q (S.getD q 0 ^^^ y), true⟩] := Lay.rd_below (hO7.rd (fun _ _ => trivial)) T8
    have hg12 : w7.heap.size < w8.heap.size := hZ8.lt
    have HW := Lib.hid (come_any 2 A7 m7 c7 [⟨1, 0, 1, S, false⟩, ⟨2, 0, 1, S.set q (S.getD q 0 ^^^ y), true⟩] 1 w8 r8 (by omega))
    rw [(sl_come1 HS6.out HQ.out).1, (sl_come1 HS6.out HQ.out).2.1, (sl_come1 HS6.out HQ.out).2.2] at HW
    dsimp only at HW
    clear r8 T8 g9 hO7 b7 hm7
    generalize w7.heap.size = g12 at *
    refine HW.out.mono ?_
    clear HW x0 x1
    rintro e w9 ⟨A9, m9, c9, pA, pn, pc, es9, rfl, hD9, hes9, ho9, _, q9⟩
    have hO9 : OutN w9 w8.heap.size A9 m9 c9 [⟨2, 0, 1, S.set q (S.getD q 0 ^^^ y), true⟩] := ⟨es9, hD9, hes9⟩
    have b9 := bl_ca b8 q9
    have hZ9 := hZ8.ca q9
    have hm9 : m9 ≤ 9 := by have := hO9.len; simp at this; omega
    have hg9 : g12 < w9.heap.size := hZ9.lt
    clear hZ8 b8 hD9 hes9 q9
    go_wp2_with (first | (refine wpList_store_blk rfl 26 (.tmp 12) (.tmp 83) rfl g12 26 _ _ rfl rfl (hZ9.ca (bl_al (Below.refl _ _) _)) rfl netI (by simp [Value.oneCell']) ?_; intro w10 hZ10 g10) | (refine wpList_store_blk rfl 29 (.tmp 14) (.tmp 84) rfl w9.heap.size 29 _ _ rfl rfl ((Blk.new _ _ _).apart g10 (by omega)) rfl parcelI (by simp [Value.oneCell']) ?_; intro w11 hZ11 g11; have hZ11n := hZ10.apart g11 (by omega); have x0 : w11.cell? ⟨g12, 0, none⟩ = some (.int .u64 2) := hZ11n.cell 0; have x1 : w11.cell? ⟨g12, 1, none⟩ = some (.slice A9 m9 c9) := hZ11n.cell 1))
    have hk9 : Kept w9 w11 g12 w9.heap.size := ((Kept.of_below (bl_al (Below.refl _ _) _) (Nat.le_refl _)).trans (Kept.of_grown g10 (by simp) (.inl rfl))).trans (Kept.of_grown g11 (by have := g10.size; simp at this; omega) (.inr (Nat.le_refl _)))
    have b11 := bl_gr (bl_gr (bl_al b9 _) g10 hb7) g11 b9.size
    have r11 : LP.rd w11 AllB A9 m9 [⟨2, 0, 1, S.set q (S.getD q 0 ^^^ y), true⟩] := rd_all (rd_kept (hO9.rd (fun b hb => by omega)) hk9)
    have ho11 : OwnB w11 w8.heap.size pA pn pc S := ho9.at_ (fun k e => hk9.block k (ho9.base_ k e).2 (by have := (ho9.base_ k e).1; omega))
    have HW := Lib.hid (come_any 2 A9 m9 c9 [⟨2, 0, 1, S.set q (S.getD q 0 ^^^ y), true⟩] 2 w11 r11 (by omega))
    rw [(sl_come2 HS6.out HQ.out).1, (sl_come2 HS6.out HQ.out).2.1, (sl_come2 HS6.out HQ.out).2.2] at HW
    dsimp only at HW
    have hb9 := b9.size
    clear r11 hk9 g10 g11 hO9 b9 hm9 ho9 hZ10 hg9 hZ9
    generalize w9.heap.size = g14 at *
    refine HW.out.mono ?_
    clear HW x0 x1
    rintro e w12 ⟨A12, m12, c12, qA, qn, qc, es12, rfl, hD12, hes12, ho12, _, q12⟩
    have b12 := bl_ca b11 q12
    have hZ12 := hZ11.ca q12
    have ho12p := ho11.below q12
    clear hZ11 b11 hD12 hes12 q12 ho11 hZ11n
    go_wp2_with (first | (refine wpList_store_blk rfl 26 (.tmp 15) (.tmp 90) rfl w12.heap.size 26 _ _ rfl rfl ((Blk.new _ _ _).ca (bl_al (Below.refl _ _) _)) rfl netI (by simp [Value.oneCell']) ?_; intro w13 hZ13 g13) | (refine wpList_store_blk rfl 29 (.tmp 16) (.tmp 91) rfl (w12.heap.size + 1) 29 _ _ rfl rfl ((Blk.mk' (by simp)).apart g13 (by omega)) rfl parcelI (by simp [Value.oneCell']) ?_; intro w14 hZ14 g14x; have hZp := hZ12.ca (bl_gr (bl_gr (bl_al (bl_al (Below.refl w12.heap.size w12) _) _) g13 (Nat.le_refl _)) g14x (Nat.le_succ _)); have y3 : w14.cell? ⟨g14, 3, none⟩ = some (.slice pA pn pc) := hZp.cell 3; have y4 : w14.cell? ⟨g14, 4, none⟩ = some (.bool false) := hZp.cell 4; have z3 : w14.cell? ⟨w12.heap.size + 1, 3, none⟩ = some (.slice qA qn qc) := hZ14.cell 3; have z4 : w14.cell? ⟨w12.heap.size + 1, 4, none⟩ = some (.bool true) := hZ14.cell 4))
    have T14 := bl_gr (bl_gr (bl_al (bl_al (Below.refl w12.heap.size w12) _) _) g13 (Nat.le_refl _)) g14x (Nat.le_succ _)
    have b14 := bl_ca b12 T14
    have HO1 := Lib.hid ((open_any pA pn pc S w14 (ho12p.below T14).rd (by have := ho12p.rd.len; have := HSL.out; omega) (ho12p.below T14).cap.1))
    rw [show openErr S = 0 from by rw [HS0.out]; exact (opened_sealed ys).2, show opened S = ys from by rw [HS0.out]; exact (opened_sealed ys).1] at HO1
    have ho14q := ho12.below T14
    have h16 : w12.heap.size + 1 < w14.heap.size := hZ14.lt
    clear b12 ho12p T14 g13 g14x hZ13 ho12
    refine HO1.out.mono ?_
    clear HO1
    rintro e w15 ⟨A15, n15, c15, rfl, ho15, q15⟩
    have b15 := bl_ca b14 q15
    have ho15q := ho14q.below q15
    have u3 : w15.cell? ⟨w12.heap.size + 1, 3, none⟩ = some (.slice qA qn qc) := cell_ca z3 h16 q15
    clear b14 ho14q q15
    go_wp2_with fail
    have hSl : (S.set q (S.getD q 0 ^^^ y)).length = L := by rw [List.length_set]; exact HSL.out
    have HO2 := Lib.hid ((open_any qA qn qc _ w15 ho15q.rd (by have := ho15q.rd.len; omega) ho15q.cap.1))
    have hno : opens (S.set q (S.getD q 0 ^^^ y)) = false := by rw [HS0.out]; exact HNO.out
    rw [show openErr (S.set q (S.getD q 0 ^^^ y)) = 130 from by unfold openErr; rw [if_neg (by omega), hno]; rfl] at HO2
    clear hSl hno
    refine HO2.out.mono ?_
    clear HO2
    rintro e w16 ⟨A16, n16, c16, rfl, _, q16⟩
    have b16 := bl_ca b15 q16
    go_wp2_with fail
    refine (equal_any A15 A n15 c15 k c ys ys w16 (ho15.below q16).rd (HB0.out.below b16)).mono ?_
    rintro e w17 ⟨rfl, rfl⟩
    rw [show (ys == ys) = true from beq_self_eq_true _]
    go_wp2
    go_ret
    exact ⟨rfl, b16⟩
end Go.Proofs.Ytnbcffnhgijmcaa
