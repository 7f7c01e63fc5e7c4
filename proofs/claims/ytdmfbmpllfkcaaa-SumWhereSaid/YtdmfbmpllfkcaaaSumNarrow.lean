/- The walk of the statement SumNarrow: the Go text answers true and turns no memory that was there. Conditions: the slice reads as these bytes. -/
import Derived.Test.YtdmfbmpllfkcaaaSumOpened
namespace Go.Proofs.Ytdmfbmpllfkcaaa
open Go.RowKit
/-- the bytes xs, those from place p on turned by the first k of ts -/
def burst (xs ts : List UInt8) (p k : Nat) : List UInt8 := (List.range xs.length).map fun j => xs.getD j 0 ^^^ (if p ≤ j ∧ j < p + k then ts.getD (j - p) 0 else 0)
theorem burst_len (xs ts : List UInt8) (p k : Nat) : (burst xs ts p k).length = xs.length := by simp [burst]
theorem burst_zero (xs ts : List UInt8) (p : Nat) : burst xs ts p 0 = xs := by
  apply List.ext_getElem
  · simp [burst]
  · intro j h1 h2
    simp only [burst, List.getElem_map, List.getElem_range]
    rw [if_neg (by omega)]
    simp [List.getD, List.getElem?_eq_getElem h2]
theorem burst_succ (xs ts : List UInt8) (p k : Nat) (h : p + k < xs.length) : (burst xs ts p k).set (p + k) ((burst xs ts p k).getD (p + k) 0 ^^^ ts.getD k 0) = burst xs ts p (k + 1) := by
  have hg : (burst xs ts p k).getD (p + k) 0 = xs.getD (p + k) 0 := by
    have hpl : p + k < (burst xs ts p k).length := by rw [burst_len]; exact h
    rw [List.getD_eq_getElem?_getD, List.getElem?_eq_getElem hpl, Option.getD_some]
    simp only [burst, List.getElem_map, List.getElem_range]
    rw [if_neg (by omega)]; simp
  rw [hg]
  apply List.ext_getElem
  · simp [burst]
  · intro j h1 h2
    rw [List.getElem_set]
    by_cases e : p + k = j
    · subst e
      rw [if_pos rfl]
      simp only [burst, List.getElem_map, List.getElem_range]
      rw [if_pos (by omega), show p + k - p = k by omega]
    · rw [if_neg e]
      simp only [burst, List.getElem_map, List.getElem_range]
      by_cases h3 : p ≤ j ∧ j < p + k
      · rw [if_pos h3, if_pos (by omega)]
      · rw [if_neg h3, if_neg (by omega)]
theorem burst_four (xs : List UInt8) (a b c d : UInt8) (p : Nat) (h : p + 4 ≤ xs.length) :
    burst xs [a, b, c, d] p 4 = List.zipWith (· ^^^ ·) xs (List.replicate p 0 ++ [a, b, c, d] ++ List.replicate (xs.length - p - 4) 0) := by
  apply List.ext_getElem
  · simp [burst]; omega
  · intro j h1 h2
    have hj : j < xs.length := by rwa [burst_len] at h1
    rw [List.getElem_zipWith]
    simp only [burst, List.getElem_map, List.getElem_range]
    have e1 : xs.getD j 0 = xs[j] := by simp [List.getD, List.getElem?_eq_getElem hj]
    rw [e1]
    congr 1
    by_cases h3 : p ≤ j ∧ j < p + 4
    · rw [if_pos h3, List.getElem_append_left (by simp; omega), List.getElem_append_right (by simp; omega)]
      simp only [List.length_replicate]
      rw [List.getD_eq_getElem?_getD, List.getElem?_eq_getElem (by simp; omega), Option.getD_some]
    · rw [if_neg h3]
      rw [List.getElem_append]
      split
      · rename_i h4
        simp at h4
        rw [List.getElem_append_left (by simp; omega)]
        simp
      · simp
theorem sum_burst (xs : List UInt8) (a b c d : UInt8) (p : Nat) (h : p + 4 ≤ xs.length) (hne : ¬ (a = 0 ∧ b = 0 ∧ c = 0 ∧ d = 0)) : Crc.sum xs ≠ Crc.sum (burst xs [a, b, c, d] p 4) := by
  rw [burst_four xs a b c d p h]
  exact Crc.sum_inj_turn _ _ (by simp; omega) (Crc.reg_burst _ _ a b c d hne)
theorem run_part4 (x0 x1 x2 x3 : Int) (w : World) : ∀ i, i < 4 → (part 5 #[.int .u8 x0, .int .u8 x1, .int .u8 x2, .int .u8 x3] i).run Try.prog w = .ok (.int .u8 ([x0, x1, x2, x3].getD i 0)) w := by
  intro i hi
  refine run_part_plain w (by kernel_rfl) ?_
  have : i = 0 ∨ i = 1 ∨ i = 2 ∨ i = 3 := by omega
  rcases this with rfl | rfl | rfl | rfl <;> rfl
theorem eq4 (x0 x1 x2 x3 : Int) (w : World) : (Op.equalIn 10000 31 (.agg #[.int .u8 x0, .int .u8 x1, .int .u8 x2, .int .u8 x3]) (.agg #[.int .u8 0, .int .u8 0, .int .u8 0, .int .u8 0])).run Try.prog w = .ok (x0 == 0 && (x1 == 0 && (x2 == 0 && x3 == 0))) w := by
  have hi : ∃ i, Try.prog.info? 5 = some i := by
    obtain ⟨i0, hi0, _⟩ := info_parts Try.byteInfo; exact ⟨i0, hi0⟩
  obtain ⟨i0, hi0⟩ := hi
  have hc : Try.prog.cellsOf 5 = 1 := by kernel_rfl
  rw [show (10000 : Nat) = 9999 + 1 from rfl, run_equalIn_array w 9999 _ _ Try.underlying31 hi0, hc]
  have hp := run_part4 x0 x1 x2 x3
  have hq := run_part4 0 0 0 0
  have h0 := fun w => hp w 0 (by omega);
  have g0 := fun w => hq w 0 (by omega);
  have he := fun (a b : Int) (w : World) => run_equalIn_int (P := Try.prog) w 9998 5 .u8 .u8 a b Try.underlying5
  simp only [show List.range 4 = [0, 1, 2, 3] from rfl, Op.eqItems, Nat.mul_one, Sem.run_bind, h0, g0, Result.andThen_ok, he, List.getD]
  cases hx0 : (x0 == 0) <;> cases hx1 : (x1 == 0) <;> cases hx2 : (x2 == 0) <;> cases hx3 : (x3 == 0) <;> simp_all
set_option maxRecDepth 100000 in
set_option maxHeartbeats 2000000 in
theorem sumNarrow_walk (A : Option Addr) (n c : Nat) (xs : List UInt8) (i : Int) (t0 t1 t2 t3 : UInt8) (w : World) (ha : RdB w A n xs) (_hc1 : n ≤ c) (_hc2 : c ≤ 9223372036854775807) (_hi : (Lit.int .i64 i).wf = true) :
    Calls Try.prog 4 #[.slice A n c, .int .i64 i, .agg #[vb t0, vb t1, vb t2, vb t3]] w fun e w' => e = .returned (.bool true) ∧ Below w.heap.size w w' := by
  clear _hi
  by_cases h1 : 4 ≤ n ∧ n ≤ 1000 ∧ ¬ (t0 = 0 ∧ t1 = 0 ∧ t2 = 0 ∧ t3 = 0)
  · obtain ⟨h4, hk, hne⟩ := h1
    go_enter Try.func4, Try.ntmps4
    go_wp2_with fail
    have hbk := Blk.new w 31 #[vb t0, vb t1, vb t2, vb t3]
    have b0 : Below w.heap.size w (w.alloc (.cells #[vb t0, vb t1, vb t2, vb t3] 31)) := (Below.refl _ _).alloc (Nat.le_refl _) _
    have ha0 := RdB.alloc ha (.cells #[vb t0, vb t1, vb t2, vb t3] 31)
    have hlt := hbk.lt
    generalize w.alloc (.cells #[vb t0, vb t1, vb t2, vb t3] 31) = w0 at *
    refine (wakes3_any w0).mono ?_
    rintro e w1 ⟨rfl, q1⟩
    have b1 := b0.trans (q1.mono b0.size)
    have ha1 := ha0.below q1
    have hb1 := hbk.below q1 hlt
    clear ha ha0 hbk q1 b0
    generalize hT : w.heap.size = T at *
    have HT := Lib.hid hT
    clear hT
    have e0 : w1.cell? ⟨T, 0, none⟩ = some (.int .u8 (t0.toNat : Int)) := hb1.cell 0
    have e1 : w1.cell? ⟨T, 1, none⟩ = some (.int .u8 (t1.toNat : Int)) := hb1.cell 1
    have e2 : w1.cell? ⟨T, 2, none⟩ = some (.int .u8 (t2.toNat : Int)) := hb1.cell 2
    have e3 : w1.cell? ⟨T, 3, none⟩ = some (.int .u8 (t3.toNat : Int)) := hb1.cell 3
    have heq : ∀ w, (Op.equalIn 10000 31 (.agg #[.int .u8 (t0.toNat : Int), .int .u8 (t1.toNat : Int), .int .u8 (t2.toNat : Int), .int .u8 (t3.toNat : Int)]) (.agg #[.int .u8 0, .int .u8 0, .int .u8 0, .int .u8 0])).run Try.prog w = .ok false w := by
      intro w
      rw [eq4]
      have hz : ∀ t : UInt8, ((t.toNat : Int) == 0) = decide (t = 0) := by
        intro t
        rw [Bool.eq_iff_iff, beq_iff_eq, decide_eq_true_iff]
        exact ⟨fun h => UInt8.toNat_inj.1 (by simp; omega), fun h => by subst h; rfl⟩
      rw [hz, hz, hz, hz]
      congr 1
      simp only [Bool.and_eq_false_iff, decide_eq_false_iff_not]
      by_cases a0 : t0 = 0 <;> by_cases a1 : t1 = 0 <;> by_cases a2 : t2 = 0 <;> by_cases a3 : t3 = 0 <;> simp_all
    have HNE := Lib.hid hne
    clear hne
    go_wp2_with fail
    refine (clone_any A n c xs w1 ha1 (by omega)).mono ?_
    rintro e w2 ⟨A2, c2, rfl, ho2, q2⟩
    have hTs : T ≤ w1.heap.size := by have := b1.size; rw [HT.out] at this; exact this
    have b2 := b1.trans (q2.mono hTs)
    have ha2 := ha1.below q2
    have e0 := (q2.cell (p := ⟨T, 0, none⟩) (hb1.lt)).trans e0
    have e1 := (q2.cell (p := ⟨T, 1, none⟩) (hb1.lt)).trans e1
    have e2 := (q2.cell (p := ⟨T, 2, none⟩) (hb1.lt)).trans e2
    have e3 := (q2.cell (p := ⟨T, 3, none⟩) (hb1.lt)).trans e3
    have hTl := hb1.lt
    clear heq hb1 b2 ha2
    obtain ⟨u, hu⟩ : ∃ u : Nat, IntKind.u64.wrap i = (u : Int) := ⟨(IntKind.u64.wrap i).toNat, by
      simp only [IntKind.wrap, IntKind.bits, IntKind.signed]; simp; omega⟩
    obtain ⟨p, hp⟩ : ∃ p : Nat, (u : Int) % ((n : Int) - 3) = (p : Int) := ⟨((u : Int) % ((n : Int) - 3)).toNat, by
      have := Int.emod_nonneg (u : Int) (show ((n : Int) - 3) ≠ 0 by omega); omega⟩
    have hp4 : p + 4 ≤ n := by
      have := Int.emod_lt_of_pos (u : Int) (show 0 < ((n : Int) - 3) by omega); omega
    have hlen := ho2.len
    have HLEN := Lib.hid hlen
    have HSUM := Lib.hid (sum_burst xs t0 t1 t2 t3 p (by omega) HNE.out)
    clear hlen
    go_wp2
    go_loopg [37] 4 (fun g s wr => ∃ k : Nat, k + g ≤ 4 ∧ 4 ≤ k + g ∧ s = .int .i64 k ∧ OwnB wr w1.heap.size A2 n c2 (burst xs [t0, t1, t2, t3] p k) ∧ Below w1.heap.size w1 wr)
    case atStart => exact ⟨0, by omega, by omega, rfl, by rw [burst_zero]; exact ho2, q2⟩
    case round =>
      clear ho2 q2
      obtain ⟨k, hk1, hk2, rfl, ho, hb⟩ := hrel
      by_cases hk4 : k < 4
      · obtain ⟨g, rfl, hgB, hgl, hcg, hfg, hst⟩ := ho.at_ (p + k) (by omega)
        have HBS := Lib.hid (burst_succ xs [t0, t1, t2, t3] p k (by rw [HLEN.out]; omega))
        obtain ⟨tk, htk⟩ : ∃ tk, tk = [t0, t1, t2, t3].getD k 0 := ⟨_, rfl⟩
        have hidx : ∀ w, (Instr.index 31 (.agg #[.int .u8 (t0.toNat : Int), .int .u8 (t1.toNat : Int), .int .u8 (t2.toNat : Int), .int .u8 (t3.toNat : Int)]) (.int .i64 (k : Int))).run Try.prog w = .ok (.int .u8 (tk.toNat : Int)) w := by
          intro w
          subst htk
          have : k = 0 ∨ k = 1 ∨ k = 2 ∨ k = 3 := by omega
          rcases this with rfl | rfl | rfl | rfl <;> rfl
        rw [← htk] at HBS
        clear htk
        generalize hx : (burst xs [t0, t1, t2, t3] p k).getD (p + k) 0 = x at *
        have hcg' : wr.cell? ⟨g, p + k, none⟩ = some (.int .u8 (x.toNat : Int)) := hcg
        have HST := Lib.hid (hst _ _ (vb_xor x tk))
        have e9 : ((p : Int) + (k : Int)).toNat = p + k := by omega
        clear hx hst hcg ho
        go_wp2
        go_roundg (gk - 1)
        case measure => omega
        case rel =>
          refine ⟨k + 1, by omega, by omega, by go_num, ?_, hb.setCell (p := ⟨g, p + k, none⟩) hgB _⟩
          rw [← HBS.out]
          exact HST.out
      · obtain rfl : k = 4 := by omega
        have hr := ha1.below hb
        have hb2 := b1.trans (hb.mono hTs)
        clear hp
        go_wp2_with fail
        refine (sum32_any A n c xs wr hr (by omega)).mono ?_
        rintro e w5 ⟨rfl, q5⟩
        have ho5 := ho.below q5
        have hTw : T ≤ wr.heap.size := Nat.le_trans hTs hb.size
        have hb5 := hb2.trans (q5.mono hTw)
        have hT5 : T ≤ w5.heap.size := Nat.le_trans hTw q5.size
        clear hb2 q5 ho hr
        go_wp2_with fail
        refine (sum32_any A2 n c2 _ w5 ho5.rd (by omega)).mono ?_
        rintro e w6 ⟨rfl, q6⟩
        have hb6 := hb5.trans (q6.mono hT5)
        have hneq : ((Crc.sum xs : Int) != (Crc.sum (burst xs [t0, t1, t2, t3] p 4) : Int)) = true := by
          rw [bne_iff_ne]; intro h; exact HSUM.out (Int.ofNat.inj h)
        generalize Crc.sum (burst xs [t0, t1, t2, t3] p 4) = s1 at *
        generalize Crc.sum xs = s2 at *
        clear hb5 q6 ho5
        go_wp2
        go_ret
        exact ⟨rfl, by rw [HT.out]; exact hb6⟩
  · have hg : n < 4 ∨ (4 ≤ n ∧ 1000 < n) ∨ (4 ≤ n ∧ n ≤ 1000 ∧ t0 = 0 ∧ t1 = 0 ∧ t2 = 0 ∧ t3 = 0) := by
      by_cases a : 4 ≤ n
      · by_cases b : n ≤ 1000
        · by_cases hz : t0 = 0 ∧ t1 = 0 ∧ t2 = 0 ∧ t3 = 0
          · exact .inr (.inr ⟨a, b, hz⟩)
          · exact absurd ⟨a, b, hz⟩ h1
        · exact .inr (.inl ⟨a, by omega⟩)
      · exact .inl (by omega)
    clear h1
    have hbk := Blk.new w 31 #[vb t0, vb t1, vb t2, vb t3]
    have b0 : Below w.heap.size w (w.alloc (.cells #[vb t0, vb t1, vb t2, vb t3] 31)) := (Below.refl _ _).alloc (Nat.le_refl _) _
    have hlt := hbk.lt
    rcases hg with hg | ⟨hg, hg2⟩ | ⟨hg, hg2, rfl, rfl, rfl, rfl⟩
    · go_enter Try.func4, Try.ntmps4
      go_wp2_with fail
      generalize w.alloc (.cells #[vb t0, vb t1, vb t2, vb t3] 31) = w0 at *
      refine (wakes3_any w0).mono ?_
      rintro e w1 ⟨rfl, q1⟩
      have b1 := b0.trans (q1.mono b0.size)
      clear hbk
      go_wp2
      go_ret
      exact ⟨rfl, b1⟩
    · go_enter Try.func4, Try.ntmps4
      go_wp2_with fail
      generalize w.alloc (.cells #[vb t0, vb t1, vb t2, vb t3] 31) = w0 at *
      refine (wakes3_any w0).mono ?_
      rintro e w1 ⟨rfl, q1⟩
      have b1 := b0.trans (q1.mono b0.size)
      clear hbk
      go_wp2
      go_ret
      exact ⟨rfl, b1⟩
    · go_enter Try.func4, Try.ntmps4
      go_wp2_with fail
      generalize w.alloc (.cells #[vb 0, vb 0, vb 0, vb 0] 31) = w0 at *
      refine (wakes3_any w0).mono ?_
      rintro e w1 ⟨rfl, q1⟩
      have b1 := b0.trans (q1.mono b0.size)
      have hb1 := hbk.below q1 hlt
      have e0 : w1.cell? ⟨w.heap.size, 0, none⟩ = some (.int .u8 0) := hb1.cell 0
      have e1 : w1.cell? ⟨w.heap.size, 1, none⟩ = some (.int .u8 0) := hb1.cell 1
      have e2 : w1.cell? ⟨w.heap.size, 2, none⟩ = some (.int .u8 0) := hb1.cell 2
      have e3 : w1.cell? ⟨w.heap.size, 3, none⟩ = some (.int .u8 0) := hb1.cell 3
      have heq : ∀ w, (Op.equalIn 10000 31 (.agg #[.int .u8 0, .int .u8 0, .int .u8 0, .int .u8 0]) (.agg #[.int .u8 0, .int .u8 0, .int .u8 0, .int .u8 0])).run Try.prog w = .ok true w := fun w => eq4 0 0 0 0 w
      clear hbk hb1
      go_wp2
      go_ret
      exact ⟨rfl, b1⟩
end Go.Proofs.Ytdmfbmpllfkcaaa
