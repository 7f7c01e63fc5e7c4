/- bowspritref01.Peek and Raw, of a reader by value. Conditions: the slice reads as these bytes, the place lies within them. -/
import Derived.Test.YtdmfbmpllfkcaaaRefWeighs
namespace Go.Proofs.Ytdmfbmpllfkcaaa
open Go.RowKit
set_option maxRecDepth 100000 in
set_option maxHeartbeats 1000000 in
theorem refpeek_any (A : Option Addr) (n c p : Nat) (why k : Int) (bs : List UInt8) (w : World) (h : RdB w A n bs) (hp : p ≤ n) (hn : n ≤ 140737488351232) (hk0 : -9223372036854775808 ≤ k) (hk1 : k ≤ 9223372036854775807) :
    Calls Try.prog 37 #[.agg #[.slice A n c, .int .i64 (p : Int), .int .i64 why], .int .i64 k] w fun e w' => e = .returned (.tuple #[vb (pkB bs p why k), .bool (pkO bs p why k)]) ∧ Below w.heap.size w w' := by
  have b0 : Below w.heap.size w (w.alloc (.cells #[.slice A n c, .int .i64 (p : Int), .int .i64 why] 58)) := (Below.refl _ _).alloc (Nat.le_refl _) _
  have hl := h.len
  by_cases hw : why = 0
  · subst hw
    by_cases hk : k < 0
    · have e1 : pkB bs p 0 k = 0 := by unfold pkB; rw [if_neg (by omega)]
      have e2 : pkO bs p 0 k = false := by unfold pkO; rw [decide_eq_false (by omega)]
      rw [e1, e2]
      clear e1 e2 hl h
      go_enter Try.func37, Try.ntmps37
      go_wp2
      go_ret2
      exact ⟨rfl, b0⟩
    · obtain ⟨k, rfl⟩ := Int.eq_ofNat_of_zero_le (show 0 ≤ k by omega)
      by_cases hkn : (k : Int) < (n : Int) - p
      · have e1 : pkB bs p 0 k = bs.getD (p + k) 0 := by unfold pkB; rw [if_pos (by omega)]; simp
        have e2 : pkO bs p 0 k = true := by unfold pkO; rw [decide_eq_true (by omega)]
        rw [e1, e2]
        clear e1 e2 hl
        have h0 := RdB.alloc h (.cells #[.slice A n c, .int .i64 (p : Int), .int .i64 0] 58)
        obtain ⟨ad, rfl, _, hcg⟩ := h0.cellAt (p + k) (by omega)
        generalize hx : bs.getD (p + k) 0 = x at *
        clear hx
        have i0 : (0 : Int) ≤ (p : Int) + (k : Int) := by omega
        have i1 : (p : Int) + (k : Int) < (n : Int) := by omega
        have i2 : ((p : Int) + (k : Int)).toNat = p + k := by omega
        clear h h0
        go_enter Try.func37, Try.ntmps37
        go_wp2
        go_ret2
        exact ⟨rfl, b0⟩
      · have e1 : pkB bs p 0 k = 0 := by unfold pkB; rw [if_neg (by omega)]
        have e2 : pkO bs p 0 k = false := by unfold pkO; rw [decide_eq_false (by omega)]
        rw [e1, e2]
        clear e1 e2 hl h
        go_enter Try.func37, Try.ntmps37
        go_wp2
        go_ret2
        exact ⟨rfl, b0⟩
  · have e1 : pkB bs p why k = 0 := by unfold pkB; rw [if_neg (by omega)]
    have e2 : pkO bs p why k = false := by unfold pkO; rw [decide_eq_false (by omega)]
    rw [e1, e2]
    have hwn : (why != 0) = true := by rw [bne_iff_ne]; exact hw
    clear e1 e2 hl hw h
    go_enter Try.func37, Try.ntmps37
    go_wp2
    go_ret2
    exact ⟨rfl, b0⟩
set_option maxRecDepth 100000 in
set_option maxHeartbeats 2000000 in
theorem refraw_any (A : Option Addr) (n c p : Nat) (why m : Int) (bs : List UInt8) (w : World) (h : RdB w A n bs) (hp : p ≤ n) (hn : n ≤ 140737488351232) (hc : n ≤ c) (hm0 : -9223372036854775808 ≤ m) (hm1 : m ≤ 9223372036854775807) :
    Calls Try.prog 38 #[.agg #[.slice A n c, .int .i64 (p : Int), .int .i64 why], .int .i64 m] w fun e w' => ∃ A' c', 
      e = .returned (.tuple #[.agg #[.slice A n c, .int .i64 (rdP bs p why m : Nat), .int .i64 (rdW bs p why m)], .slice A' (rdO bs p why m).length c']) ∧ OwnB w' w.heap.size A' (rdO bs p why m).length c' (rdO bs p why m) ∧ Below w.heap.size w w' := by
  have hl := h.len
  by_cases hw : why = 0
  · subst hw
    by_cases hm : m < 0
    · have e1 : rdP bs p 0 m = p := by unfold rdP; rw [if_neg (by omega)]
      have e2 : rdW bs p 0 m = 2 := by unfold rdW; rw [if_pos rfl, if_pos hm]
      have e3 : rdO bs p 0 m = [] := by unfold rdO; rw [if_neg (by omega)]
      rw [e1, e2, e3]
      clear e1 e2 e3 hl h
      go_enter Try.func38, Try.ntmps38
      go_wp2
      refine bodyPost_ret (v := .tuple #[.agg #[.slice A n c, .int .i64 (p : Int), .int .i64 2], .slice none 0 0]) (by simp [results, Try.results38, go_sem]) rfl ⟨none, 0, rfl, OwnB.none_ _ _, ?_⟩
      exact ((Below.refl _ _).alloc (Nat.le_refl _) _).alloc (by simp) _
    · obtain ⟨m, rfl⟩ := Int.eq_ofNat_of_zero_le (show 0 ≤ m by omega)
      by_cases hmn : (n : Int) - p < m
      · have e1 : rdP bs p 0 m = p := by unfold rdP; rw [if_neg (by omega)]
        have e2 : rdW bs p 0 m = 7 := by unfold rdW; rw [if_pos rfl, if_neg hm, if_pos (by omega)]
        have e3 : rdO bs p 0 m = [] := by unfold rdO; rw [if_neg (by omega)]
        rw [e1, e2, e3]
        clear e1 e2 e3 hl h
        go_enter Try.func38, Try.ntmps38
        go_wp2
        refine bodyPost_ret (v := .tuple #[.agg #[.slice A n c, .int .i64 (p : Int), .int .i64 7], .slice none 0 0]) (by simp [results, Try.results38, go_sem]) rfl ⟨none, 0, rfl, OwnB.none_ _ _, ?_⟩
        exact ((Below.refl _ _).alloc (Nat.le_refl _) _).alloc (by simp) _
      · have e1 : rdP bs p 0 m = p + m := by unfold rdP; rw [if_pos (by omega)]; simp
        have e2 : rdW bs p 0 m = 0 := by unfold rdW; rw [if_pos rfl, if_neg hm, if_neg (by omega)]
        have e3 : rdO bs p 0 m = (bs.drop p).take m := by unfold rdO; rw [if_pos (by omega)]; simp
        rw [e1, e2, e3]
        have hol : ((bs.drop p).take m).length = m := by rw [List.length_take, List.length_drop]; omega
        rw [hol]
        clear e1 e2 e3 hl hol
        have h0 := RdB.alloc (RdB.alloc h (.cells #[.slice A n c, .int .i64 (p : Int), .int .i64 0] 58)) (.cells #[.slice none 0 0, .int .i64 0, .int .i64 0] 58)
        have b0 : Below w.heap.size w ((w.alloc (.cells #[.slice A n c, .int .i64 (p : Int), .int .i64 0] 58)).alloc (.cells #[.slice none 0 0, .int .i64 0, .int .i64 0] 58)) := ((Below.refl _ _).alloc (Nat.le_refl _) _).alloc (by simp) _
        have hb1 := (Blk.new w 58 #[.slice A n c, .int .i64 (p : Int), .int .i64 0]).alloc (.cells #[.slice none 0 0, .int .i64 0, .int .i64 0] 58)
        have hb2 := Blk.new (w.alloc (.cells #[.slice A n c, .int .i64 (p : Int), .int .i64 0] 58)) 58 #[.slice none 0 0, .int .i64 0, .int .i64 0]
        have hs1 : (w.alloc (.cells #[.slice A n c, .int .i64 (p : Int), .int .i64 0] 58)).heap.size = w.heap.size + 1 := by simp
        rw [hs1] at hb2
        have hx := (h0.cut (k := p) (cap := c) hp hc).take (k := m) (by omega)
        have i0 : (p : Int) ≤ (p : Int) + (m : Int) := by omega
        have i1 : (p : Int) + (m : Int) ≤ (c : Int) := by omega
        have i2 : ((p : Int) + (m : Int)).toNat = p + m := by omega
        clear h h0 hs1
        have hT : w.heap.size < ((w.alloc (.cells #[.slice A n c, .int .i64 (p : Int), .int .i64 0] 58)).alloc (.cells #[.slice none 0 0, .int .i64 0, .int .i64 0] 58)).heap.size := hb1.lt
        by_cases hcp : c = p
        · subst hcp
          rw [if_pos rfl] at hx
          go_enter Try.func38, Try.ntmps38
          go_wp2_with fail
          generalize ((w.alloc (.cells #[.slice A n c, .int .i64 (c : Int), .int .i64 0] 58)).alloc (.cells #[.slice none 0 0, .int .i64 0, .int .i64 0] 58)) = w0 at *
          refine (behind_any _ none m _ 0 0 _ [] _ hx RdB.nil (by omega)).mono ?_
          rintro e w1 ⟨A1, c1, rfl, ho1, q1⟩
          rw [List.append_nil, Nat.add_zero] at ho1
          have b1 := b0.trans (q1.mono b0.size)
          have g1 := hb1.below q1 hb1.lt
          have g2 := hb2.below q1 hb2.lt
          have lt2 := hb2.lt
          have d0 : w1.cell? ⟨w.heap.size, 0, none⟩ = some (.slice A n c) := g1.cell 0
          have d1 : w1.cell? ⟨w.heap.size, 1, none⟩ = some (.int .i64 (c : Int)) := g1.cell 1
          have d2 : w1.cell? ⟨w.heap.size, 2, none⟩ = some (.int .i64 0) := g1.cell 2
          have t0 : w1.cell? ⟨w.heap.size + 1, 0, none⟩ = some (.slice none 0 0) := g2.cell 0
          have t1 : w1.cell? ⟨w.heap.size + 1, 1, none⟩ = some (.int .i64 0) := g2.cell 1
          have t2 : w1.cell? ⟨w.heap.size + 1, 2, none⟩ = some (.int .i64 0) := g2.cell 2
          have f1 : w1.frozen? ⟨w.heap.size, 1, none⟩ = false := g1.frozen 1
          have v0 : w1.frozen? ⟨w.heap.size + 1, 0, none⟩ = false := g2.frozen 0
          have v1 : w1.frozen? ⟨w.heap.size + 1, 1, none⟩ = false := g2.frozen 1
          have v2 : w1.frozen? ⟨w.heap.size + 1, 2, none⟩ = false := g2.frozen 2
          clear hx b0 q1 g1 g2 hb1 hb2
          go_wp2
          refine bodyPost_ret (v := .tuple #[.agg #[.slice A n c, .int .i64 ((c : Int) + (m : Int)), .int .i64 0], .slice A1 m c1]) (by simp [results, Try.results38, go_sem, t0, t1, t2]) rfl ⟨A1, c1, by simp, ?_, ?_⟩
          · exact (((((ho1.far (p := ⟨w.heap.size, 1, none⟩) (by simp; omega) _).far (p := ⟨w.heap.size + 1, 0, none⟩) (by simp; omega) _).far (p := ⟨w.heap.size + 1, 1, none⟩) (by simp; omega) _).far (p := ⟨w.heap.size + 1, 2, none⟩) (by simp; omega) _).less (by omega))
          · exact (((b1.setCell (p := ⟨w.heap.size, 1, none⟩) (Nat.le_refl _) _).setCell (p := ⟨w.heap.size + 1, 0, none⟩) (by simp) _).setCell (p := ⟨w.heap.size + 1, 1, none⟩) (by simp) _).setCell (p := ⟨w.heap.size + 1, 2, none⟩) (by simp) _
        · rw [if_neg hcp] at hx
          go_enter Try.func38, Try.ntmps38
          go_wp2_with fail
          generalize ((w.alloc (.cells #[.slice A n c, .int .i64 (p : Int), .int .i64 0] 58)).alloc (.cells #[.slice none 0 0, .int .i64 0, .int .i64 0] 58)) = w0 at *
          refine (behind_any _ none m _ 0 0 _ [] _ hx RdB.nil (by omega)).mono ?_
          rintro e w1 ⟨A1, c1, rfl, ho1, q1⟩
          rw [List.append_nil, Nat.add_zero] at ho1
          have b1 := b0.trans (q1.mono b0.size)
          have g1 := hb1.below q1 hb1.lt
          have g2 := hb2.below q1 hb2.lt
          have lt2 := hb2.lt
          have d0 : w1.cell? ⟨w.heap.size, 0, none⟩ = some (.slice A n c) := g1.cell 0
          have d1 : w1.cell? ⟨w.heap.size, 1, none⟩ = some (.int .i64 (p : Int)) := g1.cell 1
          have d2 : w1.cell? ⟨w.heap.size, 2, none⟩ = some (.int .i64 0) := g1.cell 2
          have t0 : w1.cell? ⟨w.heap.size + 1, 0, none⟩ = some (.slice none 0 0) := g2.cell 0
          have t1 : w1.cell? ⟨w.heap.size + 1, 1, none⟩ = some (.int .i64 0) := g2.cell 1
          have t2 : w1.cell? ⟨w.heap.size + 1, 2, none⟩ = some (.int .i64 0) := g2.cell 2
          have f1 : w1.frozen? ⟨w.heap.size, 1, none⟩ = false := g1.frozen 1
          have v0 : w1.frozen? ⟨w.heap.size + 1, 0, none⟩ = false := g2.frozen 0
          have v1 : w1.frozen? ⟨w.heap.size + 1, 1, none⟩ = false := g2.frozen 1
          have v2 : w1.frozen? ⟨w.heap.size + 1, 2, none⟩ = false := g2.frozen 2
          clear hx b0 q1 g1 g2 hb1 hb2
          go_wp2
          refine bodyPost_ret (v := .tuple #[.agg #[.slice A n c, .int .i64 ((p : Int) + (m : Int)), .int .i64 0], .slice A1 m c1]) (by simp [results, Try.results38, go_sem, t0, t1, t2]) rfl ⟨A1, c1, by simp, ?_, ?_⟩
          · exact (((((ho1.far (p := ⟨w.heap.size, 1, none⟩) (by simp; omega) _).far (p := ⟨w.heap.size + 1, 0, none⟩) (by simp; omega) _).far (p := ⟨w.heap.size + 1, 1, none⟩) (by simp; omega) _).far (p := ⟨w.heap.size + 1, 2, none⟩) (by simp; omega) _).less (by omega))
          · exact (((b1.setCell (p := ⟨w.heap.size, 1, none⟩) (Nat.le_refl _) _).setCell (p := ⟨w.heap.size + 1, 0, none⟩) (by simp) _).setCell (p := ⟨w.heap.size + 1, 1, none⟩) (by simp) _).setCell (p := ⟨w.heap.size + 1, 2, none⟩) (by simp) _
  · have e1 : rdP bs p why m = p := by unfold rdP; rw [if_neg (by omega)]
    have e2 : rdW bs p why m = why := by unfold rdW; rw [if_neg hw]
    have e3 : rdO bs p why m = [] := by unfold rdO; rw [if_neg (by omega)]
    rw [e1, e2, e3]
    have hwn : (why != 0) = true := by rw [bne_iff_ne]; exact hw
    clear e1 e2 e3 hl h hw
    go_enter Try.func38, Try.ntmps38
    go_wp2
    refine bodyPost_ret (v := .tuple #[.agg #[.slice A n c, .int .i64 (p : Int), .int .i64 why], .slice none 0 0]) (by simp [results, Try.results38, go_sem]) rfl ⟨none, 0, rfl, OwnB.none_ _ _, ?_⟩
    exact ((Below.refl _ _).alloc (Nat.le_refl _) _).alloc (by simp) _
end Go.Proofs.Ytdmfbmpllfkcaaa
