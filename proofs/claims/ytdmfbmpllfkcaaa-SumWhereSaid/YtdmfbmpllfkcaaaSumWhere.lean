/- The walk of the statement SumWhere: the Go text answers true and turns no memory that was there. Conditions: the slices read as these bytes. -/
import Derived.Test.YtdmfbmpllfkcaaaSumNarrow
import Derived.Deep.RegionHeld3
namespace Go.Proofs.Ytdmfbmpllfkcaaa
open Go.RowKit
/-- a row turned by another one -/
def turned (xs ts : List UInt8) : List UInt8 := List.zipWith (· ^^^ ·) xs ts
/-- .. its first k bytes -/
def turnedK (xs ts : List UInt8) (k : Nat) : List UInt8 := (List.range xs.length).map fun j => xs.getD j 0 ^^^ (if j < k then ts.getD j 0 else 0)
theorem turnedK_len (xs ts : List UInt8) (k : Nat) : (turnedK xs ts k).length = xs.length := by simp [turnedK]
theorem turnedK_zero (xs ts : List UInt8) : turnedK xs ts 0 = xs := by
  apply List.ext_getElem
  · simp [turnedK]
  · intro j h1 h2
    simp only [turnedK, List.getElem_map, List.getElem_range]
    simp [List.getD, List.getElem?_eq_getElem h2]
theorem turnedK_succ (xs ts : List UInt8) (k : Nat) (h : k < xs.length) : (turnedK xs ts k).set k ((turnedK xs ts k).getD k 0 ^^^ ts.getD k 0) = turnedK xs ts (k + 1) := by
  have hg : (turnedK xs ts k).getD k 0 = xs.getD k 0 := by
    have hpl : k < (turnedK xs ts k).length := by rw [turnedK_len]; exact h
    rw [List.getD_eq_getElem?_getD, List.getElem?_eq_getElem hpl, Option.getD_some]
    simp only [turnedK, List.getElem_map, List.getElem_range]
    rw [if_neg (by omega)]; simp
  rw [hg]
  apply List.ext_getElem
  · simp [turnedK]
  · intro j h1 h2
    rw [List.getElem_set]
    by_cases e : k = j
    · subst e
      rw [if_pos rfl]
      simp only [turnedK, List.getElem_map, List.getElem_range]
      rw [if_pos (by omega)]
    · rw [if_neg e]
      simp only [turnedK, List.getElem_map, List.getElem_range]
      by_cases h3 : j < k
      · rw [if_pos h3, if_pos (by omega)]
      · rw [if_neg h3, if_neg (by omega)]
theorem turnedK_all (xs ts : List UInt8) (h : xs.length = ts.length) : turnedK xs ts xs.length = turned xs ts := by
  apply List.ext_getElem
  · simp [turnedK, turned]; omega
  · intro j h1 h2
    have hj : j < xs.length := by rwa [turnedK_len] at h1
    simp only [turned, List.getElem_zipWith, turnedK, List.getElem_map, List.getElem_range]
    rw [if_pos hj]
    simp [List.getD, List.getElem?_eq_getElem hj, List.getElem?_eq_getElem (show j < ts.length by omega)]
set_option maxRecDepth 100000 in
set_option maxHeartbeats 2000000 in
theorem turned_any (A : Option Addr) (m c : Nat) (xs : List UInt8) (C : Option Addr) (l d : Nat) (ts : List UInt8) (N T : Nat) (n : Nat) (w : World) (ha : RdB w A m xs) (ht : RdB w C l ts) (hm : n ≤ m) (hl : n ≤ l) (hc : m ≤ c) (hn : n ≤ 1000)
    (hN : w.cell? ⟨N, 0, none⟩ = some (.int .i64 (n : Nat))) (hT : w.cell? ⟨T, 0, none⟩ = some (.slice C l d)) (_hNl : N < w.heap.size) (hTl : T < w.heap.size) :
    Calls Try.prog 44 #[.slice A m c, .pointer (some ⟨N, 0, none⟩), .pointer (some ⟨T, 0, none⟩)] w fun e w' =>
      ∃ A' c', e = .returned (.slice A' n c') ∧ OwnB w' w.heap.size A' n c' (turned (xs.take n) (ts.take n)) ∧ Below w.heap.size w w' := by
  have htk := ha.take hm
  have htl := ht.take hl
  have HX := Lib.hid htk.len
  have HT := Lib.hid htl.len
  go_enter Try.func44, Try.ntmps44
  go_wp2_with fail
  refine (clone_any A n c (xs.take n) w htk (by omega)).mono ?_
  rintro e w1 ⟨A1, c1, rfl, ho1, q1⟩
  go_wp2
  go_loopg [13] n (fun g s wr => ∃ k : Nat, k + g ≤ n ∧ n ≤ k + g ∧ s = .int .i64 k ∧ OwnB wr w.heap.size A1 n c1 (turnedK (xs.take n) (ts.take n) k) ∧ Below w.heap.size w wr)
  case atStart => exact ⟨0, by omega, by omega, rfl, by rw [turnedK_zero]; exact ho1, q1⟩
  case round =>
    clear ho1 q1
    obtain ⟨k, hk1, hk2, rfl, ho, hb⟩ := hrel
    by_cases hk : k < n
    · obtain ⟨g, rfl, hgB, hgl, hcg, hfg, hst⟩ := ho.at_ k hk
      obtain ⟨ad, rfl, hadl, had⟩ := htl.cellAt k hk
      have HS := Lib.hid (turnedK_succ (xs.take n) (ts.take n) k (by rw [HX.out]; exact hk))
      generalize (turnedK (xs.take n) (ts.take n) k).getD k 0 = x at *
      generalize (ts.take n).getD k 0 = t at *
      have hcg' : wr.cell? ⟨g, k, none⟩ = some (.int .u8 (x.toNat : Int)) := hcg
      have had' : wr.cell? (ad.add k) = some (.int .u8 (t.toNat : Int)) := (hb.cell (by rw [block_of_add]; exact hadl)).trans had
      have hT' : wr.cell? ⟨T, 0, none⟩ = some (.slice (some ad) l d) := (hb.cell hTl).trans hT
      have HST := Lib.hid (hst _ _ (vb_xor x t))
      have hkl : (k : Int) < (l : Int) := by omega
      clear hst hcg ho had hT hN ha ht htk htl
      go_wp2
      have hk0 : (0 : Int) ≤ (k : Int) := by omega
      have hkn : (k : Int) < (n : Int) := by omega
      go_region
      all_goals
        go_wp2
        go_roundg (gk - 1)
        case measure => omega
        case rel =>
          refine ⟨k + 1, by omega, by omega, by go_num, ?_, (hb.setCell (p := ⟨g, k, none⟩) hgB _).drew⟩
          rw [← HS.out]
          exact HST.out
    · obtain rfl : k = n := by omega
      have HA := Lib.hid (turnedK_all (xs.take k) (ts.take k) (by rw [HX.out, HT.out]))
      clear ha ht htk htl hT hN
      go_wp2
      go_ret
      rw [HX.out] at HA
      refine ⟨A1, c1, rfl, ?_, hb⟩
      rw [← HA.out]; exact ho
theorem apartT_any (A A5 : Option Addr) (k c c5 : Nat) (xs ts : List UInt8) (w : World) (ha : RdB w A k xs) (hb : RdB w A5 k (turned xs ts)) (hl : xs.length = ts.length) (hk : k ≤ 140737488351232) :
    Calls Try.prog 41 #[.slice A k c, .slice A5 k c5] w fun e w' => e = .returned (.tuple #[.int .u32 (Crc.reg 0 ts : Nat), .int .i64 0]) ∧ Below w.heap.size w w' := by
  refine (apart_any A A5 k c k c5 xs _ w ha hb hk hk).mono ?_
  rintro e w' ⟨rfl, h⟩
  simp only [if_pos]
  exact ⟨by rw [show Crc.sum xs ^^^ Crc.sum (turned xs ts) = Crc.reg 0 ts from Crc.sum_turned xs ts hl], h⟩
theorem made_bytes (k : Nat) : madeCells (Value.int .u8 0).cells (k * 1) = ((List.replicate k (0 : UInt8)).map vb).toArray := by
  apply Array.ext'
  have : (Value.int .u8 0).cells = #[Value.int .u8 0] := rfl
  rw [this, Nat.mul_one, toList_madeCells_one]
  simp [vb]
theorem rep_bytes (k : Nat) : ((List.replicate k (0 : UInt8)).map vb).toArray = Array.replicate k (vb 0) := by simp
theorem run_makeB (k : Nat) (hk : k ≤ 140737488355328) (W : World) : (Instr.makeSlice 22 (.int .i64 (k : Int)) (.int .i64 (k : Int))).run Try.prog W = .ok (.slice (some ⟨W.heap.size, 0, none⟩) k k) (W.alloc (.cells (Array.replicate k (vb 0)) 5)) := by
  obtain ⟨i0, hi0, hz0, hz1, hz2⟩ := info_parts Try.byteInfo
  have := run_make_rowN (P := Try.prog) 22 5 i0 _ Try.underlying22 hi0 hz0 .i64 .i64 k k (Nat.le_refl _) (by rw [hz2]; omega) (by omega) W
  rw [hz1, made_bytes, rep_bytes] at this
  exact this
theorem not_zeros (ts : List UInt8) (k : Nat) (h : ts.length = k) (hr : Crc.reg 0 ts ≠ 0) : (ts == List.replicate k 0) = false := by
  rw [beq_eq_false_iff_ne]
  rintro rfl
  exact hr (Crc.reg_zeros _)
set_option maxRecDepth 100000 in
set_option maxHeartbeats 4000000 in
theorem sumWhere_walk (A : Option Addr) (n c : Nat) (xs : List UInt8) (B : Option Addr) (m d : Nat) (ys : List UInt8) (C : Option Addr) (l f : Nat) (ts : List UInt8) (w : World) (ha : RdB w A n xs) (ha1 : n ≤ c) (_ha2 : c ≤ 9223372036854775807) (hb : RdB w B m ys) (hb1 : m ≤ d) (_hb2 : d ≤ 9223372036854775807) (hc : RdB w C l ts) (hc1 : l ≤ f) (_hc2 : f ≤ 9223372036854775807) :
    Calls Try.prog 12 #[.slice A n c, .slice B m d, .slice C l f] w fun e w' => e = .returned (.bool true) ∧ Below w.heap.size w w' := by
  go_enter Try.func12, Try.ntmps12
  go_wp2_with fail
  have hbk := Blk.new w 22 #[.slice C l f]
  have b0 : Below w.heap.size w (w.alloc (.cells #[.slice C l f] 22)) := (Below.refl _ _).alloc (Nat.le_refl _) _
  have hlt := hbk.lt
  have ra := RdB.alloc ha (.cells #[.slice C l f] 22)
  have rb := RdB.alloc hb (.cells #[.slice C l f] 22)
  have rc := RdB.alloc hc (.cells #[.slice C l f] 22)
  generalize w.alloc (.cells #[.slice C l f] 22) = w0 at *
  refine (wakes3_any w0).mono ?_
  rintro e w1 ⟨rfl, q1⟩
  have b1 := b0.trans (q1.mono b0.size)
  have hk1 := hbk.below q1 hlt
  replace ra := ra.below q1
  replace rb := rb.below q1
  replace rc := rc.below q1
  have hT1 := hk1.lt
  have hs1 := b1.size
  clear ha hb hc hbk q1 b0
  generalize hT : w.heap.size = T at *
  have HTT := Lib.hid hT
  clear hT
  have e0 : w1.cell? ⟨T, 0, none⟩ = some (.slice C l f) := hk1.cell 0
  obtain ⟨k, hk⟩ : ∃ k : Nat, k = min (min (min n m) l) 1000 := ⟨_, rfl⟩
  have hkn : k ≤ n := by omega
  have hkm : k ≤ m := by omega
  have hkl : k ≤ l := by omega
  have hk4 : k ≤ 1000 := by omega
  have hmin : ∀ w, (Builtin.min_ #[3, 3, 3, 3] 3 #[.int .i64 (n : Int), .int .i64 (m : Int), .int .i64 (l : Int), .int .i64 1000]).run Try.prog w = .ok (.int .i64 (k : Int)) w := by
    intro w
    have : ((if (1000 : Int) < (if (l : Int) < (if (m : Int) < (n : Int) then (m : Int) else (n : Int)) then (l : Int) else (if (m : Int) < (n : Int) then (m : Int) else (n : Int))) then (1000 : Int) else (if (l : Int) < (if (m : Int) < (n : Int) then (m : Int) else (n : Int)) then (l : Int) else (if (m : Int) < (n : Int) then (m : Int) else (n : Int)))) : Int) = (k : Int) := by
      repeat' split
      all_goals omega
    simp only [Builtin.min_, List.foldlM, Builtin.min2, Sem.run_bind, Sem.run_pure, Result.andThen_ok]
    rw [this]
  clear hk
  go_wp2
  have hbN := Blk.new w1 3 #[.int .i64 (k : Int)]
  have hk2 := hk1.alloc (.cells #[.int .i64 (k : Int)] 3)
  have b2 : Below T w (w1.alloc (.cells #[.int .i64 (k : Int)] 3)) := b1.alloc (by omega) _
  replace ra := ra.alloc (.cells #[.int .i64 (k : Int)] 3)
  replace rb := rb.alloc (.cells #[.int .i64 (k : Int)] 3)
  replace rc := rc.alloc (.cells #[.int .i64 (k : Int)] 3)
  generalize w1.alloc (.cells #[.int .i64 (k : Int)] 3) = w2 at *
  generalize hNN : w1.heap.size = N at *
  have hTN : T < N := by omega
  have hNl := hbN.lt
  have hTl := hk2.lt
  clear hmin hk1 b1 e0 hNN w0 hlt
  have eN : w2.cell? ⟨N, 0, none⟩ = some (.int .i64 (k : Int)) := hbN.cell 0
  have eT : w2.cell? ⟨T, 0, none⟩ = some (.slice C l f) := hk2.cell 0
  have eN' : w2.drew.cell? ⟨N, 0, none⟩ = some (.int .i64 (k : Int)) := eN
  have eT' : w2.drew.cell? ⟨T, 0, none⟩ = some (.slice C l f) := eT
  have raD : RdB w2.drew A n xs := ra
  have rbD : RdB w2.drew B m ys := rb
  have rcD : RdB w2.drew C l ts := rc
  have hk0 : (0 : Int) ≤ (k : Int) := by omega
  have hkc : (k : Int) ≤ (c : Int) := by omega
  have hkd : (k : Int) ≤ (d : Int) := by omega
  have hkf : (k : Int) ≤ (f : Int) := by omega
  have HLx := Lib.hid (show (xs.take k).length = (ts.take k).length from by rw [(ra.take hkn).len, (rc.take hkl).len])
  have HLy := Lib.hid (show (ys.take k).length = (ts.take k).length from by rw [(rb.take hkm).len, (rc.take hkl).len])
  have HLt := Lib.hid (show (ts.take k).length = k from (rc.take hkl).len)
  go_region_held3 (fun w' => w'.cell? ⟨N, 0, none⟩ = some (.int .i64 (k : Int))) (first | go_keep | exact eN5 | exact eN6)
    (first
      | (go_at_call 44; refine (turned_any A n c xs C l f ts N T k _ raD rcD hkn hkl ha1 hk4 eN' eT' hNl hTl).mono ?_; rintro e w5 ⟨A5, c5, rfl, ho5, q5⟩; have eN5 := (q5.cell (p := ⟨N, 0, none⟩) hNl).trans eN')
      | (go_at_call 41; refine (apartT_any A A5 k c c5 (xs.take k) (ts.take k) w5 ((raD.take hkn).below q5) ho5.rd HLx.out (by omega)).mono ?_; rintro e w6 ⟨rfl, q6⟩; have eN6 := (q6.cell (p := ⟨N, 0, none⟩) (Nat.lt_of_lt_of_le hNl q5.size)).trans eN5))
  have q26 : Below w2.heap.size w2 w6 := ((Below.refl _ w2).drew.trans q5).trans (q6.mono q5.size)
  have b6 := b2.trans (q26.mono (by omega))
  have rb6 : RdB w6.drew B m ys := rb.below q26.drew
  have rc6 : RdB w6.drew C l ts := rc.below q26.drew
  have rc6' : RdB w6 C l ts := rc.below q26
  have eN7 : w6.drew.cell? ⟨N, 0, none⟩ = some (.int .i64 (k : Int)) := eN6
  have eT7 : w6.drew.cell? ⟨T, 0, none⟩ = some (.slice C l f) := (q26.cell (p := ⟨T, 0, none⟩) hTl).trans eT
  have hNl6 : N < w6.drew.heap.size := Nat.lt_of_lt_of_le hNl q26.size
  have hTl6 : T < w6.drew.heap.size := Nat.lt_of_lt_of_le hTl q26.size
  clear ra rb rc raD rbD rcD q5 q6 eN eT eN' eT' eN5 hbN hk2 ho5 b2 q26
  go_wp2
  go_region_held3 (fun w' => w'.cell? ⟨N, 0, none⟩ = some (.int .i64 (k : Int))) (first | go_keep | exact eN8 | exact eN9)
    (first
      | (go_at_call 44; refine (turned_any B m d ys C l f ts N T k _ rb6 rc6 hkm hkl hb1 hk4 eN7 eT7 hNl6 hTl6).mono ?_; rintro e w8 ⟨A8, c8, rfl, ho8, q8⟩; have eN8 := (q8.cell (p := ⟨N, 0, none⟩) hNl6).trans eN7)
      | (go_at_call 41; refine (apartT_any B A8 k d c8 (ys.take k) (ts.take k) w8 ((rb6.take hkm).below q8) ho8.rd HLy.out (by omega)).mono ?_; rintro e w9 ⟨rfl, q9⟩; have eN9 := (q9.cell (p := ⟨N, 0, none⟩) (Nat.lt_of_lt_of_le hNl6 q8.size)).trans eN8))
  have q69 : Below w6.heap.size w6 w9 := ((Below.refl _ w6).drew.trans q8).trans (q9.mono q8.size)
  have hT6 : T ≤ w6.heap.size := Nat.le_of_lt hTl6
  have b9 := b6.trans (q69.mono hT6)
  have rc9 : RdB w9 C l ts := rc6'.below q69
  have eN10 : w9.drew.cell? ⟨N, 0, none⟩ = some (.int .i64 (k : Int)) := eN9
  have eT10 : w9.drew.cell? ⟨T, 0, none⟩ = some (.slice C l f) := (q69.cell (p := ⟨T, 0, none⟩) hTl6).trans eT7
  have hNl9 : N < w9.drew.heap.size := Nat.lt_of_lt_of_le hNl6 q69.size
  have hTl9 : T < w9.drew.heap.size := Nat.lt_of_lt_of_le hTl6 q69.size
  clear rb6 rc6 rc6' eN7 eT7 eN8 q8 q9 ho8 q69 eN6 eN9
  generalize hr : Crc.reg 0 (ts.take k) = r at *
  have HR := Lib.hid hr
  clear hr
  go_wp2
  by_cases hr0 : r = 0
  · subst hr0
    go_quiet (fail)
    go_wp2
    go_ret
    exact ⟨rfl, by rw [HTT.out]; exact below_drewN b9 _⟩
  · have hrne : ((r : Int) == 0) = false := by rw [beq_eq_false_iff_ne]; omega
    have HNZ := Lib.hid (not_zeros (ts.take k) k HLt.out (by rw [HR.out]; exact hr0))
    have hmk := run_makeB k (by omega)
    have eN11 : (w9.alloc (.cells (Array.replicate k (vb 0)) 5)).drew.cell? ⟨N, 0, none⟩ = some (.int .i64 (k : Int)) := (World.cell?_alloc_lt w9 _ ⟨N, 0, none⟩ hNl9).trans eN10
    have eT11 : (w9.alloc (.cells (Array.replicate k (vb 0)) 5)).drew.cell? ⟨T, 0, none⟩ = some (.slice C l f) := (World.cell?_alloc_lt w9 _ ⟨T, 0, none⟩ hTl9).trans eT10
    have rz : RdB (w9.alloc (.cells (Array.replicate k (vb 0)) 5)).drew (some ⟨w9.heap.size, 0, none⟩) k (List.replicate k 0) := RdB.lit w9 (List.replicate k 0) _ (rep_bytes k).symm _ k (by simp) (0, 0)
    have rt : RdB (w9.alloc (.cells (Array.replicate k (vb 0)) 5)).drew C k (ts.take k) := (rc9.take hkl).alloc (.cells (Array.replicate k (vb 0)) 5)
    have b11 : Below T w (w9.alloc (.cells (Array.replicate k (vb 0)) 5)).drew := (b9.alloc (Nat.le_of_lt hTl9) _).drew
    clear hr0
    go_region_held3 (fun w' => w'.cell? ⟨N, 0, none⟩ = some (.int .i64 (k : Int)) ∧ w'.cell? ⟨T, 0, none⟩ = some (.slice C l f)) (first | go_keep | exact ⟨eN10, eT10⟩ | exact ⟨eN11, eT11⟩)
      (first
        | (go_at_call 23; refine (equal_any C _ k f k k (ts.take k) (List.replicate k 0) _ rt rz).mono ?_; rintro e w11 ⟨rfl, rfl⟩; rw [HNZ.out]))
    go_wp2
    go_ret
    exact ⟨rfl, by rw [HTT.out]; exact b11⟩
end Go.Proofs.Ytdmfbmpllfkcaaa
