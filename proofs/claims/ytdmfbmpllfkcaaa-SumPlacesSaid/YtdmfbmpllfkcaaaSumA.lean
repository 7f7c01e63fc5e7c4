/- The walks of the statements SumIs and SumPlaces: the Go text answers true and turns no memory that was there. Conditions: the slices read as these bytes. -/
import Derived.Test.YtdmfbmpllfkcaaaWakes3
namespace Go.Proofs.Ytdmfbmpllfkcaaa
open Go.RowKit
set_option maxRecDepth 100000 in
set_option maxHeartbeats 1000000 in
theorem sumIs_walk (A B : Option Addr) (n c m d : Nat) (xs ys : List UInt8) (w : World) (ha : RdB w A n xs) (hb : RdB w B m ys) (hn : n ≤ 9223372036854775807) (hm : m ≤ 9223372036854775807) :
    Calls Try.prog 10 #[.slice A n c, .slice B m d] w fun e w' => e = .returned (.bool true) ∧ Below w.heap.size w w' := by
  by_cases h1 : n ≤ 3000
  · by_cases h2 : m ≤ 3000
    · go_enter Try.func10, Try.ntmps10
      go_wp2_with fail
      refine (wakes3_any w).mono ?_
      rintro e w1 ⟨rfl, b1⟩
      have ha1 := ha.below b1
      have hb1 := hb.below b1
      clear ha hb
      go_wp2_with fail
      refine (apart_any A B n c m d xs ys w1 ha1 hb1 (by omega) (by omega)).mono ?_
      rintro e w2 ⟨rfl, q2⟩
      have b2 := b1.trans (q2.mono b1.size)
      have ha2 := ha1.below q2
      have hb2 := hb1.below q2
      clear ha1 hb1 q2 b1
      by_cases hnm : n = m
      · subst hnm
        simp only [if_pos]
        have hne : ((n : Int) != (n : Int)) = false := by simp
        go_wp2_with fail
        refine (sum32_any A n c xs w2 ha2 (by omega)).mono ?_
        rintro e w3 ⟨rfl, q3⟩
        have b3 := b2.trans (q3.mono b2.size)
        have ha3 := ha2.below q3
        have hb3 := hb2.below q3
        clear ha2 hb2 q3 b2
        go_wp2_with fail
        refine (refsum_any A n c xs w3 ha3 (by omega)).mono ?_
        rintro e w4 ⟨rfl, rfl⟩
        go_wp2_with fail
        refine (refsum_any A n c xs w3 ha3 (by omega)).mono ?_
        rintro e w4 ⟨rfl, rfl⟩
        go_wp2_with fail
        refine (refsum_any B n d ys w3 hb3 (by omega)).mono ?_
        rintro e w4 ⟨rfl, rfl⟩
        have HX := bits_xor32 (Crc.sum xs) (Crc.sum ys) (Crc.sum_lt _) (Crc.sum_lt _)
        go_wp2
        go_ret
        exact ⟨rfl, b3⟩
      · simp only [if_neg hnm]
        have hne : ((n : Int) != (m : Int)) = true := by rw [bne_iff_ne]; omega
        clear hnm
        go_wp2_with fail
        refine (sum32_any A n c xs w2 ha2 (by omega)).mono ?_
        rintro e w3 ⟨rfl, q3⟩
        have b3 := b2.trans (q3.mono b2.size)
        have ha3 := ha2.below q3
        clear ha2 hb2 q3 b2
        go_wp2_with fail
        refine (refsum_any A n c xs w3 ha3 (by omega)).mono ?_
        rintro e w4 ⟨rfl, rfl⟩
        go_wp2
        go_ret
        exact ⟨rfl, b3⟩
    · have h2' : 3000 < m := by omega
      clear h2
      go_enter Try.func10, Try.ntmps10
      go_wp2_with fail
      refine (wakes3_any w).mono ?_
      rintro e w1 ⟨rfl, b1⟩
      go_wp2
      go_ret
      exact ⟨rfl, b1⟩
  · have h2' : 3000 < n := by omega
    clear h1
    go_enter Try.func10, Try.ntmps10
    go_wp2_with fail
    refine (wakes3_any w).mono ?_
    rintro e w1 ⟨rfl, b1⟩
    go_wp2
    go_ret
    exact ⟨rfl, b1⟩
set_option maxRecDepth 100000 in
set_option maxHeartbeats 1000000 in
theorem sumPlaces_walk (A : Option Addr) (n c : Nat) (xs : List UInt8) (m : Int) (w : World) (ha : RdB w A n xs) (hn : n ≤ 9223372036854775807) (hm0 : -9223372036854775808 ≤ m) (hm : m ≤ 9223372036854775807) :
    Calls Try.prog 11 #[.slice A n c, .int .i64 m] w fun e w' => e = .returned (.bool true) ∧ Below w.heap.size w w' := by
  by_cases h1 : n ≤ 3000
  · go_enter Try.func11, Try.ntmps11
    go_wp2_with fail
    refine (wakes3_any w).mono ?_
    rintro e w1 ⟨rfl, b1⟩
    have ha1 := ha.below b1
    clear ha
    go_wp2_with fail
    refine (spread_any A n c xs m w1 ha1 (by omega) ⟨hm0, hm⟩).mono ?_
    rintro e w2 ⟨rfl, q2⟩
    have b2 := b1.trans (q2.mono b1.size)
    have ha2 := ha1.below q2
    clear ha1 q2 b1
    by_cases hm1 : m < 1
    · simp only [if_pos hm1]
      go_wp2
      go_ret
      exact ⟨rfl, b2⟩
    · simp only [if_neg hm1]
      have hs := Crc.sum_lt xs
      have h1m : 1 ≤ m := by omega
      have hlo : 0 ≤ (Crc.sum xs : Int) % m := Int.emod_nonneg _ (by omega)
      have hhi : (Crc.sum xs : Int) % m < m := Int.emod_lt_of_pos _ (by omega)
      go_wp2_with fail
      refine (refsum_any A n c xs w2 ha2 (by omega)).mono ?_
      rintro e w4 ⟨rfl, rfl⟩
      go_wp2
      go_ret
      exact ⟨rfl, b2⟩
  · have h2' : 3000 < n := by omega
    clear h1
    go_enter Try.func11, Try.ntmps11
    go_wp2_with fail
    refine (wakes3_any w).mono ?_
    rintro e w1 ⟨rfl, b1⟩
    go_wp2
    go_ret
    exact ⟨rfl, b1⟩
theorem sumIs_walkF (A : Option Addr) (n c : Nat) (xs : List UInt8) (B : Option Addr) (m d : Nat) (ys : List UInt8) (w : World) (ha : RdB w A n xs) (h1 : n ≤ c) (h2 : c ≤ 9223372036854775807) (hb : RdB w B m ys) (h3 : m ≤ d) (h4 : d ≤ 9223372036854775807) :
    Calls Try.prog 10 #[.slice A n c, .slice B m d] w fun e w' => e = .returned (.bool true) ∧ Below w.heap.size w w' :=
  sumIs_walk A B n c m d xs ys w ha hb (by omega) (by omega)
theorem sumPlaces_walkF (A : Option Addr) (n c : Nat) (xs : List UInt8) (m : Int) (w : World) (ha : RdB w A n xs) (h1 : n ≤ c) (h2 : c ≤ 9223372036854775807) (hm : (Lit.int .i64 m).wf = true) :
    Calls Try.prog 11 #[.slice A n c, .int .i64 m] w fun e w' => e = .returned (.bool true) ∧ Below w.heap.size w w' := by
  have : -9223372036854775808 ≤ m ∧ m ≤ 9223372036854775807 := by
    simp [Lit.wf, IntKind.min, IntKind.max, IntKind.signed, IntKind.bits] at hm
    exact ⟨by omega, by omega⟩
  exact sumPlaces_walk A n c xs m w ha (by omega) this.1 this.2
end Go.Proofs.Ytdmfbmpllfkcaaa
