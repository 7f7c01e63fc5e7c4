/- The walk of the statement SumSeals: the Go text answers true and turns no memory that was there. Conditions: the slice reads as these bytes. -/
import Derived.Test.YtdmfbmpllfkcaaaWakes3
import Derived.Test.YtdmfbmpllfkcaaaStore
namespace Go.Proofs.Ytdmfbmpllfkcaaa
open Go.RowKit
theorem vb_add1 (x : UInt8) : Value.int .u8 (IntKind.u8.wrap ((x.toNat : Int) + 1)) = vb (x + 1) := by
  unfold vb
  simp [IntKind.wrap, IntKind.bits, IntKind.signed]
theorem OwnB.lt_ {w : World} {A : Option Addr} {B n c : Nat} {bs : List UInt8} (h : OwnB w B A n c bs) : ∀ g, A = some ⟨g, 0, none⟩ → g < w.heap.size := by
  rintro g rfl
  rcases h.2 with ⟨e, _⟩ | ⟨g', cap, cur, e, _, hh, _⟩
  · cases e
  · injection e with e1
    injection e1 with e1
    injection e1 with e1
    subst e1
    rcases Nat.lt_or_ge g w.heap.size with h | h
    · exact h
    · rw [Array.getElem?_eq_none h] at hh; cases hh
set_option maxRecDepth 100000 in
set_option maxHeartbeats 2000000 in
theorem sumSeals_walk (A : Option Addr) (n c : Nat) (xs : List UInt8) (w : World) (ha : RdB w A n xs) (hc1 : n ≤ c) (_hc2 : c ≤ 9223372036854775807) :
    Calls Try.prog 3 #[.slice A n c] w fun e w' => e = .returned (.bool true) ∧ Below w.heap.size w w' := by
  by_cases h1 : n ≤ 3000
  · go_enter Try.func3, Try.ntmps3
    go_wp2_with fail
    refine (wakes3_any w).mono ?_
    rintro e w1 ⟨rfl, b1⟩
    have ha1 := ha.below b1
    clear ha
    go_wp2_with fail
    refine (behind_any A none n c 0 0 xs [] w1 ha1 RdB.nil (by omega)).mono ?_
    rintro e w2 ⟨A2, c2, rfl, ho2, q2⟩
    rw [List.append_nil, Nat.add_zero] at ho2
    have b2 := b1.trans (q2.mono b1.size)
    have ha2 := ha1.below q2
    have hp2 := ho2.cap
    replace ho2 := ho2.rd
    clear ha1 q2 b1
    go_wp2_with fail
    refine (seal_any A n c xs w2 ha2 (by omega)).mono ?_
    rintro e w3 ⟨A3, c3, rfl, ho3, q3⟩
    have b3 := b2.trans (q3.mono b2.size)
    have ha3 := ha2.below q3
    have ho23 := ho2.below q3
    have k3 := q3
    have hg3 : ∀ g, A3 = some ⟨g, 0, none⟩ → g < w3.heap.size := fun g e => ho3.lt_ g e
    clear q3
    go_wp2_with fail
    refine (open_any A n c xs w3 ha3 (by omega) hc1).mono ?_
    rintro e w4 ⟨A4, n4, c4, rfl, ho4, q4⟩
    have b4 := b3.trans (q4.mono b3.size)
    have ha4 := ha3.below q4
    have ho24 := ho23.below q4
    have ho34 := ho3.below q4
    have k4 := k3.trans (q4.mono k3.size)
    have hB3 := k3.size
    clear q4 ha3 ho23 ho3 b3 k3
    go_wp2_with fail
    refine (refseal_any A2 n c2 xs w4 ho24 (by omega)).mono ?_
    rintro e w5 ⟨A5, c5, rfl, ho5, q5⟩
    have b5 := b4.trans (q5.mono b4.size)
    have ha5 := ha4.below q5
    have ho25 := ho24.below q5
    have ho35 := ho34.below q5
    have ho45 := ho4.below q5
    have k5 := k4.trans (q5.mono k4.size)
    clear q5 ha4 ho24 ho34 b4 k4 ho4
    go_wp2_with fail
    refine (same_any A3 A5 (n + 4) c3 (n + 4) c5 (sealed xs) (sealed xs) w5 ho35.rd ho5.rd (by omega)).mono ?_
    rintro e w6 ⟨rfl, q, rfl⟩
    rw [show (sealed xs == sealed xs) = true from beq_self_eq_true _]
    have b6 := below_drewN b5 q
    have k6 := below_drewN k5 q
    have ho36 := ho35.below (below_drewN (Below.refl _ _) q)
    have ho46 := ho45.below (below_drewN (Below.refl _ _) q)
    have ho26 := ho25.below (below_drewN (Below.refl _ _) q)
    have ha6 := ha5.below (below_drewN (Below.refl _ _) q)
    clear b5 k5 ho35 ho45 ho25 ho5 ha5
    generalize w5.drewN q = w7 at *
    have hl := ho26.len
    by_cases hn4 : n < 4
    · have HE := Lib.hid (show openErr xs = 7 from by unfold openErr; rw [if_pos (by omega)])
      rw [HE.out]
      have hP : opened xs = [] := by unfold opened; rw [if_neg]; unfold opens; rw [decide_eq_false (by omega)]; simp
      have hn0 : n4 = 0 := by have := ho46.len; rw [hP] at this; simpa using this.symm
      subst hn0
      clear hP hl
      go_wp2
      go_ret
      exact ⟨rfl, b6⟩
    · obtain ⟨m, rfl⟩ : ∃ m, n = m + 4 := ⟨n - 4, by omega⟩
      have HL := Lib.hid hl
      clear hl
      go_wp2_with fail
      refine (refopens_any A2 (m + 4) c2 xs w7 ho26 (by omega) (by omega)).mono ?_
      rintro e w8 ⟨rfl, q8⟩
      have b8 := b6.trans (q8.mono b6.size)
      have k8 := k6.trans (q8.mono k6.size)
      have ho38 := ho36.below q8
      have ho48 := ho46.below q8
      have ho28 := ho26.below q8
      have ha8 := ha6.below q8
      clear b6 k6 ho36 ho46 ho26 ha6 q8
      cases hq : opens xs
      · have hE : openErr xs = 130 := by unfold openErr; rw [if_neg (by rw [HL.out]; omega), hq]; rfl
        rw [hE]
        have hP : opened xs = [] := by unfold opened; rw [hq]; rfl
        have hn0 : n4 = 0 := by have := ho48.len; rw [hP] at this; simpa using this.symm
        subst hn0
        clear hP hE hq
        go_wp2
        go_ret
        exact ⟨rfl, b8⟩
      · have hE : openErr xs = 0 := by unfold openErr; rw [if_neg (by rw [HL.out]; omega), hq]; rfl
        rw [hE]
        have hP : opened xs = xs.take m := by unfold opened; rw [hq, show xs.length - 4 = m from by rw [HL.out]; omega]; rfl
        rw [hP] at ho48
        have hn0 : n4 = m := by have := ho48.len; rw [List.length_take, HL.out] at this; omega
        subst hn0
        clear hP hE hq
        have ht8 := ho28.take (k := n4) (by omega)
        go_wp2_with fail
        refine (same_any A4 A2 n4 c4 n4 c2 (xs.take n4) (xs.take n4) w8 ho48.rd ht8 (by omega)).mono ?_
        rintro e w9 ⟨rfl, q, rfl⟩
        rw [show (xs.take n4 == xs.take n4) = true from beq_self_eq_true _]
        have b9 := below_drewN b8 q
        have k9 := below_drewN k8 q
        have ho39 := ho38.below (below_drewN (Below.refl _ _) q)
        have ho49 := ho48.below (below_drewN (Below.refl _ _) q)
        clear b8 k8 ho38 ho48 ho28 ha8 ht8
        generalize w8.drewN q = w10 at *
        go_wp2
        go_loopg [64] (n4 + 8) (fun g s wr => ∃ (k : Nat) (zs : List UInt8), k + g ≤ n4 + 8 ∧ n4 + 8 ≤ k + g ∧ s = .int .i64 k ∧ OwnB wr w2.heap.size A3 (n4 + 4 + 4) c3 zs ∧ OwnB wr w3.heap.size A4 n4 c4 (xs.take n4) ∧ Below w.heap.size w wr ∧ Below w2.heap.size w2 wr ∧ (∀ g, A3 = some ⟨g, 0, none⟩ → g < w3.heap.size))
        case atStart => exact ⟨0, _, by omega, by omega, rfl, ho39, ho49, b9, k9, hg3⟩
        case round =>
          clear ho39 ho49 b9 k9 hg3
          obtain ⟨k, zs, hk1, hk2, rfl, ho3, ho4, b9, k9, hg3⟩ := hrel
          by_cases hk : k < n4 + 8
          · obtain ⟨g, rfl, hgB, hgl, hcg, hfg, hst⟩ := ho3.at_ k (by omega)
            have hg3' := hg3 g rfl
            generalize zs.getD k 0 = x at *
            have hcg' : wr.cell? ⟨g, k, none⟩ = some (.int .u8 (x.toNat : Int)) := hcg
            have HST := Lib.hid hst
            clear hst hcg hg3
            have b2s := b2.size
            go_wp2
            go_roundg (gk - 1)
            case measure => omega
            case rel =>
              refine ⟨k + 1, _, by omega, by omega, by go_num, HST.out _ _ (vb_add1 x), ho4.far (p := ⟨g, k, none⟩) hg3' _, b9.setCell (p := ⟨g, k, none⟩) (by simp; omega) _, k9.setCell (p := ⟨g, k, none⟩) hgB _, ?_⟩
              intro g' e
              injection e with e
              injection e with e1
              omega
          · obtain rfl : k = n4 + 8 := by omega
            go_wp2
            go_loopg [76] n4 (fun g s wr => ∃ (k : Nat) (zs : List UInt8), k + g ≤ n4 ∧ n4 ≤ k + g ∧ s = .int .i64 k ∧ OwnB wr w3.heap.size A4 n4 c4 zs ∧ Below w.heap.size w wr ∧ Below w2.heap.size w2 wr)
            case atStart => exact ⟨0, _, by omega, by omega, rfl, ho4, b9, k9⟩
            case round =>
              clear ho3 ho4 b9 k9 hg3
              obtain ⟨k, zs, hk1, hk2, rfl, ho4, b9, k9⟩ := hrel
              by_cases hk : k < n4
              · obtain ⟨g, rfl, hgB, hgl, hcg, hfg, hst⟩ := ho4.at_ k (by omega)
                generalize zs.getD k 0 = x at *
                have hcg' : wr.cell? ⟨g, k, none⟩ = some (.int .u8 (x.toNat : Int)) := hcg
                have HST := Lib.hid hst
                clear hst hcg
                have b2s := b2.size
                go_wp2
                go_roundg (gk - 1)
                case measure => omega
                case rel =>
                  exact ⟨k + 1, _, by omega, by omega, by go_num, HST.out _ _ (vb_add1 x), b9.setCell (p := ⟨g, k, none⟩) (by simp; omega) _, k9.setCell (p := ⟨g, k, none⟩) (by simp; omega) _⟩
              · obtain rfl : k = n4 := by omega
                have haE := ha2.below k9
                have hoE := ho2.below k9
                go_wp2_with fail
                refine (same_any A A2 (k + 4) c (k + 4) c2 xs xs wr haE hoE (by omega)).mono ?_
                rintro e w11 ⟨rfl, q, rfl⟩
                rw [show (xs == xs) = true from beq_self_eq_true _]
                go_wp2
                go_ret
                exact ⟨rfl, below_drewN b9 q⟩
  · have h2' : 3000 < n := by omega
    clear h1
    go_enter Try.func3, Try.ntmps3
    go_wp2_with fail
    refine (wakes3_any w).mono ?_
    rintro e w1 ⟨rfl, b1⟩
    go_wp2
    go_ret
    exact ⟨rfl, b1⟩
end Go.Proofs.Ytdmfbmpllfkcaaa
